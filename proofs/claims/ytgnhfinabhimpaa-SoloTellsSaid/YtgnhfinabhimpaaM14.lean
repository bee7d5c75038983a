/- The document's task as it lies in memory; what it speaks to. -/
import Derived.Test.YtgnhfinabhimpaaM13
set_option linter.unusedVariables false
set_option linter.unusedSimpArgs false
set_option linter.unusedSectionVars false
set_option maxRecDepth 100000
namespace Go.Proofs.Ytgnhfinabhimpaa.Vw
open Go.RowKit Go.Proofs.Ytgnhfinabhimpaa.Img
structure EnvR where
 μ:Type
 ν:Type
 V:Vm.Env ν
 abs:μ→ν
 ok:μ→Prop
 mem:μ→Chunk
 size:ν→Nat
 sPut:∀v b x,size (V.put v b x)≤size v+1
 sTake:∀v b,size (V.take v b).2≤size v+1
 excl:∀e,(mem e).excl=true
 rc:Chunk
 rexcl:rc.excl=false
 T:TypeId
 rv:Value
 boxes:Nat
 fRoom:FuncId
 fSome:FuncId
 fGive:FuncId
 fGet:FuncId
 mRoom:Finds Try.prog T rv "Room" fRoom
 mSome:Finds Try.prog T rv "Some" fSome
 mGive:Finds Try.prog T rv "Give" fGive
 mGet:Finds Try.prog T rv "Get" fGet
 bRoom:callB Try.prog fRoom=true
 bSome:callB Try.prog fSome=true
 bGive:callB Try.prog fGive=true
 bGet:callB Try.prog fGet=true
 room:∀(e:μ) (b:Nat),ok e→b<boxes→Fn Try.prog fRoom #[rv, .int .i64 (b:Int)] [rc] [mem e] (σ:=Unit) (fun _=>True) (fun _=> .bool (!V.full (abs e) b)) (fun _=>[mem e])
 some:∀(e:μ) (b:Nat),ok e→b<boxes→Fn Try.prog fSome #[rv, .int .i64 (b:Int)] [rc] [mem e] (σ:=Unit) (fun _=>True) (fun _=> .bool (!V.empty (abs e) b)) (fun _=>[mem e])
 give:∀(e:μ) (b:Nat) (v:Int),ok e→b<boxes→V.full (abs e) b=false→size (abs e)≤2000000→Fn Try.prog fGive #[rv, .int .i64 (b:Int), .int .i64 v] [rc] [mem e] (σ:=μ) (fun e'=>ok e'∧abs e'=V.put (abs e) b v) (fun _=> .tuple #[]) (fun e'=>[mem e'])
 get:∀(e:μ) (b:Nat),ok e→b<boxes→V.empty (abs e) b=false→Fn Try.prog fGet #[rv, .int .i64 (b:Int)] [rc] [mem e] (σ:=μ) (fun e'=>ok e'∧abs e'=(V.take (abs e) b).2) (fun e'=> .int .i64 (V.take (abs e) b).1) (fun e'=>[mem e'])
attribute [simp] EnvR.excl EnvR.rexcl
def EnvR.W(E:EnvR):Vm.Env (E.ν×List Vm.Ev) where
 full v b:=E.V.full v.1 b
 empty v b:=E.V.empty v.1 b
 put v b x:=(E.V.put v.1 b x,v.2)
 take v b:=((E.V.take v.1 b).1,((E.V.take v.1 b).2,v.2))
 tell v x:=(v.1,v.2 ++[x])
abbrev EnvR.mailV(E:EnvR):Value:= .iface E.T E.rv
def rfC(f:Vm.Fr):List Value:=[.int .i64 (f.unit:Int), .int .i64 (f.pc:Int), .int .i64 (f.base:Int)]
instance:Enc rfC:=⟨fun _=>rfl,by decide,fun a u hu=>by simp[rfC]at hu;rcases hu with rfl|rfl|rfl<;>rfl⟩
def revC(e:Vm.Ev):List Value:=[.int .i64 0, .int .i64 e.1, .int .i64 e.2.1, .int .i64 e.2.2]
instance:Enc revC:=⟨fun _=>rfl,by decide,fun a u hu=>by simp[revC]at hu;rcases hu with rfl|rfl|rfl|rfl<;>rfl⟩
structure RC where
 st:Nat
 up:Int
 fo:Option Addr
 fc:Nat
 fr:List Vm.Fr
 wo:Option Addr
 wc:Nat
 ws:List Int
instance:Inhabited RC:=⟨⟨0,0,none,0,[],none,0,[]⟩⟩
def RC.abs(c:RC):Vm.Co:=⟨c.st,if c.st=2∧0≤c.up then some c.up.toNat else none,c.fr,c.ws⟩
def rcC(c:RC):List Value:=[.int .i64 (c.st:Int), .int .i64 c.up, .slice c.fo c.fr.length c.fc, .slice c.wo c.ws.length c.wc]
instance:Enc rcC:=⟨fun _=>rfl,by decide,fun a u hu=>by simp[rcC]at hu;rcases hu with rfl|rfl|rfl|rfl<;>rfl⟩
abbrev rfM(c:RC):Chunk:=arr c.fo c.fr.length c.fc 127 rfC c.fr
abbrev rwM(c:RC):Chunk:=arr c.wo c.ws.length c.wc 2 i64c c.ws
abbrev rcM(c:RC):List Chunk:=[rfM c,rwM c]
def bagR(l:List RC):Chunk:=bag (l.flatMap rcM)
@[simp] theorem bagR_excl (l : List RC) : (bagR l).excl = true := bag_excl
structure RT(E:EnvR) where
 to:Option Addr
 tc:Nat
 oth:List RC
 now:Nat
 cur:RC
 st:Int
 bx:Int
 tr:Int
 oo:Option Addr
 oc:Nat
 out:List Int
 lo:Option Addr
 lc:Nat
 log:List Vm.Ev
 e:E.μ
section
variable{E:EnvR}
def RT.all(s:RT E):List RC:=s.oth.set s.now s.cur
def RT.tk(s:RT E):Vm.Tk:=⟨s.all.map RC.abs,s.now,s.st,s.bx,s.tr,s.out⟩
def RT.two(s:RT E):Vm.Tk×(E.ν×List Vm.Ev):=(s.tk,(E.abs s.e,s.log))
abbrev rkC(m:ML)(s:RT E):List Value:=[.slice m.bo m.bx.length m.bc, .slice m.uo m.us.length m.uc, .slice s.to s.oth.length s.tc, .int .i64 (s.now:Int), .int .i64 s.st, .int .i64 s.bx, .int .i64 s.tr, .slice s.oo s.out.length s.oc, .bool false, .int .i64 0, .slice s.lo s.log.length s.lc]
abbrev rkM(tb:Nat)(m:ML)(s:RT E):Chunk:=blk tb (rkC m s) 81
abbrev rtM(s:RT E):Chunk:=arr s.to s.oth.length s.tc 119 rcC s.all
abbrev roM(s:RT E):Chunk:=arr s.oo s.out.length s.oc 2 i64c s.out
abbrev rlM(s:RT E):Chunk:=arr s.lo s.log.length s.lc 161 revC s.log
abbrev RM(tb:Nat)(m:ML)(s:RT E):List Chunk:=[rkM tb m s,rtM s,bagR (s.oth.eraseIdx s.now),rfM s.cur,rwM s.cur,roM s,rlM s,E.mem s.e]
structure RT.Wf(s:RT E):Prop where
 now:s.now<s.oth.length
 few:s.oth.length≤31
 env:E.ok s.e
 st:s.st≤3∨s.st=4∨s.st=5
variable{s:RT E}
theorem RT.allLen(s:RT E):s.all.length=s.oth.length:=List.length_set
theorem RT.Wf.curGet(h:s.Wf):s.all.getD s.now default=s.cur:=by
 unfold RT.all;rw[List.getD_eq_getElem?_getD,List.getElem?_set_self (by exact h.now)];rfl
theorem getD_mapR{α β:Type} [Inhabited α] [Inhabited β](f:α→β)(l:List α){k:Nat}(hk:k<l.length):(l.map f).getD k default=f (l.getD k default):=by
 rw[List.getD_eq_getElem?_getD,List.getD_eq_getElem?_getD,List.getElem?_map,List.getElem?_eq_getElem hk];rfl
theorem RT.Wf.cur(h:s.Wf):Vm.cur s.tk=s.cur.abs:=by
 show(s.all.map RC.abs).getD s.now default=_;rw[getD_mapR _ _ (by rw[s.allLen];exact h.now),h.curGet]
theorem RT.tkLen(s:RT E):s.tk.cs.length=s.oth.length:=by
 show(s.all.map RC.abs).length=_;rw[List.length_map,s.allLen]
theorem RT.othGet(s:RT E){j:Nat}(hj:s.now≠j):s.all.getD j default=s.oth.getD j default:=by
 unfold RT.all;simp only[List.getD_eq_getElem?_getD];rw[List.getElem?_set_ne hj]
theorem RT.coAt(s:RT E){j:Nat}(hj:j<s.oth.length):s.tk.cs.getD j default=(s.all.getD j default).abs:=getD_mapR _ _ (by rw[s.allLen];exact hj)
abbrev RT.to_(s:RT E)(c:RC):RT E:={s with cur:=c}
theorem RT.tk_cur(s:RT E)(c:RC):(s.to_ c).tk=Vm.setCur s.tk c.abs:=by
 unfold RT.tk Vm.setCur Vm.setC RT.all;simp only[List.map_set,List.set_set]
theorem RT.all_cur(s:RT E)(c:RC):(s.to_ c).all=s.all.set s.now c:=by
 unfold RT.all;simp only[List.set_set]
theorem RT.Wf.to_(h:s.Wf)(c:RC):(s.to_ c).Wf:=⟨h.now,h.few,h.env,h.st⟩
abbrev RT.f(s:RT E):Vm.Fr:=s.cur.fr.getD (s.cur.fr.length-1) default
theorem RT.Wf.topF(h:s.Wf):Vm.topF (Vm.cur s.tk)=s.f:=by rw[h.cur];rfl
theorem RT.Wf.ws(h:s.Wf):(Vm.cur s.tk).ws=s.cur.ws:=by rw[h.cur];rfl
theorem RT.Wf.frs(h:s.Wf):(Vm.cur s.tk).fr=s.cur.fr:=by rw[h.cur];rfl
theorem RT.Wf.sts(h:s.Wf):(Vm.cur s.tk).st=s.cur.st:=by rw[h.cur];rfl
theorem RT.Wf.topW(h:s.Wf)(n:Nat):Vm.topW s.tk n=s.cur.ws.getD (s.cur.ws.length-n) 0:=by
 show(Vm.cur s.tk).ws.getD ((Vm.cur s.tk).ws.length-n) 0=_;rw[h.ws]
theorem RT.Wf.last(h:s.Wf):Vm.last s.tk=s.cur.ws.getD (s.cur.ws.length-1) 0:=h.topW 1
abbrev RT.setW(s:RT E)(wo:Option Addr)(wc:Nat)(ws:List Int):RT E:=s.to_ {s.cur with wo:=wo,wc:=wc,ws:=ws}
theorem RT.Wf.setW_tk(h:s.Wf)(wo:Option Addr)(wc:Nat)(ws:List Int):(s.setW wo wc ws).tk=Vm.setCur s.tk {Vm.cur s.tk with ws:=ws}:=by
 rw[RT.tk_cur,h.cur];rfl
structure GivesR(q:Vm.Tk×(E.ν×List Vm.Ev))(s:RT E):Prop where
 wf:s.Wf
 two:s.two=q
end
theorem perm_erase{α:Type} [Inhabited α]:∀{l:List α} {k:Nat},k<l.length→l.Perm (l.getD k default::l.eraseIdx k)
 |a::l,0,_=>List.Perm.refl _
 |a::l,k+1,h=>by
  have ih:=perm_erase (l:=l) (k:=k) (by simpa using h);exact(List.Perm.cons a ih).trans (List.Perm.swap _ _ _)
theorem flat_permR(l:List RC){k:Nat}(h:k<l.length):(l.flatMap rcM).Perm (rcM (l.getD k default) ++(l.eraseIdx k).flatMap rcM):=by
 have:=(perm_erase h).flatMap_right rcM;simpa only[List.flatMap_cons]using this
theorem getR_ne{l:List RC}{j k:Nat}{c:RC}(h:j≠k):(l.set j c).getD k default=l.getD k default:=by
 simp only[List.getD_eq_getElem?_getD];rw[List.getElem?_set_ne h]
theorem getR_eq{l:List RC}{k:Nat}{c:RC}(h:k<l.length):(l.set k c).getD k default=c:=by
 simp only[List.getD_eq_getElem?_getD];rw[List.getElem?_set_self h];rfl
theorem rcM_excl(c:RC):∀d∈rcM c,d.excl=true:=by
 unfold rcM;simp[arr_excl]
theorem Mem.swapR{w:World}{L L' F:List Chunk}{l:List RC}(c:RC){j k:Nat}(h:Mem w L)(t:Take (bagR (l.eraseIdx j)) L L')(t2:Takes (rcM c) L' F)(hj:j<l.length)(hk:k<l.length)(hne:j≠k):Mem w (rfM (l.getD k default)::rwM (l.getD k default)::bagR ((l.set j c).eraseIdx k)::F):=by
 have h1:Mem w (bag ((l.set j c).flatMap rcM)::F):=by
  refine Mem.bagIn (es:=(l.eraseIdx j).flatMap rcM) (ds:=rcM c) h t t2 ?_ (rcM_excl c);have:=flat_permR (l.set j c) (k:=j) (by simpa using hj);rwa [getR_eq hj,List.eraseIdx_set_eq]at this
 have h2:=Mem.bagOut (ds:=rcM (l.getD k default)) (es:=((l.set j c).eraseIdx k).flatMap rcM) h1 .head (by
  have:=flat_permR (l.set j c) (k:=k) (by simpa using hk);rwa [getR_ne hne]at this)
 exact h2
section
variable{E:EnvR}{s:RT E}
abbrev RT.go(s:RT E)(c:RC)(j:Nat)(d:RC):RT E:={s with oth:=s.oth.set s.now c,now:=j,cur:=d}
theorem RT.go_all(s:RT E)(c d:RC)(j:Nat):(s.go c j d).all=(s.oth.set s.now c).set j d:=rfl
theorem RT.go_all'(s:RT E)(c d:RC)(j:Nat):(s.go c j d).all=(s.all.set s.now c).set j d:=by
 rw[RT.go_all];unfold RT.all;rw[List.set_set]
theorem RT.go_tk(s:RT E)(c d:RC)(j:Nat):(s.go c j d).tk={Vm.setC (Vm.setCur s.tk c.abs) j d.abs with now:=j}:=by
 unfold RT.tk Vm.setCur Vm.setC RT.all;simp only[List.map_set,List.set_set]
theorem RT.Wf.go(h:s.Wf){c d:RC}{j:Nat}(hj:j<s.oth.length):(s.go c j d).Wf:=⟨by simpa using hj,by simpa using h.few,h.env,h.st⟩
theorem set_getD{l:List RC}{j:Nat}(hj:j<l.length):l.set j (l.getD j default)=l:=by
 refine List.ext_getElem (by simp) fun i h1 h2=>?_
 rw[List.getElem_set]
 split
 ·rename_i h
  subst h;rw[List.getD_eq_getElem?_getD,List.getElem?_eq_getElem hj];rfl
 ·rfl
theorem RT.go_tk'(s:RT E)(c:RC){j:Nat}(hj:j<s.oth.length)(hne:s.now≠j):(s.go c j (s.oth.getD j default)).tk={Vm.setCur s.tk c.abs with now:=j}:=by
 unfold RT.tk Vm.setCur Vm.setC;rw[RT.go_all];have e:(s.oth.set s.now c).set j (s.oth.getD j default)=s.oth.set s.now c:=by
  have:=set_getD (l:=s.oth.set s.now c) (j:=j) (by simpa using hj);rwa [getR_ne hne]at this
 rw[e];unfold RT.all;simp only[List.map_set,List.set_set]
end
end Go.Proofs.Ytgnhfinabhimpaa.Vw


namespace Go.Proofs.Ytgnhfinabhimpaa.Vm
open ImgM Ver Opt
structure Ls where
 took:List Nat
 sent:List (List Int)
deriving DecidableEq
def lists(F:List (List Int)):Env Ls where
 full _ _:=false
 empty s b:=decide (s.took.getD b 0=(F.getD b []).length)
 put s b v:={s with sent:=s.sent.set b (s.sent.getD b [] ++[v])}
 take s b:=((F.getD b []).getD (s.took.getD b 0) 0,{s with took:=s.took.set b (s.took.getD b 0+1)})
 tell s _:=s
def Ls.new(n:Nat):Ls:=⟨List.replicate n 0,List.replicate n []⟩
def goN{ν:Type}(V:Env ν)(M:Mdl):Nat→Tk×ν→Nat×(Tk×ν)
 |0,s=>(0,s)
 |n+1,s=>if(step V M s).1 then((goN V M n (step V M s).2).1+1,(goN V M n (step V M s).2).2)else(0,(step V M s).2)
def tasks(M:Mdl):List Nat:=(List.range M.units.length).filter fun k=>decide ((M.units.getD k default).kind=4)
def solo0(M:Mdl)(u:Nat)(F:List (List Int)):Tk×Ls:=look (lists F) M (new M u,Ls.new F.length)
def solo(M:Mdl)(u:Nat)(F:List (List Int))(n:Nat):Nat×(Tk×Ls):=goN (lists F) M n (solo0 M u F)
def badW(t v:Int):Bool:=decide (t=2)&&(decide (v≠0)&&decide (v≠1))
def soloErr(M:Mdl)(task:Int)(F:List (List Int))(most:Int):Int:=
 if(verify M).err≠0 then(verify M).err
 else if task<0∨((tasks M).length:Int)≤task∨most<0∨5000<most then 3
 else if F.length≠M.boxes.length then 5
 else if(List.range F.length).any (fun i=>(F.getD i []).any (badW (M.boxes.getD i default).1))then 9
 else 0
def total(l:List (List Int)):Nat:=(l.map List.length).sum
theorem total_put:∀(l:List (List Int)) (b:Nat) (v:Int),total (l.set b (l.getD b [] ++[v]))≤total l+1
 |[],b,v=>by simp[total]
 |a::l,0,v=>by simp[total];omega
 |a::l,b+1,v=>by
  have:=total_put l b v;simp only[total,List.set_cons_succ,List.map_cons,List.sum_cons,List.getD_cons_succ]at *;omega
theorem total_le:∀(l:List (List Int)) (b:Nat),(l.getD b []).length≤total l
 |[],b=>by simp[total]
 |a::l,0=>by simp[total]
 |a::l,b+1=>by
  have:=total_le l b;simp only[total,List.map_cons,List.sum_cons,List.getD_cons_succ]at *;omega
def mvd(t:Tk):Tk:=setPc ((topF (cur t)).pc+1) t
def lstep(M:Mdl)(x:Int)(t:Tk):Tk×List Ev:=loc M x (insT M t) (mvd t)
section
variable{ν:Type}(V:Env ν)(M:Mdl)
def inp(r:Tk×ν):Int:=if(insT M r.1).op=27 then(V.take r.2 (insT M r.1).a.toNat).1 else 0
theorem look_snd(r:Tk×ν):(look V M r).2=r.2:=by
 unfold look waits
 split
 ·split
  ·rfl
  split<;>rfl
 ·rfl
theorem look_fst(r:Tk×ν):∃a b,(look V M r).1={r.1 with st:=a,bx:=b}:=by
 unfold look waits
 split
 ·split
  ·exact⟨_,_,rfl⟩
  split<;>exact⟨_,_,rfl⟩
 ·exact⟨r.1.st,r.1.bx,rfl⟩
theorem look_ins(r:Tk×ν):insT M (look V M r).1=insT M r.1:=by
 obtain⟨a,b,h⟩:=look_fst V M r;rw[h];rfl
theorem look_out(r:Tk×ν):(look V M r).1.out=r.1.out∧(look V M r).1.tr=r.1.tr:=by
 obtain⟨a,b,h⟩:=look_fst V M r;rw[h];exact⟨rfl,rfl⟩
theorem step_no{r:Tk×ν}(h:(look V M r).1.st≠1):step V M r=(false,look V M r):=by unfold step;exact if_pos h
theorem step_yes{r:Tk×ν}(h:(look V M r).1.st=1):step V M r=(true,look V M (pl V r.2 (lstep M (inp V M r) (look V M r).1))):=by
 unfold step;dsimp only;rw[if_neg (fun h'=>h' h)];unfold lstep;rw[look_ins];have e:((setPc ((topF (cur (look V M r).1)).pc+1) (look V M r).1,(look V M r).2):Tk×ν)=(mvd (look V M r).1,r.2):=by rw[look_snd];rfl
 rw[e,exec_pl V M (inp V M r) r.2 (insT M r.1) _ (fun h=>by unfold inp;rw[if_pos h])]
def evs(r:Tk×ν):List Ev:=if(look V M r).1.st=1 then(lstep M (inp V M r) (look V M r).1).2 else []
theorem lstep_did{x:Int}{t:Tk}(h:t.st≠5):Did (insT M t) x (mvd t) (lstep M x t):=loc_did M x _ _ h
end
section
variable{i:Ins}{x:Int}{t:Tk}{r:Tk×List Ev}
theorem outs_one{k a v:Int}(h:k≠1):outs [(k,a,v)]=[]:=by unfold outs;simp[h]
theorem outs_of1{i:Ins}{x:Int}{t:Tk}{l1:List Ev}(h:l1=[]∧i.op≠26∧i.op≠27∨i.op=26∧l1=[(2,i.a,last t)]∨i.op=27∧l1=[(3,i.a,x)]∨i.op=28∧l1=[(1,0,last t)]∨i.op=29∧l1=[(6,0,(i.a.toNat:Int))]):l1.length≤1:=by
 rcases h with h|h|h|h|h
 ·rw[h.1];simp
 all_goals (rw[h.2];simp)
theorem Did.len(h:Did i x t r):r.2.length≤2:=by
 rcases h.ex with⟨t1,l1,h1,h2,h3,h4,h5⟩|⟨-,h1, -⟩
 ·have hl:=outs_of1 h5;rcases h1 with⟨e, -⟩|⟨e, -⟩
  ·rw[e];omega
  ·rw[e];simp;omega
 ·rw[h1];simp
theorem Did.out(h:Did i x t r):r.1.out=t.out ++outs r.2:=by
 rcases h.ex with⟨t1,l1,h1,h2,h3,h4,h5⟩|⟨-,h1, -, -,h2⟩
 ·rcases h1 with⟨e, -, -,e2⟩|⟨e, -,e2⟩
  ·rw[e,e2,h4]
  ·rw[e,e2,h4,outs_app,outs_one (by omega),List.append_nil]
 ·rw[h1,h2,outs_one (by omega),List.append_nil]
theorem outs_len:∀l:List Ev,(outs l).length≤l.length:=fun l=>List.length_filterMap_le _ l
end
section
variable{ν:Type}{V:Env ν}{M:Mdl}{sz:ν→Nat}(sPut:∀v b x,sz (V.put v b x)≤sz v+1)(sTake:∀v b,sz (V.take v b).2≤sz v+1)(sTell:∀v x,sz (V.tell v x)≤sz v+1)
include sPut sTake sTell
theorem play_size(s:ν)(e:Ev):sz (play V s e)≤sz s+2:=by
 unfold play
 split
 ·have:=sTell (V.put s e.2.1.toNat e.2.2) e;have:=sPut s e.2.1.toNat e.2.2;omega
 split
 ·have:=sTell (V.take s e.2.1.toNat).2 e;have:=sTake s e.2.1.toNat;omega
 ·have:=sTell s e;omega
theorem plays_size:∀(l:List Ev) (s:ν),sz (l.foldl (play V) s)≤sz s+2*l.length
 |[],s=>by simp
 |e::l,s=>by
  have h1:=plays_size l (play V s e);have h2:=play_size sPut sTake sTell s e;simp only[List.foldl_cons,List.length_cons];omega
theorem step_size(r:Tk×ν):sz (step V M r).2.2≤sz r.2+4:=by
 by_cases h:(look V M r).1.st=1
 ·rw[step_yes V M h,look_snd];have h1:=plays_size sPut sTake sTell (lstep M (inp V M r) (look V M r).1).2 r.2;have h2:=(lstep_did M (x:=inp V M r) (t:=(look V M r).1) (by omega)).len;show sz (List.foldl (play V) r.2 _)≤_;omega
 ·rw[step_no V M h,look_snd];omega
end
section
variable{ν:Type}{V:Env ν}{M:Mdl}
theorem step_out(r:Tk×ν):(step V M r).2.1.out=r.1.out ++outs (evs V M r):=by
 unfold evs
 by_cases h:(look V M r).1.st=1
 ·rw[if_pos h,step_yes V M h,(look_out V M _).1];show(lstep _ _ _).1.out=_;rw[(lstep_did M (x:=inp V M r) (t:=(look V M r).1) (by omega)).out];show(look V M r).1.out ++_=_;rw[(look_out V M r).1]
 ·rw[if_neg h,step_no V M h,(look_out V M r).1];simp[outs]
theorem evs_len(r:Tk×ν):(evs V M r).length≤2:=by
 unfold evs
 split
 ·rename_i h
  exact(lstep_did M (x:=inp V M r) (t:=(look V M r).1) (by omega)).len
 ·simp
theorem step_outLen(r:Tk×ν):(step V M r).2.1.out.length≤r.1.out.length+2:=by
 rw[step_out,List.length_append];have:=outs_len (evs V M r);have:=evs_len (V:=V) (M:=M) r;omega
end
end Go.Proofs.Ytgnhfinabhimpaa.Vm


namespace Go.Proofs.Ytgnhfinabhimpaa.Vm
open ImgM Ver Opt Vw
section
variable{E:EnvR}(hT:∀s e,E.V.tell s e=s){M:Mdl}
theorem lookW(t:Tk)(s:E.ν)(l:List Ev):look E.W M (t,(s,l))=((look E.V M (t,s)).1,(s,l)):=by
 unfold look waits
 by_cases h:t.st≤3
 ·rw[if_pos h,if_pos h];show(if(insT M t).op=26∧E.V.full s (insT M t).a.toNat=true then _ else if(insT M t).op=27∧E.V.empty s (insT M t).a.toNat=true then _ else _)=_;dsimp only
  split
  ·rfl
  split<;>rfl
 ·rw[if_neg h,if_neg h]
include hT in
theorem playW(s:E.ν×List Ev)(e:Ev):play E.W s e=(play E.V s.1 e,s.2 ++[e]):=by
 unfold play
 split
 ·show((_,_):E.ν×List Ev)=(E.V.tell _ _,_);rw[hT];rfl
 split
 ·show((_,_):E.ν×List Ev)=(E.V.tell _ _,_);rw[hT];rfl
 ·show((_,_):E.ν×List Ev)=(E.V.tell _ _,_);rw[hT]
include hT in
theorem playsW:∀(es:List Ev) (s:E.ν×List Ev),es.foldl (play E.W) s=(es.foldl (play E.V) s.1,s.2 ++es)
 |[],s=>by simp
 |e::es,s=>by
  simp only[List.foldl_cons];rw[playsW es,playW hT];simp
include hT in
theorem stepW(t:Tk)(s:E.ν)(l:List Ev):(step E.W M (t,(s,l))).1=(step E.V M (t,s)).1∧(step E.W M (t,(s,l))).2.1=(step E.V M (t,s)).2.1∧(step E.W M (t,(s,l))).2.2.1=(step E.V M (t,s)).2.2∧(step E.W M (t,(s,l))).2.2.2=l ++evs E.V M (t,s):=by
 have hl:=lookW (M:=M) t s l;have hl1:(look E.W M (t,(s,l))).1=(look E.V M (t,s)).1:=by rw[hl]
 by_cases hs:(look E.V M (t,s)).1.st=1
 ·have hs':(look E.W M (t,(s,l))).1.st=1:=by rw[hl1];exact hs
  have hi:inp E.W M (t,(s,l))=inp E.V M (t,s):=rfl;rw[step_yes _ M hs,step_yes _ M hs',hi,hl1];unfold evs;rw[if_pos hs];generalize lstep M (inp E.V M (t,s)) (look E.V M (t,s)).1=r;have e1:pl E.W (t,(s,l)).2 r=(r.1,(r.2.foldl (play E.V) s,l ++r.2)):=by
   show((_,_):Tk×(E.ν×List Ev))=_;rw[playsW hT]
  rw[e1,lookW];refine⟨rfl,rfl,?_,rfl⟩;rw[look_snd]
 ·have hs':¬(look E.W M (t,(s,l))).1.st=1:=by rw[hl1];exact hs
  rw[step_no _ M hs,step_no _ M hs'];unfold evs;rw[if_neg hs];refine⟨rfl,hl1,?_,?_⟩
  ·dsimp only;rw[look_snd,look_snd]
  ·dsimp only;rw[look_snd];simp
include hT in
end
end Go.Proofs.Ytgnhfinabhimpaa.Vm


namespace Go.Proofs.Ytgnhfinabhimpaa.Vw
open Go.RowKit Go.Proofs.Ytgnhfinabhimpaa.Img
section
variable{E:EnvR}{z z':RT E}
abbrev RT.noted(z:RT E)(x:Vm.Ev)(s:Option Addr×Nat):RT E:={z with lo:=s.1,lc:=s.2,log:=z.log ++[x]}
def FellR(n:Int)(z z':RT E):Prop:=(z.st=5∧z'=z)∨(z.st≠5∧∃s,z'=RT.noted {z with st:=5,tr:=n} (5,0,n) s)
def PutR(v:Int)(z z':RT E):Prop:=(400≤z.cur.ws.length∧FellR 4 z z')∨(z.cur.ws.length<400∧∃wo wc,z'=z.setW wo wc (z.cur.ws ++[v]))
def RT.took(z:RT E)(n:Nat)(s:Option Addr×Nat):RT E:=z.setW s.1 s.2 (z.cur.ws.take (z.cur.ws.length-n))
theorem RT.Wf.noted(h:z.Wf)(x:Vm.Ev)(s:Option Addr×Nat):(z.noted x s).Wf:=⟨h.now,h.few,h.env,h.st⟩
theorem FellR.gives{n:Int}(h:z.Wf)(hf:FellR n z z'):GivesR (Vm.trap E.W n z.two) z':=by
 unfold Vm.trap;rcases hf with⟨h5,rfl⟩|⟨h5,s,rfl⟩
 ·rw[if_pos (show z'.two.1.st=5 from h5)];exact⟨h,rfl⟩
 ·rw[if_neg (show¬z.two.1.st=5 from h5)];exact⟨⟨h.now,h.few,h.env, .inr (.inr rfl)⟩,rfl⟩
theorem FellR.log{n:Int}(hf:FellR n z z'):z'.log.length≤z.log.length+1:=by
 rcases hf with⟨h5,rfl⟩|⟨h5,s,rfl⟩
 ·exact Nat.le_succ _
 ·simp
theorem PutR.gives{v:Int}(h:z.Wf)(hw:z.cur.ws.length≤400)(hp:PutR v z z'):GivesR (Vm.push E.W v z.two) z':=by
 have e1:(Vm.cur z.two.1).ws=z.cur.ws:=h.ws;unfold Vm.push;rw[e1];rcases hp with⟨h4,hf⟩|⟨h4,wo,wc,rfl⟩
 ·rw[if_pos (by omega)];exact hf.gives h
 ·rw[if_neg (by omega)];refine⟨h.to_ _,?_⟩;show((z.setW wo wc (z.cur.ws ++[v])).tk,(E.abs z.e,z.log))=_;rw[h.setW_tk];rfl
theorem PutR.log{v:Int}(hp:PutR v z z'):z'.log.length≤z.log.length+1:=by
 rcases hp with⟨h4,hf⟩|⟨h4,wo,wc,rfl⟩
 ·exact hf.log
 ·exact Nat.le_succ _
theorem RT.Wf.took_tk(h:z.Wf)(n:Nat)(s:Option Addr×Nat):(z.took n s).tk=Vm.drop n z.tk:=by
 unfold RT.took;rw[h.setW_tk];unfold Vm.drop;rw[h.ws]
theorem RT.Wf.took(h:z.Wf)(n:Nat)(s:Option Addr×Nat):(z.took n s).Wf:=h.to_ _
theorem RT.took_len(z:RT E)(n:Nat)(s:Option Addr×Nat):(z.took n s).cur.ws.length=z.cur.ws.length-n:=by
 show(z.cur.ws.take _).length=_;rw[List.length_take];omega
def insR(m:ML)(z:RT E):ImgM.Ins:=(m.us.getD z.f.unit default).u.code.getD z.f.pc default
theorem unt_us(m:ML)(k:Nat):Vm.unt m.mdl k=(m.us.getD k default).u:=m.unit_at k
theorem RT.Wf.ins(h:z.Wf)(m:ML):Vm.insT m.mdl z.tk=insR m z:=by
 unfold Vm.insT insR;rw[h.topF,unt_us]
def RT.wst(i:ImgM.Ins)(z:RT E):Int:=if i.op=26∧E.V.full (E.abs z.e) i.a.toNat=true then 2 else if i.op=27∧E.V.empty (E.abs z.e) i.a.toNat=true then 3 else 1
def RT.wbx(i:ImgM.Ins)(z:RT E):Int:=if i.op=26∧E.V.full (E.abs z.e) i.a.toNat=true then i.a else if i.op=27∧E.V.empty (E.abs z.e) i.a.toNat=true then i.a else 0
def RT.look(z:RT E)(m:ML):RT E:=if z.st≤3 then{z with st:=z.wst (insR m z),bx:=z.wbx (insR m z)}else z
theorem RT.Wf.look(h:z.Wf)(m:ML):(z.look m).Wf:=by
 unfold RT.look
 split
 ·refine⟨h.now,h.few,h.env, .inl ?_⟩;show z.wst (insR m z)≤3;unfold RT.wst
  split
  ·omega
  split<;>omega
 ·exact h
theorem RT.Wf.look_two(h:z.Wf)(m:ML):(z.look m).two=Vm.look E.W m.mdl z.two:=by
 unfold RT.look Vm.look;have e:Vm.insT m.mdl z.two.1=insR m z:=h.ins m;have e2:z.two.1.st=z.st:=rfl;rw[e,e2]
 split
 ·unfold Vm.waits RT.wst RT.wbx;show(RT.tk _,(E.abs z.e,z.log))=if(insR m z).op=26∧E.V.full (E.abs z.e) (insR m z).a.toNat=true then _ else if(insR m z).op=27∧E.V.empty (E.abs z.e) (insR m z).a.toNat=true then _ else _
  by_cases h1:(insR m z).op=26∧E.V.full (E.abs z.e) (insR m z).a.toNat=true
  ·rw[if_pos h1,if_pos h1];simp only[if_pos h1];rfl
  ·rw[if_neg h1,if_neg h1];simp only[if_neg h1]
   by_cases h2:(insR m z).op=27∧E.V.empty (E.abs z.e) (insR m z).a.toNat=true
   ·rw[if_pos h2];simp only[if_pos h2];rfl
   ·rw[if_neg h2];simp only[if_neg h2];rfl
 ·rfl
end
end Go.Proofs.Ytgnhfinabhimpaa.Vw


namespace Go.Proofs.Ytgnhfinabhimpaa.Vw
open Go.RowKit Go.Proofs.Ytgnhfinabhimpaa.Img
attribute [local irreducible] Run Cod End OpT Still RunQ RunS RunT Fn PutOk
abbrev ck(cb mb:Nat)(m:ML):List Chunk:=[blk cb [.pointer (some ⟨mb,0,none⟩)] 53,blk mb [.slice m.bo m.bx.length m.bc, .slice m.uo m.us.length m.uc] 25]
abbrev ptr(b:Nat):Value:= .pointer (some ⟨b,0,none⟩)
theorem bool_eq{a b:Bool}(h:a=b):Value.bool a=Value.bool b:=by rw[h]
theorem int_eq{k:IntKind}{a b:Int}(h:a=b):Value.int k a=Value.int k b:=by rw[h]
theorem plain_is(t:Int):Fn Try.prog 27 #[.int .i64 t] [] [] (σ:=Unit) (fun _=>True) (fun _=> .bool (Ver.plain t)) (fun _=>[]):=by
 refine Fn.enter (args:=[.int .i64 t]) Try.func27 rfl _ Try.ntmps27 rfl (by simp[rd_excl,md_excl]) (fun w S=>?_);(refine Jn ?_)
 repeat' (first|refine Jo ?_|(refine JB ?_;intro b)|(refine JA ?_;intro ao cap)|refine goQ (k:=fun h=>?_) (k':=fun h=>?_)|fail)
 all_goals ((refine End.done1_ (()) (he:=by refine bool_eq ?_;(first|(simp[Ver.plain, *];done)|(simp[Ver.plain];omega)|(rw[Bool.eq_iff_iff];simp[Ver.plain];omega)|(simp[Ver.plain, *];intros;omega))) (hp:=?_));trivial)
theorem unit_is(cb mb:Nat)(m:ML)(i k:Int):Fn Try.prog 60 #[ptr cb, .int .i64 i, .int .i64 k] [md m] (ck cb mb m) (σ:=Unit) (fun _=>True) (fun _=> .bool (Ver.isUnit m.mdl i k)) (fun _=>ck cb mb m):=by
 refine Fn.enter (args:=[ptr cb, .int .i64 i, .int .i64 k]) Try.func60 rfl _ Try.ntmps60 rfl (by simp[rd_excl,md_excl]) (fun w S=>?_);(refine Jn ?_)
 repeat' (first|refine Jo ?_|(refine JB ?_;intro b)|(refine JA ?_;intro ao cap)|refine goQ (k:=fun h=>?_) (k':=fun h=>?_)|fail)
 all_goals ((refine End.done1_ (()) (he:=by refine bool_eq ?_;(first|(simp[Ver.isUnit,getD_u, *];done)|(simp[Ver.isUnit,getD_u];omega)|(rw[Bool.eq_iff_iff];simp[Ver.isUnit,getD_u];omega)|(simp[Ver.isUnit,getD_u, *];intros;omega))) (hp:=?_));trivial)
theorem handle_is(cb mb:Nat)(m:ML)(t:Int)(ht:ImgM.In64 t):Fn Try.prog 59 #[ptr cb, .int .i64 t] [md m] (ck cb mb m) (σ:=Unit) (fun _=>True) (fun _=> .bool (Ver.handle m.mdl t)) (fun _=>ck cb mb m):=by
 unfold ImgM.In64 at ht;refine Fn.enter (args:=[ptr cb, .int .i64 t]) Try.func59 rfl _ Try.ntmps59 rfl (by simp[rd_excl,md_excl]) (fun w S=>?_);(refine Jn ?_)
 repeat' (first|(refine Jc ?_;refine OpT.call0_ (spec:=unit_is cb mb m _ _) (k:=?_);intro s hs;(refine Jn ?_))|refine Jo ?_|(refine JB ?_;intro b)|(refine JA ?_;intro ao cap)|refine goQ (k:=fun h=>?_) (k':=fun h=>?_)|fail)
 all_goals ((refine End.done1_ (()) (he:=by refine bool_eq ?_;(first|(simp[Ver.handle, *];done)|(simp[Ver.handle];omega)|(rw[Bool.eq_iff_iff];simp[Ver.handle];omega)|(simp[Ver.handle, *];intros;omega))) (hp:=?_));trivial)
theorem head1_is(cb mb pb:Nat)(m:ML)(t:Int)(ht:ImgM.In64 t):Fn Try.prog 58 #[.int .i64 t,ptr pb] [md m] (blk pb [ptr cb] 50::ck cb mb m) (σ:=Unit) (fun _=>True) (fun _=> .bool (!Ver.plain t&& !Ver.handle m.mdl t)) (fun _=>blk pb [ptr cb] 50::ck cb mb m):=by
 refine Fn.enter (args:=[.int .i64 t,ptr pb]) Try.func58 rfl _ Try.ntmps58 rfl (by simp[rd_excl,md_excl]) (fun w S=>?_);(refine Jn ?_)
 repeat' (first|(refine Jc ?_;refine OpT.call0_ (spec:=plain_is _) (k:=?_);intro s hs;(refine Jn ?_))|(refine Jc ?_;refine OpT.call0_ (spec:=handle_is cb mb m _ ht) (k:=?_);intro s hs;(refine Jn ?_))|refine Jo ?_|(refine JB ?_;intro b)|(refine JA ?_;intro ao cap)|refine goQ (k:=fun h=>?_) (k':=fun h=>?_)|fail)
 all_goals ((refine End.done1_ (()) (he:=by refine bool_eq ?_;(first|(simp[*];done)|(simp[];omega)|(rw[Bool.eq_iff_iff];simp[];omega)|(simp[*];intros;omega))) (hp:=?_));trivial)
theorem indexFuncI_is(ao:Option Addr)(n cap:Nat)(l:List Int)(hn:l.length=n)(hm:n≤9223372036854775807)(f:FuncId)(cp:List Value)(r:Chunk)(hr:r.excl=false)(pre:List Chunk)(hpx:∀c∈pre,c.excl=true)(p:Int→Bool)(hc:callB Try.prog f=true)
  (hf:∀x∈l,Fn Try.prog f (#[.int .i64 x] ++cp.toArray) [r] pre (σ:=Unit) (fun _=>True) (fun _=> .bool (p x)) (fun _=>pre)):
  Fn Try.prog 69 #[.slice ao n cap, .func (.func f) #[] cp.toArray] [rd ao n cap i64c l,r] pre (fun s:Int=>decide (0≤s)=l.any p) (fun s=> .int .i64 s) (fun _=>pre):=by
 refine Fn.enter (args:=[.slice ao n cap, .func (.func f) #[] cp.toArray]) Try.func69 rfl _ Try.ntmps69 rfl (by simp[rd_excl,hr]) (fun w S=>?_);(refine Jn ?_)
 repeat(refine Jy ?_;try first|intro ao cap|intro b)
 apply Cod.loop (σ:=Nat) (fun k=>k≤n∧∀j,j<k→p (l.getD j default)=false) (fun k=>[(0, .slice ao n cap),(1, .func (.func f) #[] cp.toArray),(7, .int .i64 (n:Int)),(8, .int .i64 (k:Int))]) (fun _=>old w S::rd ao n cap i64c l::r::pre) (fun k=>n-k) 0
 rotate_left
 exact sb;exact Takes.all _;intro k hs K hK;obtain⟨hk,hfn⟩:=hs
 rotate_left
 exact⟨by omega,fun j hj=>by omega⟩;simp only[List.append_nil]
 repeat(refine Jy ?_;try first|intro ao cap|intro b)
 by_cases h:k<n
 ·have hx:l.getD k default∈l:=by
   rw[List.getD_eq_getElem?_getD,List.getElem?_eq_getElem (by omega:k<l.length)];exact List.getElem_mem _
  repeat(refine Jy ?_;try first|intro ao cap|intro b)
  refine Run.op (by exact rfl) (OpT.call (hx:=by exact rfl) (hv:=evz) (hc:=hc) (hd:=by exact rfl) (spec:=hf _ hx) (t:= .skip (.skip (.skip (.all _)))) (r:=fun w=> .any tk hr .nil) (k:=?_));intro s hs
  cases hp:p (l.getD k default)with
  |true=>
   repeat(refine Jy ?_;try first|intro ao cap|intro b)
   refine End.done1 (k:Int) (by exact rfl) (by exact rfl) rfl ?_ hpx .back1;have:l.any p=true:=List.any_eq_true.2 ⟨_,hx,hp⟩;rw[this];simp
  |false=>
   repeat(refine Jy ?_;try first|intro ao cap|intro b)
   refine End.round hK (k+1) ⟨by omega,fun j hj=>?_⟩ (by omega) sb .back
   by_cases hjk:j=k
   ·subst hjk;exact hp
   ·exact hfn j (by omega)
 ·repeat(refine Jy ?_;try first|intro ao cap|intro b)
  refine End.done1 (-1:Int) (by exact rfl) (by exact rfl) rfl ?_ hpx (.cons .head (.skip (.skip (.all _))));have:l.any p=false:=by
   rw[List.any_eq_false];intro x hx;obtain⟨j,hj,rfl⟩:=List.getElem_of_mem hx;have:=hfn j (by omega);rw[List.getD_eq_getElem?_getD,List.getElem?_eq_getElem hj]at this;simpa using this
  rw[this];rfl
theorem containsFuncI_is(ao:Option Addr)(n cap:Nat)(l:List Int)(hn:l.length=n)(hm:n≤9223372036854775807)(f:FuncId)(cp:List Value)(r:Chunk)(hr:r.excl=false)(pre:List Chunk)(hpx:∀c∈pre,c.excl=true)(p:Int→Bool)(hc:callB Try.prog f=true)
  (hf:∀x∈l,Fn Try.prog f (#[.int .i64 x] ++cp.toArray) [r] pre (σ:=Unit) (fun _=>True) (fun _=> .bool (p x)) (fun _=>pre)):
  Fn Try.prog 33 #[.slice ao n cap, .func (.func f) #[] cp.toArray] [rd ao n cap i64c l,r] pre (σ:=Unit) (fun _=>True) (fun _=> .bool (l.any p)) (fun _=>pre):=by
 refine Fn.enter (args:=[.slice ao n cap, .func (.func f) #[] cp.toArray]) Try.func33 rfl _ Try.ntmps33 rfl (by simp[rd_excl,hr]) (fun w S=>?_);(refine Jn ?_)
 repeat(refine Jy ?_;try first|intro ao cap|intro b)
 refine Run.op (by exact rfl) (OpT.call0 (hx:=by exact rfl) (hv:=evz) (hc:=by kernel_rfl) (hd:=by exact rfl) (spec:=indexFuncI_is ao n cap l hn hm f cp r hr pre hpx p hc hf) (t:= .skip (.skip (.skip (.all _)))) (r:=fun w=> .rd tk (.any tk hr .nil)) (k:=?_));intro s hs
 repeat(refine Jy ?_;try first|intro ao cap|intro b)
 exact End.done1 () (by exact rfl) (by exact rfl) (bool_eq hs) trivial hpx .back1
theorem indexFuncN_is(ao:Option Addr)(n cap:Nat)(l:List ImgM.Ins)(hn:l.length=n)(hm:n≤9223372036854775807)(f:FuncId)(cp:List Value)(r:Chunk)(hr:r.excl=false)(pre:List Chunk)(hpx:∀c∈pre,c.excl=true)(p:ImgM.Ins→Bool)(hc:callB Try.prog f=true)
  (hf:∀x∈l,Fn Try.prog f (#[.agg (insC x).toArray] ++cp.toArray) [r] pre (σ:=Unit) (fun _=>True) (fun _=> .bool (p x)) (fun _=>pre)):
  Fn Try.prog 71 #[.slice ao n cap, .func (.func f) #[] cp.toArray] [rd ao n cap insC l,r] pre (fun s:Int=>decide (0≤s)=l.any p) (fun s=> .int .i64 s) (fun _=>pre):=by
 refine Fn.enter (args:=[.slice ao n cap, .func (.func f) #[] cp.toArray]) Try.func71 rfl _ Try.ntmps71 rfl (by simp[rd_excl,hr]) (fun w S=>?_);(refine Jn ?_)
 repeat(refine Jy ?_;try first|intro ao cap|intro b)
 apply Cod.loop (σ:=Nat) (fun k=>k≤n∧∀j,j<k→p (l.getD j default)=false) (fun k=>[(0, .slice ao n cap),(1, .func (.func f) #[] cp.toArray),(7, .int .i64 (n:Int)),(8, .int .i64 (k:Int))]) (fun _=>old w S::rd ao n cap insC l::r::pre) (fun k=>n-k) 0
 rotate_left
 exact sb;exact Takes.all _;intro k hs K hK;obtain⟨hk,hfn⟩:=hs
 rotate_left
 exact⟨by omega,fun j hj=>by omega⟩;simp only[List.append_nil]
 repeat(refine Jy ?_;try first|intro ao cap|intro b)
 by_cases h:k<n
 ·have hx:l.getD k default∈l:=by
   rw[List.getD_eq_getElem?_getD,List.getElem?_eq_getElem (by omega:k<l.length)];exact List.getElem_mem _
  repeat(refine Jy ?_;try first|intro ao cap|intro b)
  refine Run.op (by exact rfl) (OpT.call (hx:=by exact rfl) (hv:=evz) (hc:=hc) (hd:=by exact rfl) (spec:=hf _ hx) (t:= .skip (.skip (.skip (.all _)))) (r:=fun w=> .any tk hr .nil) (k:=?_));intro s hs
  cases hp:p (l.getD k default)with
  |true=>
   repeat(refine Jy ?_;try first|intro ao cap|intro b)
   refine End.done1 (k:Int) (by exact rfl) (by exact rfl) rfl ?_ hpx .back1;have:l.any p=true:=List.any_eq_true.2 ⟨_,hx,hp⟩;rw[this];simp
  |false=>
   repeat(refine Jy ?_;try first|intro ao cap|intro b)
   refine End.round hK (k+1) ⟨by omega,fun j hj=>?_⟩ (by omega) sb .back
   by_cases hjk:j=k
   ·subst hjk;exact hp
   ·exact hfn j (by omega)
 ·repeat(refine Jy ?_;try first|intro ao cap|intro b)
  refine End.done1 (-1:Int) (by exact rfl) (by exact rfl) rfl ?_ hpx (.cons .head (.skip (.skip (.all _))));have:l.any p=false:=by
   rw[List.any_eq_false];intro x hx;obtain⟨j,hj,rfl⟩:=List.getElem_of_mem hx;have:=hfn j (by omega);rw[List.getD_eq_getElem?_getD,List.getElem?_eq_getElem hj]at this;simpa using this
  rw[this];rfl
theorem containsFuncN_is(ao:Option Addr)(n cap:Nat)(l:List ImgM.Ins)(hn:l.length=n)(hm:n≤9223372036854775807)(f:FuncId)(cp:List Value)(r:Chunk)(hr:r.excl=false)(pre:List Chunk)(hpx:∀c∈pre,c.excl=true)(p:ImgM.Ins→Bool)(hc:callB Try.prog f=true)
  (hf:∀x∈l,Fn Try.prog f (#[.agg (insC x).toArray] ++cp.toArray) [r] pre (σ:=Unit) (fun _=>True) (fun _=> .bool (p x)) (fun _=>pre)):
  Fn Try.prog 36 #[.slice ao n cap, .func (.func f) #[] cp.toArray] [rd ao n cap insC l,r] pre (σ:=Unit) (fun _=>True) (fun _=> .bool (l.any p)) (fun _=>pre):=by
 refine Fn.enter (args:=[.slice ao n cap, .func (.func f) #[] cp.toArray]) Try.func36 rfl _ Try.ntmps36 rfl (by simp[rd_excl,hr]) (fun w S=>?_);(refine Jn ?_)
 repeat(refine Jy ?_;try first|intro ao cap|intro b)
 refine Run.op (by exact rfl) (OpT.call0 (hx:=by exact rfl) (hv:=evz) (hc:=by kernel_rfl) (hd:=by exact rfl) (spec:=indexFuncN_is ao n cap l hn hm f cp r hr pre hpx p hc hf) (t:= .skip (.skip (.skip (.all _)))) (r:=fun w=> .rd tk (.any tk hr .nil)) (k:=?_));intro s hs
 repeat(refine Jy ?_;try first|intro ao cap|intro b)
 exact End.done1 () (by exact rfl) (by exact rfl) (bool_eq hs) trivial hpx .back1
theorem index_is(ao:Option Addr)(n cap:Nat)(l:List Int)(hn:l.length=n)(hm:n≤9223372036854775807)(v:Int):
  Fn Try.prog 91 #[.slice ao n cap, .int .i64 v] [rd ao n cap i64c l] [] (fun s:Int=>decide (0≤s)=decide (v∈l)) (fun s=> .int .i64 s) (fun _=>[]):=by
 refine Fn.enter (args:=[.slice ao n cap, .int .i64 v]) Try.func91 rfl _ Try.ntmps91 rfl (by simp[rd_excl,md_excl]) (fun w S=>?_);(refine Jn ?_)
 repeat(refine Jy ?_;try first|intro ao cap|intro b)
 apply Cod.loop (σ:=Nat) (fun k=>k≤n∧∀j,j<k→l.getD j default≠v) (fun k=>[(0, .slice ao n cap),(1, .int .i64 v),(7, .int .i64 (n:Int)),(8, .int .i64 (k:Int))]) (fun _=>[old w S,rd ao n cap i64c l]) (fun k=>n-k) 0
 rotate_left
 exact sb;exact tks;intro s hs K hK;(refine Jn ?_)
 rotate_left
 ·exact⟨by omega,fun j hj=>by omega⟩
 rename Nat=>k
 obtain⟨hk,hfn⟩:=hs
 by_cases h:k<n
 ·have hx:l.getD k default∈l:=by
   rw[List.getD_eq_getElem?_getD,List.getElem?_eq_getElem (by omega:k<l.length)];exact List.getElem_mem _
  by_cases hv:v=l.getD k default
  ·repeat(refine Jy ?_;try first|intro ao cap|intro b)
   (refine End.done1_ ((k:Int)) (he:=Jv) (hp:=?_));rw[hv,decide_eq_true hx];simp
  ·repeat(refine Jy ?_;try first|intro ao cap|intro b)
   refine End.round_ hK (k+1) ?_ ?_
   ·refine⟨by omega,fun j hj=>?_⟩
    by_cases hjk:j=k
    ·subst hjk;exact fun h=>hv h.symm
    ·exact hfn j (by omega)
   ·omega
 ·repeat(refine Jy ?_;try first|intro ao cap|intro b)
  (refine End.done1_ ((-1:Int)) (he:=Jv) (hp:=?_));have:v∉l:=by
   intro hx;obtain⟨j,hj,rfl⟩:=List.getElem_of_mem hx;have:=hfn j (by omega);rw[List.getD_eq_getElem?_getD,List.getElem?_eq_getElem hj]at this;simp at this
  simp[this]
theorem contains_is(ao:Option Addr)(n cap:Nat)(l:List Int)(hn:l.length=n)(hm:n≤9223372036854775807)(v:Int):
  Fn Try.prog 70 #[.slice ao n cap, .int .i64 v] [rd ao n cap i64c l] [] (σ:=Unit) (fun _=>True) (fun _=> .bool (decide (v∈l))) (fun _=>[]):=by
 refine Fn.enter (args:=[.slice ao n cap, .int .i64 v]) Try.func70 rfl _ Try.ntmps70 rfl (by simp[rd_excl,md_excl]) (fun w S=>?_);(refine Jn ?_)
 repeat(refine Jy ?_;try first|intro ao cap|intro b)
 (apply Run.op;exact rfl;refine JK (index_is ao n cap l hn hm v) ?_;intro s hs;(refine Jn ?_))
 repeat(refine Jy ?_;try first|intro ao cap|intro b)
 (refine End.done1_ (()) (he:=by exact bool_eq hs) (hp:=?_));trivial
theorem list_ext{l l':List Int}(n:Nat)(hn:l.length=n)(hm:l'.length=n)(h:∀j,j<n→l.getD j default=l'.getD j default):l=l':=
 List.ext_getElem (by omega) (fun j h1 h2=>by have:=h j (by omega);simpa[List.getD_eq_getElem?_getD,h1,h2]using this)
theorem equal_is(ao bo:Option Addr)(n m cap cap':Nat)(l l':List Int)(hn:l.length=n)(hm:l'.length=m)(hn2:n≤9223372036854775807)(hm2:m≤9223372036854775807):
  Fn Try.prog 62 #[.slice ao n cap, .slice bo m cap'] [rd ao n cap i64c l,rd bo m cap' i64c l'] [] (σ:=Unit) (fun _=>True) (fun _=> .bool (decide (l=l'))) (fun _=>[]):=by
 refine Fn.enter (args:=[.slice ao n cap, .slice bo m cap']) Try.func62 rfl _ Try.ntmps62 rfl (by simp[rd_excl,md_excl]) (fun w S=>?_);(refine Jn ?_)
 by_cases hnm:n=m
 ·subst hnm
  repeat(refine Jy ?_;try first|intro ao cap|intro b)
  apply Cod.loop (σ:=Nat) (fun k=>k≤n∧∀j,j<k→l.getD j default=l'.getD j default) (fun k=>[(0, .slice ao n cap),(1, .slice bo n cap'),(12, .int .i64 (n:Int)),(13, .int .i64 (k:Int))]) (fun _=>[old w S,rd ao n cap i64c l,rd bo n cap' i64c l']) (fun k=>n-k) 0
  rotate_left
  exact sb;exact tks;intro s hs K hK;(refine Jn ?_)
  rotate_left
  ·exact⟨by omega,fun j hj=>by omega⟩
  rename Nat=>k
  obtain⟨hk,hfn⟩:=hs
  by_cases h:k<n
  ·by_cases hv:l.getD k default=l'.getD k default
   ·repeat(refine Jy ?_;try first|intro ao cap|intro b)
    refine End.round_ hK (k+1) ?_ ?_
    ·refine⟨by omega,fun j hj=>?_⟩
     by_cases hjk:j=k
     ·subst hjk;exact hv
     ·exact hfn j (by omega)
    ·omega
   ·repeat(refine Jy ?_;try first|intro ao cap|intro b)
    (refine End.done1_ (()) (he:=by exact bool_eq (Eq.symm (decide_eq_false (fun h=>hv (by rw[h]))))) (hp:=?_));trivial
  ·repeat(refine Jy ?_;try first|intro ao cap|intro b)
   (refine End.done1_ (()) (he:=by exact bool_eq (Eq.symm (decide_eq_true (list_ext n hn hm (fun j hj=>hfn j (by omega)))))) (hp:=?_));trivial
 ·repeat(refine Jy ?_;try first|intro ao cap|intro b)
  (refine End.done1_ (()) (he:=by exact bool_eq (Eq.symm (decide_eq_false (fun h=>hnm (by rw[←hn,←hm,h]))))) (hp:=?_));trivial
theorem cloneI_is(ao:Option Addr)(n cap:Nat)(l:List Int)(hn:l.length=n)(hm:n≤1000000000):
  Fn Try.prog 63 #[.slice ao n cap] [rd ao n cap i64c l] [] (σ:=Option Addr×Nat) (fun _=>True) (fun s=> .slice s.1 n s.2) (fun s=>[arr s.1 n s.2 3 i64c l]):=by
 refine Fn.enter (args:=[.slice ao n cap]) Try.func63 rfl _ Try.ntmps63 rfl (by simp[rd_excl,md_excl]) (fun w S=>?_);(refine Jn ?_)
 cases ao with
 |none=>
  apply Cod.fact (n=0) (fun w hm=>by
   obtain⟨⟨-, -,ao',cap',he, -,h4⟩, -⟩:=rd_holds.1 (hm.has (.tail .head));rcases Nat.eq_zero_or_pos n with h|h
   ·exact h
   ·obtain⟨b,off,rfl, -⟩:=h4 h;simp at he)
  rintro rfl;obtain rfl:l=[]:=List.eq_nil_of_length_eq_zero hn
  repeat(refine Jy ?_;try first|intro ao cap|intro b)
  apply End.imp (fun w hm=>hm.nilArr 3 i64c);(refine End.done1_ ((none,0)) (he:=Jv) (hp:=?_));trivial
 |some a0=>
  repeat(refine Jy ?_;try first|intro ao cap|intro b)
  apply Run.imp (fun w hm=>hm.toArr .head ([]:List Int) rfl rfl (by unfold maxLen;simp))
  repeat(refine Jy ?_;try first|intro ao cap|intro b)
  apply Run.op (by exact rfl);refine OpT.appendS_ (k:=?_);intro ao cap;simp only[Nat.zero_add,List.nil_append]
  repeat(refine Jy ?_;try first|intro ao cap|intro b)
  (refine End.done1_ ((_,_)) (he:=Jv) (hp:=?_));trivial
theorem cloneB_is(ao:Option Addr)(n cap:Nat)(l:List Bool)(hn:l.length=n)(hm:n≤1000000000):
  Fn Try.prog 64 #[.slice ao n cap] [rd ao n cap boolc l] [] (σ:=Option Addr×Nat) (fun _=>True) (fun s=> .slice s.1 n s.2) (fun s=>[arr s.1 n s.2 4 boolc l]):=by
 refine Fn.enter (args:=[.slice ao n cap]) Try.func64 rfl _ Try.ntmps64 rfl (by simp[rd_excl,md_excl]) (fun w S=>?_);(refine Jn ?_)
 cases ao with
 |none=>
  apply Cod.fact (n=0) (fun w hm=>by
   obtain⟨⟨-, -,ao',cap',he, -,h4⟩, -⟩:=rd_holds.1 (hm.has (.tail .head));rcases Nat.eq_zero_or_pos n with h|h
   ·exact h
   ·obtain⟨b,off,rfl, -⟩:=h4 h;simp at he)
  rintro rfl;obtain rfl:l=[]:=List.eq_nil_of_length_eq_zero hn
  repeat(refine Jy ?_;try first|intro ao cap|intro b)
  apply End.imp (fun w hm=>hm.nilArr 4 boolc);(refine End.done1_ ((none,0)) (he:=Jv) (hp:=?_));trivial
 |some a0=>
  repeat(refine Jy ?_;try first|intro ao cap|intro b)
  apply Run.imp (fun w hm=>hm.toArr .head ([]:List Bool) rfl rfl (by unfold maxLen;simp))
  repeat(refine Jy ?_;try first|intro ao cap|intro b)
  apply Run.op (by exact rfl);refine OpT.appendS_ (k:=?_);intro ao cap;simp only[Nat.zero_add,List.nil_append]
  repeat(refine Jy ?_;try first|intro ao cap|intro b)
  (refine End.done1_ ((_,_)) (he:=Jv) (hp:=?_));trivial
abbrev up(m:ML)(k:Nat):Value:= .pointer (place (sz ucell) m.uo k 0)
abbrev insV(i:ImgM.Ins):Value:= .agg (insC i).toArray
set_option maxHeartbeats 1000000 in
theorem instr_is(cb mb:Nat)(m:ML)(k:Nat)(hk:k<m.us.length)(i:ImgM.Ins):Fn Try.prog 29 #[ptr cb,up m k,insV i] [md m] (ck cb mb m) (σ:=Unit) (fun _=>True) (fun _=> .int .i64 (Ver.instr m.mdl (m.us.getD k default).u i)) (fun _=>ck cb mb m):=by
 refine Fn.enter (args:=[ptr cb,up m k,insV i]) Try.func29 rfl _ Try.ntmps29 rfl (by simp[rd_excl,md_excl]) (fun w S=>?_);(refine Jn ?_)
 repeat' (first|(refine Jc ?_;refine OpT.call0_ (spec:=unit_is cb mb m _ _) (k:=?_);intro s hs;(refine Jn ?_))|refine Jo ?_|(refine JB ?_;intro b)|(refine JA ?_;intro ao cap)|refine goQ (k:=fun h=>?_) (k':=fun h=>?_)|fail)
 all_goals ((refine End.done1_ (()) (he:=by refine int_eq ?_;unfold Ver.instr;(first|(simp[Ver.rng,ML.mdl, *];done)|((try simp only[Ver.rng,ML.mdl]);(repeat' split);all_goals (first|rfl|omega|(simp_all;done)|(simp_all;omega))))) (hp:=?_));trivial)
end Go.Proofs.Ytgnhfinabhimpaa.Vw
