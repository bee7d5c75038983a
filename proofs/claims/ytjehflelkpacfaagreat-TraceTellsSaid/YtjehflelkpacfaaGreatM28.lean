/- mail's boxes, walked: a new one, all words of one; all boxes of a module. -/
import Derived.Test.YtjehflelkpacfaaGreatM27
import Derived.Laws.StructEq
set_option linter.unusedVariables false
set_option linter.unusedSimpArgs false
set_option linter.unusedSectionVars false
set_option maxRecDepth 100000
namespace Go.Proofs.YtjehflelkpacfaaGreat.Vw
open Go.RowKit Go.Proofs.YtjehflelkpacfaaGreat.Img
section
attribute [local irreducible] Run Cod End OpT Still RunQ RunS RunT Fn PutOk
theorem new_rg(c:Nat)(hc:c≤20):Fn Tryz.prog 27 #[.int .i64 (c:Int)] [] [] (σ:=Nat×Nat) (fun _=>True) (fun s=>ptr s.1) (fun s=>rgM ⟨s.1,s.2,List.replicate c 0,0,0⟩):=by
 refine JE [.int .i64 (c:Int)] Tryz.func27 Tryz.ntmps27 fun w S=>?_
 (refine Jn ?_)
 repeat(refine Jy ?_;try first|intro ao cap|intro b)
 apply Run.op (by exact rfl);refine OpT.makeSlice_ (f:=i64c) (iα:=inferInstance) (ef:=inferInstance) (z:=0) (n:=c) (k:=?_);intro lb
 repeat(refine Jy ?_;try first|intro ao cap|intro b)
 have hle:(List.replicate c (0:Int)).length=c:=List.length_replicate;refine End.done1_ ((b,lb):Nat×Nat) (he:=by rfl) (ht:=by(simp only[rgM,rgC,hle];exact tks)) (hp:=trivial)
theorem Ring.ws_take(r:Ring)(k:Nat)(hk:k<r.n):r.ws.take (k+1)=r.ws.take k ++[r.l.getD ((r.first+k) % r.l.length) 0]:=by
 have hl:=r.len;rw[Jp (by omega)];congr 2;simp[Ring.ws]
theorem words_rg(r:Ring)(h:r.Ok):Fn Tryz.prog 36 #[ptr r.bb] [] (rgM r) (σ:=Option Addr×Nat) (fun _=>True) (fun s=> .slice s.1 r.ws.length s.2) (fun s=>arr s.1 r.ws.length s.2 2 i64c r.ws::rgM r):=by
 obtain⟨h1,h2,h3⟩:=h;have hl:=r.len;rw[hl];refine JE [ptr r.bb] Tryz.func36 Tryz.ntmps36 fun w S=>?_
 (refine Jn ?_)
 repeat(refine Jy ?_;try first|intro ao cap|intro b)
 apply Cod.imp (fun w hm=>hm.nilArr 2 i64c);refine Cod.only ((fun z=>old w S::arr z.2.1 z.1 z.2.2 2 i64c (r.ws.take z.1)::rgM r) (0,none,0)) (tks) ?_;apply Cod.loop (σ:=Nat×Option Addr×Nat) (fun z=>z.1≤r.n) (fun z=>[(0,ptr r.bb),(3, .slice z.2.1 z.1 z.2.2),(8, .int .i64 (r.n:Int)),(9, .int .i64 (z.1:Int))]) (fun z=>old w S::arr z.2.1 z.1 z.2.2 2 i64c (r.ws.take z.1)::rgM r) (fun z=>r.n-z.1) (0,none,0)
 rotate_left
 exact sb;exact tks;intro z hz K1 hK1;(refine Jn ?_)
 rotate_left
 ·exact Nat.zero_le _
 obtain⟨q,ao,ac⟩:=z;simp only at hz hK1⊢
 by_cases hq:q<r.n
 ·have hsn:=r.ws_take q hq;have hlt:(r.first+q) % r.l.length<r.l.length:=Nat.mod_lt _ (by omega);have hm:((r.first:Int)+(q:Int)).tmod (r.l.length:Int)=(((r.first+q) % r.l.length:Nat):Int):=by
   rw[←Int.natCast_add,Int.ofNat_tmod]
  repeat(refine Jy ?_;try first|intro ao cap|intro b)
  apply Cod.draw 20 ([blk r.bb (rgC r) 112,arr (some ⟨r.lb,0,none⟩) r.l.length r.l.length 2 i64c r.l]) (by kernel_rfl) 22 rfl;refine JR 0 ?_;refine JR 1 ?_;refine JR 2 ?_;refine JR 3 ?_;refine JR 4 ?_;refine JR 5 ?_;refine JR 6 ?_;refine JR 7 ?_;refine JR 8 ?_;refine JR 9 ?_;refine JR 10 ?_;refine JR 11 ?_;refine JR 12 ?_;refine JR 13 ?_;refine JR 14 ?_;refine JR 15 ?_;refine RunT.takeR_ 16 (hy:=by exact Still.rem rfl rfl (by omega) hm) (h:=?_);refine JR 17 ?_;refine JR 18 ?_;(refine JT 19 ?_;(first|refine Jw ?_|(refine Jb ?_;intro b)|(refine Ja ?_;intro ao cap));refine JG ?_);(refine JT 20 ?_;refine OpT.append1_ (a:=r.l.getD ((r.first+q) % r.l.length) default) (k:=?_);intro ao cap;refine JG ?_;(refine Jn ?_));(refine JT 21 ?_;(first|refine Jw ?_|(refine Jb ?_;intro b)|(refine Ja ?_;intro ao cap));refine JG ?_);(apply RunT.done;kernel_rfl)
  repeat(refine Jy ?_;try first|intro ao cap|intro b)
  rw[show r.l.getD ((r.first+q) % r.l.length) default=r.l.getD ((r.first+q) % r.l.length) 0 from rfl,←hsn];refine End.round0_ hK1 (q+1,ao,cap) ?_ ?_
  ·simp only;omega
  ·simp only;omega
 ·obtain rfl:q=r.n:=by omega
  rw[List.take_of_length_le (by omega)]
  repeat(refine Jy ?_;try first|intro ao cap|intro b)
  (refine End.done1_ ((ao,ac)) (he:=Jv) (hp:=?_));trivial
structure BxP where
 bo:Option Addr
 bc:Nat
 bs:List Nat
 tr:Option (Nat×List Nat)
structure BxE where
 rs:List Ring
 oo:Option Addr
 oc:Nat
 ev:List (Nat×Vm.Ev)
def evC(e:Nat×Vm.Ev):List Value:=[.int .i64 (e.1:Int), .int .i64 e.2.1, .int .i64 e.2.2.1, .int .i64 e.2.2.2]
instance:Enc evC:=⟨fun _=>rfl,by decide,fun a u hu=>by simp[evC]at hu;rcases hu with rfl|rfl|rfl|rfl<;>rfl⟩
def kcs(kbs:List Nat):List Chunk:=(List.range kbs.length).map fun k=>blk (kbs.getD k 0) [.int .i64 (k:Int)] 3
def outC(p:BxP)(e:BxE):List Chunk:=match p.tr with
 |none=>[]
 |some (ob,kbs)=>[blk ob [.slice e.oo e.ev.length e.oc] 27,arr e.oo e.ev.length e.oc 57 evC e.ev,bag (kcs kbs)]
def bxM(p:BxP)(e:BxE):Chunk:=bag [bag (e.rs.flatMap rgM),bag (outC p e)]
theorem bxM_excl(p:BxP)(e:BxE):(bxM p e).excl=true:=bag_excl
theorem rgM_excl(r:Ring):∀c∈rgM r,c.excl=true:=by simp[blk_excl,arr_excl]
abbrev bxR(p:BxP):Chunk:=rd p.bo p.bs.length p.bc ptrC p.bs
structure BxOk(M:ImgM.Mdl)(p:BxP)(e:BxE):Prop where
 at_:e.rs.map (·.bb)=p.bs
 len:e.rs.length=M.boxes.length
 ok:∀r∈e.rs,r.Ok
 cap:∀b,b<M.boxes.length→(e.rs.getD b default).l.length=Vm.capN M b
def BxE.abs(e:BxE):Vm.Bs:=⟨e.rs.map Ring.ws,e.ev⟩
theorem getD_rg(l:List Ring)(b:Nat):(l.map Ring.ws).getD b []=if b<l.length then(l.getD b default).ws else []:=by
 simp only[Jd,JU]
 split
 ·rename_i h;rw[Je h];rfl
 ·rename_i h;rw[List.getElem?_eq_none (by omega)];rfl
theorem rg_perm(s u:List Ring)(r:Ring):((s ++r::u).flatMap rgM).Perm (rgM r ++(s ++u).flatMap rgM):=by
 have:=(List.perm_middle (a:=r) (l₁:=s) (l₂:=u)).flatMap_right rgM;simpa only[List.flatMap_cons]using this
theorem Mem.rgOut{w:World}{L L':List Chunk}{p:BxP}{e:BxE}{s u:List Ring}{r:Ring}(h:Mem w L)(t:Take (bxM p e) L L')(he:e.rs=s ++r::u):Mem w (blk r.bb (rgC r) 112::arr (some ⟨r.lb,0,none⟩) r.l.length r.l.length 2 i64c r.l::bag ((s ++u).flatMap rgM)::bag (outC p e)::L'):=by
 have h1:Mem w (bag (e.rs.flatMap rgM)::bag (outC p e)::L'):=(h.take t).unpack;rw[he]at h1;exact Mem.bagOut (ds:=rgM r) h1 .head (rg_perm s u r)
theorem Mem.rgIn{w:World}{L F:List Chunk}{p:BxP}{e:BxE}{s u:List Ring}{r:Ring}(h:Mem w L)(t:Takes [blk r.bb (rgC r) 112,arr (some ⟨r.lb,0,none⟩) r.l.length r.l.length 2 i64c r.l,bag ((s ++u).flatMap rgM),bag (outC p e)] L F):Mem w (bxM p {e with rs:=s ++r::u}::F):=by
 have h1:Mem w ((rgM r ++[bag ((s ++u).flatMap rgM),bag (outC p e)]) ++F):=h.takes t;have h2:Mem w (bag ((s ++u).flatMap rgM)::(rgM r ++(bag (outC p e)::F))):=by
  have e1:(rgM r ++[bag ((s ++u).flatMap rgM),bag (outC p e)]) ++F=rgM r ++(bag ((s ++u).flatMap rgM)::(bag (outC p e)::F)):=by simp
  rw[e1]at h1;exact h1.perm List.perm_middle
 have h3:Mem w (bag ((s ++r::u).flatMap rgM)::bag (outC p e)::F):=Mem.bagIn (ds:=rgM r) h2 .head (Takes.cons .head (.cons .head .nil)) (rg_perm s u r) (rgM_excl r);have h4:Mem w ([bag ((s ++r::u).flatMap rgM),bag (outC p e)] ++F):=h3;exact h4.pack (fun c hc=>by
  simp at hc;rcases hc with rfl|rfl
  ·exact bag_excl
  ·exact bag_excl)
end
section
attribute [local irreducible] Run Cod End OpT Still RunQ RunS RunT Fn PutOk
theorem bxR_excl(p:BxP):(bxR p).excl=false:=rd_excl
section
variable{M:ImgM.Mdl}{p:BxP}{e:BxE}
theorem BxOk.split(h:BxOk M p e){b:Nat}(hb:b<M.boxes.length):∃s u r,e.rs=s ++r::u∧s.length=b∧r.Ok∧r.l.length=Vm.capN M b∧p.bs.getD b default=r.bb∧e.abs.ws.getD b []=r.ws∧p.bs.length=M.boxes.length:=by
 obtain⟨h1,h2,h3,h4⟩:=h;obtain⟨s,u,hsp,hlen⟩:=split_at (l:=e.rs) (k:=b) (by omega);refine⟨s,u,e.rs.getD b default,hsp,hlen,h3 _ ?_,h4 b hb,?_,?_,?_⟩
 ·rw[Jd,Je (by omega)];exact List.getElem_mem _
 ·rw[←h1,Jd,JU,Je (by omega)];simp[Jd,Je (show b<e.rs.length by omega)]
 ·show(e.rs.map Ring.ws).getD b []=_;rw[getD_rg,if_pos (by omega)]
 ·rw[←h1,Jf,h2]
theorem BxOk.put(h:BxOk M p e){s u:List Ring}{r r':Ring}(he:e.rs=s ++r::u)(hbb:r'.bb=r.bb)(hok:r'.Ok)(hl:r'.l.length=r.l.length):BxOk M p {e with rs:=s ++r'::u}:=by
 obtain⟨h1,h2,h3,h4⟩:=h;rw[he]at h1 h2 h3;refine⟨by simpa[hbb]using h1,by simpa using h2,fun x hx=>?_,fun b hb=>?_⟩
 ·rcases List.mem_append.1 hx with hx|hx
  ·exact h3 x (by simp[hx])
  ·rcases List.mem_cons.1 hx with rfl|hx
   ·exact hok
   ·exact h3 x (by simp[hx])
 ·have h4b:=h4 b hb;rw[he]at h4b
  by_cases hbs:b=s.length
  ·subst hbs;rw[getD_split]at h4b⊢;rw[hl];exact h4b
  ·rw[←h4b];congr 1;have e1:(s ++r'::u)=(s ++r::u).set s.length r':=(set_split s u r r').symm;simp only[e1,Jd];rw[List.getElem?_set_ne (fun h=>hbs h.symm)]
theorem BxE.abs_put{s u:List Ring}{r r':Ring}(he:e.rs=s ++r::u):BxE.abs {e with rs:=s ++r'::u}=⟨e.abs.ws.set s.length r'.ws,e.ev⟩:=by
 unfold BxE.abs;rw[he];simp only[Vm.Bs.mk.injEq,and_true,Jq,List.map_cons];have:=set_split (s.map Ring.ws) (u.map Ring.ws) r.ws r'.ws;rw[Jf]at this;exact this.symm
end
section
variable(M:ImgM.Mdl)(p:BxP)(e:BxE)(k:Option Nat)
theorem bxFull_is(he:BxOk M p e)(b:Nat)(hb:b<M.boxes.length):Fn Tryz.prog 127 #[.slice p.bo p.bs.length p.bc, .int .i64 (b:Int)] [bxR p] [bxM p e] (σ:=Unit) (fun _=>True) (fun _=> .bool ((Vm.bxs M k).full e.abs b)) (fun _=>[bxM p e]):=by
 obtain⟨s1,u1,r,h1,h2,h3,h4,h5,h6,h7⟩:=he.split hb;refine Fn.enter (args:=[.slice p.bo p.bs.length p.bc, .int .i64 (b:Int)]) Tryz.func127 rfl _ Tryz.ntmps127 rfl (by simp[rd_excl]) (fun w S=>?_);(refine Jn ?_);apply Cod.imp (fun w hm=>Mem.rgOut hm (tk) h1)
 repeat(refine Jy ?_;try first|intro ao cap|intro b)
 rw[h5];(refine JQ (full_rg r) ?_;intro s hs;(refine Jn ?_))
 repeat(refine Jy ?_;try first|intro ao cap|intro b)
 apply End.imp (fun w hm=>Mem.rgIn (p:=p) (e:=e) (s:=s1) (u:=u1) (r:=r) hm (tks));rw[←h1];refine End.done1_ () (he:=?_) (hp:=trivial) (hx:=by simp[bxM_excl]);refine bool_eq ?_;show _=decide ((e.abs.ws.getD b []).length=Vm.capN M b);rw[h6,r.len,h4]
theorem bxEmpty_is(he:BxOk M p e)(b:Nat)(hb:b<M.boxes.length):Fn Tryz.prog 126 #[.slice p.bo p.bs.length p.bc, .int .i64 (b:Int)] [bxR p] [bxM p e] (σ:=Unit) (fun _=>True) (fun _=> .bool ((Vm.bxs M k).empty e.abs b)) (fun _=>[bxM p e]):=by
 obtain⟨s1,u1,r,h1,h2,h3,h4,h5,h6,h7⟩:=he.split hb;refine Fn.enter (args:=[.slice p.bo p.bs.length p.bc, .int .i64 (b:Int)]) Tryz.func126 rfl _ Tryz.ntmps126 rfl (by simp[rd_excl]) (fun w S=>?_);(refine Jn ?_);apply Cod.imp (fun w hm=>Mem.rgOut hm (tk) h1)
 repeat(refine Jy ?_;try first|intro ao cap|intro b)
 rw[h5];(refine JQ (empty_rg r) ?_;intro s hs;(refine Jn ?_))
 repeat(refine Jy ?_;try first|intro ao cap|intro b)
 apply End.imp (fun w hm=>Mem.rgIn (p:=p) (e:=e) (s:=s1) (u:=u1) (r:=r) hm (tks));rw[←h1];refine End.done1_ () (he:=?_) (hp:=trivial) (hx:=by simp[bxM_excl]);refine bool_eq ?_;show _=decide ((e.abs.ws.getD b []).length=0);rw[h6,r.len]
theorem bxPut_is(he:BxOk M p e)(b:Nat)(hb:b<M.boxes.length)(v:Int)(hf:(Vm.bxs M k).full e.abs b=false):Fn Tryz.prog 128 #[.slice p.bo p.bs.length p.bc, .int .i64 (b:Int), .int .i64 v] [bxR p] [bxM p e] (σ:=BxE) (fun e'=>BxOk M p e'∧e'.abs=(Vm.bxs M k).put e.abs b v) (fun _=> .tuple #[]) (fun e'=>[bxM p e']):=by
 obtain⟨s1,u1,r,h1,h2,h3,h4,h5,h6,h7⟩:=he.split hb;have hf':decide ((e.abs.ws.getD b []).length=Vm.capN M b)=false:=hf;rw[JY,h6,r.len,←h4]at hf';have hn:r.n<r.l.length:=by have:=h3.n;omega
 obtain⟨q1,q2⟩:=Ring.put_ok h3 hn v;refine Fn.enter (args:=[.slice p.bo p.bs.length p.bc, .int .i64 (b:Int), .int .i64 v]) Tryz.func128 rfl _ Tryz.ntmps128 rfl (by simp[rd_excl]) (fun w S=>?_);(refine Jn ?_);apply Cod.imp (fun w hm=>Mem.rgOut hm (tk) h1)
 repeat(refine Jy ?_;try first|intro ao cap|intro b)
 rw[h5];(refine JQ (put_rg r h3 hn v) ?_;intro s hs;(refine Jn ?_))
 repeat(refine Jy ?_;try first|intro ao cap|intro b)
 apply End.imp (fun w hm=>Mem.rgIn (p:=p) (e:=e) (s:=s1) (u:=u1) (r:=r.put v) hm (tks));refine End.done0'_ ({e with rs:=s1 ++r.put v::u1}:BxE) (hp:=⟨he.put h1 rfl q1 (by simp),?_⟩) (hx:=by simp[bxM_excl]);rw[BxE.abs_put (r':=r.put v) h1,q2,h2];show _=({e.abs with ws:=e.abs.ws.set b (e.abs.ws.getD b [] ++[v])}:Vm.Bs);rw[h6];rfl
theorem bxTake_is(he:BxOk M p e)(b:Nat)(hb:b<M.boxes.length)(hf:(Vm.bxs M k).empty e.abs b=false):Fn Tryz.prog 129 #[.slice p.bo p.bs.length p.bc, .int .i64 (b:Int)] [bxR p] [bxM p e] (σ:=BxE) (fun e'=>BxOk M p e'∧e'.abs=((Vm.bxs M k).take e.abs b).2) (fun _=> .int .i64 ((Vm.bxs M k).take e.abs b).1) (fun e'=>[bxM p e']):=by
 obtain⟨s1,u1,r,h1,h2,h3,h4,h5,h6,h7⟩:=he.split hb;have hf':decide ((e.abs.ws.getD b []).length=0)=false:=hf;rw[JY,h6,r.len]at hf';obtain⟨q1,q2⟩:=Ring.take_ok h3 hf';obtain⟨q3,q4⟩:=Ring.head h3 hf';refine Fn.enter (args:=[.slice p.bo p.bs.length p.bc, .int .i64 (b:Int)]) Tryz.func129 rfl _ Tryz.ntmps129 rfl (by simp[rd_excl]) (fun w S=>?_);(refine Jn ?_);apply Cod.imp (fun w hm=>Mem.rgOut hm (tk) h1)
 repeat(refine Jy ?_;try first|intro ao cap|intro b)
 rw[h5];(refine JQ (take_rg r h3 hf') ?_;intro s hs;(refine Jn ?_))
 repeat(refine Jy ?_;try first|intro ao cap|intro b)
 apply End.imp (fun w hm=>Mem.rgIn (p:=p) (e:=e) (s:=s1) (u:=u1) (r:=r.take) hm (tks));refine End.done1_ ({e with rs:=s1 ++r.take::u1}:BxE) (he:=?_) (hp:=⟨he.put h1 rfl q1 rfl,?_⟩) (hx:=by simp[bxM_excl])
 ·show _=Value.int .i64 ((e.abs.ws.getD b []).headD 0);rw[h6,q3]
 ·rw[BxE.abs_put (r':=r.take) h1,h2];show _=({e.abs with ws:=e.abs.ws.set b (e.abs.ws.getD b []).tail}:Vm.Bs);rw[h6,q4];rfl
end
theorem kcs_perm(kbs:List Nat){k:Nat}(hk:k<kbs.length):∃es,(kcs kbs).Perm (blk (kbs.getD k 0) [.int .i64 (k:Int)] 3::es):=by
 have hm:blk (kbs.getD k 0) [.int .i64 (k:Int)] 3∈kcs kbs:=List.mem_map.2 ⟨k,List.mem_range.2 hk,rfl⟩;obtain⟨s,u,h⟩:=List.append_of_mem hm;refine⟨s ++u,?_⟩;rw[h];exact List.perm_middle
theorem told_is(M:ImgM.Mdl)(p:BxP)(e:BxE)(he:BxOk M p e)(ob:Nat)(kbs:List Nat)(hp:p.tr=some (ob,kbs))(k:Nat)(hk:k<kbs.length)(a bx v:Int)(hs:e.ev.length≤2000000):
  Fn Tryz.prog 15 (#[.int .i64 a, .int .i64 bx, .int .i64 v] ++[ptr ob,ptr (kbs.getD k 0)].toArray) [bxR p] [bxM p e] (σ:=BxE) (fun e'=>BxOk M p e'∧e'.abs=(Vm.bxs M (some k)).tell e.abs (a,bx,v)) (fun _=> .tuple #[]) (fun e'=>[bxM p e']):=by
 have hO:outC p e=[blk ob [.slice e.oo e.ev.length e.oc] 27,arr e.oo e.ev.length e.oc 57 evC e.ev,bag (kcs kbs)]:=by unfold outC;rw[hp]
 obtain⟨es,hes⟩:=kcs_perm kbs hk;refine Fn.enter (args:=[.int .i64 a, .int .i64 bx, .int .i64 v,ptr ob,ptr (kbs.getD k 0)]) Tryz.func15 rfl _ Tryz.ntmps15 rfl (by simp[rd_excl]) (fun w S=>?_);(refine Jn ?_);apply Cod.imp (fun w hm=>by
  have h1:Mem w (bag (e.rs.flatMap rgM)::bag (outC p e)::_):=(hm.take (show Take (bxM p e) _ _ from tk)).unpack;have h2:=(h1.take (show Take (bag (outC p e)) _ _ from .tail .head)).unpack;rw[hO]at h2;exact Mem.bagOut (ds:=[blk (kbs.getD k 0) [.int .i64 (k:Int)] 3]) h2 (show Take (bag (kcs kbs)) _ _ from .tail (.tail .head)) hes)
 (refine Jn ?_)
 repeat(refine Jy ?_;try first|intro ao cap|intro b)
 (apply Run.op;exact rfl;refine OpT.append1_ (a:=((k,(a,bx,v)):Nat×Vm.Ev)) (k:=?_);intro ao cap;(refine Jn ?_))
 repeat(refine Jy ?_;try first|intro ao cap|intro b)
 have hle:(e.ev ++[(k,(a,bx,v))]).length=e.ev.length+1:=by simp
 rw[←hle];apply End.imp (fun w hm=>by
  have h1:=Mem.bagIn (ds:=[blk (kbs.getD k 0) [.int .i64 (k:Int)] 3]) (cs:=kcs kbs) hm (show Take (bag es) _ _ from tk) (tks) hes (fun c hc=>by simp at hc;subst hc;exact blk_excl);have h2:=(h1.takes (show Takes [blk ob [.slice ao (e.ev ++[(k,(a,bx,v))]).length cap] 27,arr ao (e.ev ++[(k,(a,bx,v))]).length cap 57 evC (e.ev ++[(k,(a,bx,v))]),bag (kcs kbs)] _ _ from tks)).pack (fun c hc=>by simp at hc;rcases hc with rfl|rfl|rfl;exact blk_excl;exact arr_excl;exact bag_excl);have hO':outC p {e with oo:=ao,oc:=cap,ev:=e.ev ++[(k,(a,bx,v))]}=[blk ob [.slice ao (e.ev ++[(k,(a,bx,v))]).length cap] 27,arr ao (e.ev ++[(k,(a,bx,v))]).length cap 57 evC (e.ev ++[(k,(a,bx,v))]),bag (kcs kbs)]:=by unfold outC;rw[hp]
  rw[←hO']at h2;exact(h2.takes (show Takes [bag (e.rs.flatMap rgM),bag (outC p {e with oo:=ao,oc:=cap,ev:=e.ev ++[(k,(a,bx,v))]})] _ _ from tks)).pack (fun c hc=>by simp at hc;rcases hc with rfl|rfl;exact bag_excl;exact bag_excl))
 refine End.done0'_ ({e with oo:=ao,oc:=cap,ev:=e.ev ++[(k,(a,bx,v))]}:BxE) (ht:=by exact .cons (.tail (tk)) (.cons (by exact Take.head) .nil)) (hp:=⟨⟨he.at_,he.len,he.ok,he.cap⟩,rfl⟩) (hx:=by simp[bxM_excl])
def KOk(p:BxP):Option Nat→Prop
 |none=>True
 |some k=>∃ob kbs,p.tr=some (ob,kbs)∧k<kbs.length
def toldOf(p:BxP):Option Nat→Option (FuncId×List Value)
 |none=>none
 |some k=>some (15,match p.tr with
  |none=>[]
  |some (ob,kbs)=>[ptr ob,ptr (kbs.getD k 0)])
@[reducible] def bxEnv (M : ImgM.Mdl) (p : BxP) (k : Option Nat) (hk : KOk p k) : EnvM where
 μ:=BxE
 ν:=Vm.Bs
 V:=Vm.bxs M k
 abs:=BxE.abs
 ok:=BxOk M p
 mem:=bxM p
 size s:=s.log.length
 sPut s b v:=Nat.le_succ _
 sTake s b:=Nat.le_succ _
 sTell s e:=by cases k with
  |none=>exact Nat.le_succ _
  |some k=>show(s.log ++[(k,e)]).length≤s.log.length+1;simp
 excl:=bxM_excl p
 rc:=bxR p
 rexcl:=bxR_excl p
 T:=52
 rv:= .slice p.bo p.bs.length p.bc
 told:=toldOf p k
 boxes:=M.boxes.length
 fFull:=127
 fEmpty:=126
 fPut:=128
 fTake:=129
 mFull:=finds (ptr:=false) (by kernel_rfl) (finds_slice Tryz.underlying52)
 mEmpty:=finds (ptr:=false) (by kernel_rfl) (finds_slice Tryz.underlying52)
 mPut:=finds (ptr:=false) (by kernel_rfl) (finds_slice Tryz.underlying52)
 mTake:=finds (ptr:=false) (by kernel_rfl) (finds_slice Tryz.underlying52)
 bFull:=by kernel_rfl
 bEmpty:=by kernel_rfl
 bPut:=by kernel_rfl
 bTake:=by kernel_rfl
 full e b he hb:=bxFull_is M p e k he b hb
 empty e b he hb:=bxEmpty_is M p e k he b hb
 put e b v he hb hf _:=bxPut_is M p e k he b hb v hf
 take e b he hb hf:=bxTake_is M p e k he b hb hf
 tell:=by
  cases k with
  |none=>exact fun v x=>rfl
  |some k=>
   obtain⟨ob,kbs,h1,h2⟩:=hk;refine⟨by kernel_rfl,fun e a b v he hs=>?_⟩;have:=told_is M p e he ob kbs h1 k h2 a b v hs;rw[h1];exact this
end
theorem Mem.toRead{w:World}{pre L F:List Chunk}{c:Chunk}(t:Takes pre L F)(h:Mem w L)(hc:c.holds w)(hx:c.excl=false)(hf:∀b,c.foot b→∃d∈pre,d.foot b):Mem w (c::F):=
 Mem.step (post:=[c]) (S:=Nil) (h.takes t) (Keeps.refl _ _) (fun b h=>False.elim h) (by simpa using hc) (by simp) (fun d hd b hb=>by
  simp at hd;subst hd;obtain⟨e,e1,e2⟩:=hf b hb;exact .inl ⟨e,e1,⟨fun h=>absurd h (by rw[hx];decide),e2⟩⟩)
section
variable{N:Nat}{E:Env}{L:List Chunk}{dst:Option Tmp}{ty:TypeId}{pos:String}{aft:Array Edge}{g:Option (Nat×Bool)}
end
section
attribute [local irreducible] Run Cod End OpT Still RunQ RunS RunT Fn PutOk
abbrev rdRow(r:Rw):Chunk:=rd r.o r.l.length r.c i64c r.l
theorem same9_is(a b:Rw)(h:a.l=b.l):Fn Tryz.prog 38 #[.slice a.o a.l.length a.c, .slice b.o b.l.length b.c] [rdRow a,rdRow b] [] (σ:=Unit) (fun _=>True) (fun _=> .bool true) (fun _=>[]):=by
 obtain⟨ao,ac,l⟩:=a;obtain⟨bo,bc,l'⟩:=b;dsimp only at h⊢;subst h;refine JE [.slice ao l.length ac, .slice bo l.length bc] Tryz.func38 Tryz.ntmps38 fun w S=>?_
 (refine Jn ?_);apply Cod.fact (l.length≤9223372036854775807) (fun w hm=>(rd_holds.1 (hm.has (c:=rd ao l.length ac i64c l) (tk))).1.2.1);intro hn
 repeat(refine Jy ?_;try first|intro ao cap|intro b)
 refine Cod.only ((fun k=>[old w S,rd ao l.length ac i64c l,rd bo l.length bc i64c l]) 0) (tks) ?_;apply Cod.loop (σ:=Nat) (fun k=>k≤l.length) (fun k=>[(0, .slice ao l.length ac),(1, .slice bo l.length bc),(12, .int .i64 (l.length:Int)),(13, .int .i64 (k:Int))]) (fun k=>[old w S,rd ao l.length ac i64c l,rd bo l.length bc i64c l]) (fun k=>l.length-k) 0
 rotate_left
 exact sb;exact tks;intro k hk K1 hK1;(refine Jn ?_)
 rotate_left
 ·exact Nat.zero_le _
 by_cases hkn:k<l.length
 ·repeat(refine Jy ?_;try first|intro ao cap|intro b)
  refine End.round0_ hK1 (k+1) ?_ ?_
  ·omega
  ·omega
 ·repeat(refine Jy ?_;try first|intro ao cap|intro b)
  (refine End.done1_ (()) (he:=Jv) (hp:=?_));trivial
theorem sameAll_is(f g:FL)(h:f.ws=g.ws):Fn Tryz.prog 23 #[f.val,g.val] [fd f,fd g] [] (σ:=Unit) (fun _=>True) (fun _=> .bool true) (fun _=>[]):=by
 have hl:g.l.length=f.l.length:=by have:=congrArg List.length h;simpa using this.symm
 have hr:∀k,(g.l.getD k default).l=(f.l.getD k default).l:=fun k=>by rw[←getD_ws,←getD_ws,←(show f.l.map (·.l)=g.l.map (·.l)from h)]
 refine Fn.enter (args:=[f.val,g.val]) Tryz.func23 rfl _ Tryz.ntmps23 rfl (by simp[fd_excl]) (fun w S=>?_);(refine Jn ?_);apply Cod.fact (f.l.length≤9223372036854775807∧∀k,k<f.l.length→(f.l.getD k default).l.length≤9223372036854775807) (fun w hm=>(fd_holds.1 (hm.has (tk))).small);intro hfs;apply Cod.imp (fun w hm=>Mem.fdOut (f:=f) (tk) hm);apply Cod.imp (fun w hm=>Mem.fdOut (f:=g) (tk) hm)
 repeat(refine Jy ?_;try first|intro ao cap|intro b)
 refine Cod.only ((fun k=>[old w S,fd f,fd g,rd f.o f.l.length f.c rwC f.l,rd g.o g.l.length g.c rwC g.l]) 0) (tks) ?_;apply Cod.loop (σ:=Nat) (fun k=>k≤f.l.length) (fun k=>[(0,f.val),(1,g.val),(12, .int .i64 (f.l.length:Int)),(13, .int .i64 (k:Int))]) (fun k=>[old w S,fd f,fd g,rd f.o f.l.length f.c rwC f.l,rd g.o g.l.length g.c rwC g.l]) (fun k=>f.l.length-k) 0
 rotate_left
 exact sb;exact tks;intro k hk K1 hK1;(refine Jn ?_)
 rotate_left
 ·exact Nat.zero_le _
 by_cases hkn:k<f.l.length
 ·apply Cod.imp (fun w hm=>Mem.fdRow (f:=f) (k:=k) hkn (tk) hm);apply Cod.imp (fun w hm=>Mem.fdRow (f:=g) (k:=k) (by omega) (tk) hm)
  repeat(refine Jy ?_;try first|intro ao cap|intro b)
  (refine JQ (same9_is (f.l.getD k default) (g.l.getD k default) (hr k).symm) ?_;intro s hs;(refine Jn ?_))
  repeat(refine Jy ?_;try first|intro ao cap|intro b)
  refine End.round0_ hK1 (k+1) ?_ ?_
  ·omega
  ·omega
 ·repeat(refine Jy ?_;try first|intro ao cap|intro b)
  (refine End.done1_ (()) (he:=Jv) (hp:=?_));trivial
theorem rd_own{w:World}{L F:List Chunk}{α:Type}{iα:Inhabited α}{ao:Option Addr}{n cap:Nat}{e:TypeId}{f:α→List Value}{ef:Enc f}{l:List α}(t:Takes [arr ao n cap e f l] L F)(h:Mem w L):Mem w (rd ao n cap f l::F):=by
 have ht:=h.takes t;have a1:=arr_holds.1 (ht.all _ (.head _));exact Mem.toRead t h (rd_holds.2 ⟨a1.1.row Enc.pos,a1.2⟩) rd_excl (fun b hb=>⟨_, .head _,arr_foot.2 ⟨(rd_foot.1 hb).1,Nat.lt_of_lt_of_le (rd_foot.1 hb).2 a1.1.le⟩⟩)
theorem fd_own{w:World}{L F:List Chunk}{f:FL}{t:TypeId}{e:TypeId}(tk:Takes [arr f.o f.l.length f.c e rwC f.l,bag (f.l.map (rowM t))] L F)(h:Mem w L):Mem w (fd f::F):=by
 have ht:=h.takes tk;have a1:=arr_holds.1 (ht.all _ (.head _));have a2:=bag_holds.1 (ht.all _ (.tail _ (.head _)));have hrow:∀r∈f.l,(rowM t r).holds w:=fun r hr=>a2.1.all _ (List.mem_map.2 ⟨r,hr,rfl⟩)
 refine Mem.toRead tk h (fd_holds.2 ⟨a1.1.row Enc.pos,fun r hr=>(arr_holds.1 (hrow r hr)).1.row Enc.pos⟩) fd_excl (fun b hb=>?_);rcases fd_foot.1 hb with⟨h1,h2⟩|⟨r,hr,h1,h2⟩
 ·exact⟨_, .head _,arr_foot.2 ⟨h1,Nat.lt_of_lt_of_le h2 a1.1.le⟩⟩
 ·exact⟨_, .tail _ (.head _),bag_foot.2 ⟨_,List.mem_map.2 ⟨r,hr,rfl⟩,arr_foot.2 ⟨h1,Nat.lt_of_lt_of_le h2 (arr_holds.1 (hrow r hr)).1.le⟩⟩⟩
end
structure TkL where
 tb:Nat
 co:Option Addr
 ccap:Nat
 bs:List Nat
 oth:List CoL
 now:Nat
 cur:CoL
 st:Int
 bx:Int
 tr:Int
 oo:Option Addr
 oc:Nat
 out:List Int
instance:Inhabited TkL:=⟨⟨0,none,0,[],[],0,default,0,0,0,none,0,[]⟩⟩
abbrev TkL.sl(t:TkL)(E:EnvM)(e:E.μ):SL E:=⟨t.co,t.ccap,t.bs,t.oth,t.now,t.cur,t.st,t.bx,t.tr,t.oo,t.oc,t.out,e⟩
abbrev SL.lay{E:EnvM}(z:SL E)(tb:Nat):TkL:=⟨tb,z.co,z.ccap,z.bs,z.oth,z.now,z.cur,z.st,z.bx,z.tr,z.oo,z.oc,z.out⟩
def TkL.all(t:TkL):List CoL:=t.oth.set t.now t.cur
def TkL.tk(t:TkL):Vm.Tk:=⟨t.all.map CoL.abs,t.now,t.st,t.bx,t.tr,t.out⟩
structure TkL.Wf(t:TkL):Prop where
 now:t.now<t.oth.length
 len:t.bs.length=t.oth.length
 few:t.oth.length≤31
 at_:∀i,i<t.oth.length→(t.all.getD i default).cb=t.bs.getD i 0
 up:∀c∈t.all,c.upb=c.up.map fun j=>t.bs.getD j 0
 upl:∀c∈t.all,∀j,c.up=some j→j<t.oth.length
 sk:∀c∈t.all,c.sk.Ok
theorem TkL.Wf.sl{t:TkL}(h:t.Wf){E:EnvM}{e:E.μ}(he:E.ok e):(t.sl E e).Wf:=⟨h.now,h.len,h.few,h.at_,h.up,h.upl,h.sk,he⟩
theorem SL.Wf.lay{E:EnvM}{z:SL E}(h:z.Wf)(tb:Nat):(z.lay tb).Wf:=⟨h.now,h.len,h.few,h.at_,h.up,h.upl,h.sk⟩
abbrev tkC(mb:Nat)(mail told:Value)(t:TkL):List Chunk:=[blk t.tb (tcl mb mail (.slice t.co t.bs.length t.ccap) t.cur.cb t.st t.bx t.tr (.slice t.oo t.out.length t.oc) told) 65,arr t.co t.bs.length t.ccap 62 ptrC t.bs,arr t.oo t.out.length t.oc 2 i64c t.out,bagM (t.oth.eraseIdx t.now),ccM t.cur,frM t.cur,blk t.cur.sk.sb (skC t.cur.sk) 169,arr (some ⟨t.cur.sk.lb,0,none⟩) t.cur.sk.l.length t.cur.sk.l.length 2 i64c t.cur.sk.l]
theorem tkC_excl(mb:Nat)(mail told:Value)(t:TkL):∀c∈tkC mb mail told t,c.excl=true:=by simp[blk_excl,arr_excl]
def tksL(mb:Nat)(mail:Value)(told:Nat→Value):Nat→List TkL→List Chunk
 |_,[]=>[]
 |k,t::l=>tkC mb mail (told k) t ++tksL mb mail told (k+1) l
def tksM(mb:Nat)(mail:Value)(told:Nat→Value)(l:List TkL):Chunk:=bag (tksL mb mail told 0 l)
theorem tksM_excl(mb:Nat)(mail:Value)(told:Nat→Value)(l:List TkL):(tksM mb mail told l).excl=true:=bag_excl
theorem tksL_app(mb:Nat)(mail:Value)(told:Nat→Value):∀(k:Nat) (l r:List TkL),tksL mb mail told k (l ++r)=tksL mb mail told k l ++tksL mb mail told (k+l.length) r
 |k,[],r=>by simp[tksL]
 |k,t::l,r=>by
  simp only[tksL,List.cons_append,JW];rw[tksL_app mb mail told (k+1) l r,show k+1+l.length=k+(l.length+1) by omega];simp
def tksO(mb:Nat)(mail:Value)(told:Nat→Value)(l:List TkL)(k:Nat):Chunk:=bag (tksL mb mail told 0 (l.take k) ++tksL mb mail told (k+1) (l.drop (k+1)))
theorem tks_split(mb:Nat)(mail:Value)(told:Nat→Value){l:List TkL}{k:Nat}(hk:k<l.length):(tksL mb mail told 0 l).Perm (tkC mb mail (told k) (l.getD k default) ++(tksL mb mail told 0 (l.take k) ++tksL mb mail told (k+1) (l.drop (k+1)))):=by
 have hl:l=l.take k ++(l.getD k default::l.drop (k+1)):=by
  rw[Jd,Je hk,JZ,List.getElem_cons_drop,List.take_append_drop]
 have hn:(l.take k).length=k:=by simp;omega
 have e:tksL mb mail told 0 l=tksL mb mail told 0 (l.take k) ++(tkC mb mail (told k) (l.getD k default) ++tksL mb mail told (k+1) (l.drop (k+1))):=by
  conv=>lhs;rw[hl]
  rw[tksL_app,hn,Nat.zero_add,tksL]
 rw[e];exact List.perm_append_comm_assoc _ _ _
theorem Mem.tkOut{w:World}{L L':List Chunk}{mb:Nat}{mail:Value}{told:Nat→Value}{l:List TkL}{k:Nat}(h:Mem w L)(t:Take (tksM mb mail told l) L L')(hk:k<l.length):Mem w (tkC mb mail (told k) (l.getD k default) ++(tksO mb mail told l k::L')):=
 Mem.bagOut h t (tks_split mb mail told hk)
theorem Mem.tkIn{w:World}{L L' F:List Chunk}{mb:Nat}{mail:Value}{told:Nat→Value}{l:List TkL}{k:Nat}{t:TkL}(h:Mem w L)(tk:Take (tksO mb mail told l k) L L')(t2:Takes (tkC mb mail (told k) t) L' F)(hk:k<l.length):Mem w (tksM mb mail told (l.set k t)::F):=by
 refine Mem.bagIn h tk t2 ?_ (tkC_excl _ _ _ _);have:=tks_split mb mail told (l:=l.set k t) (k:=k) (by simpa using hk);have e1:(l.set k t).getD k default=t:=by rw[Jd,JS hk];rfl
 rw[e1,List.take_set_of_le (Nat.le_refl _),List.drop_set_of_lt (by omega)]at this;exact this
theorem Mem.tkAdd{w:World}{L L' F:List Chunk}{mb:Nat}{mail:Value}{told:Nat→Value}{l:List TkL}{t:TkL}(h:Mem w L)(tk:Take (tksM mb mail told l) L L')(t2:Takes (tkC mb mail (told l.length) t) L' F):Mem w (tksM mb mail told (l ++[t])::F):=by
 have h1:=Mem.bagAdd h tk t2 (tkC_excl _ _ _ _);have e:tksL mb mail told 0 (l ++[t])=tksL mb mail told 0 l ++tkC mb mail (told l.length) t:=by
  rw[tksL_app,Nat.zero_add];simp[tksL]
 unfold tksM;rw[e];exact h1
attribute [local irreducible] Run Cod End OpT Still RunQ RunS RunT Fn PutOk
abbrev TkL.born(tb ob:Nat)(c:CoL):TkL:=⟨tb,some ⟨ob,0,none⟩,1,[c.cb],[c],0,c,1,0,0,none,0,[]⟩
theorem born_tk{m:ML}{u:Nat}{c:CoL}(h:Born u (m.us.getD u default).u.locals.length c)(tb ob:Nat):(TkL.born tb ob c).Wf∧(TkL.born tb ob c).tk=Vm.new m.mdl u:=by
 have hall:(TkL.born tb ob c).all=[c]:=rfl;refine⟨⟨Nat.zero_lt_one,rfl,by simp,fun i hi=>?_,fun d hd=>?_,fun d hd j hj=>?_,fun d hd=>?_⟩,?_⟩
 ·have:i=0:=by simpa using hi
  subst this;rfl
 ·rw[hall]at hd;simp at hd;subst hd;rw[h.up,h.upb];rfl
 ·rw[hall]at hd;simp at hd;subst hd;rw[h.up]at hj;cases hj
 ·rw[hall]at hd;simp at hd;subst hd;exact h.ok
 ·unfold TkL.tk Vm.new;rw[hall];simp only[List.map_cons,List.map_nil];congr 2;unfold CoL.abs Vm.begin;rw[h.st,h.up,h.fr,h.ws];have e1:(Vm.unt m.mdl u).locals.length=(m.us.getD u default).u.locals.length:=by unfold Vm.unt;rw[ML.unit_at]
  simp only[Vm.Co.mk.injEq,List.cons.injEq,and_true,true_and];rw[e1];refine List.ext_getElem (by simp) fun i h1 h2=>?_
  simp
structure BegL where
 xb:Nat
 bo:Option Addr
 bc:Nat
 rs:List Ring
 to:Option Addr
 tc:Nat
 ts:List TkL
structure BegL.Ok(m:ML)(s:BegL):Prop where
 rlen:s.rs.length=m.bx.length
 ring:∀b,b<m.bx.length→(s.rs.getD b default).Ok∧(s.rs.getD b default).l.length=Vm.capN m.mdl b∧(s.rs.getD b default).n=0
 ts:s.ts.map TkL.tk=(Vm.tasks m.mdl).map (Vm.new m.mdl)
 wf:∀t∈s.ts,t.Wf
abbrev bxV(bo:Option Addr)(n bc:Nat):Value:= .iface 52 (.slice bo n bc)
abbrev BegL.mem(m:ML)(mb:Nat)(s:BegL):List Chunk:=[blk s.xb (maC s.to s.ts.length s.tc s.bo s.rs.length s.bc 0) 54,blk mb (mdV m) 25,arr s.to s.ts.length s.tc 55 ptrC (s.ts.map (·.tb)),arr s.bo s.rs.length s.bc 91 ptrC (s.rs.map (·.bb)),bag (s.rs.flatMap rgM),tksM mb (bxV s.bo s.rs.length s.bc) (fun _=> .nilFunc) s.ts]
set_option maxHeartbeats 2000000 in
theorem begin2_is(mb:Nat)(m:ML)(hb30:m.bx.length≤30)(hu30:m.us.length≤30)(hcap:∀b,b<m.bx.length→1≤(m.bx.getD b default).2∧(m.bx.getD b default).2≤20)(hloc:∀k,k<m.us.length→(m.us.getD k default).u.locals.length≤200):
  Fn Tryz.prog 14 #[ptr mb] [md m] [blk mb (mdV m) 25] (σ:=BegL) (BegL.Ok m) (fun s=>ptr s.xb) (BegL.mem m mb):=by
 have htl:(Vm.tasks m.mdl).length≤30:=by
  rw[tasks_eq];have:=tasks_len m m.us.length;omega
 refine JE [ptr mb] Tryz.func14 Tryz.ntmps14 fun w S=>?_
 (refine Jn ?_)
 repeat(refine Jy ?_;try first|intro ao cap|intro b)
 obtain⟨xb,rfl⟩:∃x,x=b:=⟨_,rfl⟩;apply Cod.imp (fun w hm=>(hm.nilArr 91 ptrC).bagNil);refine Cod.only ((fun z=>[old w S,md m,blk mb (mdV m) 25,blk xb (maC none 0 0 z.2.1 z.1 z.2.2.1 0) 54,arr z.2.1 z.1 z.2.2.1 91 ptrC (z.2.2.2.map (·.bb)),bag (z.2.2.2.flatMap rgM)]) (0,none,0,[])) (tks) ?_;apply Cod.loop (σ:=Nat×Option Addr×Nat×List Ring) (fun z=>z.1≤m.bx.length∧z.2.2.2.length=z.1∧∀b,b<z.1→(z.2.2.2.getD b default).Ok∧(z.2.2.2.getD b default).l.length=Vm.capN m.mdl b∧(z.2.2.2.getD b default).n=0) (fun z=>[(0,ptr mb),(3,ptr xb),(13, .slice m.bo m.bx.length m.bc),(14, .int .i64 (m.bx.length:Int)),(15, .int .i64 (z.1:Int))]) (fun z=>[old w S,md m,blk mb (mdV m) 25,blk xb (maC none 0 0 z.2.1 z.1 z.2.2.1 0) 54,arr z.2.1 z.1 z.2.2.1 91 ptrC (z.2.2.2.map (·.bb)),bag (z.2.2.2.flatMap rgM)]) (fun z=>m.bx.length-z.1) (0,none,0,[])
 rotate_left
 exact sb;exact tks;intro z hz K1 hK1;(refine Jn ?_)
 rotate_left
 ·exact⟨Nat.zero_le _,rfl,fun b hb=>by omega⟩
 obtain⟨q,bo,bc,rs⟩:=z;obtain⟨z1,z2,z3⟩:=hz;dsimp only at z1 z2 z3 hK1⊢
 by_cases hq:q<m.bx.length
 ·obtain⟨c1,c2⟩:=hcap q hq;have hcn:(m.bx.getD q default).2=((Vm.capN m.mdl q:Nat):Int):=by unfold Vm.capN;exact(Jo' (by omega)).symm
  have hc20:Vm.capN m.mdl q≤20:=by omega
  have hc1:1≤Vm.capN m.mdl q:=by omega
  repeat(refine Jy ?_;try first|intro ao cap|intro b)
  obtain⟨ib,rfl⟩:∃x,x=b:=⟨_,rfl⟩;rw[hcn];apply Cod.draw 12 ([blk xb (maC none 0 0 bo q bc 0) 54,blk ib [.int .i64 (m.bx.getD q default).1, .int .i64 ((Vm.capN m.mdl q:Nat):Int)] 90]) (by kernel_rfl) 13 rfl;refine JR 0 ?_;refine JR 1 ?_;refine JR 2 ?_;refine JR 3 ?_;refine JR 4 ?_;refine JR 5 ?_;refine JR 6 ?_;(refine JT 7 ?_;refine JK (new_rg (Vm.capN m.mdl q) hc20) ?_;intro s hs;refine JG ?_;(refine Jn ?_));obtain⟨nb,lb⟩:=s;dsimp only;(refine JT 8 ?_;(first|refine Jw ?_|(refine Jb ?_;intro b)|(refine Ja ?_;intro ao cap));refine JG ?_);(refine JT 9 ?_;refine OpT.append1_ (a:=nb) (k:=?_);intro ao cap;refine JG ?_;(refine Jn ?_));refine JR 10 ?_;refine JR 11 ?_;(refine JT 12 ?_;(first|refine Jw ?_|(refine Jb ?_;intro b)|(refine Ja ?_;intro ao cap));refine JG ?_);(apply RunT.done;kernel_rfl)
  repeat(refine Jy ?_;try first|intro ao cap|intro b)
  obtain⟨R,hR⟩:∃R:Ring,R=⟨nb,lb,List.replicate (Vm.capN m.mdl q) 0,0,0⟩:=⟨_,rfl⟩;have hRok:R.Ok∧R.l.length=Vm.capN m.mdl q∧R.n=0:=by rw[hR];exact⟨⟨Nat.zero_le _,by simp;omega,by simp;omega⟩,by simp,rfl⟩
  apply End.imp (fun w hm=>Mem.bagAdd (ds:=rgM R) hm (tk) (by rw[hR];(repeat(first|exact Takes.nil|exact Take.head|apply Take.tail|apply Takes.cons))) (rgM_excl R));have hfl:rs.flatMap rgM ++rgM R=(rs ++[R]).flatMap rgM:=by simp
  have hmp:rs.map (·.bb) ++[nb]=(rs ++[R]).map (·.bb):=by rw[hR];simp
  rw[hfl,hmp];refine End.round0_ hK1 (q+1,ao,cap,rs ++[R]) ?_ ?_
  ·refine⟨by dsimp only;omega,by simp[z2],fun b hb=>?_⟩
   by_cases hbq:b<q
   ·rw[show(rs ++[R]).getD b default=rs.getD b default by simp only[Jd];rw[List.getElem?_append_left (by omega)]];exact z3 b hbq
   ·obtain rfl:b=q:=by dsimp only at hb;omega
    rw[show(rs ++[R]).getD b default=R by rw[←z2];exact getD_split rs [] _];exact hRok
  ·dsimp only;omega
 ·obtain rfl:q=m.bx.length:=by omega
  clear hK1
  repeat(refine Jy ?_;try first|intro ao cap|intro b)
  (refine JQ (tasks_is mb m (by omega)) ?_;intro s hs;(refine Jn ?_));obtain⟨ko,kc⟩:=s;dsimp only
  repeat(refine Jy ?_;try first|intro ao cap|intro b)
  apply Cod.imp (fun w hm=>(hm.nilArr 55 ptrC).bagNil);refine Cod.only ((fun z=>[old w S,md m,blk mb (mdV m) 25,arr ko (Vm.tasks m.mdl).length kc 3 natC (Vm.tasks m.mdl),blk xb (maC z.2.1 z.1 z.2.2.1 bo m.bx.length bc 0) 54,arr bo m.bx.length bc 91 ptrC (rs.map (·.bb)),bag (rs.flatMap rgM),arr z.2.1 z.1 z.2.2.1 55 ptrC (z.2.2.2.map (·.tb)),tksM mb (bxV bo m.bx.length bc) (fun _=> .nilFunc) z.2.2.2]) (0,none,0,[])) (tks) ?_;apply Cod.loop (σ:=Nat×Option Addr×Nat×List TkL) (fun z=>z.1≤(Vm.tasks m.mdl).length∧z.2.2.2.length=z.1∧z.2.2.2.map TkL.tk=((Vm.tasks m.mdl).take z.1).map (Vm.new m.mdl)∧∀t∈z.2.2.2,t.Wf) (fun z=>[(0,ptr mb),(3,ptr xb),(33, .slice ko (Vm.tasks m.mdl).length kc),(34, .int .i64 ((Vm.tasks m.mdl).length:Int)),(35, .int .i64 (z.1:Int))]) (fun z=>[old w S,md m,blk mb (mdV m) 25,arr ko (Vm.tasks m.mdl).length kc 3 natC (Vm.tasks m.mdl),blk xb (maC z.2.1 z.1 z.2.2.1 bo m.bx.length bc 0) 54,arr bo m.bx.length bc 91 ptrC (rs.map (·.bb)),bag (rs.flatMap rgM),arr z.2.1 z.1 z.2.2.1 55 ptrC (z.2.2.2.map (·.tb)),tksM mb (bxV bo m.bx.length bc) (fun _=> .nilFunc) z.2.2.2]) (fun z=>(Vm.tasks m.mdl).length-z.1) (0,none,0,[])
  rotate_left
  exact sb;exact tks;intro z hz K1 hK1;(refine Jn ?_)
  rotate_left
  ·exact⟨Nat.zero_le _,rfl,rfl,by simp⟩
  obtain⟨q,to,tc,ts⟩:=z;obtain⟨y1,y2,y3,y4⟩:=hz;dsimp only at y1 y2 y3 y4 hK1⊢
  by_cases hq:q<(Vm.tasks m.mdl).length
  ·obtain⟨hu1,hu2⟩:=tasks_mem (m:=m) (k:=q) hq;have hgd:(Vm.tasks m.mdl).getD q default=(Vm.tasks m.mdl).getD q 0:=rfl;obtain⟨u,hu⟩:∃u,u=(Vm.tasks m.mdl).getD q 0:=⟨_,rfl⟩;rw[←hu]at hgd hu1 hu2;have hul:=hloc u hu1
   repeat(refine Jy ?_;try first|intro ao cap|intro b)
   rw[hgd];apply Cod.draw 17 ([blk xb (maC to q tc bo m.bx.length bc 0) 54]) (by kernel_rfl) 18 rfl;refine JR 0 ?_;refine JR 1 ?_;refine JR 2 ?_;refine JR 3 ?_;refine JR 4 ?_;refine JR 5 ?_;refine JR 6 ?_;refine JR 7 ?_;refine JR 8 ?_;refine JR 9 ?_;refine JR 10 ?_;refine RunT.takeR_ 11 (hy:=by exact Still.mkIfaceS (t:=0) rfl rfl) (h:=?_);(refine JT 12 ?_;refine JK (new_is mb m u hu1 52 (.slice bo m.bx.length bc) hul) ?_;intro s hs;refine JG ?_;(refine Jn ?_));obtain⟨tb,ob,c⟩:=s;dsimp only at hs⊢;(refine JT 13 ?_;(first|refine Jw ?_|(refine Jb ?_;intro b)|(refine Ja ?_;intro ao cap));refine JG ?_);(refine JT 14 ?_;refine OpT.append1_ (a:=tb) (k:=?_);intro ao cap;refine JG ?_;(refine Jn ?_));refine JR 15 ?_;refine JR 16 ?_;(refine JT 17 ?_;(first|refine Jw ?_|(refine Jb ?_;intro b)|(refine Ja ?_;intro ao cap));refine JG ?_);(apply RunT.done;kernel_rfl)
   repeat(refine Jy ?_;try first|intro ao cap|intro b)
   obtain⟨w1,w2⟩:=born_tk (m:=m) hs tb ob;apply End.imp (fun w hm=>Mem.tkAdd (t:=TkL.born tb ob c) hm (tk) (tks));have hmp:ts.map (·.tb) ++[tb]=(ts ++[TkL.born tb ob c]).map (·.tb):=by simp
   rw[hmp];refine End.round0_ hK1 (q+1,ao,cap,ts ++[TkL.born tb ob c]) ?_ ?_
   ·refine⟨by dsimp only;omega,by simp[y2],?_,fun t ht=>?_⟩
    ·dsimp only;rw[Jq,y3,Jp hq,Jq];congr 1;simp only[List.map_cons,List.map_nil];rw[w2,hu,Jd,Je hq];rfl
    ·rcases List.mem_append.1 ht with ht|ht
     ·exact y4 t ht
     ·simp at ht;subst ht;exact w1
   ·dsimp only;omega
  ·obtain rfl:q=(Vm.tasks m.mdl).length:=by omega
   repeat(refine Jy ?_;try first|intro ao cap|intro b)
   obtain⟨B,hB⟩:∃B:BegL,B=⟨xb,bo,bc,rs,to,tc,ts⟩:=⟨_,rfl⟩;refine End.done1_ B (he:=by rw[hB]) (ht:=by(subst hB;simp only[BegL.mem,y2,z2];exact tks)) (hp:=?_) (hx:=by simp[blk_excl,arr_excl,bag_excl,tksM_excl]);subst hB;exact⟨z2,z3,by rw[y3,List.take_of_length_le (Nat.le_refl _)],y4⟩
end Go.Proofs.YtjehflelkpacfaaGreat.Vw
