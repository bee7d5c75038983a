/- mail's boxes, walked: a new one, all words of one; all boxes of a module. -/
import Derived.Test.YtofckcabpchcmaaGreatDoorM31
import Derived.Laws.StructEq
set_option linter.unusedVariables false
set_option linter.unusedSimpArgs false
set_option linter.unusedSectionVars false
set_option maxRecDepth 100000
namespace Go.Proofs.YtofckcabpchcmaaGreatDoor
namespace Vw
open Go.RowKit Img
section
attribute [local irreducible] aE aB End aA Still aM aP RunT Fn aO
theorem aDR(c:Nat)(hc:c≤20):Fn Tryz.prog 57 #[.int .i64 (c:Int)] [] [] (σ:=Nat×Nat) (fun _=>True) (fun s=>ptr s.1) (fun s=>dB ⟨s.1,s.2,List.replicate c 0,0,0⟩):=by
 refine JE [.int .i64 (c:Int)] Tryz.func57 Tryz.ntmps57 fun w S=>?_
 (refine Jn ?_)
 repeat(refine Jy ?_)
 apply aE.op (by exact rfl);refine aA.rQ (f:=aT) (iα:=inferInstance) (ef:=inferInstance) (z:=0) (n:=c) (k:=?_);intro lb
 repeat(refine Jy ?_;try intro b)
 have hle:(List.replicate c (0:Int)).length=c:=AS;refine End.aH ((b,lb):Nat×Nat) (he:=by rfl) (ht:=by(simp only[dB,zL,hle];exact aK)) (hp:=trivial)
theorem Ring.aHg(r:Ring)(k:Nat)(hk:k<r.n):r.ws.take (k+1)=r.ws.take k ++[r.l.getD ((r.first+k) % r.l.length) 0]:=by
 have hl:=r.len;rw[Jp (by omega)];congr 2;simp[Ring.ws]
theorem aHa(r:Ring)(h:r.Ok):Fn Tryz.prog 58 #[ptr r.bb] [] (dB r) (σ:=Option Addr×Nat) (fun _=>True) (fun s=> .slice s.1 r.ws.length s.2) (fun s=>arr s.1 r.ws.length s.2 2 aT r.ws::dB r):=by
 obtain⟨h1,h2,h3⟩:=h;have hl:=r.len;rw[hl];refine JE [ptr r.bb] Tryz.func58 Tryz.ntmps58 fun w S=>?_
 (refine Jn ?_)
 repeat(refine Jy ?_)
 apply aB.imp (fun w hm=>hm.bY 2 aT);refine aB.only ((fun z=>aI w S::arr z.2.1 z.1 z.2.2 2 aT (r.ws.take z.1)::dB r) (0,none,0)) (aK) ?_;apply aB.loop (σ:=Nat×Option Addr×Nat) (fun z=>z.1≤r.n) (fun z=>[(0,ptr r.bb),(3, .slice z.2.1 z.1 z.2.2),(8, .int .i64 (r.n:Int)),(9, .int .i64 (z.1:Int))]) (fun z=>aI w S::arr z.2.1 z.1 z.2.2 2 aT (r.ws.take z.1)::dB r) (fun z=>r.n-z.1) (0,none,0)
 rotate_left
 exact sb;exact aK;intro z hz K1 hK1;(refine Jn ?_)
 rotate_left
 ·exact bP _
 obtain⟨q,ao,ac⟩:=z;simp only at hz hK1⊢
 by_cases hq:q<r.n
 ·have hsn:=r.aHg q hq;have hlt:(r.first+q) % r.l.length<r.l.length:=Nat.mod_lt _ (by omega);have hm:((r.first:Int)+(q:Int)).tmod (r.l.length:Int)=(((r.first+q) % r.l.length:Nat):Int):=by
   rw[←Int.natCast_add,Int.ofNat_tmod]
  repeat(refine Jy ?_)
  apply aB.draw 20 ([aD r.bb (zL r) 232,arr (some ⟨r.lb,0,none⟩) r.l.length r.l.length 2 aT r.l]) (by kernel_rfl) 22 rfl;refine JR 0 ?_;refine JR 1 ?_;refine JR 2 ?_;refine JR 3 ?_;refine JR 4 ?_;refine JR 5 ?_;refine JR 6 ?_;refine JR 7 ?_;refine JR 8 ?_;refine JR 9 ?_;refine JR 10 ?_;refine JR 11 ?_;refine JR 12 ?_;refine JR 13 ?_;refine JR 14 ?_;refine JR 15 ?_;refine RunT.a7 16 (hy:=by exact Still.rem rfl rfl (by omega) hm) (h:=?_);refine JR 17 ?_;refine JR 18 ?_;(refine JT 19 ?_;(refine Jb ?_;intro b);refine JG ?_);(refine JT 20 ?_;refine aA.jL (a:=r.l.getD ((r.first+q) % r.l.length) default) (k:=?_);intro ao cap;refine JG ?_;(refine Jn ?_));(refine JT 21 ?_;(refine Jw ?_);refine JG ?_);(apply RunT.done;kernel_rfl)
  repeat(refine Jy ?_)
  rw[show r.l.getD ((r.first+q) % r.l.length) default=r.l.getD ((r.first+q) % r.l.length) 0 from rfl,←hsn];refine End.bK hK1 (q+1,ao,cap) ?_ ?_
  ·simp only;omega
  ·simp only;omega
 ·obtain rfl:q=r.n:=by omega
  rw[pF (by omega)]
  repeat(refine Jy ?_)
  (refine End.aH ((ao,ac)) (he:=Jv) (hp:=?_));trivial
structure l0 where
 bo:Option Addr
 bc:Nat
 bs:List Nat
 tr:Option (Nat×List Nat)
structure dT where
 rs:List Ring
 oo:Option Addr
 oc:Nat
 ev:List (Nat×Vm.Ev)
def IH(e:Nat×Vm.Ev):List Value:=[.int .i64 (e.1:Int), .int .i64 e.2.1, .int .i64 e.2.2.1, .int .i64 e.2.2.2]
instance:bF IH:=⟨fun _=>rfl,by decide,fun a u hu=>by simp[IH]at hu;rcases hu with rfl|rfl|rfl|rfl<;>rfl⟩
def kcs(kbs:List Nat):List Chunk:=(List.range kbs.length).map fun k=>aD (kbs.getD k 0) [.int .i64 (k:Int)] 3
def rS(p:l0)(e:dT):List Chunk:=match p.tr with
 |none=>[]
 |some (ob,kbs)=>[aD ob [.slice e.oo e.ev.length e.oc] 0,arr e.oo e.ev.length e.oc 0 IH e.ev,aR (kcs kbs)]
def mW(p:l0)(e:dT):Chunk:=aR [aR (e.rs.flatMap dB),aR (rS p e)]
theorem uI(p:l0)(e:dT):(mW p e).bB=true:=jT
theorem UY(r:Ring):∀c∈dB r,c.bB=true:=by simp[kG,dX]
abbrev gX(p:l0):Chunk:=rd p.bo p.bs.length p.bc gH p.bs
structure oE(M:ImgM.aG)(p:l0)(e:dT):Prop where
 at_:e.rs.map (·.bb)=p.bs
 len:e.rs.length=M.boxes.length
 ok:∀r∈e.rs,r.Ok
 cap:∀b,b<M.boxes.length→(e.rs.getD b default).l.length=Vm.fT M b
def dT.abs(e:dT):Vm.Bs:=⟨e.rs.map Ring.ws,e.ev⟩
theorem aB3(l:List Ring)(b:Nat):(l.map Ring.ws).getD b []=if b<l.length then(l.getD b default).ws else []:=by
 simp only[Jd,JU]
 split
 ·rename_i h;rw[Je h];rfl
 ·rename_i h;rw[tV (by omega)];rfl
theorem UZ(s u:List Ring)(r:Ring):((s ++r::u).flatMap dB).Perm (dB r ++(s ++u).flatMap dB):=by
 have:=(uA (a:=r) (l₁:=s) (l₂:=u)).flatMap_right dB;simpa only[vY]using this
theorem Mem.CK{w:World}{L L':List Chunk}{p:l0}{e:dT}{s u:List Ring}{r:Ring}(h:Mem w L)(t:Take (mW p e) L L')(he:e.rs=s ++r::u):Mem w (aD r.bb (zL r) 232::arr (some ⟨r.lb,0,none⟩) r.l.length r.l.length 2 aT r.l::aR ((s ++u).flatMap dB)::aR (rS p e)::L'):=by
 have h1:Mem w (aR (e.rs.flatMap dB)::aR (rS p e)::L'):=(h.take t).unpack;rw[he]at h1;exact Mem.nO (ds:=dB r) h1 .head (UZ s u r)
theorem Mem.CJ{w:World}{L F:List Chunk}{p:l0}{e:dT}{s u:List Ring}{r:Ring}(h:Mem w L)(t:aQ [aD r.bb (zL r) 232,arr (some ⟨r.lb,0,none⟩) r.l.length r.l.length 2 aT r.l,aR ((s ++u).flatMap dB),aR (rS p e)] L F):Mem w (mW p {e with rs:=s ++r::u}::F):=by
 have h1:Mem w ((dB r ++[aR ((s ++u).flatMap dB),aR (rS p e)]) ++F):=h.aS t;have h2:Mem w (aR ((s ++u).flatMap dB)::(dB r ++(aR (rS p e)::F))):=by
  have e1:(dB r ++[aR ((s ++u).flatMap dB),aR (rS p e)]) ++F=dB r ++(aR ((s ++u).flatMap dB)::(aR (rS p e)::F)):=by simp
  rw[e1]at h1;exact h1.perm uA
 have h3:Mem w (aR ((s ++r::u).flatMap dB)::aR (rS p e)::F):=Mem.mA (ds:=dB r) h2 .head (aQ.cons .head (.cons .head .nil)) (UZ s u r) (UY r);have h4:Mem w ([aR ((s ++r::u).flatMap dB),aR (rS p e)] ++F):=h3;exact h4.pack (fun c hc=>by
  simp at hc;rcases hc with rfl|rfl
  ·exact jT
  ·exact jT)
theorem uJ(p:l0):(gX p).bB=false:=fP
section
variable{M:ImgM.aG}{p:l0}{e:dT}
theorem oE.split(h:oE M p e){b:Nat}(hb:b<M.boxes.length):∃s u r,e.rs=s ++r::u∧s.length=b∧r.Ok∧r.l.length=Vm.fT M b∧p.bs.getD b default=r.bb∧e.abs.ws.getD b []=r.ws∧p.bs.length=M.boxes.length:=by
 obtain⟨h1,h2,h3,h4⟩:=h;obtain⟨s,u,hsp,hlen⟩:=MV (l:=e.rs) (k:=b) (by omega);refine⟨s,u,e.rs.getD b default,hsp,hlen,h3 _ ?_,h4 b hb,?_,?_,?_⟩
 ·rw[Jd,Je (by omega)];exact fB _
 ·rw[←h1,Jd,JU,Je (by omega)];simp[Jd,Je (show b<e.rs.length by omega)]
 ·show(e.rs.map Ring.ws).getD b []=_;rw[aB3,if_pos (by omega)]
 ·rw[←h1,Jf,h2]
theorem oE.put(h:oE M p e){s u:List Ring}{r r':Ring}(he:e.rs=s ++r::u)(hbb:r'.bb=r.bb)(hok:r'.Ok)(hl:r'.l.length=r.l.length):oE M p {e with rs:=s ++r'::u}:=by
 obtain⟨h1,h2,h3,h4⟩:=h;rw[he]at h1 h2 h3;refine⟨by simpa[hbb]using h1,by simpa using h2,fun x hx=>?_,fun b hb=>?_⟩
 ·rcases dH.1 hx with hx|hx
  ·exact h3 x (by simp[hx])
  ·rcases eB.1 hx with rfl|hx
   ·exact hok
   ·exact h3 x (by simp[hx])
 ·have h4b:=h4 b hb;rw[he]at h4b
  by_cases hbs:b=s.length
  ·subst hbs;rw[BJ]at h4b⊢;rw[hl];exact h4b
  ·rw[←h4b];congr 1;have e1:(s ++r'::u)=(s ++r::u).set s.length r':=(CM s u r r').symm;simp only[e1,Jd];rw[List.getElem?_set_ne (fun h=>hbs h.symm)]
theorem dT.OL{s u:List Ring}{r r':Ring}(he:e.rs=s ++r::u):dT.abs {e with rs:=s ++r'::u}=⟨e.abs.ws.set s.length r'.ws,e.ev⟩:=by
 unfold dT.abs;rw[he];simp only[Vm.Bs.mk.injEq,and_true,Jq,eG];have:=CM (s.map Ring.ws) (u.map Ring.ws) r.ws r'.ws;rw[Jf]at this;exact this.symm
end
section
variable(M:ImgM.aG)(p:l0)(e:dT)(k:Option Nat)
theorem ZL(he:oE M p e)(b:Nat)(hb:b<M.boxes.length):Fn Tryz.prog 239 #[.slice p.bo p.bs.length p.bc, .int .i64 (b:Int)] [gX p] [mW p e] (σ:=Unit) (fun _=>True) (fun _=> .bool ((Vm.bJ M k).full e.abs b)) (fun _=>[mW p e]):=by
 obtain⟨s1,u1,r,h1,h2,h3,h4,h5,h6,h7⟩:=he.split hb;refine Fn.enter (args:=[.slice p.bo p.bs.length p.bc, .int .i64 (b:Int)]) Tryz.func239 rfl _ Tryz.ntmps239 rfl (by simp[fP]) (fun w S=>?_);(refine Jn ?_);apply aB.imp (fun w hm=>Mem.CK hm (tk) h1)
 repeat(refine Jy ?_)
 rw[h5];(refine JQ (aBV r) ?_;intro s hs;(refine Jn ?_))
 repeat(refine Jy ?_)
 apply End.imp (fun w hm=>Mem.CJ (p:=p) (e:=e) (s:=s1) (u:=u1) (r:=r) hm (aK));rw[←h1];refine End.aH () (he:=?_) (hp:=trivial) (hx:=by simp[uI]);refine iP ?_;show _=decide ((e.abs.ws.getD b []).length=Vm.fT M b);rw[h6,r.len,h4]
theorem ZK(he:oE M p e)(b:Nat)(hb:b<M.boxes.length):Fn Tryz.prog 238 #[.slice p.bo p.bs.length p.bc, .int .i64 (b:Int)] [gX p] [mW p e] (σ:=Unit) (fun _=>True) (fun _=> .bool ((Vm.bJ M k).empty e.abs b)) (fun _=>[mW p e]):=by
 obtain⟨s1,u1,r,h1,h2,h3,h4,h5,h6,h7⟩:=he.split hb;refine Fn.enter (args:=[.slice p.bo p.bs.length p.bc, .int .i64 (b:Int)]) Tryz.func238 rfl _ Tryz.ntmps238 rfl (by simp[fP]) (fun w S=>?_);(refine Jn ?_);apply aB.imp (fun w hm=>Mem.CK hm (tk) h1)
 repeat(refine Jy ?_)
 rw[h5];(refine JQ (aAd r) ?_;intro s hs;(refine Jn ?_))
 repeat(refine Jy ?_)
 apply End.imp (fun w hm=>Mem.CJ (p:=p) (e:=e) (s:=s1) (u:=u1) (r:=r) hm (aK));rw[←h1];refine End.aH () (he:=?_) (hp:=trivial) (hx:=by simp[uI]);refine iP ?_;show _=decide ((e.abs.ws.getD b []).length=0);rw[h6,r.len]
theorem ZO(he:oE M p e)(b:Nat)(hb:b<M.boxes.length)(v:Int)(hf:(Vm.bJ M k).full e.abs b=false):Fn Tryz.prog 240 #[.slice p.bo p.bs.length p.bc, .int .i64 (b:Int), .int .i64 v] [gX p] [mW p e] (σ:=dT) (fun e'=>oE M p e'∧e'.abs=(Vm.bJ M k).put e.abs b v) (fun _=> .tuple #[]) (fun e'=>[mW p e']):=by
 obtain⟨s1,u1,r,h1,h2,h3,h4,h5,h6,h7⟩:=he.split hb;have hf':decide ((e.abs.ws.getD b []).length=Vm.fT M b)=false:=hf;rw[JY,h6,r.len,←h4]at hf';have hn:r.n<r.l.length:=by have:=h3.n;omega
 obtain⟨q1,q2⟩:=Ring.aE0 h3 hn v;refine Fn.enter (args:=[.slice p.bo p.bs.length p.bc, .int .i64 (b:Int), .int .i64 v]) Tryz.func240 rfl _ Tryz.ntmps240 rfl (by simp[fP]) (fun w S=>?_);(refine Jn ?_);apply aB.imp (fun w hm=>Mem.CK hm (tk) h1)
 repeat(refine Jy ?_)
 rw[h5];(refine JQ (aE1 r h3 hn v) ?_;intro s hs;(refine Jn ?_))
 repeat(refine Jy ?_)
 apply End.imp (fun w hm=>Mem.CJ (p:=p) (e:=e) (s:=s1) (u:=u1) (r:=r.put v) hm (aK));refine End.cY ({e with rs:=s1 ++r.put v::u1}:dT) (hp:=⟨he.put h1 rfl q1 (by simp),?_⟩) (hx:=by simp[uI]);rw[dT.OL (r':=r.put v) h1,q2,h2];show _=({e.abs with ws:=e.abs.ws.set b (e.abs.ws.getD b [] ++[v])}:Vm.Bs);rw[h6];rfl
theorem ZP(he:oE M p e)(b:Nat)(hb:b<M.boxes.length)(hf:(Vm.bJ M k).empty e.abs b=false):Fn Tryz.prog 241 #[.slice p.bo p.bs.length p.bc, .int .i64 (b:Int)] [gX p] [mW p e] (σ:=dT) (fun e'=>oE M p e'∧e'.abs=((Vm.bJ M k).take e.abs b).2) (fun _=> .int .i64 ((Vm.bJ M k).take e.abs b).1) (fun e'=>[mW p e']):=by
 obtain⟨s1,u1,r,h1,h2,h3,h4,h5,h6,h7⟩:=he.split hb;have hf':decide ((e.abs.ws.getD b []).length=0)=false:=hf;rw[JY,h6,r.len]at hf';obtain⟨q1,q2⟩:=Ring.WB h3 hf';obtain⟨q3,q4⟩:=Ring.head h3 hf';refine Fn.enter (args:=[.slice p.bo p.bs.length p.bc, .int .i64 (b:Int)]) Tryz.func241 rfl _ Tryz.ntmps241 rfl (by simp[fP]) (fun w S=>?_);(refine Jn ?_);apply aB.imp (fun w hm=>Mem.CK hm (tk) h1)
 repeat(refine Jy ?_)
 rw[h5];(refine JQ (aGe r h3 hf') ?_;intro s hs;(refine Jn ?_))
 repeat(refine Jy ?_)
 apply End.imp (fun w hm=>Mem.CJ (p:=p) (e:=e) (s:=s1) (u:=u1) (r:=r.take) hm (aK));refine End.aH ({e with rs:=s1 ++r.take::u1}:dT) (he:=?_) (hp:=⟨he.put h1 rfl q1 rfl,?_⟩) (hx:=by simp[uI])
 ·show _=Value.int .i64 ((e.abs.ws.getD b []).headD 0);rw[h6,q3]
 ·rw[dT.OL (r':=r.take) h1,h2];show _=({e.abs with ws:=e.abs.ws.set b (e.abs.ws.getD b []).tail}:Vm.Bs);rw[h6,q4];rfl
end
def OA(p:l0):Option Nat→Prop
 |none=>True
 |some k=>False
def toldOf(p:l0):Option Nat→Option (FuncId×List Value)
 |none=>none
 |some k=>some (0,[])
@[reducible] def O1 (M : ImgM.aG) (p : l0) (k : Option Nat) (hk : OA p k) : cN where
 μ:=dT
 ν:=Vm.Bs
 V:=Vm.bJ M k
 abs:=dT.abs
 ok:=oE M p
 mem:=mW p
 size s:=s.log.length
 tK s b v:=l6 _
 rW s b:=l6 _
 o4 s e:=by cases k with
  |none=>exact l6 _
  |some k=>show(s.log ++[(k,e)]).length≤s.log.length+1;simp
 bB:=uI p
 rc:=gX p
 dJ:=uJ p
 T:=158
 rv:= .slice p.bo p.bs.length p.bc
 told:=toldOf p k
 boxes:=M.boxes.length
 BD:=239
 BC:=238
 BE:=240
 BF:=241
 KV:=uO (ptr:=false) (by kernel_rfl) (D1 Tryz.underlying158)
 KU:=uO (ptr:=false) (by kernel_rfl) (D1 Tryz.underlying158)
 KW:=uO (ptr:=false) (by kernel_rfl) (D1 Tryz.underlying158)
 KX:=uO (ptr:=false) (by kernel_rfl) (D1 Tryz.underlying158)
 HI:=by kernel_rfl
 HH:=by kernel_rfl
 HJ:=by kernel_rfl
 HK:=by kernel_rfl
 full e b he hb:=ZL M p e k he b hb
 empty e b he hb:=ZK M p e k he b hb
 put e b v he hb hf _:=ZO M p e k he b hb v hf
 take e b he hb hf:=ZP M p e k he b hb hf
 tell:=by
  cases k with
  |none=>exact fun v x=>rfl
  |some k=>exact hk.elim
end
theorem Mem.xK{w:World}{pre L F:List Chunk}{c:Chunk}(t:aQ pre L F)(h:Mem w L)(hc:c.holds w)(hx:c.bB=false)(hf:∀b,c.cO b→∃d∈pre,d.cO b):Mem w (c::F):=
 Mem.step (post:=[c]) (S:=Nil) (h.aS t) (bV.refl _ _) (fun b h=>False.elim h) (by simpa using hc) (by simp) (fun d hd b hb=>by
  simp at hd;subst hd;obtain⟨e,e1,e2⟩:=hf b hb;exact .inl ⟨e,e1,⟨fun h=>absurd h (by rw[hx];decide),e2⟩⟩)
section
variable{N:Nd}{E:Env}{L:List Chunk}{dst:Option Tmp}{ty:TypeId}{pos:String}{aft:Array Edge}{g:Option (Nat×Bool)}
end
section
attribute [local irreducible] aE aB End aA Still aM aP RunT Fn aO
abbrev zJ(r:Rw):Chunk:=rd r.o r.l.length r.c aT r.l
theorem VE(a b:Rw)(h:a.l=b.l):Fn Tryz.prog 21 #[.slice a.o a.l.length a.c, .slice b.o b.l.length b.c] [zJ a,zJ b] [] (σ:=Unit) (fun _=>True) (fun _=> .bool true) (fun _=>[]):=by
 obtain⟨ao,ac,l⟩:=a;obtain⟨bo,bc,l'⟩:=b;dsimp only at h⊢;subst h;refine JE [.slice ao l.length ac, .slice bo l.length bc] Tryz.func21 Tryz.ntmps21 fun w S=>?_
 (refine Jn ?_);apply aB.fact (l.length≤9223372036854775807) (fun w hm=>(kA.1 (hm.has (c:=rd ao l.length ac aT l) (tk))).1.2.1);intro hn
 repeat(refine Jy ?_)
 refine aB.only ((fun k=>[aI w S,rd ao l.length ac aT l,rd bo l.length bc aT l]) 0) (aK) ?_;apply aB.loop (σ:=Nat) (fun k=>k≤l.length) (fun k=>[(0, .slice ao l.length ac),(1, .slice bo l.length bc),(12, .int .i64 (l.length:Int)),(13, .int .i64 (k:Int))]) (fun k=>[aI w S,rd ao l.length ac aT l,rd bo l.length bc aT l]) (fun k=>l.length-k) 0
 rotate_left
 exact sb;exact aK;intro k hk K1 hK1;(refine Jn ?_)
 rotate_left
 ·exact bP _
 by_cases hkn:k<l.length
 ·repeat(refine Jy ?_)
  refine End.bK hK1 (k+1) ?_ ?_
  ·omega
  ·omega
 ·repeat(refine Jy ?_)
  (refine End.aH (()) (he:=Jv) (hp:=?_));trivial
theorem aE9{w:World}{L F:List Chunk}{α:Type}{iα:Inhabited α}{ao:Option Addr}{n cap:Nat}{e:TypeId}{f:α→List Value}{ef:bF f}{l:List α}(t:aQ [arr ao n cap e f l] L F)(h:Mem w L):Mem w (rd ao n cap f l::F):=by
 have ht:=h.aS t;have a1:=fH.1 (ht.all _ (.head _));exact Mem.xK t h (kA.2 ⟨a1.1.row bF.pos,a1.2⟩) fP (fun b hb=>⟨_, .head _,fS.2 ⟨(j9.1 hb).1,vV (j9.1 hb).2 a1.1.le⟩⟩)
theorem DX{w:World}{L F:List Chunk}{f:FL}{t:TypeId}{e:TypeId}(tk:aQ [arr f.o f.l.length f.c e cW f.l,aR (f.l.map (gI t))] L F)(h:Mem w L):Mem w (fd f::F):=by
 have ht:=h.aS tk;have a1:=fH.1 (ht.all _ (.head _));have a2:=pP.1 (ht.all _ (.tail _ (.head _)));have hrow:∀r∈f.l,(gI t r).holds w:=fun r hr=>a2.1.all _ (fD.2 ⟨r,hr,rfl⟩)
 refine Mem.xK tk h (yF.2 ⟨a1.1.row bF.pos,fun r hr=>(fH.1 (hrow r hr)).1.row bF.pos⟩) m6 (fun b hb=>?_);rcases IL.1 hb with⟨h1,h2⟩|⟨r,hr,h1,h2⟩
 ·exact⟨_, .head _,fS.2 ⟨h1,vV h2 a1.1.le⟩⟩
 ·exact⟨_, .tail _ (.head _),wI.2 ⟨_,fD.2 ⟨r,hr,rfl⟩,fS.2 ⟨h1,vV h2 (fH.1 (hrow r hr)).1.le⟩⟩⟩
end
structure bW where
 tb:Nat
 co:Option Addr
 ccap:Nat
 bs:List Nat
 oth:List b9
 now:Nat
 cur:b9
 st:Int
 bx:Int
 tr:Int
 oo:Option Addr
 oc:Nat
 out:List Int
instance:Inhabited bW:=⟨⟨0,none,0,[],[],0,default,0,0,0,none,0,[]⟩⟩
abbrev bW.sl(t:bW)(E:cN)(e:E.μ):SL E:=⟨t.co,t.ccap,t.bs,t.oth,t.now,t.cur,t.st,t.bx,t.tr,t.oo,t.oc,t.out,e⟩
abbrev SL.lay{E:cN}(z:SL E)(tb:Nat):bW:=⟨tb,z.co,z.ccap,z.bs,z.oth,z.now,z.cur,z.st,z.bx,z.tr,z.oo,z.oc,z.out⟩
def bW.all(t:bW):List b9:=t.oth.set t.now t.cur
def bW.tk(t:bW):Vm.Tk:=⟨t.all.map b9.abs,t.now,t.st,t.bx,t.tr,t.out⟩
structure bW.Wf(t:bW):Prop where
 now:t.now<t.oth.length
 len:t.bs.length=t.oth.length
 dY:t.oth.length≤31
 at_:∀i,i<t.oth.length→(t.all.getD i default).cb=t.bs.getD i 0
 up:∀c∈t.all,c.upb=c.up.map fun j=>t.bs.getD j 0
 lL:∀c∈t.all,∀j,c.up=some j→j<t.oth.length
 sk:∀c∈t.all,c.sk.Ok
theorem bW.Wf.sl{t:bW}(h:t.Wf){E:cN}{e:E.μ}(he:E.ok e):(t.sl E e).Wf:=⟨h.now,h.len,h.dY,h.at_,h.up,h.lL,h.sk,he⟩
theorem SL.Wf.lay{E:cN}{z:SL E}(h:z.Wf)(tb:Nat):(z.lay tb).Wf:=⟨h.now,h.len,h.dY,h.at_,h.up,h.lL,h.sk⟩
abbrev vF(mb:Nat)(mail told:Value)(t:bW):List Chunk:=[aD t.tb (qY mb mail (.slice t.co t.bs.length t.ccap) t.cur.cb t.st t.bx t.tr (.slice t.oo t.out.length t.oc) told) 103,arr t.co t.bs.length t.ccap 100 gH t.bs,arr t.oo t.out.length t.oc 2 aT t.out,kO (t.oth.eraseIdx t.now),iQ t.cur,gF t.cur,aD t.cur.sk.sb (mG t.cur.sk) 236,arr (some ⟨t.cur.sk.lb,0,none⟩) t.cur.sk.l.length t.cur.sk.l.length 2 aT t.cur.sk.l]
theorem WG(mb:Nat)(mail told:Value)(t:bW):∀c∈vF mb mail told t,c.bB=true:=by simp[kG,dX]
def kZ(mb:Nat)(mail:Value)(told:Nat→Value):Nat→List bW→List Chunk
 |_,[]=>[]
 |k,t::l=>vF mb mail (told k) t ++kZ mb mail told (k+1) l
def o7(mb:Nat)(mail:Value)(told:Nat→Value)(l:List bW):Chunk:=aR (kZ mb mail told 0 l)
theorem GB(mb:Nat)(mail:Value)(told:Nat→Value)(l:List bW):(o7 mb mail told l).bB=true:=jT
theorem ND(mb:Nat)(mail:Value)(told:Nat→Value):∀(k:Nat) (l r:List bW),kZ mb mail told k (l ++r)=kZ mb mail told k l ++kZ mb mail told (k+l.length) r
 |k,[],r=>by simp[kZ]
 |k,t::l,r=>by
  simp only[kZ,v8,JW];rw[ND mb mail told (k+1) l r,show k+1+l.length=k+(l.length+1) by omega];simp
def GC(mb:Nat)(mail:Value)(told:Nat→Value)(l:List bW)(k:Nat):Chunk:=aR (kZ mb mail told 0 (l.take k) ++kZ mb mail told (k+1) (l.drop (k+1)))
theorem WH(mb:Nat)(mail:Value)(told:Nat→Value){l:List bW}{k:Nat}(hk:k<l.length):(kZ mb mail told 0 l).Perm (vF mb mail (told k) (l.getD k default) ++(kZ mb mail told 0 (l.take k) ++kZ mb mail told (k+1) (l.drop (k+1)))):=by
 have hl:l=l.take k ++(l.getD k default::l.drop (k+1)):=by
  rw[Jd,Je hk,JZ,List.getElem_cons_drop,List.take_append_drop]
 have hn:(l.take k).length=k:=by simp;omega
 have e:kZ mb mail told 0 l=kZ mb mail told 0 (l.take k) ++(vF mb mail (told k) (l.getD k default) ++kZ mb mail told (k+1) (l.drop (k+1))):=by
  conv=>lhs;rw[hl]
  rw[ND,hn,uD,kZ]
 rw[e];exact AQ _ _ _
theorem Mem.NB{w:World}{L L':List Chunk}{mb:Nat}{mail:Value}{told:Nat→Value}{l:List bW}{k:Nat}(h:Mem w L)(t:Take (o7 mb mail told l) L L')(hk:k<l.length):Mem w (vF mb mail (told k) (l.getD k default) ++(GC mb mail told l k::L')):=
 Mem.nO h t (WH mb mail told hk)
theorem Mem.GA{w:World}{L L' F:List Chunk}{mb:Nat}{mail:Value}{told:Nat→Value}{l:List bW}{k:Nat}{t:bW}(h:Mem w L)(tk:Take (GC mb mail told l k) L L')(t2:aQ (vF mb mail (told k) t) L' F)(hk:k<l.length):Mem w (o7 mb mail told (l.set k t)::F):=by
 refine Mem.mA h tk t2 ?_ (WG _ _ _ _);have:=WH mb mail told (l:=l.set k t) (k:=k) (by simpa using hk);have e1:(l.set k t).getD k default=t:=by rw[Jd,JS hk];rfl
 rw[e1,List.take_set_of_le (cG _),List.drop_set_of_lt (by omega)]at this;exact this
theorem Mem.aGj{w:World}{L L' F:List Chunk}{mb:Nat}{mail:Value}{told:Nat→Value}{l:List bW}{t:bW}(h:Mem w L)(tk:Take (o7 mb mail told l) L L')(t2:aQ (vF mb mail (told l.length) t) L' F):Mem w (o7 mb mail told (l ++[t])::F):=by
 have h1:=Mem.A5 h tk t2 (WG _ _ _ _);have e:kZ mb mail told 0 (l ++[t])=kZ mb mail told 0 l ++vF mb mail (told l.length) t:=by
  rw[ND,uD];simp[kZ]
 unfold o7;rw[e];exact h1
section
attribute [local irreducible] aE aB End aA Still aM aP RunT Fn aO
abbrev bW.born(tb ob:Nat)(c:b9):bW:=⟨tb,some ⟨ob,0,none⟩,1,[c.cb],[c],0,c,1,0,0,none,0,[]⟩
theorem ZF{m:ML}{u:Nat}{c:b9}(h:lC u (m.us.getD u default).u.locals.length c)(tb ob:Nat):(bW.born tb ob c).Wf∧(bW.born tb ob c).tk=Vm.new m.aC u:=by
 have hall:(bW.born tb ob c).all=[c]:=rfl;refine⟨⟨Nat.zero_lt_one,rfl,by simp,fun i hi=>?_,fun d hd=>?_,fun d hd j hj=>?_,fun d hd=>?_⟩,?_⟩
 ·have:i=0:=by simpa using hi
  subst this;rfl
 ·rw[hall]at hd;simp at hd;subst hd;rw[h.up,h.upb];rfl
 ·rw[hall]at hd;simp at hd;subst hd;rw[h.up]at hj;cases hj
 ·rw[hall]at hd;simp at hd;subst hd;exact h.ok
 ·unfold bW.tk Vm.new;rw[hall];simp only[eG,qE];congr 2;unfold b9.abs Vm.begin;rw[h.st,h.up,h.fr,h.ws];have e1:(Vm.bD m.aC u).locals.length=(m.us.getD u default).u.locals.length:=by unfold Vm.bD;rw[ML.jI]
  simp only[Vm.Co.mk.injEq,xU,and_true,true_and];rw[e1];refine mT (by simp) fun i h1 h2=>?_
  simp
structure jS where
 xb:Nat
 bo:Option Addr
 bc:Nat
 rs:List Ring
 to:Option Addr
 tc:Nat
 ts:List bW
structure jS.Ok(m:ML)(s:jS):Prop where
 FO:s.rs.length=m.bx.length
 ring:∀b,b<m.bx.length→(s.rs.getD b default).Ok∧(s.rs.getD b default).l.length=Vm.fT m.aC b∧(s.rs.getD b default).n=0
 ts:s.ts.map bW.tk=(Vm.tasks m.aC).map (Vm.new m.aC)
 wf:∀t∈s.ts,t.Wf
abbrev sT(bo:Option Addr)(n bc:Nat):Value:= .iface 158 (.slice bo n bc)
abbrev jS.mem(m:ML)(mb:Nat)(s:jS):List Chunk:=[aD s.xb (j4 s.to s.ts.length s.tc s.bo s.rs.length s.bc 0) 160,aD mb (fN m) 26,arr s.to s.ts.length s.tc 95 gH (s.ts.map (·.tb)),arr s.bo s.rs.length s.bc 161 gH (s.rs.map (·.bb)),aR (s.rs.flatMap dB),o7 mb (sT s.bo s.rs.length s.bc) (fun _=> .nilFunc) s.ts]
set_option maxHeartbeats 2000000 in
theorem Y9(mb:Nat)(m:ML)(hb30:m.bx.length≤30)(hu30:m.us.length≤30)(hcap:∀b,b<m.bx.length→1≤(m.bx.getD b default).2∧(m.bx.getD b default).2≤20)(hloc:∀k,k<m.us.length→(m.us.getD k default).u.locals.length≤200):
  Fn Tryz.prog 25 #[ptr mb] [md m] [aD mb (fN m) 26] (σ:=jS) (jS.Ok m) (fun s=>ptr s.xb) (jS.mem m mb):=by
 have htl:(Vm.tasks m.aC).length≤30:=by
  rw[zS];have:=zT m m.us.length;omega
 refine JE [ptr mb] Tryz.func25 Tryz.ntmps25 fun w S=>?_
 (refine Jn ?_)
 repeat(refine Jy ?_;try intro b)
 obtain⟨xb,rfl⟩:∃x,x=b:=⟨_,rfl⟩;apply aB.imp (fun w hm=>(hm.bY 161 gH).eX);refine aB.only ((fun z=>[aI w S,md m,aD mb (fN m) 26,aD xb (j4 none 0 0 z.2.1 z.1 z.2.2.1 0) 160,arr z.2.1 z.1 z.2.2.1 161 gH (z.2.2.2.map (·.bb)),aR (z.2.2.2.flatMap dB)]) (0,none,0,[])) (aK) ?_;apply aB.loop (σ:=Nat×Option Addr×Nat×List Ring) (fun z=>z.1≤m.bx.length∧z.2.2.2.length=z.1∧∀b,b<z.1→(z.2.2.2.getD b default).Ok∧(z.2.2.2.getD b default).l.length=Vm.fT m.aC b∧(z.2.2.2.getD b default).n=0) (fun z=>[(0,ptr mb),(3,ptr xb),(13, .slice m.bo m.bx.length m.bc),(14, .int .i64 (m.bx.length:Int)),(15, .int .i64 (z.1:Int))]) (fun z=>[aI w S,md m,aD mb (fN m) 26,aD xb (j4 none 0 0 z.2.1 z.1 z.2.2.1 0) 160,arr z.2.1 z.1 z.2.2.1 161 gH (z.2.2.2.map (·.bb)),aR (z.2.2.2.flatMap dB)]) (fun z=>m.bx.length-z.1) (0,none,0,[])
 rotate_left
 exact sb;exact aK;intro z hz K1 hK1;(refine Jn ?_)
 rotate_left
 ·exact⟨bP _,rfl,fun b hb=>by omega⟩
 obtain⟨q,bo,bc,rs⟩:=z;obtain⟨z1,z2,z3⟩:=hz;dsimp only at z1 z2 z3 hK1⊢
 by_cases hq:q<m.bx.length
 ·obtain⟨c1,c2⟩:=hcap q hq;have hcn:(m.bx.getD q default).2=((Vm.fT m.aC q:Nat):Int):=by unfold Vm.fT;exact(qF (by omega)).symm
  have hc20:Vm.fT m.aC q≤20:=by omega
  have hc1:1≤Vm.fT m.aC q:=by omega
  repeat(refine Jy ?_;try intro b)
  obtain⟨ib,rfl⟩:∃x,x=b:=⟨_,rfl⟩;rw[hcn];apply aB.draw 12 ([aD xb (j4 none 0 0 bo q bc 0) 160,aD ib [.int .i64 (m.bx.getD q default).1, .int .i64 ((Vm.fT m.aC q:Nat):Int)] 91]) (by kernel_rfl) 13 rfl;refine JR 0 ?_;refine JR 1 ?_;refine JR 2 ?_;refine JR 3 ?_;refine JR 4 ?_;refine JR 5 ?_;refine JR 6 ?_;(refine JT 7 ?_;refine JK (aDR (Vm.fT m.aC q) hc20) ?_;intro s hs;refine JG ?_;(refine Jn ?_));obtain⟨nb,lb⟩:=s;dsimp only;(refine JT 8 ?_;(refine Jb ?_;intro b);refine JG ?_);(refine JT 9 ?_;refine aA.jL (a:=nb) (k:=?_);intro ao cap;refine JG ?_;(refine Jn ?_));refine JR 10 ?_;refine JR 11 ?_;(refine JT 12 ?_;(refine Jw ?_);refine JG ?_);(apply RunT.done;kernel_rfl)
  repeat(refine Jy ?_)
  obtain⟨R,hR⟩:∃R:Ring,R=⟨nb,lb,List.replicate (Vm.fT m.aC q) 0,0,0⟩:=⟨_,rfl⟩;have hRok:R.Ok∧R.l.length=Vm.fT m.aC q∧R.n=0:=by rw[hR];exact⟨⟨bP _,by simp;omega,by simp;omega⟩,by simp,rfl⟩
  apply End.imp (fun w hm=>Mem.A5 (ds:=dB R) hm (tk) (by rw[hR];(repeat(first|exact aQ.nil|exact Take.head|apply Take.tail|apply aQ.cons))) (UY R));have hfl:rs.flatMap dB ++dB R=(rs ++[R]).flatMap dB:=by simp
  have hmp:rs.map (·.bb) ++[nb]=(rs ++[R]).map (·.bb):=by rw[hR];simp
  rw[hfl,hmp];refine End.bK hK1 (q+1,ao,cap,rs ++[R]) ?_ ?_
  ·refine⟨by dsimp only;omega,by simp[z2],fun b hb=>?_⟩
   by_cases hbq:b<q
   ·rw[show(rs ++[R]).getD b default=rs.getD b default by simp only[Jd];rw[rF (by omega)]];exact z3 b hbq
   ·obtain rfl:b=q:=by dsimp only at hb;omega
    rw[show(rs ++[R]).getD b default=R by rw[←z2];exact BJ rs [] _];exact hRok
  ·dsimp only;omega
 ·obtain rfl:q=m.bx.length:=by omega
  clear hK1
  repeat(refine Jy ?_)
  (refine JQ (WC mb m (by omega)) ?_;intro s hs;(refine Jn ?_));obtain⟨ko,kc⟩:=s;dsimp only
  repeat(refine Jy ?_)
  apply aB.imp (fun w hm=>(hm.bY 95 gH).eX);refine aB.only ((fun z=>[aI w S,md m,aD mb (fN m) 26,arr ko (Vm.tasks m.aC).length kc 3 eC (Vm.tasks m.aC),aD xb (j4 z.2.1 z.1 z.2.2.1 bo m.bx.length bc 0) 160,arr bo m.bx.length bc 161 gH (rs.map (·.bb)),aR (rs.flatMap dB),arr z.2.1 z.1 z.2.2.1 95 gH (z.2.2.2.map (·.tb)),o7 mb (sT bo m.bx.length bc) (fun _=> .nilFunc) z.2.2.2]) (0,none,0,[])) (aK) ?_;apply aB.loop (σ:=Nat×Option Addr×Nat×List bW) (fun z=>z.1≤(Vm.tasks m.aC).length∧z.2.2.2.length=z.1∧z.2.2.2.map bW.tk=((Vm.tasks m.aC).take z.1).map (Vm.new m.aC)∧∀t∈z.2.2.2,t.Wf) (fun z=>[(0,ptr mb),(3,ptr xb),(33, .slice ko (Vm.tasks m.aC).length kc),(34, .int .i64 ((Vm.tasks m.aC).length:Int)),(35, .int .i64 (z.1:Int))]) (fun z=>[aI w S,md m,aD mb (fN m) 26,arr ko (Vm.tasks m.aC).length kc 3 eC (Vm.tasks m.aC),aD xb (j4 z.2.1 z.1 z.2.2.1 bo m.bx.length bc 0) 160,arr bo m.bx.length bc 161 gH (rs.map (·.bb)),aR (rs.flatMap dB),arr z.2.1 z.1 z.2.2.1 95 gH (z.2.2.2.map (·.tb)),o7 mb (sT bo m.bx.length bc) (fun _=> .nilFunc) z.2.2.2]) (fun z=>(Vm.tasks m.aC).length-z.1) (0,none,0,[])
  rotate_left
  exact sb;exact aK;intro z hz K1 hK1;(refine Jn ?_)
  rotate_left
  ·exact⟨bP _,rfl,rfl,by simp⟩
  obtain⟨q,to,tc,ts⟩:=z;obtain⟨y1,y2,y3,y4⟩:=hz;dsimp only at y1 y2 y3 y4 hK1⊢
  by_cases hq:q<(Vm.tasks m.aC).length
  ·obtain⟨hu1,hu2⟩:=WD (m:=m) (k:=q) hq;have hgd:(Vm.tasks m.aC).getD q default=(Vm.tasks m.aC).getD q 0:=rfl;obtain⟨u,hu⟩:∃u,u=(Vm.tasks m.aC).getD q 0:=⟨_,rfl⟩;rw[←hu]at hgd hu1 hu2;have hul:=hloc u hu1
   repeat(refine Jy ?_)
   rw[hgd];apply aB.draw 17 ([aD xb (j4 to q tc bo m.bx.length bc 0) 160]) (by kernel_rfl) 18 rfl;refine JR 0 ?_;refine JR 1 ?_;refine JR 2 ?_;refine JR 3 ?_;refine JR 4 ?_;refine JR 5 ?_;refine JR 6 ?_;refine JR 7 ?_;refine JR 8 ?_;refine JR 9 ?_;refine JR 10 ?_;refine RunT.a7 11 (hy:=by exact Still.aCs (t:=0) rfl rfl) (h:=?_);(refine JT 12 ?_;refine JK (SR mb m u hu1 158 (.slice bo m.bx.length bc) hul) ?_;intro s hs;refine JG ?_;(refine Jn ?_));obtain⟨tb,ob,c⟩:=s;dsimp only at hs⊢;(refine JT 13 ?_;(refine Jb ?_;intro b);refine JG ?_);(refine JT 14 ?_;refine aA.jL (a:=tb) (k:=?_);intro ao cap;refine JG ?_;(refine Jn ?_));refine JR 15 ?_;refine JR 16 ?_;(refine JT 17 ?_;(refine Jw ?_);refine JG ?_);(apply RunT.done;kernel_rfl)
   repeat(refine Jy ?_)
   obtain⟨w1,w2⟩:=ZF (m:=m) hs tb ob;apply End.imp (fun w hm=>Mem.aGj (t:=bW.born tb ob c) hm (tk) (aK));have hmp:ts.map (·.tb) ++[tb]=(ts ++[bW.born tb ob c]).map (·.tb):=by simp
   rw[hmp];refine End.bK hK1 (q+1,ao,cap,ts ++[bW.born tb ob c]) ?_ ?_
   ·refine⟨by dsimp only;omega,by simp[y2],?_,fun t ht=>?_⟩
    ·dsimp only;rw[Jq,y3,Jp hq,Jq];congr 1;simp only[eG,qE];rw[w2,hu,Jd,Je hq];rfl
    ·rcases dH.1 ht with ht|ht
     ·exact y4 t ht
     ·simp at ht;subst ht;exact w1
   ·dsimp only;omega
  ·obtain rfl:q=(Vm.tasks m.aC).length:=by omega
   repeat(refine Jy ?_)
   obtain⟨B,hB⟩:∃B:jS,B=⟨xb,bo,bc,rs,to,tc,ts⟩:=⟨_,rfl⟩;refine End.aH B (he:=by rw[hB]) (ht:=by(subst hB;simp only[jS.mem,y2,z2];exact aK)) (hp:=?_) (hx:=by simp[kG,dX,jT,GB]);subst hB;exact⟨z2,z3,by rw[y3,pF (cG _)],y4⟩
end
end Vw
namespace Vm
open ImgM Ver Opt
section
variable{ν:Type}{V:Env ν}{M:aG}
theorem V3(r:Tk×ν):look V M (step V M r).2=(step V M r).2:=by
 by_cases h:(look V M r).1.st=1
 ·rw[vB V M h];exact BR V M _
 ·rw[zQ V M h];exact BR V M _
theorem RB:∀(n:Nat) (r:Tk×ν),look V M r=r→look V M (goN V M n r).2=(goN V M n r).2
 |0,r,h=>h
 |n+1,r,h=>by
  unfold goN
  split
  ·exact RB n _ (V3 r)
  ·exact V3 r
end
structure Beg(r s:Tk×Ls):Prop where
 out:r.1.out<+:s.1.out
 len:r.2.bM.length=s.2.bM.length
 bM:∀b,r.2.bM.getD b []<+:s.2.bM.getD b []
def C4(t t':Tk):Prop:=t=t'∨(t.st≤3∧∃a b,a≤3∧t'={t with st:=a,bx:=b})
structure YQ(M:aG)(F G:List (List Int)):Prop where
 pre:∀b,b<M.boxes.length→F.getD b []<+:G.getD b []
theorem R4{ν:Type}{V:Env ν}{M:aG}{r:Tk×ν}(h:(look V M r).1.st=1):
  r.1.st≤3∧((aV M r.1).op=26→V.full r.2 (aV M r.1).a.toNat=false)∧((aV M r.1).op=27→V.empty r.2 (aV M r.1).a.toNat=false):=by
 by_cases h3:r.1.st≤3
 ·refine⟨h3,?_⟩;unfold look waits at h;rw[if_pos h3]at h
  by_cases c1:(aV M r.1).op=26∧V.full r.2 (aV M r.1).a.toNat=true
  ·rw[if_pos c1]at h;cases h
  rw[if_neg c1]at h
  by_cases c2:(aV M r.1).op=27∧V.empty r.2 (aV M r.1).a.toNat=true
  ·rw[if_pos c2]at h;cases h
  refine⟨fun ho=>?_,fun ho=>?_⟩
  ·cases hx:V.full r.2 (aV M r.1).a.toNat with
   |false=>rfl
   |true=>exact absurd ⟨ho,hx⟩ c1
  ·cases hx:V.empty r.2 (aV M r.1).a.toNat with
   |false=>rfl
   |true=>exact absurd ⟨ho,hx⟩ c2
 ·unfold look at h;rw[if_neg h3]at h;omega
theorem KP{ν:Type}{V:Env ν}{M:aG}{r:Tk×ν}(h3:r.1.st≤3)(h26:(aV M r.1).op=26→V.full r.2 (aV M r.1).a.toNat=false)(h27:(aV M r.1).op=27→V.empty r.2 (aV M r.1).a.toNat=false):
  look V M r=({r.1 with st:=1,bx:=0},r.2):=by
 unfold look waits;rw[if_pos h3,if_neg (fun h=>by rw[h26 h.1]at h;exact absurd h.2 (by simp)),if_neg (fun h=>by rw[h27 h.1]at h;exact absurd h.2 (by simp))]
section
variable{M:aG}{T:Nat→Int→Option Shape}{F G:List (List Int)}(hC:dF M T)(hF:sH M F)(hl:YQ M F G)
include hC hF hl
end
structure aHj(M:aG)(F:List (List Int))(n:Nat)(r:Nat×(Tk×Ls)):Prop where
 steps:r.1≤n
 bM:r.2.2.bM.length=M.boxes.length
 bX:r.2.2.bX.length=M.boxes.length
 le:∀b,b<M.boxes.length→r.2.2.bX.getD b 0≤(F.getD b []).length
 gK:∀b,b<M.boxes.length→Typed (M.boxes.getD b default).1 (r.2.2.bM.getD b [])
 st:(r.2.1.st=3∧0≤r.2.1.bx∧r.2.1.bx.toNat<M.boxes.length∧r.2.2.bX.getD r.2.1.bx.toNat 0=(F.getD r.2.1.bx.toNat []).length)∨(r.2.1.st=1∧r.1=n)∨r.2.1.st=4∨r.2.1.st=5
def bQ(t:Tk):Tk:=if t.st≤3 then{t with st:=1,bx:=0}else t
def snd(b:Nat)(l:List Ev):List Int:=l.filterMap fun e=>if e.1=2∧e.2.1=(b:Int)then some e.2.2 else none
def dR(b:Nat)(l:List Ev):List Int:=l.filterMap fun e=>if e.1=3∧e.2.1=(b:Int)then some e.2.2 else none
theorem zP(b:Nat)(l r:List Ev):snd b (l ++r)=snd b l ++snd b r:=List.filterMap_append ..
theorem xB(b:Nat)(l r:List Ev):dR b (l ++r)=dR b l ++dR b r:=List.filterMap_append ..
def rA(ws:List (List Int))(e:Ev):List (List Int):=if e.1=2 then ws.set e.2.1.toNat (ws.getD e.2.1.toNat [] ++[e.2.2])else if e.1=3 then ws.set e.2.1.toNat (ws.getD e.2.1.toNat []).tail else ws
section
variable(M:aG)
def iC(x:Int)(t:Tk):Tk×List Ev:=(bQ (kJ M x t).1,(kJ M x t).2)
def bI(t:Tk)(xs:List Int):Tk:=xs.foldl (fun t x=>(iC M x t).1) t
def dD:Tk→List Int→List Ev
 |_,[]=>[]
 |t,x::xs=>(iC M x t).2 ++dD (iC M x t).1 xs
theorem aCe(t:Tk)(xs ys:List Int):bI M t (xs ++ys)=bI M (bI M t xs) ys:=vZ ..
theorem EJ:∀(t:Tk) (xs ys:List Int),dD M t (xs ++ys)=dD M t xs ++dD M (bI M t xs) ys
 |t,[],ys=>rfl
 |t,x::xs,ys=>by
  show(iC M x t).2 ++dD M (iC M x t).1 (xs ++ys)=(iC M x t).2 ++dD M (iC M x t).1 xs ++dD M (bI M (iC M x t).1 xs) ys;rw[EJ,Jt]
theorem yV(t:Tk)(xs:List Int)(x:Int):bI M t (xs ++[x])=(iC M x (bI M t xs)).1:=by rw[aCe];rfl
theorem yQ(t:Tk)(xs:List Int)(x:Int):dD M t (xs ++[x])=dD M t xs ++(iC M x (bI M t xs)).2:=by
 rw[EJ];show _ ++((iC M x _).2 ++[])=_;rw[eH]
abbrev cL(t:Tk):Nat:=(aV M t).a.toNat
structure Can(cap:Nat→Nat)(t:Tk)(ws:List (List Int)):Prop where
 st:t.st=1
 send:(aV M t).op=26→(ws.getD (cL M t) []).length≠cap (cL M t)
 recv:(aV M t).op=27→(ws.getD (cL M t) []).length≠0
def fL(t:Tk)(ws:List (List Int)):Int:=if(aV M t).op=27 then(ws.getD (cL M t) []).headD 0 else 0
inductive gV(cap:Nat→Nat)(T:List Tk):Nat→(Nat→List Int)→List (List Int)→Prop
 |nil:gV cap T 0 (fun _=>[]) (List.replicate M.boxes.length [])
 |step {n k:Nat} {xs:Nat→List Int} {ws:List (List Int)} (h:gV cap T n xs ws) (hk:k<T.length) (hc:Can M cap (bI M (T.getD k default) (xs k)) ws):
   gV cap T (n+1) (fun j=>if j=k then xs k ++[fL M (bI M (T.getD k default) (xs k)) ws]else xs j) ((iC M (fL M (bI M (T.getD k default) (xs k)) ws) (bI M (T.getD k default) (xs k))).2.foldl rA ws)
end
theorem aFe(b:Nat)(n:Int):snd b [(5,0,n)]=[]:=by simp[snd]
theorem aE6(b:Nat)(n:Int):dR b [(5,0,n)]=[]:=by simp[dR]
def qJ(cap:Nat→Nat):Env (List (List Int)) where
 full ws b:=decide ((ws.getD b []).length=cap b)
 empty ws b:=decide ((ws.getD b []).length=0)
 put ws b v:=ws.set b (ws.getD b [] ++[v])
 take ws b:=((ws.getD b []).headD 0,ws.set b (ws.getD b []).tail)
 tell ws _:=ws
theorem aEO(cap:Nat→Nat):∀(l:List Ev) (ws:List (List Int)),l.foldl (gB (qJ cap)) ws=l.foldl rA ws:=fun l ws=>rfl
structure YN(i:aY)(x:Int)(l:List Ev):Prop where
 ex:(i.op=26∧∃v,(∀b,snd b l=if i.a=(b:Int)then [v]else [])∧(∀b,dR b l=[])∧∀{ν:Type} (V:Env ν) (ht:∀s e,V.tell s e=s) s,l.foldl (gB V) s=V.put s i.a.toNat v)∨
  (i.op=27∧(∀b,snd b l=[])∧(∀b,dR b l=if i.a=(b:Int)then [x]else [])∧∀{ν:Type} (V:Env ν) (ht:∀s e,V.tell s e=s) s,l.foldl (gB V) s=(V.take s i.a.toNat).2)∨
  (i.op≠26∧i.op≠27∧(∀b,snd b l=[])∧(∀b,dR b l=[])∧∀{ν:Type} (V:Env ν) (ht:∀s e,V.tell s e=s) s,l.foldl (gB V) s=s)
theorem l3.OY{i:aY}{x:Int}{t:Tk}{r:Tk×List Ev}(h:l3 i x t r):YN i x r.2:=by
 refine⟨?_⟩;rcases h.ex with⟨t1,l1,h1,h2,h3,h4,h5⟩|⟨ho,h1, -⟩
 ·have key:∀l,(l=l1∨∃n,l=l1 ++[(5,0,n)])→(∀b,snd b l=snd b l1)∧(∀b,dR b l=dR b l1)∧∀{ν:Type} (V:Env ν) (ht:∀s e,V.tell s e=s) s,l.foldl (gB V) s=l1.foldl (gB V) s:=by
   rintro l (rfl|⟨n,rfl⟩)
   ·exact⟨fun b=>rfl,fun b=>rfl,fun V ht s=>rfl⟩
   ·exact⟨fun b=>by rw[zP,aFe,eH],fun b=>by rw[xB,aE6,eH],fun V ht s=>by rw[vZ];simp[gB,ht]⟩
  obtain⟨k1,k2,k3⟩:=key r.2 (by
   rcases h1 with⟨e, -⟩|⟨e, -⟩
   ·exact .inl e
   ·exact .inr ⟨_,e⟩)
  rcases h5 with⟨rfl,ha,hb⟩|⟨ho,rfl⟩|⟨ho,rfl⟩|⟨ho,rfl⟩|⟨ho,rfl⟩
  ·exact .inr (.inr ⟨ha,hb,k1,k2,k3⟩)
  ·refine .inl ⟨ho,last t,fun b=>?_,fun b=>?_,fun V ht s=>?_⟩
   ·rw[k1];by_cases h:i.a=(b:Int)<;>simp[snd,h]
   ·rw[k2];simp[dR]
   ·rw[k3 V ht];simp[gB,ht]
  ·refine .inr (.inl ⟨ho,fun b=>?_,fun b=>?_,fun V ht s=>?_⟩)
   ·rw[k1];simp[snd]
   ·rw[k2];by_cases h:i.a=(b:Int)<;>simp[dR,h]
   ·rw[k3 V ht];simp[gB,ht]
  all_goals
   refine .inr (.inr ⟨by omega,by omega,fun b=>?_,fun b=>?_,fun V ht s=>?_⟩)
   ·rw[k1];simp[snd]
   ·rw[k2];simp[dR]
   ·rw[k3 V ht];simp[gB,ht]
 ·refine .inr (.inr ⟨by omega,by omega,fun b=>?_,fun b=>?_,fun V ht s=>?_⟩)
  ·rw[h1];simp[snd]
  ·rw[h1];simp[dR]
  ·rw[h1];simp[gB,ht]
structure N6(i:aY)(x:Int)(l:List Ev):Prop where
 ex:(i.op=26∧∃v,(∀b,snd b l=if i.a=(b:Int)then [v]else [])∧(∀b,dR b l=[])∧∀ws,l.foldl rA ws=ws.set i.a.toNat (ws.getD i.a.toNat [] ++[v]))∨
  (i.op=27∧(∀b,snd b l=[])∧(∀b,dR b l=if i.a=(b:Int)then [x]else [])∧∀ws,l.foldl rA ws=ws.set i.a.toNat (ws.getD i.a.toNat []).tail)∨
  (i.op≠26∧i.op≠27∧(∀b,snd b l=[])∧(∀b,dR b l=[])∧∀ws,l.foldl rA ws=ws)
theorem l3.box{i:aY}{x:Int}{t:Tk}{r:Tk×List Ev}(h:l3 i x t r):N6 i x r.2:=by
 have k:∀ws e,(qJ fun _=>0).tell ws e=ws:=fun _ _=>rfl
 rcases h.OY.ex with⟨o,v,h1,h2,h3⟩|⟨o,h1,h2,h3⟩|⟨o,o',h1,h2,h3⟩
 ·exact⟨.inl ⟨o,v,h1,h2,h3 _ k⟩⟩
 ·exact⟨.inr (.inl ⟨o,h1,h2,h3 _ k⟩)⟩
 ·exact⟨.inr (.inr ⟨o,o',h1,h2,h3 _ k⟩)⟩
theorem BQ{M:aG}{x:Int}{t:Tk}(h:t.st=1):N6 (aV M t) x (iC M x t).2:=(wW M (x:=x) (t:=t) (by omega)).box
theorem UA{b:Nat}{l r:List Ev}(h:l<+:r):snd b l<+:snd b r:=by
 obtain⟨x,rfl⟩:=h;rw[zP];exact List.prefix_append _ _
theorem T9{M:aG}{t:Tk}{xs ys:List Int}(h:xs<+:ys):dD M t xs<+:dD M t ys:=by
 obtain⟨x,rfl⟩:=h;rw[EJ];exact List.prefix_append _ _
structure AZ(M:aG)(T:List Tk)(s r:Nat→Nat):Prop where
 snd:∀{cap:Nat→Nat} {n:Nat} {xs:Nat→List Int} {ws:List (List Int)},gV M cap T n xs ws→∀k,k<T.length→∀b,k≠s b→snd b (dD M (T.getD k default) (xs k))=[]
 dR:∀{cap:Nat→Nat} {n:Nat} {xs:Nat→List Int} {ws:List (List Int)},gV M cap T n xs ws→∀k,k<T.length→∀b,k≠r b→dR b (dD M (T.getD k default) (xs k))=[]
 kB:∀{cap:Nat→Nat} {n:Nat} {xs:Nat→List Int} {ws:List (List Int)},gV M cap T n xs ws→∀k,k<T.length→(bI M (T.getD k default) (xs k)).st=1→((aV M (bI M (T.getD k default) (xs k))).op=26∨(aV M (bI M (T.getD k default) (xs k))).op=27)→0≤(aV M (bI M (T.getD k default) (xs k))).a∧cL M (bI M (T.getD k default) (xs k))<M.boxes.length
section
variable{M:aG}{T:List Tk}{s r:Nat→Nat}{cap:Nat→Nat}{n:Nat}{xs:Nat→List Int}{ws:List (List Int)}
theorem AF(xs:Nat→List Int)(k:Nat)(l:List Int):(fun j=>if j=k then l else xs j) k=l:=by simp
theorem AE(xs:Nat→List Int){k j:Nat}(l:List Int)(h:j≠k):(fun j=>if j=k then l else xs j) j=xs j:=by simp[h]
theorem gV.X7(h:gV M cap T n xs ws):ws.length=M.boxes.length:=by
 induction h with
 |nil=>simp
 | @step n k xs ws h hk hc ih=>
  have hb:=(BQ (M:=M) (x:=fL M (bI M (T.getD k default) (xs k)) ws) hc.st).ex;rcases hb with⟨-,v, -, -,h3⟩|⟨-, -, -,h3⟩|⟨-, -, -, -,h3⟩
  ·rw[h3,Ji];exact ih
  ·rw[h3,Ji];exact ih
  ·rw[h3];exact ih
theorem gV.IN(ho:AZ M T s r)(h:gV M cap T n xs ws):∀b,b<M.boxes.length→snd b (dD M (T.getD (s b) default) (xs (s b)))=dR b (dD M (T.getD (r b) default) (xs (r b))) ++ws.getD b []:=by
 induction h with
 |nil=>
  intro b hb;show snd b (dD M _ [])=dR b (dD M _ []) ++(List.replicate M.boxes.length []).getD b [];rw[oS];rfl
 | @step n k xs ws h hk hc ih=>
  intro b hb;have hwl:=h.X7;have hr':=gV.step h hk hc;generalize ht:bI M (T.getD k default) (xs k)=t at *;generalize hx:fL M t ws=x at *;have hbd:=(BQ (M:=M) (x:=x) hc.st).ex;have hlev:dD M (T.getD k default) (xs k ++[x])=dD M (T.getD k default) (xs k) ++(iC M x t).2:=by rw[yQ,ht]
  have hS:∀(A:List Int),snd b (iC M x t).2=A→(A≠[]→k=s b)→snd b (dD M (T.getD (s b) default) ((fun j=>if j=k then xs k ++[x]else xs j) (s b)))=snd b (dD M (T.getD (s b) default) (xs (s b))) ++A:=fun A hA hne=>by
   by_cases he:s b=k
   ·rw[he,AF,hlev,zP,hA]
   ·rw[AE _ _ he]
    by_cases hA0:A=[]
    ·rw[hA0,eH]
    ·exact absurd (hne hA0).symm he
  have hR:∀(A:List Int),dR b (iC M x t).2=A→(A≠[]→k=r b)→dR b (dD M (T.getD (r b) default) ((fun j=>if j=k then xs k ++[x]else xs j) (r b)))=dR b (dD M (T.getD (r b) default) (xs (r b))) ++A:=fun A hA hne=>by
   by_cases he:r b=k
   ·rw[he,AF,hlev,xB,hA]
   ·rw[AE _ _ he]
    by_cases hA0:A=[]
    ·rw[hA0,eH]
    ·exact absurd (hne hA0).symm he
  have hs1:snd b (iC M x t).2≠[]→k=s b:=fun hne=>nM fun hk'=>by
   have:=ho.snd hr' k hk b hk';rw[if_pos rfl,hlev,zP]at this;exact hne (List.append_eq_nil_iff.1 this).2
  have hr1:dR b (iC M x t).2≠[]→k=r b:=fun hne=>nM fun hk'=>by
   have:=ho.dR hr' k hk b hk';rw[if_pos rfl,hlev,xB]at this;exact hne (List.append_eq_nil_iff.1 this).2
  have hrng:=ho.kB h k hk;rw[ht]at hrng;have hrng:=hrng hc.st;rw[hS _ rfl hs1,hR _ rfl hr1,ih b hb];rcases hbd with⟨o,v,h1,h2,h3⟩|⟨o,h1,h2,h3⟩|⟨o,o',h1,h2,h3⟩
  ·obtain⟨a1,a2⟩:=hrng (.inl o);have a2:(aV M t).a.toNat<M.boxes.length:=a2;rw[h1,h2,h3,rP (by omega)]
   by_cases hab:(aV M t).a=(b:Int)
   ·have:(aV M t).a.toNat=b:=by omega
    rw[if_pos hab,if_pos this,this];simp
   ·have:¬(aV M t).a.toNat=b:=by omega
    rw[if_neg hab,if_neg this];simp
  ·obtain⟨a1,a2⟩:=hrng (.inr o);have a2:(aV M t).a.toNat<M.boxes.length:=a2;rw[h1,h2,h3,rP (by omega)]
   by_cases hab:(aV M t).a=(b:Int)
   ·have hb':(aV M t).a.toNat=b:=by omega
    rw[if_pos hab,if_pos hb',hb'];have hne:=hc.recv o;have hxe:x=(ws.getD b []).headD 0:=by
     rw[←hx];unfold fL;rw[if_pos o];show(ws.getD (aV M t).a.toNat []).headD 0=_;rw[hb']
    have hne':(ws.getD b []).length≠0:=by
     have:(ws.getD (aV M t).a.toNat []).length≠0:=hne;rwa [hb']at this
    cases hw:ws.getD b []with
    |nil=>rw[hw]at hne';exact absurd rfl hne'
    |cons y q=>
     rw[hw]at hxe;rw[hxe];simp
   ·have:¬(aV M t).a.toNat=b:=by omega
    rw[if_neg hab,if_neg this];simp
  ·rw[h1,h2,h3];simp
theorem gV.fit(ho:AZ M T s r)(h:gV M cap T n xs ws):∀b,b<M.boxes.length→(ws.getD b []).length≤cap b:=by
 induction h with
 |nil=>intro b hb;rw[oS];exact bP _
 | @step n k xs ws h hk hc ih=>
  intro b hb;have hwl:=h.X7;have hrng:=ho.kB h k hk hc.st;have hbd:=(BQ (M:=M) (x:=fL M (bI M (T.getD k default) (xs k)) ws) hc.st).ex;have hib:=ih b hb;rcases hbd with⟨o,v,h1,h2,h3⟩|⟨o,h1,h2,h3⟩|⟨o,o',h1,h2,h3⟩
  ·obtain⟨a1,a2⟩:=hrng (.inl o);have a2:(aV M (bI M (T.getD k default) (xs k))).a.toNat<M.boxes.length:=a2;have hs:=hc.send o;rw[h3,rP (by omega)]
   split
   ·rename_i e
    have hs':(ws.getD (aV M (bI M (T.getD k default) (xs k))).a.toNat []).length≠cap (aV M (bI M (T.getD k default) (xs k))).a.toNat:=hs;rw[e]at hs'⊢;simp only[Jl,jA];omega
   ·exact hib
  ·obtain⟨a1,a2⟩:=hrng (.inr o);have a2:(aV M (bI M (T.getD k default) (xs k))).a.toNat<M.boxes.length:=a2;rw[h3,rP (by omega)]
   split
   ·rename_i e
    rw[e,List.length_tail];omega
   ·exact hib
  ·rw[h3];exact hib
theorem gV.zero(h:gV M cap T n xs ws):∀k (p q:List Int) (x:Int),xs k=p ++x::q→(aV M (bI M (T.getD k default) p)).op≠27→x=0:=by
 induction h with
 |nil=>intro k p q x hx;simp at hx
 | @step n j xs ws h hk hc ih=>
  intro k p q x hx ho
  by_cases hkj:k=j
  ·subst hkj;rw[AF]at hx;rcases List.eq_nil_or_concat q with rfl|⟨q',y,rfl⟩
   ·obtain⟨rfl,e⟩:=List.append_inj' hx rfl;simp only[xU,and_true]at e;rw[←e];unfold fL;rw[if_neg ho]
   ·rw[show p ++x::q'.concat y=(p ++x::q') ++[y] by simp]at hx;obtain⟨e, -⟩:=List.append_inj' hx rfl;exact ih k p q' x e ho
  ·rw[AE _ _ hkj]at hx;exact ih k p q x hx ho
variable{cap2:Nat→Nat}{m:Nat}{ys:Nat→List Int}{us:List (List Int)}
def Rest(M:aG)(cap:Nat→Nat)(T:List Tk)(xs:Nat→List Int)(ws:List (List Int)):Prop:=∀k,k<T.length→¬Can M cap (bI M (T.getD k default) (xs k)) ws
end
end Vm
end Go.Proofs.YtofckcabpchcmaaGreatDoor
