/- Functions that may panic, and what they have deferred. Of whatever program. -/
import Derived.Test.YtofckcabpchcmaaGreatDoorM07
import Derived.Defers
import Derived.Test.YtofckcabpchcmaaGreatDoorChecked
set_option linter.unusedVariables false
set_option linter.unusedSimpArgs false
set_option linter.unusedSectionVars false
set_option maxRecDepth 100000
namespace Go.Proofs.YtofckcabpchcmaaGreatDoor
section
open Go
abbrev n8(v:Value):List PanicEntry:=[{v:=v,recovered:=false}]
section
variable{σ τ:Type}(post:σ→Prop)(val:σ→Value)(mem:σ→List Chunk)(bad:τ→Prop)(why:τ→Value)(memE:τ→List Chunk)
def qI(w0:World)(S:Nat→Prop):Ending→World→Prop:=fun e w'=>
 eJ post val mem w0 S e w'∨∃y,bad y∧e= .panicked (n8 (why y))∧(∀c∈memE y,c.bE=true)∧Mem w' (aO w0 S::memE y)
def qB(P:Program)(f:FuncId)(args:Array Value)(R pre:List Chunk):Prop:=
 ∀w,Mem w (R ++pre)→Calls P f args w (qI post val mem bad why memE w (e7 pre))
end
section
variable{P:Program}{Q:Exit→Act→World→Prop}{N:Nd}{E:Env}{L F:List Chunk}
variable{dst:Option Tmp}{ty:TypeId}{pos:String}{aft:Array Edge}{g:Option (Nat×Bool)}
variable{σ τ:Type}{post:σ→Prop}{val:σ→Value}{mem:σ→List Chunk}{bad:τ→Prop}{why:τ→Value}{memE:τ→List Chunk}{f:FuncId}{fn:Func}{c:Code}{R pre:List Chunk}
theorem aB.aA0{x:Operand}{args:List Operand}{eI:Array TypeId}{vs:List Value}{cap:Array Value}{C:Env→List Chunk→Prop}
  (hx:ev E x=some (.func (.func f) #[] cap)) (hv:gD E args vs) (hc:fW P f=true) (hd:cR N dst=true)
  (spec:qB post val mem bad why memE P f (vs.toArray ++cap) R pre) (t:aR pre L F) (r:∀w,Reads w R F) (hp:∀y,bad y→End Q N (.panic (n8 (why y))) E (memE y ++F)) (k:∀s,post s→C (cP dst (val s) E) (mem s ++F)):
  aB P Q N ⟨dst, .call ⟨.value x,args.toArray,eI⟩,ty,pos,aft,g⟩ E L C:=by
 intro K hK a w hs hm;have hr:(execOp a.eval ⟨dst, .call ⟨.value x,args.toArray,eI⟩,ty,pos,aft,g⟩).run P w= .ok (.enter f (vs.toArray ++cap)) w:=by
  have e:args.toArray.map a.eval=vs.toArray:=by rw[←hs.nZ hv];simp
  simp only[execOp,resolve,hs.ev hx,Deferred.ofValue,Sem.run_bind,Sem.run_pure,Result.andThen_ok,e,invoke];rw[yD hc];simp
 unfold Oper.wp;rw[hr,Oper.upon_enter];refine(spec w ((hm.aP t).reads (r w))).mono ?_;rintro e w' (⟨s,h1,rfl,hx,hm'⟩|⟨y,h1,rfl,hx,hm'⟩)
 ·exact hK _ _ (k s h1) _ _ (hs.put _ hd) ((hm.aP t).frame hm' hx)
 ·exact hp y h1 a w' hs ((hm.aP t).frame hm' hx)
theorem aB.panic{x:Operand}{t:TypeId}{v:Value}{C:Env→List Chunk→Prop}(hx:ev E x=some (.iface t v))(h:End Q N (.panic (n8 (.iface t v))) E L):aB P Q N ⟨dst, .panic x,ty,pos,aft,g⟩ E L C:=by
 intro K hK a w hs hm;have hr:(execOp a.eval ⟨dst, .panic x,ty,pos,aft,g⟩).run P w= .halt (.panic (.iface t v)) w:=by
  simp only[execOp,hs.ev hx,Instr.panic];rfl
 unfold Oper.wp;rw[hr,Oper.upon_panic];exact h a w hs hm
theorem aE.defer{ops:Array Oper}{l:List Oper}{x:Operand}{args:List Operand}{eI:Array TypeId}{vs:List Value}{cap:Array Value}(hx:ev E x=some (.func (.func f) #[] cap))(hv:gD E args vs)(hd:cR N dst=true)
  (k:aE P ops Q ⟨N.n,{target:= .fn (.func f) cap,args:=vs.toArray}::N.ds⟩ l (cP dst Go.undef E) L):aE P ops Q N (⟨dst, .defer ⟨.value x,args.toArray,eI⟩,ty,pos,aft,none⟩::l) E L:=by
 intro a w hs hm;refine wpList_plain rfl fun K hK=>?_;have hr:(execOp a.eval ⟨dst, .defer ⟨.value x,args.toArray,eI⟩,ty,pos,aft,none⟩).run P w= .ok (.defer {target:= .fn (.func f) cap,args:=vs.toArray}) w:=by
  have e:args.toArray.map a.eval=vs.toArray:=by rw[←hs.nZ hv];simp
  simp only[execOp,resolve,hs.ev hx,Deferred.ofValue,Sem.run_bind,Sem.run_pure,Result.andThen_ok,e];simp
 unfold Oper.wp;rw[hr,Oper.upon_defer];refine hK _ _ (k _ _ (Sat.put (N:=⟨N.n,{target:= .fn (.func f) cap,args:=vs.toArray}::N.ds⟩) (a:={a with defers:={target:= .fn (.func f) cap,args:=vs.toArray}::a.defers}) ⟨hs.size,by rw[hs.defs],fun d v hv=>hs.slot d v hv⟩ Go.undef ?_) hm);exact hd
theorem End.aHZ{K:Act→World→Prop}{ch:List PanicEntry}(h:End Q N (.panic ch) E L):End (Exit.then K Q) N (.panic ch) E L:=h
theorem End.aCX{id:Nat}{ch:List PanicEntry}(h:End Q N (.panic ch) E L):End (Exit.inBlock id Q) N (.panic ch) E L:=h
theorem End.aDu{y:Code}{ch:List PanicEntry}(h:End Q N (.panic ch) E L):End (fN P y Q) N (.panic ch) E L:=by unfold fN;exact h
def nD(P:Program)(fn:Func)(R:Ending→World→Prop):Exit→Act→World→Prop
 | .panic ch,a,w=>∀tmps,Leaves P fn tmps R a.defers (.panicking ch) w
 |e,a,w=>bodyPostD P fn R e a w
theorem aS.nD{R:Ending→World→Prop}:aS (nD P fn R):=fun c a w d v h=>by
 cases d<;>exact h
def fU(P:Program)(fn:Func)(R:Ending→World→Prop)(N:Nd)(u:FrameMode)(E:Env)(L:List Chunk):Prop:=∀a w,Sat N a E→Mem w L→Leaves P fn a.tmps R N.ds u w
def rH(P:Program)(fn:Func)(R:Ending→World→Prop)(ds:List Deferred)(ch:List PanicEntry)(L:List Chunk):Prop:=∀tmps w,Mem w L→Leaves P fn tmps R ds (.panicking ch) w
section
variable{R:Ending→World→Prop}
theorem End.AY(h:fU P fn R N .returning E L):End (nD P fn R) N .ret E L:=fun a w hs hm=>by
 show Leaves P fn a.tmps R a.defers .returning w;rw[hs.defs];exact h a w hs hm
theorem End.aBX(h:fU P fn R N .returning E L):End (nD P fn R) N .normal E L:=fun a w hs hm=>by
 show Leaves P fn a.tmps R a.defers .returning w;rw[hs.defs];exact h a w hs hm
theorem End.U9{ch:List PanicEntry}(h:rH P fn R N.ds ch L):End (nD P fn R) N (.panic ch) E L:=fun a w hs hm=>by
 show∀tmps,Leaves P fn tmps R a.defers (.panicking ch) w;rw[hs.defs];exact fun tmps=>h tmps w hm
theorem fU.one{n:Nat}{t:Tmp}{v:Value}(hr:fn.results= #[.tmp t])(hv:look E t=some v)(h:∀w,Mem w L→R (.returned v) w):fU P fn R ⟨n,[]⟩ .returning E L:=fun a w hs hm=>
 ⟨v,by rw[results_tmp hr];simp[hs.slot t v hv],h w hm⟩
theorem fU.none{n:Nat}(hr:fn.results= #[])(h:∀w,Mem w L→R (.returned (.tuple #[])) w):fU P fn R ⟨n,[]⟩ .returning E L:=fun a w hs hm=>
 ⟨.tuple #[],by rw[results_none hr],h w hm⟩
theorem rH.nil{ch:List PanicEntry}(h:∀w,Mem w L→R (.panicked ch) w):rH P fn R [] ch L:=fun tmps w hm=>h w hm
end
def tB(P:Program)(f:FuncId)(args:Array Value)(R pre:List Chunk)(post:σ→Prop)(mem:σ→List Chunk):Prop:=
 ∀w u,Mem w (R ++pre)→CallsD P f args u w fun e u' w'=>u'=u∧eJ post (fun _=> .tuple #[]) mem w (e7 pre) e w'
theorem tB.enter{args:List Value}(hf:P.funcs[f]?=some fn)(hb:fn.body=some c)(N:Nat)(hN:fn.ntmps=N)(hA:Nat.ble args.length N=true)(hR:∀c∈R,c.bE=false)
  (h:∀w S,aG P (bodyPost P fn (eJ post (fun _=> .tuple #[]) mem w S)) ⟨N,[]⟩ c (first 0 args) (aO w S::(R ++pre))):tB P f args.toArray R pre post mem:=by
 intro w u hm;have hA:=Nat.le_of_ble_eq_true hA;refine callsD_of_wp hf hb ?_;subst hN;exact h w (e7 pre) _ w (CE hA) (A3 hR hm)
theorem S8{R':Ending→World→Prop}{tmps:Array Value}{ds:List Deferred}{u:FrameMode}{w:World}{vs cap:Array Value}(hu:u≠ .run)(hu':settle u=u)(hc:fW P f=true)(spec:tB P f (vs ++cap) R pre post mem)
  (t:aR pre L F) (r:Reads w R F) (hm:Mem w L) (k:∀s,post s→∀w',Mem w' (mem s ++F)→Leaves P fn tmps R' ds u w'):Leaves P fn tmps R' ({target:= .fn (.func f) cap,args:=vs}::ds) u w:=by
 refine leaves_cons hu (yD hc _) ((spec w u ((hm.aP t).reads r)).mono ?_);rintro e u' w' ⟨rfl,s,h1,rfl,hx,hm'⟩;show Leaves P fn tmps R' ds (settle u') w';rw[hu'];exact k s h1 w' ((hm.aP t).frame hm' hx)
section
variable{R':Ending→World→Prop}{n:Nat}{ds:List Deferred}{vs cap:Array Value}
theorem fU.call(hc:fW P f=true)(spec:tB P f (vs ++cap) R pre post mem)(t:aR pre L F)(r:∀w,Reads w R F)(k:∀s,post s→fU P fn R' ⟨n,ds⟩ .returning E (mem s ++F)):
  fU P fn R' ⟨n,{target:= .fn (.func f) cap,args:=vs}::ds⟩ .returning E L:=fun a w hs hm=>
 S8 aW rfl hc spec t (r w) hm fun s hp w' hm'=>k s hp {a with defers:=ds} w' ⟨hs.size,rfl,hs.slot⟩ hm'
theorem rH.call{v:Value}(hc:fW P f=true)(spec:tB P f (vs ++cap) R pre post mem)(t:aR pre L F)(r:∀w,Reads w R F)(k:∀s,post s→rH P fn R' ds (n8 v) (mem s ++F)):
  rH P fn R' ({target:= .fn (.func f) cap,args:=vs}::ds) (n8 v) L:=fun tmps w hm=>
 S8 aW rfl hc spec t (r w) hm fun s hp w' hm'=>k s hp tmps w' hm'
end
theorem qB.enter{args:List Value}(hf:P.funcs[f]?=some fn)(hb:fn.body=some c)(N:Nat)(hN:fn.ntmps=N)(hA:Nat.ble args.length N=true)(hR:∀c∈R,c.bE=false)
  (h:∀w S,aG P (nD P fn (qI post val mem bad why memE w S)) ⟨N,[]⟩ c (first 0 args) (aO w S::(R ++pre))):qB post val mem bad why memE P f args.toArray R pre:=by
 intro w hm;have hA:=Nat.le_of_ble_eq_true hA;subst hN;exact calls_of_wp_defers hf hb (wp_mono (h w (e7 pre) _ w (CE hA) (A3 hR hm)) fun e a w' hq=>by
  cases e<;>first|exact hq|exact hq a.tmps)
end
end
section
open Go Go.RowKit
section
variable{P:Program} [eT P]{Q:Exit→Act→World→Prop}{N:Nd}{E:Env}{L L' F:List Chunk}{ops:Array Oper}
variable{dst:Option Tmp}{ty:TypeId}{pos:String}{aft:Array Edge}{g:Option (Nat×Bool)}{C:Env→List Chunk→Prop}
variable{xT yT:TypeId}{x y:Operand}{a b:List UInt8}
theorem Still.aF9{s' b' i:Nat}{z':List Value}{k:IntKind}{j:Int}(hx:ev E x=some (sv a))(hy:ev E y=some (.int k j))(ht:bB P xT=some ⟨.string,s',b',z'⟩)(hj:j=(i:Int))(hi:i≤a.length):Still P N ⟨dst, .slice xT x (some y) none none,ty,pos,aft,g⟩ E L (sv (a.drop i)):=fun A w hs _=>by
 subst hj;have h:=run_slice_string_l (P:=P) w xT ⟨a.toArray⟩ (cI ht).string k (i:Int) aA (by rw[wA];omega);rw[ByteArray.extract_mk,Jj,wA,kN aW]at h;have h2:=run_sliceAt_string (P:=P) w xT (sv a) (some (.int k (i:Int))) none none (cI ht).string;rw[h]at h2;simp only[execOp,hs.ev hx,hs.ev hy,yY,pA,Sem.run_bind,h2,Result.andThen_ok,Sem.run_pure]
theorem aAV(a:List UInt8):a.flatMap xL=a.map (fun b=>Value.int .u8 (b.toNat:Int)):=by
 induction a with
 |nil=>rfl
 |cons c r ih=>rw[qE,fI,ih];rfl
theorem Still.shl{k k':IntKind}{a b z:Int}(hx:ev E x=some (.int k a))(hy:ev E y=some (.int k' b))(hb:0≤b)(hz:k.wrap (a*2^min b.toNat k.bits)=z):Still P N ⟨dst, .binOp .shl xT x y yT,ty,pos,aft,g⟩ E L (.int k z):=fun A w hs _=>by
 subst hz;simp[execOp,hs.ev hx,hs.ev hy,eqGuard,binOp,Op.shift,show¬b<0 by omega]
theorem aB.bytesOf{src d e:TypeId}{s1 b1 s2 b2 s3 b3:Nat}{z1 z2 z3:List Value}(hx:ev E x=some (sv a))(hs:bB P src=some ⟨.string,s1,b1,z1⟩)(hdd:bB P d=some ⟨.slice e,s2,b2,z2⟩)(he:bB P e=some ⟨.int .u8,s3,b3,z3⟩)(ha:a.length≤6000)(hd:cR N dst=true)
  (k:∀ao c,C (cP dst (.slice ao a.length c) E) (rd ao a.length c xL a::L)):aB P Q N ⟨dst, .convert src d x,ty,pos,aft,g⟩ E L C:=fun K hK A w hS hM=>by
 have h:=run_bytes_of_string (P:=P) w src d e ⟨a.toArray⟩ (cI hs).string (cI hdd).slice (cI he).int;rw[wA]at h;have hg:=grownCap_ge w a.length 0 e;unfold Oper.wp;have hr:(execOp A.eval ⟨dst, .convert src d x,ty,pos,aft,g⟩).run P w= .ok (.value (.slice (some ⟨w.heap.size,0,none⟩) a.length (grownCap w a.length 0 e))) (w.drew.alloc (.cells (bytesRow ⟨a.toArray⟩ (grownCap w a.length 0 e)) e ((bytesRow ⟨a.toArray⟩ (grownCap w a.length 0 e)).size,(bytesRow ⟨a.toArray⟩ (grownCap w a.length 0 e)).size+1))):=by
  simp only[execOp,hS.ev hx,Sem.run_bind,h,Result.andThen_ok,Sem.run_pure]
 rw[hr];have hfm:=aAV a;refine hK _ _ (k (some ⟨w.heap.size,0,none⟩) _) _ _ (hS.put _ hd) (hM.add (((cB.refl _ _).drew).alloc _) (jJ.2 ⟨⟨?_,?_,_,_,rfl,hg,fun hn=>⟨_,0,rfl,fun j hj=>?_⟩⟩,rfl⟩) (fun b hb=>?_))
 ·rw[hfm];simp[show sz xL=1 from rfl]
 ·unfold maxLen;omega
 ·rw[show sz xL=1 from rfl,Nat.mul_one]at hj;have hlt:j<(bytesRow ⟨a.toArray⟩ (grownCap w a.length 0 e)).size:=by unfold bytesRow;simp;omega
  rw[show(0+j)=j from sD j,hfm];have h2:=World.cell?_alloc_mark w.drew (bytesRow ⟨a.toArray⟩ (grownCap w a.length 0 e)) e ((bytesRow ⟨a.toArray⟩ (grownCap w a.length 0 e)).size,(bytesRow ⟨a.toArray⟩ (grownCap w a.length 0 e)).size+1) j;refine h2.trans ?_;unfold bytesRow;rw[Array.getElem?_append_left (by simp;omega)];simp
 ·have:=(iZ.1 hb).1;simp[Value.ownBlock]at this;omega
def zW(P:Program)(t:TypeId):Bool:=match P.underlying t with
 |some (.interface _)=>true
 |_=>false
theorem GU{t:TypeId}(h:zW P t=true)(d:Nat)(v:Value)(hv:v= .nilIface∨∃a b,v= .iface a b)(w:World):(Op.equalIn (d+1) t v .nilIface).run P w= .ok (v matches .nilIface) w:=by
 unfold zW at h
 cases hu:P.underlying t with
 |none=>rw[hu]at h;cases h
 |some u=>
  rw[hu]at h
  cases u<;>simp at h
  rcases hv with rfl|⟨a,b,rfl⟩<;>simp[Op.equalIn,run_underlying hu]
theorem Still.aDd(hx:ev E x=some .nilIface)(ht:zW P xT=true):Still P N ⟨dst, .binOp .neq xT x (.const .nilIface) yT,ty,pos,aft,g⟩ E L (.bool false):=fun A w hs _=>by
 have h:=GU ht 9999 .nilIface (.inl rfl) w;have e:A.eval (.const .nilIface)= .nilIface:=rfl;simp[execOp,hs.ev hx,e,eqGuard_nil_constR,eqGuard,binOp,Op.equal,Op.maxDepth,h]
theorem Still.aDe{c:TypeId}{v:Value}(hx:ev E x=some (.iface c v))(ht:zW P xT=true):Still P N ⟨dst, .binOp .neq xT x (.const .nilIface) yT,ty,pos,aft,g⟩ E L (.bool true):=fun A w hs _=>by
 have h:=GU ht 9999 (.iface c v) (.inr ⟨_,_,rfl⟩) w;have e:A.eval (.const .nilIface)= .nilIface:=rfl;simp[execOp,hs.ev hx,e,eqGuard_nil_constR,eqGuard,binOp,Op.equal,Op.maxDepth,h]
theorem Still.aB0(hx:ev E x=some .nilIface)(ht:zW P xT=true):Still P N ⟨dst, .binOp .eql xT x (.const .nilIface) yT,ty,pos,aft,g⟩ E L (.bool true):=fun A w hs _=>by
 have h:=GU ht 9999 .nilIface (.inl rfl) w;have e:A.eval (.const .nilIface)= .nilIface:=rfl;simp[execOp,hs.ev hx,e,eqGuard_nil_constR,eqGuard,binOp,Op.equal,Op.maxDepth,h]
theorem Still.aB1{c:TypeId}{v:Value}(hx:ev E x=some (.iface c v))(ht:zW P xT=true):Still P N ⟨dst, .binOp .eql xT x (.const .nilIface) yT,ty,pos,aft,g⟩ E L (.bool false):=fun A w hs _=>by
 have h:=GU ht 9999 (.iface c v) (.inr ⟨_,_,rfl⟩) w;have e:A.eval (.const .nilIface)= .nilIface:=rfl;simp[execOp,hs.ev hx,e,eqGuard_nil_constR,eqGuard,binOp,Op.equal,Op.maxDepth,h]
theorem Still.aDT{v:Value}{s b:Nat}{z:List Value}{fs:List (Nat×TypeId)}(hx:ev E x=some v)(ht:bB P xT=some ⟨.struct fs,s,b,z⟩):Still P N ⟨dst, .makeInterface xT x,ty,pos,aft,g⟩ E L (.iface xT v):=fun A w hs _=>by
 obtain⟨l,hl, -⟩:=(cI ht).struct;simp[execOp,hs.ev hx,Instr.makeInterface,run_underlying hl]
theorem aB.insert{κ:Type}{dκ:DecidableEq κ}{iκ:cJ κ}{α:Type}{b:Nat}{f:α→Value}{l:List (κ×α)}{t kt et s1 b1 s2 b2:Nat}{z1 z2:List Value}{x y v:Operand}{key:κ}{kv:Value}{kd:dO}{a:α}
  (hx:ev E x=some (.map (some b))) (hy:ev E y=some kv) (hv:ev E v=some (f a)) (ht:bB P t=some ⟨.map kt et,s1,b1,z1⟩) (hkt:bB P kt=some ⟨kd,s2,b2,z2⟩) (hm:Take (mp b f l) L L') (hk:kv=cJ.kv key∧kd=cJ.kd κ) (hd:cR N dst=true)
  (k:C (cP dst Go.undef E) (mp b f (jG l key a)::L')):aB P Q N ⟨dst, .insert t x y v,ty,pos,aft,g⟩ E L C:=aB.mapUpdate (ty:=ty) (pos:=pos) (aft:=aft) (gu:=g) hx hy hv ht hkt hm hk hd k
end
section
variable{P:Program} [eT P]{N:Nd}{E:Env}{L L' F:List Chunk}{σ:Type}{fn:Func}{post:σ→Prop}{val:σ→Value}{mem:σ→List Chunk}{w0:World}{S:Nat→Prop}
theorem End.oM{t u:Tmp}{ty bt:TypeId}{b s' b':Nat}{fs:List (Nat×TypeId)}{z' cs:List Value}{y:Value}(x:σ)(hp:post x)(he:val x= .tuple #[y, .agg cs.toArray])(hr:fn.results= #[.tmp u, .cell t ty]:=by exact rfl)(hu:look E u=Option.some y:=by exact rfl)(hv:look E t=Option.some (.pointer (Option.some ⟨b,0,none⟩)):=by exact rfl)(ht:bB P ty=Option.some ⟨.struct fs,s',b',z'⟩:=by exact rfl)
  (hm:Take (aF b cs bt) L L':=by exact tk) (hl:cs.length=s':=by exact rfl) (hx:∀c∈mem x,c.bE=true:=by exact pM) (hF:aR (aO w0 S::mem x) L F:=by exact cA) (hD:N.ds=[]:=by exact rfl):End (bodyPost P fn (eJ post val mem w0 S)) N .ret E L:=fun a w hs hM=>by
 have hb:=jO.1 (hM.has hm);have h1:=hs.slot t _ hv;have h2:=hs.slot u _ hu;refine bodyPost_ret (v:= .tuple #[y, .agg cs.toArray]) ?_ (hs.defs.trans hD) ⟨x,hp,by rw[he],hx,(hM.aP hF).left⟩;simp[results,hr,h1,h2,asAddr,uL ht hb hl]
end
section
variable{κ:Type} [DecidableEq κ] [cJ κ]{α:Type}{b:Nat}{g:α→Value}{l:List (κ×α)}
theorem Mem.AG{w:World}{L L':List Chunk}(h:Mem w L)(t:Take (mp b g l) L L'):∃bs ck,Mem w (mpr b g l bs ck::L'):=by
 obtain⟨es,ck,h1,h2,h3⟩:=uB.1 (h.has t);refine⟨es.toList.map (·.born),ck,?_⟩;have hm:=h.take t;have hp:=List.pairwise_cons.1 hm.sep;refine⟨fun c hc=>?_,List.pairwise_cons.2 ⟨fun d hd hx k hk hdk=>?_,hp.2⟩⟩
 ·rcases cY.1 hc with rfl|hc
  ·exact CU.2 (CT.2 ⟨es,h1,h2,rfl,h3⟩)
  ·exact hm.all c (by simp[hc])
 ·exact hp.1 d hd (.inl gU) k (x8.2 (aD1.1 hk)) hdk
theorem aE.AG{P:Program}{ops:Array Oper}{Q:Exit→Act→World→Prop}{N:Nd}{os:List Oper}{E:Env}{L L':List Chunk}(t:Take (mp b g l) L L')(h:∀bs ck,aE P ops Q N os E (mpr b g l bs ck::L')):aE P ops Q N os E L:=fun a w hs hm=>by
 obtain⟨bs,ck,h2⟩:=hm.AG t;exact h bs ck a w hs h2
end
theorem Fs{A:Prop}(h:A:=by(first|exact Js|exact Still.WN rfl rfl (by simp only[Jl,JW,kZ];omega) (by(try simp only[Jl,JW,kZ]);omega)|(apply Still.sAt;exact rfl;exact rfl;exact rfl;(first|exact zY|exact gT _|exact rfl);(try simp only[JW]);omega)|(apply Still.sTo;exact rfl;exact rfl;exact rfl;(first|exact zY|exact gT _|exact rfl);omega)|(apply Still.aDT;exact rfl;exact rfl)|(apply Still.aDd;exact rfl;kernel_rfl)|(apply Still.aDe;exact rfl;kernel_rfl)|(apply Still.aB0;exact rfl;kernel_rfl)|(apply Still.aB1;exact rfl;kernel_rfl)|(apply Still.aF9;exact rfl;exact rfl;exact rfl;(first|exact(rfl:(1:Int)=((1:Nat):Int))|exact gT _|exact rfl);omega))):A:=h
theorem Fg{A G:Prop}(k:G)(h:Bx G→A:=by intro hk;(first|(apply aE.op;exact rfl;refine aB.bP (h:=Fs) (k:=?_))|(refine aE.eE (h:=?_);refine aB.bP (h:=Fs) (k:=?_))|refine aN.bP (h:=Fs) (k:=?_)|refine aN.eE (h:=Fs) (k:=?_));exact hk.out):A:=h ⟨k⟩
theorem Fy{A G:Prop}(k:G)(h:Bx G→A:=by intro hk;(first|(refine Jo ?_;exact hk.out)|(refine Fg ?_;exact hk.out)|(refine JB ?_;exact hk.out)|(refine JA ?_;exact hk.out))):A:=h ⟨k⟩
end
section
open Go
def A6:List (TypeId×jX):=[
 (1,⟨.other,1,8,[.nilFunc]⟩),
 (2,⟨.int .i64,1,8,[.int .i64 0]⟩),
 (3,⟨.int .i64,1,8,[.int .i64 0]⟩),
 (4,⟨.bool,1,1,[.bool false]⟩),
 (5,⟨.int .u8,1,1,[.int .u8 0]⟩),
 (9,⟨.string,1,16,[.string ⟨#[]⟩]⟩),
 (12,⟨.int .u64,1,8,[.int .u64 0]⟩),
 (15,⟨.pointer 360,1,8,[.pointer none]⟩),
 (16,⟨.pointer 363,1,8,[.pointer none]⟩),
 (17,⟨.pointer 370,1,8,[.pointer none]⟩),
 (20,⟨.other,1,16,[.nilIface]⟩),
 (21,⟨.int .i32,1,4,[.int .i32 0]⟩),
 (22,⟨.other,1,8,[.nilFunc]⟩),
 (23,⟨.slice 91,1,24,[.slice none 0 0]⟩),
 (24,⟨.slice 88,1,24,[.slice none 0 0]⟩),
 (25,⟨.struct [(0,23),(1,24)],2,48,[.slice none 0 0, .slice none 0 0]⟩),
 (26,⟨.struct [(0,23),(1,24)],2,48,[.slice none 0 0, .slice none 0 0]⟩),
 (28,⟨.other,1,8,[.nilFunc]⟩),
 (29,⟨.slice 46,1,24,[.slice none 0 0]⟩),
 (30,⟨.slice 39,1,24,[.slice none 0 0]⟩),
 (31,⟨.struct [(0,29),(1,30),(2,3)],3,56,[.slice none 0 0, .slice none 0 0, .int .i64 0]⟩),
 (32,⟨.struct [(0,29),(1,30),(2,3)],3,56,[.slice none 0 0, .slice none 0 0, .int .i64 0]⟩),
 (33,⟨.int .i64,1,8,[.int .i64 0]⟩),
 (35,⟨.other,1,8,[.nilFunc]⟩),
 (36,⟨.slice 3,1,24,[.slice none 0 0]⟩),
 (37,⟨.other,1,8,[.nilFunc]⟩),
 (38,⟨.slice 41,1,24,[.slice none 0 0]⟩),
 (39,⟨.slice 2,1,24,[.slice none 0 0]⟩),
 (40,⟨.struct [(0,3),(1,3),(2,3),(3,39),(4,30),(5,36),(6,3)],7,104,[.int .i64 0, .int .i64 0, .int .i64 0, .slice none 0 0, .slice none 0 0, .slice none 0 0, .int .i64 0]⟩),
 (41,⟨.struct [(0,3),(1,3),(2,3),(3,39),(4,30),(5,36),(6,3)],7,104,[.int .i64 0, .int .i64 0, .int .i64 0, .slice none 0 0, .slice none 0 0, .slice none 0 0, .int .i64 0]⟩),
 (43,⟨.other,1,8,[.nilFunc]⟩),
 (44,⟨.other,1,8,[.nilFunc]⟩),
 (45,⟨.struct [(0,3),(1,3),(2,3),(3,39)],4,48,[.int .i64 0, .int .i64 0, .int .i64 0, .slice none 0 0]⟩),
 (46,⟨.struct [(0,3),(1,3),(2,3),(3,39)],4,48,[.int .i64 0, .int .i64 0, .int .i64 0, .slice none 0 0]⟩),
 (47,⟨.other,1,8,[.nilFunc]⟩),
 (48,⟨.other,1,8,[.nilFunc]⟩),
 (49,⟨.slice 80,1,24,[.slice none 0 0]⟩),
 (50,⟨.struct [(0,33),(1,3),(2,3)],3,24,[.int .i64 0, .int .i64 0, .int .i64 0]⟩),
 (51,⟨.struct [(0,33),(1,3),(2,3)],3,24,[.int .i64 0, .int .i64 0, .int .i64 0]⟩),
 (53,⟨.other,1,8,[.nilFunc]⟩),
 (54,⟨.other,1,8,[.nilFunc]⟩),
 (55,⟨.other,1,8,[.nilFunc]⟩),
 (56,⟨.slice 5,1,24,[.slice none 0 0]⟩),
 (58,⟨.other,1,8,[.nilFunc]⟩),
 (60,⟨.other,1,8,[.nilFunc]⟩),
 (61,⟨.other,1,8,[.nilFunc]⟩),
 (62,⟨.other,1,8,[.nilFunc]⟩),
 (63,⟨.slice 82,1,24,[.slice none 0 0]⟩),
 (65,⟨.other,1,8,[.nilFunc]⟩),
 (66,⟨.other,1,8,[.nilFunc]⟩),
 (67,⟨.other,1,8,[.nilFunc]⟩),
 (68,⟨.slice 145,1,24,[.slice none 0 0]⟩),
 (69,⟨.struct [(0,33),(1,3)],2,16,[.int .i64 0, .int .i64 0]⟩),
 (70,⟨.struct [(0,33),(1,3)],2,16,[.int .i64 0, .int .i64 0]⟩),
 (72,⟨.other,1,8,[.nilFunc]⟩),
 (74,⟨.other,1,8,[.nilFunc]⟩),
 (75,⟨.other,1,8,[.nilFunc]⟩),
 (76,⟨.pointer 160,1,8,[.pointer none]⟩),
 (77,⟨.other,1,8,[.nilFunc]⟩),
 (78,⟨.pointer 26,1,8,[.pointer none]⟩),
 (79,⟨.struct [(0,3),(1,3)],2,16,[.int .i64 0, .int .i64 0]⟩),
 (80,⟨.struct [(0,3),(1,3)],2,16,[.int .i64 0, .int .i64 0]⟩),
 (81,⟨.struct [(0,33),(1,3)],2,16,[.int .i64 0, .int .i64 0]⟩),
 (82,⟨.struct [(0,33),(1,3)],2,16,[.int .i64 0, .int .i64 0]⟩),
 (83,⟨.other,1,8,[.nilFunc]⟩),
 (84,⟨.other,1,8,[.nilFunc]⟩),
 (85,⟨.other,1,8,[.nilFunc]⟩),
 (86,⟨.slice 113,1,24,[.slice none 0 0]⟩),
 (87,⟨.struct [(0,3),(1,3),(2,36),(3,3),(4,3),(5,86)],6,80,[.int .i64 0, .int .i64 0, .slice none 0 0, .int .i64 0, .int .i64 0, .slice none 0 0]⟩),
 (88,⟨.struct [(0,3),(1,3),(2,36),(3,3),(4,3),(5,86)],6,80,[.int .i64 0, .int .i64 0, .slice none 0 0, .int .i64 0, .int .i64 0, .slice none 0 0]⟩),
 (89,⟨.other,1,8,[.nilFunc]⟩),
 (90,⟨.struct [(0,3),(1,3)],2,16,[.int .i64 0, .int .i64 0]⟩),
 (91,⟨.struct [(0,3),(1,3)],2,16,[.int .i64 0, .int .i64 0]⟩),
 (92,⟨.pointer 94,1,8,[.pointer none]⟩),
 (93,⟨.struct [(0,30),(1,36),(2,30)],3,72,[.slice none 0 0, .slice none 0 0, .slice none 0 0]⟩),
 (94,⟨.struct [(0,30),(1,36),(2,30)],3,72,[.slice none 0 0, .slice none 0 0, .slice none 0 0]⟩),
 (95,⟨.pointer 103,1,8,[.pointer none]⟩),
 (96,⟨.other,1,8,[.nilFunc]⟩),
 (97,⟨.other,1,16,[.nilIface]⟩),
 (98,⟨.other,1,16,[.nilIface]⟩),
 (99,⟨.slice 100,1,24,[.slice none 0 0]⟩),
 (100,⟨.pointer 168,1,8,[.pointer none]⟩),
 (101,⟨.other,1,8,[.nilFunc]⟩),
 (102,⟨.struct [(0,78),(1,98),(2,99),(3,100),(4,3),(5,3),(6,3),(7,39),(8,101)],9,112,[.pointer none, .nilIface, .slice none 0 0, .pointer none, .int .i64 0, .int .i64 0, .int .i64 0, .slice none 0 0, .nilFunc]⟩),
 (103,⟨.struct [(0,78),(1,98),(2,99),(3,100),(4,3),(5,3),(6,3),(7,39),(8,101)],9,112,[.pointer none, .nilIface, .slice none 0 0, .pointer none, .int .i64 0, .int .i64 0, .int .i64 0, .slice none 0 0, .nilFunc]⟩),
 (104,⟨.other,1,8,[.nilFunc]⟩),
 (105,⟨.other,1,8,[.nilFunc]⟩),
 (106,⟨.other,1,8,[.nilFunc]⟩),
 (107,⟨.pointer 109,1,8,[.pointer none]⟩),
 (108,⟨.struct [(0,56)],1,24,[.slice none 0 0]⟩),
 (109,⟨.struct [(0,56)],1,24,[.slice none 0 0]⟩),
 (110,⟨.other,1,8,[.nilFunc]⟩),
 (111,⟨.other,1,8,[.nilFunc]⟩),
 (112,⟨.struct [(0,3),(1,3),(2,2)],3,24,[.int .i64 0, .int .i64 0, .int .i64 0]⟩),
 (113,⟨.struct [(0,3),(1,3),(2,2)],3,24,[.int .i64 0, .int .i64 0, .int .i64 0]⟩),
 (114,⟨.other,1,8,[.nilFunc]⟩),
 (115,⟨.int .u16,1,2,[.int .u16 0]⟩),
 (116,⟨.other,1,8,[.nilFunc]⟩),
 (117,⟨.int .u64,1,8,[.int .u64 0]⟩),
 (118,⟨.struct [],0,0,[]⟩),
 (119,⟨.struct [],0,0,[]⟩),
 (120,⟨.pointer 121,1,8,[.pointer none]⟩),
 (121,⟨.struct [(0,56)],1,24,[.slice none 0 0]⟩),
 (122,⟨.other,1,8,[.nilFunc]⟩),
 (123,⟨.other,1,8,[.nilFunc]⟩),
 (124,⟨.other,1,8,[.nilFunc]⟩),
 (125,⟨.other,1,8,[.nilFunc]⟩),
 (126,⟨.pointer 128,1,8,[.pointer none]⟩),
 (127,⟨.struct [(0,78)],1,8,[.pointer none]⟩),
 (128,⟨.struct [(0,78)],1,8,[.pointer none]⟩),
 (129,⟨.other,1,8,[.nilFunc]⟩),
 (130,⟨.other,1,8,[.nilFunc]⟩),
 (131,⟨.slice 202,1,24,[.slice none 0 0]⟩),
 (133,⟨.other,1,8,[.nilFunc]⟩),
 (134,⟨.struct [(0,70)],2,16,[.int .i64 0, .int .i64 0]⟩),
 (135,⟨.struct [(0,70)],2,16,[.int .i64 0, .int .i64 0]⟩),
 (136,⟨.pointer 138,1,8,[.pointer none]⟩),
 (137,⟨.struct [(0,131),(1,3),(2,3)],3,40,[.slice none 0 0, .int .i64 0, .int .i64 0]⟩),
 (138,⟨.struct [(0,131),(1,3),(2,3)],3,40,[.slice none 0 0, .int .i64 0, .int .i64 0]⟩),
 (139,⟨.other,1,8,[.nilFunc]⟩),
 (140,⟨.struct [(0,3),(1,9)],2,24,[.int .i64 0, .string ⟨#[]⟩]⟩),
 (141,⟨.struct [(0,3),(1,9)],2,24,[.int .i64 0, .string ⟨#[]⟩]⟩),
 (142,⟨.slice 227,1,24,[.slice none 0 0]⟩),
 (143,⟨.slice 259,1,24,[.slice none 0 0]⟩),
 (144,⟨.struct [(0,3),(1,9),(2,141),(4,141),(6,3),(7,142),(8,143)],9,128,[.int .i64 0, .string ⟨#[]⟩, .int .i64 0, .string ⟨#[]⟩, .int .i64 0, .string ⟨#[]⟩, .int .i64 0, .slice none 0 0, .slice none 0 0]⟩),
 (145,⟨.struct [(0,3),(1,9),(2,141),(4,141),(6,3),(7,142),(8,143)],9,128,[.int .i64 0, .string ⟨#[]⟩, .int .i64 0, .string ⟨#[]⟩, .int .i64 0, .string ⟨#[]⟩, .int .i64 0, .slice none 0 0, .slice none 0 0]⟩),
 (146,⟨.other,1,8,[.nilFunc]⟩),
 (147,⟨.other,1,8,[.nilFunc]⟩),
 (148,⟨.pointer 152,1,8,[.pointer none]⟩),
 (149,⟨.map 9 3,1,8,[.map none]⟩),
 (150,⟨.map 9 153,1,8,[.map none]⟩),
 (151,⟨.struct [(0,149),(1,149),(2,150)],3,24,[.map none, .map none, .map none]⟩),
 (152,⟨.struct [(0,149),(1,149),(2,150)],3,24,[.map none, .map none, .map none]⟩),
 (153,⟨.pointer 145,1,8,[.pointer none]⟩),
 (154,⟨.other,1,8,[.nilFunc]⟩),
 (155,⟨.other,1,8,[.nilFunc]⟩),
 (156,⟨.slice 95,1,24,[.slice none 0 0]⟩),
 (157,⟨.slice 161,1,24,[.slice none 0 0]⟩),
 (158,⟨.slice 161,1,24,[.slice none 0 0]⟩),
 (159,⟨.struct [(0,156),(1,158),(2,3)],3,56,[.slice none 0 0, .slice none 0 0, .int .i64 0]⟩),
 (160,⟨.struct [(0,156),(1,158),(2,3)],3,56,[.slice none 0 0, .slice none 0 0, .int .i64 0]⟩),
 (161,⟨.pointer 232,1,8,[.pointer none]⟩),
 (162,⟨.other,1,8,[.nilFunc]⟩),
 (163,⟨.other,1,8,[.nilFunc]⟩),
 (164,⟨.other,1,8,[.nilFunc]⟩),
 (165,⟨.slice 171,1,24,[.slice none 0 0]⟩),
 (166,⟨.pointer 236,1,8,[.pointer none]⟩),
 (167,⟨.struct [(0,3),(1,100),(2,165),(3,166)],4,48,[.int .i64 0, .pointer none, .slice none 0 0, .pointer none]⟩),
 (168,⟨.struct [(0,3),(1,100),(2,165),(3,166)],4,48,[.int .i64 0, .pointer none, .slice none 0 0, .pointer none]⟩),
 (169,⟨.pointer 171,1,8,[.pointer none]⟩),
 (170,⟨.struct [(0,3),(1,3),(2,3)],3,24,[.int .i64 0, .int .i64 0, .int .i64 0]⟩),
 (171,⟨.struct [(0,3),(1,3),(2,3)],3,24,[.int .i64 0, .int .i64 0, .int .i64 0]⟩),
 (172,⟨.other,1,8,[.nilFunc]⟩),
 (173,⟨.other,1,8,[.nilFunc]⟩),
 (174,⟨.pointer 2,1,8,[.pointer none]⟩),
 (175,⟨.other,1,8,[.nilFunc]⟩),
 (176,⟨.other,1,8,[.nilFunc]⟩),
 (177,⟨.other,1,8,[.nilFunc]⟩),
 (178,⟨.other,1,8,[.nilFunc]⟩),
 (179,⟨.other,1,8,[.nilFunc]⟩),
 (180,⟨.other,1,8,[.nilFunc]⟩),
 (181,⟨.other,1,8,[.nilFunc]⟩),
 (183,⟨.other,1,8,[.nilFunc]⟩),
 (184,⟨.int .u64,1,8,[.int .u64 0]⟩),
 (185,⟨.other,1,8,[.nilFunc]⟩),
 (186,⟨.pointer 88,1,8,[.pointer none]⟩),
 (187,⟨.other,1,8,[.nilFunc]⟩),
 (188,⟨.other,1,8,[.nilFunc]⟩),
 (189,⟨.pointer 195,1,8,[.pointer none]⟩),
 (190,⟨.map 3 193,1,8,[.map none]⟩),
 (191,⟨.slice 4,1,24,[.slice none 0 0]⟩),
 (192,⟨.struct [(0,36),(1,191)],2,48,[.slice none 0 0, .slice none 0 0]⟩),
 (193,⟨.struct [(0,36),(1,191)],2,48,[.slice none 0 0, .slice none 0 0]⟩),
 (194,⟨.struct [(0,126),(1,186),(2,190),(3,36),(4,193),(6,33)],7,104,[.pointer none, .pointer none, .map none, .slice none 0 0, .slice none 0 0, .slice none 0 0, .int .i64 0]⟩),
 (195,⟨.struct [(0,126),(1,186),(2,190),(3,36),(4,193),(6,33)],7,104,[.pointer none, .pointer none, .map none, .slice none 0 0, .slice none 0 0, .slice none 0 0, .int .i64 0]⟩),
 (196,⟨.other,1,8,[.nilFunc]⟩),
 (197,⟨.other,1,8,[.nilFunc]⟩),
 (198,⟨.other,1,8,[.nilFunc]⟩),
 (199,⟨.other,1,8,[.nilFunc]⟩),
 (200,⟨.other,1,8,[.nilFunc]⟩),
 (201,⟨.struct [(0,3),(1,9),(2,2),(3,3)],4,40,[.int .i64 0, .string ⟨#[]⟩, .int .i64 0, .int .i64 0]⟩),
 (202,⟨.struct [(0,3),(1,9),(2,2),(3,3)],4,40,[.int .i64 0, .string ⟨#[]⟩, .int .i64 0, .int .i64 0]⟩),
 (203,⟨.other,1,8,[.nilFunc]⟩),
 (204,⟨.other,1,8,[.nilFunc]⟩),
 (205,⟨.other,1,16,[.nilIface]⟩),
 (206,⟨.other,1,16,[.nilIface]⟩),
 (208,⟨.other,1,8,[.nilFunc]⟩),
 (209,⟨.other,1,8,[.nilFunc]⟩),
 (210,⟨.other,1,8,[.nilFunc]⟩),
 (211,⟨.other,1,8,[.nilFunc]⟩),
 (212,⟨.other,1,8,[.nilFunc]⟩),
 (213,⟨.other,1,8,[.nilFunc]⟩),
 (214,⟨.other,1,8,[.nilFunc]⟩),
 (215,⟨.pointer 217,1,8,[.pointer none]⟩),
 (216,⟨.struct [(0,3)],1,8,[.int .i64 0]⟩),
 (217,⟨.struct [(0,3)],1,8,[.int .i64 0]⟩),
 (218,⟨.other,1,8,[.nilFunc]⟩),
 (219,⟨.slice 272,1,24,[.slice none 0 0]⟩),
 (221,⟨.other,1,8,[.nilFunc]⟩),
 (222,⟨.pointer 225,1,8,[.pointer none]⟩),
 (223,⟨.slice 149,1,24,[.slice none 0 0]⟩),
 (224,⟨.struct [(0,148),(1,88),(7,223)],8,112,[.pointer none, .int .i64 0, .int .i64 0, .slice none 0 0, .int .i64 0, .int .i64 0, .slice none 0 0, .slice none 0 0]⟩),
 (225,⟨.struct [(0,148),(1,88),(7,223)],8,112,[.pointer none, .int .i64 0, .int .i64 0, .slice none 0 0, .int .i64 0, .int .i64 0, .slice none 0 0, .slice none 0 0]⟩),
 (226,⟨.struct [(0,9),(1,141)],3,40,[.string ⟨#[]⟩, .int .i64 0, .string ⟨#[]⟩]⟩),
 (227,⟨.struct [(0,9),(1,141)],3,40,[.string ⟨#[]⟩, .int .i64 0, .string ⟨#[]⟩]⟩),
 (228,⟨.other,1,8,[.nilFunc]⟩),
 (229,⟨.other,1,8,[.nilFunc]⟩),
 (230,⟨.other,1,8,[.nilFunc]⟩),
 (231,⟨.struct [(0,39),(1,3),(2,3)],3,40,[.slice none 0 0, .int .i64 0, .int .i64 0]⟩),
 (232,⟨.struct [(0,39),(1,3),(2,3)],3,40,[.slice none 0 0, .int .i64 0, .int .i64 0]⟩),
 (233,⟨.other,1,8,[.nilFunc]⟩),
 (234,⟨.other,1,8,[.nilFunc]⟩),
 (235,⟨.struct [(0,39),(1,3),(2,3),(3,3)],4,48,[.slice none 0 0, .int .i64 0, .int .i64 0, .int .i64 0]⟩),
 (236,⟨.struct [(0,39),(1,3),(2,3),(3,3)],4,48,[.slice none 0 0, .int .i64 0, .int .i64 0, .int .i64 0]⟩),
 (237,⟨.other,1,8,[.nilFunc]⟩),
 (238,⟨.other,1,8,[.nilFunc]⟩),
 (239,⟨.other,1,8,[.nilFunc]⟩),
 (240,⟨.map 3 4,1,8,[.map none]⟩),
 (241,⟨.other,1,8,[.nilFunc]⟩),
 (243,⟨.other,1,8,[.nilFunc]⟩),
 (244,⟨.other,1,8,[.nilFunc]⟩),
 (245,⟨.other,1,8,[.nilFunc]⟩),
 (247,⟨.other,1,8,[.nilFunc]⟩),
 (248,⟨.other,1,8,[.nilFunc]⟩),
 (249,⟨.other,1,8,[.nilFunc]⟩),
 (250,⟨.other,1,8,[.nilFunc]⟩),
 (251,⟨.other,1,8,[.nilFunc]⟩),
 (252,⟨.slice 9,1,24,[.slice none 0 0]⟩),
 (253,⟨.other,1,8,[.nilFunc]⟩),
 (254,⟨.other,1,8,[.nilFunc]⟩),
 (255,⟨.slice 257,1,24,[.slice none 0 0]⟩),
 (256,⟨.struct [(0,3),(1,2),(2,9),(3,255)],4,56,[.int .i64 0, .int .i64 0, .string ⟨#[]⟩, .slice none 0 0]⟩),
 (257,⟨.struct [(0,3),(1,2),(2,9),(3,255)],4,56,[.int .i64 0, .int .i64 0, .string ⟨#[]⟩, .slice none 0 0]⟩),
 (258,⟨.struct [(0,3),(1,9),(2,257),(6,143),(7,143)],8,128,[.int .i64 0, .string ⟨#[]⟩, .int .i64 0, .int .i64 0, .string ⟨#[]⟩, .slice none 0 0, .slice none 0 0, .slice none 0 0]⟩),
 (259,⟨.struct [(0,3),(1,9),(2,257),(6,143),(7,143)],8,128,[.int .i64 0, .string ⟨#[]⟩, .int .i64 0, .int .i64 0, .string ⟨#[]⟩, .slice none 0 0, .slice none 0 0, .slice none 0 0]⟩),
 (260,⟨.other,1,8,[.nilFunc]⟩),
 (261,⟨.other,1,8,[.nilFunc]⟩),
 (262,⟨.other,1,8,[.nilFunc]⟩),
 (263,⟨.other,1,8,[.nilFunc]⟩),
 (264,⟨.pointer 293,1,8,[.pointer none]⟩),
 (266,⟨.other,1,8,[.nilFunc]⟩),
 (267,⟨.map 9 269,1,8,[.map none]⟩),
 (268,⟨.struct [(0,252),(1,252),(2,252)],3,72,[.slice none 0 0, .slice none 0 0, .slice none 0 0]⟩),
 (269,⟨.struct [(0,252),(1,252),(2,252)],3,72,[.slice none 0 0, .slice none 0 0, .slice none 0 0]⟩),
 (270,⟨.other,1,8,[.nilFunc]⟩),
 (271,⟨.struct [(0,9),(1,9),(2,9)],3,48,[.string ⟨#[]⟩, .string ⟨#[]⟩, .string ⟨#[]⟩]⟩),
 (272,⟨.struct [(0,9),(1,9),(2,9)],3,48,[.string ⟨#[]⟩, .string ⟨#[]⟩, .string ⟨#[]⟩]⟩),
 (273,⟨.pointer 9,1,8,[.pointer none]⟩),
 (274,⟨.struct [(0,252),(1,273)],2,32,[.slice none 0 0, .pointer none]⟩),
 (275,⟨.slice 274,1,24,[.slice none 0 0]⟩),
 (276,⟨.other,1,8,[.nilFunc]⟩),
 (277,⟨.other,1,8,[.nilFunc]⟩),
 (278,⟨.pointer 259,1,8,[.pointer none]⟩),
 (279,⟨.other,1,8,[.nilFunc]⟩),
 (280,⟨.other,1,8,[.nilFunc]⟩),
 (281,⟨.other,1,8,[.nilFunc]⟩),
 (282,⟨.other,1,8,[.nilFunc]⟩),
 (283,⟨.other,1,8,[.nilFunc]⟩),
 (286,⟨.other,1,8,[.nilFunc]⟩),
 (287,⟨.pointer 305,1,8,[.pointer none]⟩),
 (288,⟨.other,1,8,[.nilFunc]⟩),
 (289,⟨.other,1,8,[.nilFunc]⟩),
 (290,⟨.other,1,8,[.nilFunc]⟩),
 (291,⟨.other,1,8,[.nilFunc]⟩),
 (292,⟨.struct [(0,68),(1,150)],2,32,[.slice none 0 0, .map none]⟩),
 (293,⟨.struct [(0,68),(1,150)],2,32,[.slice none 0 0, .map none]⟩),
 (295,⟨.slice 218,1,24,[.slice none 0 0]⟩),
 (296,⟨.slice 153,1,24,[.slice none 0 0]⟩),
 (297,⟨.other,1,8,[.nilFunc]⟩),
 (298,⟨.other,1,8,[.nilFunc]⟩),
 (299,⟨.pointer 257,1,8,[.pointer none]⟩),
 (301,⟨.other,1,8,[.nilFunc]⟩),
 (302,⟨.other,1,8,[.nilFunc]⟩),
 (303,⟨.other,1,8,[.nilFunc]⟩),
 (304,⟨.struct [(0,9),(1,9),(2,206)],3,48,[.string ⟨#[]⟩, .string ⟨#[]⟩, .nilIface]⟩),
 (305,⟨.struct [(0,9),(1,9),(2,206)],3,48,[.string ⟨#[]⟩, .string ⟨#[]⟩, .nilIface]⟩),
 (306,⟨.other,1,8,[.nilFunc]⟩),
 (307,⟨.other,1,8,[.nilFunc]⟩),
 (308,⟨.other,1,8,[.nilFunc]⟩),
 (309,⟨.other,1,8,[.nilFunc]⟩),
 (310,⟨.other,1,8,[.nilFunc]⟩),
 (311,⟨.other,1,8,[.nilFunc]⟩),
 (312,⟨.pointer 316,1,8,[.pointer none]⟩),
 (313,⟨.map 9 141,1,8,[.map none]⟩),
 (314,⟨.slice 313,1,24,[.slice none 0 0]⟩),
 (315,⟨.struct [(0,264),(1,153),(2,314)],3,40,[.pointer none, .pointer none, .slice none 0 0]⟩),
 (316,⟨.struct [(0,264),(1,153),(2,314)],3,40,[.pointer none, .pointer none, .slice none 0 0]⟩),
 (317,⟨.other,1,8,[.nilFunc]⟩),
 (318,⟨.other,1,8,[.nilFunc]⟩),
 (319,⟨.pointer 269,1,8,[.pointer none]⟩),
 (320,⟨.other,1,8,[.nilFunc]⟩),
 (322,⟨.pointer 5,1,8,[.pointer none]⟩),
 (323,⟨.pointer 325,1,8,[.pointer none]⟩),
 (324,⟨.struct [(0,9)],1,16,[.string ⟨#[]⟩]⟩),
 (325,⟨.struct [(0,9)],1,16,[.string ⟨#[]⟩]⟩),
 (326,⟨.slice 329,1,24,[.slice none 0 0]⟩),
 (327,⟨.other,1,8,[.nilFunc]⟩),
 (328,⟨.struct [(0,149),(1,4)],2,16,[.map none, .bool false]⟩),
 (329,⟨.struct [(0,149),(1,4)],2,16,[.map none, .bool false]⟩),
 (330,⟨.other,1,8,[.nilFunc]⟩),
 (331,⟨.other,1,8,[.nilFunc]⟩),
 (332,⟨.other,1,8,[.nilFunc]⟩),
 (333,⟨.other,1,8,[.nilFunc]⟩),
 (335,⟨.other,1,8,[.nilFunc]⟩),
 (337,⟨.other,1,8,[.nilFunc]⟩),
 (338,⟨.other,1,8,[.nilFunc]⟩),
 (340,⟨.other,1,8,[.nilFunc]⟩),
 (341,⟨.other,1,8,[.nilFunc]⟩),
 (343,⟨.other,1,8,[.nilFunc]⟩),
 (344,⟨.int .u32,1,4,[.int .u32 0]⟩),
 (346,⟨.other,1,8,[.nilFunc]⟩),
 (347,⟨.other,1,8,[.nilFunc]⟩),
 (348,⟨.other,1,8,[.nilFunc]⟩),
 (350,⟨.other,1,8,[.nilFunc]⟩),
 (351,⟨.other,1,8,[.nilFunc]⟩),
 (352,⟨.other,1,8,[.nilFunc]⟩),
 (355,⟨.other,1,8,[.nilFunc]⟩),
 (356,⟨.other,1,8,[.nilFunc]⟩),
 (366,⟨.other,1,8,[.nilFunc]⟩),
 (369,⟨.struct [(0,12),(1,12),(2,344),(3,364),(4,5),(5,5),(6,365),(7,366),(8,322),(9,367),(10,368)],11,48,[.int .u64 0, .int .u64 0, .int .u32 0, .int .u8 0, .int .u8 0, .int .u8 0, .int .u8 0, .nilFunc, .pointer none, .int .i32 0, .int .i32 0]⟩)
]
theorem aHM:∀p∈A6,jC Tryz.prog p.1 p.2:=by
 unfold A6
 repeat(refine BS.2 ⟨⟨b7,b7⟩,?_⟩)
 simp
instance:eT Tryz.prog:=⟨A6,aHM⟩
end
namespace Ver
open ImgM
def plain(t:Int):Bool:=decide (t=1)||decide (t=2)
def isUnit(M:aL)(i kind:Int):Bool:=decide (0≤i)&&decide (i<(M.aJ.length:Int))&&decide ((M.aJ.getD i.toNat default).kind=kind)
def handle(M:aL)(t:Int):Bool:=decide (10≤t)&&isUnit M (t-10) 3
def kG(b:Bool):Int:=if b then 0 else 3
def eV(M:aL)(u:bM)(i:aT):Int:=
 if i.op=2 then kG (decide (i.a=0)||decide (i.a=1))
 else if i.op=3∨i.op=4 then kG (decide (0≤i.a)&&decide (i.a<(u.locals.length:Int)))
 else if i.op=21∨i.op=22 then kG (decide (0≤i.a)&&decide (i.a<(u.code.length:Int)))
 else if i.op=23 then kG (isUnit M i.a 2)
 else if i.op=29 then kG (isUnit M i.a 3)
 else if i.op=26∨i.op=27 then kG (decide (0≤i.a)&&decide (i.a<(M.boxes.length:Int)))
 else if i.op<1∨32<i.op then 1 else 0
def head(M:aL)(u:bM):Int:=
 if u.kind≠2∧u.kind≠3∧u.kind≠4 then 1
 else if 200<u.locals.length∨u.params<0∨6<u.params∨(u.locals.length:Int)<u.params∨(u.kind=4∧0<u.params)then 5
 else if u.code.length<1∨4000<u.code.length then 5
 else if(u.kind≠4∧plain u.result=false)∨(u.kind=3∧plain u.aP=false)then 9
 else if u.locals.any (fun t=>!plain t&& !handle M t)then 9
 else 0
structure kA where
 err:Int
 unit:Int
 at_:Int
deriving DecidableEq,Inhabited
def kA.ok:kA:=⟨0,0,0⟩
def boxes:Nat→List (Int×Int)→kA
 |_,[]=> .ok
 |i,b::r=>if plain b.1=false then⟨9,0,i⟩else if b.2<1∨20<b.2 then⟨3,0,i⟩else boxes (i+1) r
def qN(M:aL)(u:bM)(k:Nat):Nat→List aT→kA
 |_,[]=> .ok
 |j,i::r=>if eV M u i≠0 then⟨eV M u i,k,j⟩else qN M u k (j+1) r
def unit(M:aL)(k:Nat)(u:bM):kA:=if head M u≠0 then⟨head M u,k,0⟩else qN M u k 0 u.code
def aJ(M:aL):Nat→List bM→kA
 |_,[]=> .ok
 |k,u::r=>if(unit M k u).err≠0 then unit M k u else aJ M (k+1) r
def form(M:aL):kA:=
 if 30<M.boxes.length∨30<M.aJ.length then⟨5,0,0⟩
 else if(boxes 0 M.boxes).err≠0 then boxes 0 M.boxes
 else if(aJ M 0 M.aJ).err≠0 then aJ M 0 M.aJ
 else if(M.aJ.filter (fun u=>decide (u.kind=4))).length=0 then⟨6,0,0⟩
 else .ok
abbrev Shape:=List Int×List Bool
structure aZ where
 at_:List (Int×Shape)
 todo:List Int
 stack:List Int
 has:List Bool
 err:Int
deriving Inhabited,DecidableEq
def find(l:List (Int×Shape))(k:Int):Option Shape:=(l.find? (fun p=>decide (p.1=k))).map (·.2)
def put:List (Int×Shape)→Int→Shape→List (Int×Shape)
 |[],k,s=>[(k,s)]
 |p::r,k,s=>if p.1=k then(p.1,s)::r else p::put r k s
def fail(e:Int)(f:aZ):aZ:=if f.err=0 then{f with err:=e}else f
def push(t:Int)(f:aZ):aZ:=if 300<f.stack.length+1 then fail 4 {f with stack:=f.stack ++[t]}else{f with stack:=f.stack ++[t]}
def pop(f:aZ):Int×aZ:=if f.stack.length=0 then(0,fail 12 f)else(f.stack.getD (f.stack.length-1) 0,{f with stack:=f.stack.take (f.stack.length-1)})
def lX(t:Int)(f:aZ):aZ:=if(pop f).1≠t then fail 9 (pop f).2 else(pop f).2
def want(l:List Int)(f:aZ):aZ:=l.foldr lX f
def meet:List Bool→List Bool→List Bool
 |a::r,b::s=>(a&&b)::meet r s
 |_,_=>[]
def to(n:Nat)(p:Int)(f:aZ):aZ:=
 if f.err≠0 then f
 else if p=(n:Int)then fail 3 f
 else match find f.at_ p with
  |none=>{f with at_:=f.at_ ++[(p,(f.stack,f.has))],todo:=f.todo ++[p]}
  |some s=>if s.1≠f.stack then fail 8 f else if meet s.2 f.has=s.2 then f else{f with at_:=put f.at_ p (s.1,meet s.2 f.has),todo:=f.todo ++[p]}
def args(M:aL)(k:Int)(f:aZ):aZ:=want ((M.aJ.getD k.toNat default).locals.take (M.aJ.getD k.toNat default).params.toNat) f
def gen(M:aL)(f:aZ):Option Int×aZ:=
 if(pop f).2.err≠0 then(none,(pop f).2)
 else if handle M (pop f).1=false then(none,fail 9 (pop f).2)
 else(some ((pop f).1-10),(pop f).2)
def done(f:aZ):aZ:=if f.stack.length=0 then f else fail 12 f
def eP(M:aL)(u:bM)(i:aT)(f:aZ):Bool×aZ:=
 if i.op=23 then(true,push (M.aJ.getD i.a.toNat default).result (args M i.a f))
 else if i.op=29 then(true,push (10+i.a) (args M i.a f))
 else if i.op=24 then(false,done (want [u.result] (if u.kind≠2 then fail 8 f else f)))
 else if i.op=25 then(false,done (if u.kind=2 then fail 8 f else f))
 else if i.op=26 then(true,want [(M.boxes.getD i.a.toNat default).1] f)
 else if i.op=27 then(true,push (M.boxes.getD i.a.toNat default).1 f)
 else if i.op=28 then(true,if(pop f).2.err=0∧plain (pop f).1=false then fail 9 (pop f).2 else(pop f).2)
 else if i.op=30 then(true,match gen M (pop f).2 with
  |(none,g)=>g
  |(some k,g)=>push (M.aJ.getD k.toNat default).result (if(pop f).1≠(M.aJ.getD k.toNat default).aP then fail 9 g else g))
 else if i.op=31 then(true,push u.aP (want [u.result] (if u.kind≠3 then fail 8 f else f)))
 else if i.op=32 then(true,push 2 (gen M f).2)
 else(true,f)
def step(M:aL)(u:bM)(i:aT)(f:aZ):Bool×aZ:=
 if i.op=1 then(true,push 1 f)
 else if i.op=2 then(true,push 2 f)
 else if i.op=3 then(true,push (u.locals.getD i.a.toNat 0) (if f.has.getD i.a.toNat false then f else fail 11 f))
 else if i.op=4 then(true,{want [u.locals.getD i.a.toNat 0] f with has:=(want [u.locals.getD i.a.toNat 0] f).has.set i.a.toNat true})
 else if i.op=5 then(true,(pop f).2)
 else if i.op=6 then(true,push 1 (want [1] f))
 else if i.op=7 then(true,push 2 (want [2] f))
 else if 8≤i.op∧i.op≤12 then(true,push 1 (want [1,1] f))
 else if i.op=13∨i.op=14 then(true,push 2 (want [(pop f).1] (if(pop f).1≠1∧(pop f).1≠2 then fail 9 (pop f).2 else(pop f).2)))
 else if 15≤i.op∧i.op≤18 then(true,push 2 (want [1,1] f))
 else if i.op=19∨i.op=20 then(true,push 2 (want [2,2] f))
 else if i.op=21 then(false,to u.code.length i.a f)
 else if i.op=22 then(true,to u.code.length i.a (want [2] f))
 else eP M u i f
def round(M:aL)(u:bM)(p:Int)(r:List Int)(f:aZ):aZ:=
 let s:=(find f.at_ p).getD ([],[])
 let g:=step M u (u.code.getD p.toNat default) {f with todo:=r,stack:=s.1,has:=s.2}
 if g.1 then to u.code.length (p+1) g.2 else g.2
def run(M:aL)(u:bM)(k:Nat):Nat→aZ→kA
 |0,_=> .ok
 |n+1,f=>match f.todo with
  |[]=> .ok
  |p::r=>if(round M u p r f).err≠0 then⟨(round M u p r f).err,k,p⟩else run M u k n (round M u p r f)
def CS(u:bM):Nat:=2*(u.code.length*(u.locals.length+1))+1
def start(u:bM):aZ:=to u.code.length 0 ⟨[],[],[],(List.replicate u.params.toNat true ++List.replicate (u.locals.length-u.params.toNat) false),0⟩
def code(M:aL)(k:Nat):kA:=run M (M.aJ.getD k default) k (CS (M.aJ.getD k default)) (start (M.aJ.getD k default))
def mU(M:aL):Nat→Nat→kA
 |_,0=> .ok
 |k,n+1=>if(code M k).err≠0 then code M k else mU M (k+1) n
def calls(l:List aT)(out:List Int):List Int:=l.foldl (fun out i=>if(i.op=23∨i.op=29)∧i.a∉out then out ++[i.a]else out) out
def pX(M:aL):Nat→Nat→List Int→List Int
 |0,_,out=>out
 |n+1,k,out=>if k<out.length then pX M n (k+1) (calls (M.aJ.getD (out.getD k 0).toNat default).code out)else out
def reach(M:aL)(task:Nat):List Int:=pX M (M.aJ.length+1) 0 [(task:Int)]
def BF(M:aL)(op b:Int)(task:Nat):Bool:=(reach M task).any fun x=>(M.aJ.getD x.toNat default).code.any fun i=>decide (i.op=op)&&decide (i.a=b)
def lI(M:aL)(op b:Int):Nat:=((List.range M.aJ.length).filter fun k=>decide ((M.aJ.getD k default).kind=4)&&BF M op b k).length
def owned(M:aL):Nat→Nat→kA
 |_,0=> .ok
 |b,n+1=>if 1<lI M 26 b∨1<lI M 27 b then⟨8,0,b⟩else owned M (b+1) n
def verify(M:aL):kA:=
 if(form M).err≠0 then form M
 else if(mU M 0 M.aJ.length).err≠0 then mU M 0 M.aJ.length
 else owned M 0 M.boxes.length
end Ver
end Go.Proofs.YtofckcabpchcmaaGreatDoor
