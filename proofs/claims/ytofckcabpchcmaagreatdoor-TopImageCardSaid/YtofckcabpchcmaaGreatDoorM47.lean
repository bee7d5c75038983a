/- image's reader, on bytes that were written: counts, units. -/
import Derived.Test.YtofckcabpchcmaaGreatDoorM46
set_option linter.unusedVariables false
set_option linter.unusedSimpArgs false
set_option linter.unusedSectionVars false
set_option maxRecDepth 100000
namespace Go.Proofs.YtofckcabpchcmaaGreatDoor
namespace Vw
open Go.RowKit Img
section
attribute [local irreducible] aE aG End aB Still aN aU RunT Fn aS
theorem uJ(C:Chunk)(hx:C.bE=false)(rb:Nat)(ao:Option Addr)(cap:Nat)(v:Int)(hv:ImgM.In64 v)(rest:List Nat)(hrl:rest.length≤100000)(hT:Tl C eQ ao cap (ImgM.num v ++rest)):
  Fn Tryz.prog 42 #[ptr rb] [C] [aF rb [.slice ao (ImgM.num v ++rest).length cap] 121] (σ:=Option Addr×Nat) (fun s=>Tl C eQ s.1 s.2 rest) (fun _=> .int .i64 v) (fun s=>[aF rb [.slice s.1 rest.length s.2] 121]):=by
 refine Fn.enter (args:=[ptr rb]) Tryz.func42 rfl _ Tryz.ntmps42 rfl (by simp[hx]) (fun w S=>?_);refine Jn ?_
 repeat(refine Jy ?_;try first|intro ao cap|intro b)
 (refine Jc ?_;refine aB.bA (spec:=MW C hx rb ao cap v hv rest hrl hT) (r:=(fun w=>Reads.any (tk) hx .nil)) (k:=?_);intro s hs;refine Jn ?_)
 repeat(refine Jy ?_;try first|intro ao cap|intro b)
 refine cL s ?_;exact hs
theorem GQ(C:Chunk)(hx:C.bE=false)(rb:Nat)(ao:Option Addr)(cap:Nat)(n least:Nat)(h1:1≤least)(h6:least≤6)(rest:List Nat)(hrl:rest.length≤100000)(hn:n*least≤rest.length)(hT:Tl C eQ ao cap (ImgM.num (n:Int) ++rest)):
  Fn Tryz.prog 41 #[ptr rb, .int .i64 least] [C] [aF rb [.slice ao (ImgM.num (n:Int) ++rest).length cap] 121] (σ:=Option Addr×Nat) (fun s=>Tl C eQ s.1 s.2 rest) (fun _=> .int .i64 n) (fun s=>[aF rb [.slice s.1 rest.length s.2] 121]):=by
 have hnl:n≤rest.length:=dP (Nat.le_mul_of_pos_right _ aA) hn;have hq:(n:Int)≤((rest.length:Int)).tdiv (least:Int):=by
  rw[D9 aA];have:n≤rest.length/least:=(Nat.le_div_iff_mul_le aA).2 hn;have e:((rest.length/least:Nat):Int)=(rest.length:Int)/(least:Int):=aW;omega
 refine Fn.enter (args:=[ptr rb, .int .i64 least]) Tryz.func41 rfl _ Tryz.ntmps41 rfl (by simp[hx]) (fun w S=>?_);refine Jn ?_
 repeat(refine Jy ?_;try first|intro ao cap|intro b)
 (refine Jc ?_;refine aB.bA (spec:=MW C hx rb ao cap (n:Int) (by unfold ImgM.In64;omega) rest hrl hT) (r:=(fun w=>Reads.any (tk) hx .nil)) (k:=?_);intro s hs;refine Jn ?_)
 repeat(refine Jy ?_;try first|intro ao cap|intro b)
 obtain⟨q,hqe⟩:∃q,q=((rest.length:Int)).tdiv (least:Int):=⟨_,rfl⟩;have hq2:0≤q∧q≤100000:=by
  rw[hqe,D9 aA];have e:((rest.length/least:Nat):Int)=(rest.length:Int)/(least:Int):=aW;have:rest.length/least≤rest.length:=Nat.div_le_self _ _;rw[←e];generalize rest.length/least=z at *;omega
 rw[←hqe]at hq;refine aE.eE (h:=?_);refine aB.bP (h:=Still.quo (z:=q) rfl rfl aA (by rw[←hqe,IntKind.wrap_i64];omega)) (k:=?_)
 repeat(refine Jy ?_;try first|intro ao cap|intro b)
 refine cL s ?_;exact hs
end
section
def yL(r:Int):Int:=if r/32768=1 then bits .xor .u16 (IntKind.u16.wrap (r*2)) 4129 else IntKind.u16.wrap (r*2)
def rU:Nat→Int→Int
 |0,r=>r
 |j+1,r=>yL (rU j r)
def A4(r:Int)(c:Nat):Int:=rU 8 (bits .xor .u16 r (IntKind.u16.wrap (IntKind.u16.wrap (c:Int)*256)))
def kI(l:List Nat):Int:=l.foldl A4 65535
theorem ZQ(n:Int):0≤IntKind.u16.wrap n∧IntKind.u16.wrap n<65536:=by
 have:IntKind.u16.wrap n=n % 65536:=by simp[IntKind.wrap,IntKind.bits,IntKind.signed]
 omega
theorem aAE(o:BinOp)(a b:Int):0≤bits o .u16 a b∧bits o .u16 a b<65536:=ZQ _
theorem aHL(r:Int):0≤yL r∧yL r<65536:=by
 unfold yL
 split
 ·exact aAE ..
 ·exact ZQ _
theorem XM(l:List Nat):0≤kI l∧kI l<65536:=by
 have key:∀(l:List Nat) (r:Int),0≤r∧r<65536→0≤l.foldl A4 r∧l.foldl A4 r<65536:=fun l=>by
  induction l with
  |nil=>exact fun r h=>h
  |cons c l ih=>exact fun r _=>ih _ (aHL _)
 exact key l _ ⟨aK,aK⟩
attribute [local irreducible] aE aG End aB Still aN aU RunT Fn aS
attribute [local irreducible] yL rU A4 kI bits
theorem XN(bo:Option Addr)(bc:Nat)(l:List Nat)(hl:l.length≤1000000000):Fn Tryz.prog 39 #[.slice bo l.length bc] [rd bo l.length bc eQ l] [] (σ:=Unit) (fun _=>True) (fun _=> .int .u16 (kI l)) (fun _=>[]):=by
 refine JE [.slice bo l.length bc] Tryz.func39 Tryz.ntmps39 fun w S=>?_;refine Jn ?_
 repeat(refine Jy ?_;try first|intro ao cap|intro b)
 rw[show(65535:Int)=kI (l.take 0) by unfold kI;rfl];refine cK (σ:=Nat) (fun k=>k≤l.length) (fun k=>[(3, .int .u16 (kI (l.take k))),(7, .slice bo l.length bc),(8, .int .i64 l.length),(9, .int .i64 k)]) (fun k=>[aO w S,rd bo l.length bc eQ l]) (fun k=>l.length-k) 0 ?_ fun k hk K1 hK1=>?_
 ·exact bQ _
 refine Jn ?_
 by_cases hkn:k<l.length
 ·have hsu:kI (l.take (k+1))=A4 (kI (l.take k)) (l.getD k default):=by
   rw[Jp hkn];unfold kI;rw[List.foldl_append,Jd,Je hkn];rfl
  obtain⟨r0,hr0⟩:∃r,r=kI (l.take k):=⟨_,rfl⟩;rw[←hr0]at hsu⊢
  repeat(refine Jy ?_;try first|intro ao cap|intro b)
  obtain⟨r1,hr1⟩:∃r,r=bits .xor .u16 r0 (IntKind.u16.wrap (IntKind.u16.wrap ((l.getD k default:Nat):Int)*256)):=⟨_,rfl⟩;have hsu:kI (l.take (k+1))=rU 8 r1:=by rw[hsu,hr1];unfold A4;rfl
  apply aE.op aV;refine aB.bP (h:=Still.shl (z:=IntKind.u16.wrap (IntKind.u16.wrap ((l.getD k default:Nat):Int)*256)) rfl rfl aK rfl) (k:=?_);apply aE.op aV;refine aB.bP (v:= .int .u16 r1) (h:=by rw[hr1];exact Still.EM rfl rfl) (k:=?_)
  repeat(refine Jy ?_;try first|intro ao cap|intro b)
  rw[show r1=rU 0 r1 by unfold rU;rfl];refine cK (σ:=Nat) (fun j=>j≤8) (fun j=>[(3, .int .u16 (rU j r1)),(7, .slice bo l.length bc),(8, .int .i64 l.length),(9, .int .i64 k),(18, .int .i64 j)]) (fun j=>[aO w S,rd bo l.length bc eQ l]) (fun j=>8-j) 0 ?_ fun j hj K2 hK2=>?_
  ·exact bQ _
  refine Jn ?_
  by_cases hj8:j<8
  ·have hs8:rU (j+1) r1=yL (rU j r1):=by rw[rU]
   generalize rU j r1=q at hs8⊢;unfold yL at hs8
   repeat(refine Jy ?_;try first|intro ao cap|intro b)
   apply aE.op aV;refine aB.bP (h:=Still.shr (z:=q/32768) rfl rfl aK (by show q.fdiv 32768=_;exact BQ _ aK)) (k:=?_)
   repeat(refine Jy ?_;try first|intro ao cap|intro b)
   apply aE.op aV;refine aB.bP (h:=Still.shl (z:=IntKind.u16.wrap (q*2)) rfl rfl aK rfl) (k:=?_)
   by_cases ht:q/32768=1
   ·rw[if_pos ht]at hs8
    repeat(refine Jy ?_;try first|intro ao cap|intro b)
    apply aE.op aV;refine aB.bP (h:=Still.EM rfl rfl) (k:=?_)
    repeat(refine Jy ?_;try first|intro ao cap|intro b)
    rw[←hs8];refine End.bK hK2 (j+1) ?_ ?_
    ·omega
    ·omega
   ·rw[if_neg ht]at hs8
    repeat(refine Jy ?_;try first|intro ao cap|intro b)
    rw[←hs8];refine End.bK hK2 (j+1) ?_ ?_
    ·omega
    ·omega
  ·obtain rfl:j=8:=aA
   repeat(refine Jy ?_;try first|intro ao cap|intro b)
   rw[←hsu];refine End.bK hK1 (k+1) ?_ ?_
   ·omega
   ·omega
 ·repeat(refine Jy ?_;try first|intro ao cap|intro b)
  rw[kN aA];exact fZ ()
end
section
theorem aF0(x:ImgM.aT)(w:World):(Op.equalIn 10000 113 (.agg (dB x).toArray) (.agg (dB x).toArray)).run Tryz.prog w= .ok true w:=by
 have u3:=Tryz.underlying3;have a3:=Tryz.isAgg3;have z3:=Tryz.sizeOf3;have u4:=Tryz.underlying2;have a4:=Tryz.isAgg2;have hS:Tryz.prog.underlying 113=some (.struct (Tryz.prog.fieldsOf 113)):=b7;have hp:Tryz.prog.stoodInHeld 113=false:=b7;obtain⟨a,b,c⟩:=x;simp only[dB];rw[show(10000:Nat)=9999+1 from rfl,run_equalIn_agg w 9999 113 _ _ hS hp];simp only[Program.fieldsOf,Tryz.underlying113]
 go_simp
theorem aFW(x:Int×Int)(w:World):(Op.equalIn 10000 91 (.agg (jE x).toArray) (.agg (jE x).toArray)).run Tryz.prog w= .ok true w:=by
 have u3:=Tryz.underlying3;have a3:=Tryz.isAgg3;have z3:=Tryz.sizeOf3;have hS:Tryz.prog.underlying 91=some (.struct (Tryz.prog.fieldsOf 91)):=b7;have hp:Tryz.prog.stoodInHeld 91=false:=b7;obtain⟨a,b⟩:=x;simp only[jE];rw[show(10000:Nat)=9999+1 from rfl,run_equalIn_agg w 9999 91 _ _ hS hp];simp only[Program.fieldsOf,Tryz.underlying91]
 go_simp
section
variable{N:Nd}{E:Env}{L:List Chunk}{dst:Option Tmp}{ty:TypeId}{pos:String}{aft:Array Edge}{g:Option (Nat×Bool)}
theorem Still.aDc{x y:Operand}{a:ImgM.aT}{v v':Value}(hx:ev E x=some v)(hy:ev E y=some v')(h1:v= .agg (dB a).toArray)(h2:v'= .agg (dB a).toArray):Still Tryz.prog N ⟨dst, .binOp .neq 113 x y 113,ty,pos,aft,g⟩ E L (.bool false):=fun A w hs _=>by
 subst h1 h2;have hg:=run_eqGuard_agg (P:=Tryz.prog) w .neq 113 x y (dB a).toArray (dB a).toArray b7;simp[execOp,hs.ev hx,hs.ev hy,hg,run_neq_struct,aF0]
theorem Still.aD9{x y:Operand}{a:Int×Int}{v v':Value}(hx:ev E x=some v)(hy:ev E y=some v')(h1:v= .agg (jE a).toArray)(h2:v'= .agg (jE a).toArray):Still Tryz.prog N ⟨dst, .binOp .neq 91 x y 91,ty,pos,aft,g⟩ E L (.bool false):=fun A w hs _=>by
 subst h1 h2;have hg:=run_eqGuard_agg (P:=Tryz.prog) w .neq 91 x y (jE a).toArray (jE a).toArray b7;simp[execOp,hs.ev hx,hs.ev hy,hg,run_neq_struct,aFW]
end
attribute [local irreducible] aE aG End aB Still aN aU RunT Fn aS
theorem aFk(ao bo:Option Addr)(n ac bc:Nat)(l:List Int)(hn:l.length=n)(hm:n≤1000000000):Fn Tryz.prog 44 #[.slice ao n ac, .slice bo n bc] [rd ao n ac aY l,rd bo n bc aY l] [] (σ:=Unit) (fun _=>True) (fun _=> .bool true) (fun _=>[]):=by
 refine JE [.slice ao n ac, .slice bo n bc] Tryz.func44 Tryz.ntmps44 fun w S=>?_;refine Jn ?_
 repeat(refine Jy ?_;try first|intro ao cap|intro b)
 refine kS (σ:=Nat) (fun k=>k≤n) (fun k=>[(0, .slice ao n ac),(1, .slice bo n bc),(12, .int .i64 n),(13, .int .i64 k)]) (fun k=>[aO w S,rd ao n ac aY l,rd bo n bc aY l]) (fun k=>n-k) 0 ?_ fun k hk K1 hK1=>?_
 ·exact bQ _
 refine Jn ?_
 by_cases hkn:k<n
 ·repeat(refine Jy ?_;try first|intro ao cap|intro b)
  refine End.bK hK1 (k+1) ?_ ?_
  ·omega
  ·omega
 ·repeat(refine Jy ?_;try first|intro ao cap|intro b)
  exact fZ ()
theorem LK{w:World}{L L':List Chunk}{m:ML}{k:Nat}(hk:k<m.us.length){u:ImgM.bM}(hu:(m.us.getD k default).u=u)(t:Take (md m) L L')(h:Mem w L):Mem w (rd (m.us.getD k default).lo u.locals.length (m.us.getD k default).lc aY u.locals::rd (m.us.getD k default).co u.code.length (m.us.getD k default).cc dB u.code::L):=by
 subst hu;have h1:=h.dup t (c':=rd (m.us.getD k default).co (m.us.getD k default).u.code.length (m.us.getD k default).cc dB (m.us.getD k default).u.code) eO (jJ.2 ⟨(nI.1 (h.has t)).code _ (ML.lW hk),rfl⟩) (fun b hb=>x5.2 (.inr (.inr ⟨_,ML.lW hk, .inr (iZ.1 hb)⟩))) mH;exact h1.dup (.tail t) (c':=rd (m.us.getD k default).lo (m.us.getD k default).u.locals.length (m.us.getD k default).lc aY (m.us.getD k default).u.locals) eO (jJ.2 ⟨(nI.1 (h.has t)).locals _ (ML.lW hk),rfl⟩) (fun b hb=>x5.2 (.inr (.inr ⟨_,ML.lW hk, .inl (iZ.1 hb)⟩))) mH
abbrev HG(x:UC)(u:ImgM.bM):List Value:=[.int .i64 u.kind, .int .i64 u.params, .slice x.lo u.locals.length x.lc, .int .i64 u.result, .int .i64 u.aP, .slice x.co u.code.length x.cc]
set_option maxHeartbeats 2000000 in
theorem aFl(m1 m2:ML)(h:m1.aC=m2.aC)(hwa:m1.bx.length≤1000∧m1.us.length≤1000∧∀k,k<m1.us.length→(m1.us.getD k default).u.locals.length≤1000000∧(m1.us.getD k default).u.code.length≤1000000):Fn Tryz.prog 17 #[m1.val,m2.val] [md m1,md m2] [] (σ:=Unit) (fun _=>True) (fun _=> .bool true) (fun _=>[]):=by
 obtain⟨h1,h2,h3⟩:=hwa;have e1:m2.bx=m1.bx:=(congrArg ImgM.aL.boxes h).symm;have e2:m1.us.map (·.u)=m2.us.map (·.u):=congrArg ImgM.aL.aJ h;have e3:m2.us.length=m1.us.length:=by have:=congrArg List.length e2;simpa using this.symm
 have e4:∀k,(m2.us.getD k default).u=(m1.us.getD k default).u:=fun k=>by rw[←sO,←sO,e2]
 clear h e2;refine JE [m1.val,m2.val] Tryz.func17 Tryz.ntmps17 fun w S=>?_;refine Jn ?_;refine aG.imp (fun w hm=>hm.dup (c:=md m2) (c':=rd m2.bo m2.bx.length m2.bc jE m2.bx) tk eO (jJ.2 ⟨(nI.1 (hm.has tk)).boxes,rfl⟩) (fun b hb=>x5.2 (.inl (iZ.1 hb))) mH) ?_;have hvb:m2.val= .agg #[.slice m2.bo m1.bx.length m2.bc, .slice m2.uo m2.us.length m2.uc]:=by show Value.agg _=_;rw[e1]
 rw[hvb,e1]
 repeat(refine Jy ?_;try first|intro ao cap|intro b)
 obtain⟨b2,rfl⟩:=a7 b;obtain⟨b1,rfl⟩:=a7 b;refine kS (σ:=Nat) (fun k=>k≤m1.bx.length) (fun k=>[(2,ptr b1),(3,ptr b2),(28, .int .i64 m1.bx.length),(29, .int .i64 k)]) (fun k=>[aO w S,md m1,md m2,aF b1 [.slice m1.bo m1.bx.length m1.bc, .slice m1.uo m1.us.length m1.uc] 26,aF b2 [.slice m2.bo m1.bx.length m2.bc, .slice m2.uo m2.us.length m2.uc] 26,rd m2.bo m1.bx.length m2.bc jE m1.bx]) (fun k=>m1.bx.length-k) 0 ?_ fun k hk K1 hK1=>?_
 ·exact bQ _
 refine Jn ?_
 by_cases hkn:k<m1.bx.length
 ·repeat(refine Jy ?_;try first|intro ao cap|intro b)
  refine aN.bP (h:=by exact Still.aD9 (a:=m1.bx.getD k default) rfl rfl rfl rfl) (k:=?_)
  repeat(refine Jy ?_;try first|intro ao cap|intro b)
  refine End.bK hK1 (k+1) ?_ ?_
  ·omega
  ·omega
 ·clear hK1
  repeat(refine Jy ?_;try first|intro ao cap|intro b)
  refine cK (σ:=Nat) (fun k=>k≤m1.us.length) (fun k=>[(2,ptr b1),(3,ptr b2),(46, .int .i64 m1.us.length),(47, .int .i64 k)]) (fun k=>[aO w S,md m1,md m2,aF b1 [.slice m1.bo m1.bx.length m1.bc, .slice m1.uo m1.us.length m1.uc] 26,aF b2 [.slice m2.bo m1.bx.length m2.bc, .slice m2.uo m2.us.length m2.uc] 26]) (fun k=>m1.us.length-k) 0 ?_ fun q hq K1 hK1=>?_
  ·exact bQ _
  refine Jn ?_
  by_cases hqn:q<m1.us.length
  ·have hu:=e4 q;obtain⟨h31,h32⟩:=h3 q hqn;refine aG.imp (fun w hm=>LK (m:=m2) (k:=q) aA hu tk hm) ?_;generalize hU:(m1.us.getD q default).u=u at *;refine aG.imp (fun w hm=>LK (m:=m1) (k:=q) hqn hU tk hm) ?_
   repeat(refine Jy ?_;try first|intro ao cap|intro b)
   refine CA (σ:=Nat×Nat) (fun _=>True) (fun s=>[(2,ptr b1),(3,ptr b2),(46, .int .i64 m1.us.length),(47, .int .i64 q),(7,ptr s.1),(8,ptr s.2)]) (fun s=>[aO w S,md m1,md m2,aF b1 [.slice m1.bo m1.bx.length m1.bc, .slice m1.uo m1.us.length m1.uc] 26,aF b2 [.slice m2.bo m1.bx.length m2.bc, .slice m2.uo m2.us.length m2.uc] 26,rd (m1.us.getD q default).lo u.locals.length (m1.us.getD q default).lc aY u.locals,rd (m1.us.getD q default).co u.code.length (m1.us.getD q default).cc dB u.code,rd (m2.us.getD q default).lo u.locals.length (m2.us.getD q default).lc aY u.locals,rd (m2.us.getD q default).co u.code.length (m2.us.getD q default).cc dB u.code,aF s.1 (HG (m1.us.getD q default) u) 88,aF s.2 (HG (m2.us.getD q default) u) 88]) ?_ ?_
   ·rintro⟨xb,yb⟩ -;dsimp only
    repeat(refine Jy ?_;try first|intro ao cap|intro b)
    refine dV (aFk (m1.us.getD q default).lo (m2.us.getD q default).lo u.locals.length (m1.us.getD q default).lc (m2.us.getD q default).lc u.locals rfl aA) fun s hs=>?_
    repeat(refine Jy ?_;try first|intro ao cap|intro b)
    refine cK (σ:=Nat) (fun k=>k≤u.code.length) (fun k=>[(2,ptr b1),(3,ptr b2),(46, .int .i64 m1.us.length),(47, .int .i64 q),(7,ptr xb),(8,ptr yb),(105, .int .i64 u.code.length),(106, .int .i64 k)]) (fun k=>[aO w S,md m1,md m2,aF b1 [.slice m1.bo m1.bx.length m1.bc, .slice m1.uo m1.us.length m1.uc] 26,aF b2 [.slice m2.bo m1.bx.length m2.bc, .slice m2.uo m2.us.length m2.uc] 26,rd (m1.us.getD q default).lo u.locals.length (m1.us.getD q default).lc aY u.locals,rd (m1.us.getD q default).co u.code.length (m1.us.getD q default).cc dB u.code,rd (m2.us.getD q default).lo u.locals.length (m2.us.getD q default).lc aY u.locals,rd (m2.us.getD q default).co u.code.length (m2.us.getD q default).cc dB u.code,aF xb (HG (m1.us.getD q default) u) 88,aF yb (HG (m2.us.getD q default) u) 88]) (fun k=>u.code.length-k) 0 ?_ fun k hk K2 hK2=>?_
    ·exact bQ _
    refine Jn ?_
    by_cases hkn:k<u.code.length
    ·repeat(refine Jy ?_;try first|intro ao cap|intro b)
     refine aN.bP (h:=by exact Still.aDc (a:=u.code.getD k default) rfl rfl rfl rfl) (k:=?_)
     repeat(refine Jy ?_;try first|intro ao cap|intro b)
     refine End.bK hK2 (k+1) ?_ ?_
     ·omega
     ·omega
    ·repeat(refine Jy ?_;try first|intro ao cap|intro b)
     refine End.bK hK1 (q+1) ?_ ?_
     ·omega
     ·omega
   ·intro K hK;refine b8 13 [aO w S,md m1,md m2,aF b1 [.slice m1.bo m1.bx.length m1.bc, .slice m1.uo m1.us.length m1.uc] 26,aF b2 [.slice m2.bo m1.bx.length m2.bc, .slice m2.uo m2.us.length m2.uc] 26] 14 ?_;refine bR [0,1,2,3,4,5,6,7,8,9] ?_;simp only[hu,hU];refine RunT.aHc 10 11 (h:=?_) (h':=?_)
    ·refine aB.xI (k:=?_);intro xb;refine JG ?_;refine JT 11 ?_;refine aB.xI (k:=?_);intro yb;refine JG ?_;(refine JT 12 ?_;(first|refine Jw ?_|(refine Jb ?_;intro b)|(refine Ja ?_;intro ao cap));refine JG ?_);(refine JT 13 ?_;(first|refine Jw ?_|(refine Jb ?_;intro b)|(refine Ja ?_;intro ao cap));refine JG ?_);refine b6 ?_
     repeat(refine Jy ?_;try first|intro ao cap|intro b)
     refine End.some_ hK (xb,yb) ?_;trivial
    ·refine aB.xI (k:=?_);intro yb;refine JG ?_;refine JT 10 ?_;refine aB.xI (k:=?_);intro xb;refine JG ?_;(refine JT 12 ?_;(first|refine Jw ?_|(refine Jb ?_;intro b)|(refine Ja ?_;intro ao cap));refine JG ?_);(refine JT 13 ?_;(first|refine Jw ?_|(refine Jb ?_;intro b)|(refine Ja ?_;intro ao cap));refine JG ?_);refine b6 ?_
     repeat(refine Jy ?_;try first|intro ao cap|intro b)
     refine End.some_ hK (xb,yb) ?_;trivial
  ·repeat(refine Jy ?_;try first|intro ao cap|intro b)
   exact fZ ()
end
section
def nW(M:ImgM.aL):List Nat:=ImgM.body M ++[(kI (ImgM.body M)/256).toNat,(kI (ImgM.body M) % 256).toNat]
attribute [local irreducible] aE aG End aB Still aN aU RunT Fn aS
attribute [local irreducible] kI bits
set_option maxHeartbeats 2000000 in
theorem aAX(m:ML)(hw:∀n∈ImgM.iO m.aC,ImgM.In64 n)(hL:(ImgM.iO m.aC).length≤90000000)(hb30:m.bx.length≤30)(hu30:m.us.length≤30)(hc:∀k,k<m.us.length→(m.us.getD k default).u.locals.length≤200∧(m.us.getD k default).u.code.length≤4000):Fn Tryz.prog 15 #[m.val] [md m] [] (σ:=Int×Option Addr×Nat×List Nat)
  (fun s=>s.1=4∧s.2=(none,0,[])∨s.1=0∧s.2.2.2=nW m.aC∧s.2.2.2.length≤60000) (fun s=> .tuple #[.slice s.2.1 s.2.2.2.length s.2.2.1, .int .i64 s.1]) (fun s=>[arr s.2.1 s.2.2.2.length s.2.2.1 5 eQ s.2.2.2]):=by
 have hpart:∀{a b c:List Int},a ++b ++c=ImgM.iO m.aC→(∀n∈b,ImgM.In64 n)∧(ImgM.bI a).length+10*b.length≤1000000000:=fun{a b c} h=>by
  obtain⟨h1,h2, -⟩:=ImgM.aE0 hw h;have h3:=congrArg List.length h;rw[Jl,Jl]at h3;have h4:(ImgM.bI a).length≤10*a.length:=ImgM.C4 (fun n hn=>hw n (by rw[←h];simp[hn]));exact⟨h1,aA⟩
 refine JE [m.val] Tryz.func15 Tryz.ntmps15 fun w S=>?_;refine Jn ?_
 repeat(refine Jy ?_;try first|intro ao cap|intro b)
 obtain⟨vb,rfl⟩:=a7 b;obtain⟨wb,rfl⟩:=a7 b;obtain⟨mb,rfl⟩:=a7 b;obtain⟨p1,p2⟩:=hpart (a:=[]) (b:=[(m.bx.length:Int)]) (c:=m.bx.flatMap ImgM.eU ++(m.aC.aJ.length:Int)::m.aC.aJ.flatMap ImgM.dI) (by simp[ImgM.iO]);apply aE.imp' (fun w hm=>(hm.jB (iα:=inferInstance) (ef:=inferInstance) (b:=vb) (e:=3) (f:=aY) (n:=1) (tk) [(m.bx.length:Int)] rfl rfl (by unfold maxLen;simp)).cU 5 eQ);(refine dV (wP wb none 0 [] (some ⟨vb,0,none⟩) 1 [(m.bx.length:Int)] p1 (by simp[ImgM.bI])) fun s hs=>?_)
 repeat(refine Jy ?_;try first|intro ao cap|intro b)
 refine cK (σ:=Nat×Option Addr×Nat×List Nat) (fun z=>z.1≤m.bx.length∧z.2.2.2=ImgM.bI (ImgM.qU m.aC z.1)) (fun z=>[(1,ptr mb),(4,ptr wb),(21, .slice m.bo m.bx.length m.bc),(22, .int .i64 m.bx.length),(23, .int .i64 z.1)]) (fun z:Nat×Option Addr×Nat×List Nat=>[aO w S,md m,aF mb (lQ m) 26,aF wb [.slice z.2.1 z.2.2.2.length z.2.2.1] 109,arr z.2.1 z.2.2.2.length z.2.2.1 5 eQ z.2.2.2]) (fun z=>m.bx.length-z.1) (0,s.1,s.2,[] ++ImgM.bI [(m.bx.length:Int)]) ?_ fun z hz K1 hK1=>?_
 ·exact⟨bQ _,by simp[ImgM.qU,ML.aC]⟩
 refine Jn ?_;obtain⟨k,a1,c1,cs⟩:=z;obtain⟨hz,hcs⟩:=hz;dsimp only at hz hcs⊢
 by_cases hk:k<m.bx.length
 ·obtain⟨q1,q2⟩:=hpart (a:=ImgM.qU m.aC k) (b:=ImgM.eU (m.bx.getD k default)) (c:=(m.aC.boxes.drop (k+1)).flatMap ImgM.eU ++(m.aC.aJ.length:Int)::m.aC.aJ.flatMap ImgM.dI) (by rw[←ImgM.aEg m.aC (k+1),ImgM.VF m.aC k hk];rfl);rw[←hcs]at q2
  repeat(refine Jy ?_;try first|intro ao cap|intro b)
  obtain⟨vb,rfl⟩:=a7 b;apply aE.imp' (fun w hm=>hm.jB (iα:=inferInstance) (ef:=inferInstance) (b:=vb) (e:=3) (f:=aY) (n:=2) (tk) (ImgM.eU (m.bx.getD k default)) rfl rfl (by unfold maxLen;simp));(refine dV (wP wb a1 c1 cs (some ⟨vb,0,none⟩) 2 (ImgM.eU (m.bx.getD k default)) q1 q2) fun s hs=>?_)
  repeat(refine Jy ?_;try first|intro ao cap|intro b)
  refine End.bK hK1 (k+1,s.1,s.2,cs ++ImgM.bI (ImgM.eU (m.bx.getD k default))) ?_ ?_
  ·exact⟨hk,by show cs ++_=_;rw[ImgM.VF m.aC k hk,ImgM.mX,hcs];rfl⟩
  ·dsimp only;omega
 ·obtain rfl:k=m.bx.length:=aA;clear hK1;have hcs:cs=ImgM.bI (ImgM.qU m.aC m.aC.boxes.length):=hcs;obtain⟨q1,q2⟩:=hpart (a:=ImgM.qU m.aC m.aC.boxes.length) (b:=[(m.aC.aJ.length:Int)]) (c:=m.aC.aJ.flatMap ImgM.dI) (by rw[ImgM.VE,←ImgM.VG m.aC 0];rfl);rw[←hcs]at q2;have hul:m.aC.aJ.length=m.us.length:=Jf _;rw[hul]at q1 q2
  repeat(refine Jy ?_;try first|intro ao cap|intro b)
  obtain⟨vb,rfl⟩:=a7 b;apply aE.imp' (fun w hm=>hm.jB (iα:=inferInstance) (ef:=inferInstance) (b:=vb) (e:=3) (f:=aY) (n:=1) (tk) [(m.us.length:Int)] rfl rfl (by unfold maxLen;simp));(refine dV (wP wb a1 c1 cs (some ⟨vb,0,none⟩) 1 [(m.us.length:Int)] q1 q2) fun s hs=>?_)
  repeat(refine Jy ?_;try first|intro ao cap|intro b)
  refine cK (σ:=Nat×Option Addr×Nat×List Nat) (fun z=>z.1≤m.us.length∧z.2.2.2=ImgM.bI (ImgM.mI m.aC z.1)) (fun z=>[(1,ptr mb),(4,ptr wb),(42, .slice m.uo m.us.length m.uc),(43, .int .i64 m.us.length),(44, .int .i64 z.1)]) (fun z:Nat×Option Addr×Nat×List Nat=>[aO w S,md m,aF mb (lQ m) 26,aF wb [.slice z.2.1 z.2.2.2.length z.2.2.1] 109,arr z.2.1 z.2.2.2.length z.2.2.1 5 eQ z.2.2.2]) (fun z=>m.us.length-z.1) (0,s.1,s.2,cs ++ImgM.bI [(m.us.length:Int)]) ?_ fun z hz K1 hK1=>?_
  ·exact⟨bQ _,by show cs ++_=_;rw[←ImgM.VE,ImgM.mX,hcs,hul]⟩
  refine Jn ?_;obtain⟨k,a1,c1,cs⟩:=z;obtain⟨hz,hcs⟩:=hz;dsimp only at hz hcs⊢
  by_cases hk:k<m.us.length
  ·obtain⟨u,hu⟩:∃u,u=(m.us.getD k default).u:=⟨_,rfl⟩;have hku:k<m.aC.aJ.length:=aA;have hug:m.aC.aJ.getD k default=u:=by rw[hu];exact sO m.us k
   obtain⟨hlc,hcc⟩:=hc k hk;have hpu:ImgM.mI m.aC k ++ImgM.dI u ++(m.aC.aJ.drop (k+1)).flatMap ImgM.dI=ImgM.iO m.aC:=by rw[←hug,←ImgM.VH m.aC k hku,ImgM.VG]
   have hun:ImgM.dI u=[u.kind,u.params] ++((u.locals.length:Int)::u.locals) ++[u.result,u.aP,(u.code.length:Int)] ++ImgM.eG u.code:=rfl;obtain⟨r1,r2⟩:=hpart (a:=ImgM.mI m.aC k) (b:=[u.kind,u.params]) (c:=((u.locals.length:Int)::u.locals) ++[u.result,u.aP,(u.code.length:Int)] ++ImgM.eG u.code ++(m.aC.aJ.drop (k+1)).flatMap ImgM.dI) (by rw[←hpu,hun];simp only[Jt]);obtain⟨r3,r4⟩:=hpart (a:=ImgM.mI m.aC k ++[u.kind,u.params]) (b:=(u.locals.length:Int)::u.locals) (c:=[u.result,u.aP,(u.code.length:Int)] ++ImgM.eG u.code ++(m.aC.aJ.drop (k+1)).flatMap ImgM.dI) (by rw[←hpu,hun];simp only[Jt]);obtain⟨r5,r6⟩:=hpart (a:=ImgM.mI m.aC k ++[u.kind,u.params] ++((u.locals.length:Int)::u.locals)) (b:=[u.result,u.aP,(u.code.length:Int)]) (c:=ImgM.eG u.code ++(m.aC.aJ.drop (k+1)).flatMap ImgM.dI) (by rw[←hpu,hun];simp only[Jt]);rw[ImgM.mX,ImgM.mX,←hcs]at r6;rw[ImgM.mX,←hcs]at r4;rw[←hcs]at r2;apply aG.imp (fun w hm=>LK (m:=m) (k:=k) hk hu.symm (tk) hm);rw[←hu]at hlc hcc
   repeat(refine Jy ?_;try first|intro ao cap|intro b)
   rw[←hu];obtain⟨vb,rfl⟩:=a7 b;obtain⟨ub,rfl⟩:=a7 b;apply aE.imp' (fun w hm=>hm.jB (iα:=inferInstance) (ef:=inferInstance) (b:=vb) (e:=3) (f:=aY) (n:=2) (tk) [u.kind,u.params] rfl rfl (by unfold maxLen;simp));(refine dV (wP wb a1 c1 cs (some ⟨vb,0,none⟩) 2 [u.kind,u.params] r1 r2) fun s hs=>?_)
   repeat(refine Jy ?_;try first|intro ao cap|intro b)
   (apply aE.op;exact rfl;refine aB.bA (spec:=aIK wb s.1 s.2 (cs ++ImgM.bI [u.kind,u.params]) (m.us.getD k default).lo (m.us.getD k default).lc u.locals (fun n hn=>r3 n (.tail _ hn)) (by rw[JW]at r4;omega)) (k:=?_);intro s hs;refine Jn ?_)
   repeat(refine Jy ?_;try first|intro ao cap|intro b)
   obtain⟨vb2,rfl⟩:=a7 b;apply aE.imp' (fun w hm=>hm.jB (iα:=inferInstance) (ef:=inferInstance) (b:=vb2) (e:=3) (f:=aY) (n:=3) (tk) [u.result,u.aP,(u.code.length:Int)] rfl rfl (by unfold maxLen;simp));(refine dV (wP wb s.1 s.2 ((cs ++ImgM.bI [u.kind,u.params]) ++ImgM.bI ((u.locals.length:Int)::u.locals)) (some ⟨vb2,0,none⟩) 3 [u.result,u.aP,(u.code.length:Int)] r5 r6) fun s hs=>?_)
   repeat(refine Jy ?_;try first|intro ao cap|intro b)
   refine cK (σ:=Nat×Option Addr×Nat×List Nat) (fun z=>z.1≤u.code.length∧z.2.2.2=cs ++ImgM.bI (ImgM.yR u ++ImgM.eG (u.code.take z.1))) (fun z=>[(1,ptr mb),(4,ptr wb),(8,ptr ub),(42, .slice m.uo m.us.length m.uc),(43, .int .i64 m.us.length),(44, .int .i64 k),(70, .slice (m.us.getD k default).co u.code.length (m.us.getD k default).cc),(71, .int .i64 u.code.length),(72, .int .i64 z.1)]) (fun z:Nat×Option Addr×Nat×List Nat=>[aO w S,md m,aF mb (lQ m) 26,rd (m.us.getD k default).co u.code.length (m.us.getD k default).cc dB u.code,aF wb [.slice z.2.1 z.2.2.2.length z.2.2.1] 109,arr z.2.1 z.2.2.2.length z.2.2.1 5 eQ z.2.2.2]) (fun z=>u.code.length-z.1) (0,s.1,s.2,((cs ++ImgM.bI [u.kind,u.params]) ++ImgM.bI ((u.locals.length:Int)::u.locals)) ++ImgM.bI [u.result,u.aP,(u.code.length:Int)]) ?_ fun z hz2 K2 hK2=>?_
   ·exact⟨bQ _,by show _=cs ++_;simp[ImgM.yR,ImgM.eG,ImgM.bI,Jt]⟩
   refine Jn ?_;obtain⟨j,a2,c2,ds⟩:=z;obtain⟨hj,hds⟩:=hz2;dsimp only at hj hds⊢
   by_cases hjc:j<u.code.length
   ·obtain⟨i,hi⟩:∃i,i=u.code.getD j default:=⟨_,rfl⟩;have hcd:ImgM.eG u.code=ImgM.eG (u.code.take j) ++ImgM.tV i ++ImgM.eG (u.code.drop (j+1)):=by
     have h1:=ImgM.QZ u j hjc;have h2:=ImgM.KE ImgM.tV u.code (j+1);rw[hi,←h1];exact h2.symm
    have hin:ImgM.tV i=[i.op,i.a] ++[i.n]:=rfl;have huh:ImgM.dI u=ImgM.yR u ++ImgM.eG u.code:=rfl;obtain⟨g1,g2⟩:=hpart (a:=ImgM.mI m.aC k ++(ImgM.yR u ++ImgM.eG (u.code.take j))) (b:=[i.op,i.a]) (c:=[i.n] ++ImgM.eG (u.code.drop (j+1)) ++(m.aC.aJ.drop (k+1)).flatMap ImgM.dI) (by rw[←hpu,huh,hcd,hin];simp only[Jt]);obtain⟨g3,g4⟩:=hpart (a:=ImgM.mI m.aC k ++(ImgM.yR u ++ImgM.eG (u.code.take j)) ++[i.op,i.a]) (b:=[i.n]) (c:=ImgM.eG (u.code.drop (j+1)) ++(m.aC.aJ.drop (k+1)).flatMap ImgM.dI) (by rw[←hpu,huh,hcd,hin];simp only[Jt]);rw[ImgM.mX,←hcs,←hds]at g2;rw[ImgM.mX,ImgM.mX,←hcs,←hds]at g4
    repeat(refine Jy ?_;try first|intro ao cap|intro b)
    rw[←hi];obtain⟨vb3,rfl⟩:=a7 b;obtain⟨ib,rfl⟩:=a7 b;apply aE.imp' (fun w hm=>hm.jB (iα:=inferInstance) (ef:=inferInstance) (b:=vb3) (e:=3) (f:=aY) (n:=2) (tk) [i.op,i.a] rfl rfl (by unfold maxLen;simp));(refine dV (wP wb a2 c2 ds (some ⟨vb3,0,none⟩) 2 [i.op,i.a] g1 g2) fun s hs=>?_)
    repeat(refine Jy ?_;try first|intro ao cap|intro b)
    obtain⟨vb4,rfl⟩:=a7 b;apply aE.imp' (fun w hm=>hm.jB (iα:=inferInstance) (ef:=inferInstance) (b:=vb4) (e:=2) (f:=aY) (n:=1) (tk) [i.n] rfl rfl (by unfold maxLen;simp));(refine dV (Y2 wb s.1 s.2 (ds ++ImgM.bI [i.op,i.a]) (some ⟨vb4,0,none⟩) 1 [i.n] g3 g4) fun s hs=>?_)
    repeat(refine Jy ?_;try first|intro ao cap|intro b)
    refine End.bK hK2 (j+1,s.1,s.2,(ds ++ImgM.bI [i.op,i.a]) ++ImgM.bI [i.n]) ?_ ?_
    ·refine⟨hjc,?_⟩;show(ds ++ImgM.bI [i.op,i.a]) ++ImgM.bI [i.n]=cs ++ImgM.bI (ImgM.yR u ++ImgM.eG (u.code.take (j+1)));rw[ImgM.QZ u j hjc,←hi,hin,hds];simp only[ImgM.mX,Jt]
    ·dsimp only;omega
   ·obtain rfl:j=u.code.length:=aA;clear hK2;have hds:ds=ImgM.bI (ImgM.mI m.aC (k+1)):=by
     rw[ImgM.VH m.aC k hku,hug,hds,hcs,kN (bS _),show ImgM.dI u=ImgM.yR u ++ImgM.eG u.code from rfl,ImgM.mX (ImgM.mI m.aC k)]
    by_cases hm6:60000<ds.length
    ·repeat(refine Jy ?_;try first|intro ao cap|intro b)
     apply End.imp (fun w hm=>hm.cU 5 eQ);refine KH (4,none,0,[]) ?_;exact .inl ⟨rfl,rfl⟩
    ·repeat(refine Jy ?_;try first|intro ao cap|intro b)
     refine End.bK hK1 (k+1,a2,c2,ds) ?_ ?_
     ·exact⟨hk,hds⟩
     ·dsimp only;omega
  ·obtain rfl:k=m.us.length:=aA;clear hK1;have hcs:cs=ImgM.body m.aC:=by rw[hcs,←hul,ImgM.aEh];rfl
   obtain⟨-,hbl⟩:=hpart (a:=ImgM.iO m.aC) (b:=[]) (c:=[]) aW;have hbl:cs.length≤1000000000:=by rw[hcs];exact dP (Nat.le_add_right _ _) hbl
   repeat(refine Jy ?_;try first|intro ao cap|intro b)
   (refine dV (XN a1 c1 cs hbl) fun s hs=>?_);obtain⟨q1,q2⟩:=XM cs;have hbi:nW m.aC=cs ++[(kI cs/256).toNat,(kI cs % 256).toNat]:=by unfold nW;rw[hcs]
   generalize kI cs=q at *
   repeat(refine Jy ?_;try first|intro ao cap|intro b)
   apply aE.op aV;refine aB.bP (h:=Still.shr (z:=q/256) rfl rfl aK (by show q.fdiv 256=_;exact BQ _ aK)) (k:=?_);apply aE.op aV;refine aB.bP (v:= .int .u8 (((q/256).toNat:Nat):Int)) (h:=Still.conv rfl rfl rfl (by rw[ImgB.wrap_u8];omega)) (k:=?_);apply aE.op aV;refine aB.bP (k:=?_);apply aE.op aV;refine aB.bP (v:= .int .u8 (((q % 256).toNat:Nat):Int)) (h:=Still.conv rfl rfl rfl (by rw[ImgB.wrap_u8];omega)) (k:=?_)
   repeat(refine Jy ?_;try first|intro ao cap|intro b)
   obtain⟨vb,rfl⟩:=a7 b;apply aE.imp' (fun w hm=>hm.jB (iα:=inferInstance) (ef:=inferInstance) (b:=vb) (e:=5) (f:=eQ) (n:=2) (tk) [(q/256).toNat,(q % 256).toNat] rfl rfl (by unfold maxLen;simp));apply aE.op aV;refine aB.xJ (l2:=[(q/256).toNat,(q % 256).toNat]) (k:=?_);intro a2 c2;refine Jn ?_;rw[←hbi];have hbl2:(nW m.aC).length=cs.length+2:=by rw[hbi,Jl];rfl
   rw[←hbl2]
   by_cases hm6:60000<(nW m.aC).length
   ·repeat(refine Jy ?_;try first|intro ao cap|intro b)
    apply End.imp (fun w hm=>hm.cU 5 eQ);refine KH (4,none,0,[]) ?_;exact .inl ⟨rfl,rfl⟩
   ·repeat(refine Jy ?_;try first|intro ao cap|intro b)
    refine KH (0,a2,c2,nW m.aC) ?_;exact .inr ⟨rfl,rfl,by dsimp only;omega⟩
end
theorem aHw(u:ImgM.bM)(rest:List Nat):ImgM.bI (ImgM.dI u) ++rest=ImgM.num u.kind ++(ImgM.num u.params ++(ImgM.num (u.locals.length:Int) ++(ImgM.bI u.locals ++(ImgM.num u.result ++(ImgM.num u.aP ++(ImgM.num (u.code.length:Int) ++(ImgM.bI (ImgM.eG u.code) ++rest))))))):=by
 simp[ImgM.dI,ImgM.bI,Jt]
theorem lC{a b:List Nat}{n:Nat}(h:(a ++b).length≤n):b.length≤n:=by rw[Jl]at h;omega
theorem uC:∀l:List Int,l.length≤(ImgM.bI l).length
 |[]=>bS _
 |n::l=>by
  have:=uC l;have h:=ImgM.aDt n;rw[ImgM.UG,Jl,JW];omega
theorem EO:∀l:List ImgM.aT,(ImgM.eG l).length=3*l.length
 |[]=>rfl
 |i::l=>by
  have:=EO l;show(ImgM.tV i ++ImgM.eG l).length=_;rw[Jl,this,JW];show 3+_=_;omega
attribute [local irreducible] aE aG End aB Still aN aU RunT Fn aS
theorem aEu(C:Chunk)(hx:C.bE=false)(rb:Nat)(ao:Option Addr)(cap:Nat)(u:ImgM.bM)(hw:∀n∈ImgM.dI u,ImgM.In64 n)(rest:List Nat)(hrl:(ImgM.bI (ImgM.dI u) ++rest).length≤100000)(hT:Tl C eQ ao cap (ImgM.bI (ImgM.dI u) ++rest)):
  Fn Tryz.prog 43 #[ptr rb] [C] [aF rb [.slice ao (ImgM.bI (ImgM.dI u) ++rest).length cap] 121] (σ:=(Option Addr×Nat)×(Option Addr×Nat)×(Option Addr×Nat)) (fun s=>Tl C eQ s.1.1 s.1.2 rest)
   (fun s=> .agg #[.int .i64 u.kind, .int .i64 u.params, .slice s.2.1.1 u.locals.length s.2.1.2, .int .i64 u.result, .int .i64 u.aP, .slice s.2.2.1 u.code.length s.2.2.2])
   (fun s=>[aF rb [.slice s.1.1 rest.length s.1.2] 121,arr s.2.1.1 u.locals.length s.2.1.2 3 aY u.locals,arr s.2.2.1 u.code.length s.2.2.2 113 dB u.code]):=by
 rw[aHw]at hT hrl⊢;have w1:ImgM.In64 u.kind:=hw _ (by simp[ImgM.dI]);have w2:ImgM.In64 u.params:=hw _ (by simp[ImgM.dI]);have w3:∀n∈u.locals,ImgM.In64 n:=fun n hn=>hw _ (by simp[ImgM.dI,hn]);have w4:ImgM.In64 u.result:=hw _ (by simp[ImgM.dI]);have w5:ImgM.In64 u.aP:=hw _ (by simp[ImgM.dI]);have w6:∀n∈ImgM.eG u.code,ImgM.In64 n:=fun n hn=>hw _ (by simp[ImgM.dI,hn]);have l1:=lC hrl;have l2:=lC l1;have l3:=lC l2;have l4:=lC l3;have l5:=lC l4;have l6:=lC l5;have l7:=lC l6;have l8:=lC l7;refine Fn.enter (args:=[ptr rb]) Tryz.func43 rfl _ Tryz.ntmps43 rfl (by simp[hx]) (fun w S=>?_);refine Jn ?_
 repeat(refine Jy ?_;try first|intro ao cap|intro b)
 (refine Jc ?_;refine aB.bA (spec:=uJ C hx rb ao cap u.kind w1 _ l1 hT) (r:=(fun w=>Reads.any (tk) hx .nil)) (k:=?_);intro s hs;refine Jn ?_)
 repeat(refine Jy ?_;try first|intro ao cap|intro b)
 (refine Jc ?_;refine aB.bA (spec:=uJ C hx rb s.1 s.2 u.params w2 _ l2 hs) (r:=(fun w=>Reads.any (tk) hx .nil)) (k:=?_);intro s hs;refine Jn ?_)
 repeat(refine Jy ?_;try first|intro ao cap|intro b)
 (refine Jc ?_;refine aB.bA (spec:=GQ C hx rb s.1 s.2 u.locals.length 1 aK aK _ l3 (by rw[Nat.mul_one,Jl];have:=uC u.locals;omega) hs) (r:=(fun w=>Reads.any (tk) hx .nil)) (k:=?_);intro s hs;refine Jn ?_)
 repeat(refine Jy ?_;try first|intro ao cap|intro b)
 obtain⟨ub,rfl⟩:=a7 b;obtain⟨zb,rfl⟩:=a7 b;obtain⟨R,hR⟩:∃R,R=ImgM.num u.result ++(ImgM.num u.aP ++(ImgM.num (u.code.length:Int) ++(ImgM.bI (ImgM.eG u.code) ++rest))):=⟨_,rfl⟩;rw[←hR]at hs l3 l4⊢;have hll:u.locals.length≤100000:=by have:=uC u.locals;rw[Jl]at l3;omega
 apply aG.imp (fun w hm=>hm.cU 3 aY);refine cK (σ:=Nat×(Option Addr×Nat)×(Option Addr×Nat)) (fun z=>z.1≤u.locals.length∧Tl C eQ z.2.1.1 z.2.1.2 (ImgM.bI (u.locals.drop z.1) ++R)) (fun z=>[(0,ptr rb),(2,ptr zb),(3,ptr ub),(10, .int .i64 u.locals.length),(11, .int .i64 z.1)]) (fun z:Nat×(Option Addr×Nat)×(Option Addr×Nat)=>[aO w S,C,aF zb [.int .i64 0, .int .i64 0, .slice none 0 0, .int .i64 0, .int .i64 0, .slice none 0 0] 88,aF ub [.int .i64 u.kind, .int .i64 u.params, .slice z.2.2.1 (u.locals.take z.1).length z.2.2.2, .int .i64 0, .int .i64 0, .slice none 0 0] 88,aF rb [.slice z.2.1.1 (ImgM.bI (u.locals.drop z.1) ++R).length z.2.1.2] 121,arr z.2.2.1 (u.locals.take z.1).length z.2.2.2 3 aY (u.locals.take z.1)]) (fun z=>u.locals.length-z.1) (0,s,(none,0)) ?_ fun z hz K1 hK1=>?_
 ·exact⟨bQ _,hs⟩
 refine Jn ?_;obtain⟨k,⟨a1,c1⟩,lo,lc⟩:=z;obtain⟨hk,hT1⟩:=hz;dsimp only at hk hT1⊢
 by_cases hkn:k<u.locals.length
 ·have hd:u.locals.drop k=u.locals.getD k default::u.locals.drop (k+1):=drop_cons hkn;have hlt:(u.locals.take k).length=k:=by rw[jM];omega
  have hv:=w3 (u.locals.getD k default) (dW hkn);have e1:ImgM.bI (u.locals.drop k) ++R=ImgM.num (u.locals.getD k default) ++(ImgM.bI (u.locals.drop (k+1)) ++R):=by rw[hd,ImgM.UG,Jt]
  rw[e1]at hT1⊢;have hts:u.locals.take (k+1)=u.locals.take k ++[u.locals.getD k default]:=mM hkn;have l9:(ImgM.bI (u.locals.drop (k+1)) ++R).length≤100000:=by
   have h1:(ImgM.bI (u.locals.take (k+1)) ++(ImgM.bI (u.locals.drop (k+1)) ++R)).length≤100000:=by rw[←Jt,←ImgM.mX,y6];exact l3
   exact lC h1
  repeat(refine Jy ?_;try first|intro ao cap|intro b)
  refine b8 7 [aF ub [.int .i64 u.kind, .int .i64 u.params, .slice lo (u.locals.take k).length lc, .int .i64 0, .int .i64 0, .slice none 0 0] 88] 8 ?_;refine bR [0,1,2] ?_;(refine JT 3 ?_;refine aB.bA (spec:=uJ C hx rb a1 c1 (u.locals.getD k default) hv _ l9 hT1) (r:=fun w=>Reads.any (tk) hx .nil) (k:=?_);intro s hs2;refine JG ?_;refine Jn ?_);(refine JT 4 ?_;(first|refine Jw ?_|(refine Jb ?_;intro b)|(refine Ja ?_;intro ao cap));refine JG ?_);(refine JT 5 ?_;(first|refine Jw ?_|(refine Jb ?_;intro b)|(refine Ja ?_;intro ao cap));refine JG ?_);refine JR 6 ?_;(refine JT 7 ?_;(first|refine Jw ?_|(refine Jb ?_;intro b)|(refine Ja ?_;intro ao cap));refine JG ?_);refine b6 ?_;rw[show(u.locals.take k).length+1=(u.locals.take (k+1)).length by rw[hts,Jl];rfl,←hts]
  repeat(refine Jy ?_;try first|intro ao cap|intro b)
  refine End.bK hK1 (k+1,s,(ao,cap)) ?_ ?_
  ·exact⟨hkn,hs2⟩
  ·dsimp only;omega
 ·obtain rfl:k=u.locals.length:=aA;clear hK1 hs;rw[iS (bS _),show ImgM.bI [] ++R=R from rfl,hR]at hT1;rw[iS (bS _),show ImgM.bI [] ++R=R from rfl,hR,kN (bS _)]
  repeat(refine Jy ?_;try first|intro ao cap|intro b)
  (refine Jc ?_;refine aB.bA (spec:=uJ C hx rb a1 c1 u.result w4 _ l5 hT1) (r:=(fun w=>Reads.any (tk) hx .nil)) (k:=?_);intro s hs;refine Jn ?_)
  repeat(refine Jy ?_;try first|intro ao cap|intro b)
  (refine Jc ?_;refine aB.bA (spec:=uJ C hx rb s.1 s.2 u.aP w5 _ l6 hs) (r:=(fun w=>Reads.any (tk) hx .nil)) (k:=?_);intro s hs;refine Jn ?_)
  repeat(refine Jy ?_;try first|intro ao cap|intro b)
  (refine Jc ?_;refine aB.bA (spec:=GQ C hx rb s.1 s.2 u.code.length 3 aK aK _ l7 (by rw[Jl];have:=uC (ImgM.eG u.code);rw[EO]at this;omega) hs) (r:=(fun w=>Reads.any (tk) hx .nil)) (k:=?_);intro s hs;refine Jn ?_)
  repeat(refine Jy ?_;try first|intro ao cap|intro b)
  have hcl:u.code.length≤100000:=by have:=uC (ImgM.eG u.code);rw[EO]at this;rw[Jl]at l7;omega
  apply aG.imp (fun w hm=>hm.cU 113 dB);clear hT1;refine cK (σ:=Nat×(Option Addr×Nat)×(Option Addr×Nat)) (fun z=>z.1≤u.code.length∧Tl C eQ z.2.1.1 z.2.1.2 (ImgM.bI (ImgM.eG (u.code.drop z.1)) ++rest)) (fun z=>[(0,ptr rb),(2,ptr zb),(3,ptr ub),(28, .int .i64 u.code.length),(29, .int .i64 z.1)]) (fun z:Nat×(Option Addr×Nat)×(Option Addr×Nat)=>[aO w S,C,aF zb [.int .i64 0, .int .i64 0, .slice none 0 0, .int .i64 0, .int .i64 0, .slice none 0 0] 88,arr lo u.locals.length lc 3 aY u.locals,aF ub [.int .i64 u.kind, .int .i64 u.params, .slice lo u.locals.length lc, .int .i64 u.result, .int .i64 u.aP, .slice z.2.2.1 (u.code.take z.1).length z.2.2.2] 88,aF rb [.slice z.2.1.1 (ImgM.bI (ImgM.eG (u.code.drop z.1)) ++rest).length z.2.1.2] 121,arr z.2.2.1 (u.code.take z.1).length z.2.2.2 113 dB (u.code.take z.1)]) (fun z=>u.code.length-z.1) (0,s,(none,0)) ?_ fun z hz K2 hK2=>?_
  ·exact⟨bQ _,hs⟩
  refine Jn ?_;obtain⟨k,⟨a2,c2⟩,co,cc⟩:=z;obtain⟨hk,hT2⟩:=hz;dsimp only at hk hT2⊢
  by_cases hkn:k<u.code.length
  ·have hd:u.code.drop k=u.code.getD k default::u.code.drop (k+1):=drop_cons hkn;have hlt:(u.code.take k).length=k:=by rw[jM];omega
   obtain⟨op,av,nv,hi⟩:∃op av nv,u.code.getD k default=⟨op,av,nv⟩:=⟨_,_,_,rfl⟩;have hv:∀n∈[op,av,nv],ImgM.In64 n:=fun n hn=>w6 n (qF.2 ⟨_,dW hkn,by rw[hi];exact hn⟩);have v1:=hv op aW;have v2:=hv av aW;have v3:=hv nv aW;have e1:ImgM.bI (ImgM.eG (u.code.drop k)) ++rest=ImgM.num op ++(ImgM.num av ++(ImgM.num nv ++(ImgM.bI (ImgM.eG (u.code.drop (k+1))) ++rest))):=by rw[hd,hi];simp[ImgM.eG,ImgM.tV,ImgM.bI,Jt]
   have l9:(ImgM.bI (ImgM.eG (u.code.drop k)) ++rest).length≤100000:=by
    have h1:(ImgM.bI (ImgM.eG (u.code.take k)) ++(ImgM.bI (ImgM.eG (u.code.drop k)) ++rest)).length≤100000:=by rw[←Jt,←ImgM.mX,ImgM.eG,ImgM.eG,←r8,y6];exact l7
    exact lC h1
   rw[e1]at hT2 l9⊢;have l10:=lC l9;have l11:=lC l10;have l12:=lC l11;have hts:u.code.take (k+1)=u.code.take k ++[⟨op,av,nv⟩]:=by rw[←hi];exact mM hkn
   repeat(refine Jy ?_;try first|intro ao cap|intro b)
   refine b8 12 [aF ub [.int .i64 u.kind, .int .i64 u.params, .slice lo u.locals.length lc, .int .i64 u.result, .int .i64 u.aP, .slice co (u.code.take k).length cc] 88] 13 ?_;refine bR [0,1,2,4,6] ?_;(refine JT 3 ?_;refine aB.bA (spec:=uJ C hx rb a2 c2 op v1 _ l10 hT2) (r:=fun w=>Reads.any (tk) hx .nil) (k:=?_);intro s1 hs1;refine JG ?_;refine Jn ?_);(refine JT 5 ?_;refine aB.bA (spec:=uJ C hx rb s1.1 s1.2 av v2 _ l11 hs1) (r:=fun w=>Reads.any (tk) hx .nil) (k:=?_);intro s2 hs2;refine JG ?_;refine Jn ?_);(refine JT 7 ?_;refine aB.bA (spec:=MW C hx rb s2.1 s2.2 nv v3 _ l12 hs2) (r:=fun w=>Reads.any (tk) hx .nil) (k:=?_);intro s3 hs3;refine JG ?_;refine Jn ?_);refine JR 8 ?_;(refine JT 9 ?_;(first|refine Jw ?_|(refine Jb ?_;intro b)|(refine Ja ?_;intro ao cap));refine JG ?_);(refine JT 10 ?_;(refine aB.jN (a:=(⟨op,av,nv⟩:ImgM.aT)) (k:=?_);intro ao cap);refine JG ?_);refine JR 11 ?_;(refine JT 12 ?_;(first|refine Jw ?_|(refine Jb ?_;intro b)|(refine Ja ?_;intro ao cap));refine JG ?_);refine b6 ?_;rw[show(u.code.take k).length+1=(u.code.take (k+1)).length by rw[hts,Jl];rfl,←hts]
   repeat(refine Jy ?_;try first|intro ao cap|intro b)
   refine End.bK hK2 (k+1,s3,(ao,cap)) ?_ ?_
   ·exact⟨hkn,hs3⟩
   ·dsimp only;omega
  ·obtain rfl:k=u.code.length:=aA;clear hK2;rw[iS (bS _),show ImgM.bI (ImgM.eG []) ++rest=rest from rfl]at hT2;rw[iS (bS _),show ImgM.bI (ImgM.eG []) ++rest=rest from rfl,kN (bS _)]
   repeat(refine Jy ?_;try first|intro ao cap|intro b)
   refine zQ (((a2,c2),(lo,lc),(co,cc)):(Option Addr×Nat)×(Option Addr×Nat)×(Option Addr×Nat)) ?_;exact hT2
end Vw
end Go.Proofs.YtofckcabpchcmaaGreatDoor
