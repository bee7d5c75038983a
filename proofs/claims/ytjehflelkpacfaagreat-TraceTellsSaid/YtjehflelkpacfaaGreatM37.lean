/- yieldref7.Code: how it lies in memory; its pieces. -/
import Derived.Test.YtjehflelkpacfaaGreatM36
set_option linter.unusedVariables false
set_option linter.unusedSimpArgs false
set_option linter.unusedSectionVars false
set_option maxRecDepth 100000
namespace Go.Proofs.YtjehflelkpacfaaGreat.Vw
open Go.RowKit Go.Proofs.YtjehflelkpacfaaGreat.Img
section
structure Sn where
 come:Bool
 st:List UInt8
 hs:List Bool
 ho:Option Addr
 hc:Nat
instance:Inhabited Sn:=⟨⟨false,[],[],none,0⟩⟩
def snC(x:Sn):List Value:=[.bool x.come,sv x.st, .slice x.ho x.hs.length x.hc]
instance:Enc snC:=⟨fun _=>rfl,by decide,fun a u hu=>by simp[snC]at hu;rcases hu with rfl|rfl|rfl<;>rfl⟩
abbrev rvhM(x:Sn):Chunk:=arr x.ho x.hs.length x.hc 4 boolc x.hs
def rowsM(l:List Sn):List Chunk:=l.map rvhM
theorem erase_perm{α:Type} [Inhabited α]:∀{l:List α} {k:Nat},k<l.length→l.Perm (l.getD k default::l.eraseIdx k)
 |a::l,0,_=>List.Perm.refl _
 |a::l,k+1,h=>by
  have:=erase_perm (l:=l) (k:=k) (by simpa using h);simpa using(this.cons a).trans (List.Perm.swap _ _ _)
theorem erase_set{α:Type}:∀{l:List α} {k:Nat} (x:α),(l.set k x).eraseIdx k=l.eraseIdx k
 |[],_,_=>rfl
 |a::l,0,_=>rfl
 |a::l,k+1,x=>by simp[erase_set]
theorem getD_setS{l:List Sn}{k j:Nat}{x:Sn}(hk:k<l.length):(l.set k x).getD j default=if j=k then x else l.getD j default:=by
 simp only[Jd,List.getElem?_set]
 by_cases h:k=j
 ·subst h;simp[hk]
 ·rw[if_neg h,if_neg (fun h'=>h h'.symm)]
theorem rows_at{l:List Sn}{k:Nat}(h:k<l.length):(rowsM l).Perm ([rvhM (l.getD k default)] ++rowsM (l.eraseIdx k)):=(erase_perm h).map rvhM
theorem rows_set{l:List Sn}{k:Nat}(h:k<l.length)(x:Sn):(rowsM (l.set k x)).Perm ([rvhM x] ++rowsM (l.eraseIdx k)):=by
 have:=rows_at (l:=l.set k x) (k:=k) (by simpa using h);rwa [erase_set,getD_setS h,if_pos rfl]at this
theorem rows_mem{l:List Sn}{k:Nat}(h:k<l.length):rvhM (l.getD k default)∈rowsM l:=(rows_at h).mem_iff.2 (by simp)
theorem Chunk.same{c d:Chunk}(h1:c.holds=d.holds)(h2:c.foot=d.foot)(h3:c.excl=d.excl):c=d:=by
 cases c;cases d
 simp only at h1 h2 h3;subst h1 h2 h3;rfl
theorem arr_same{ao:Option Addr}{n cap:Nat}{e:TypeId}{l l':List Sn}(h:l.map snC=l'.map snC):arr ao n cap e snC l=arr ao n cap e snC l':=by
 have h1:l.flatMap snC=l'.flatMap snC:=by rw[List.flatMap_def,List.flatMap_def,h]
 have h2:l.length=l'.length:=by have:=congrArg List.length h;simpa using this
 apply Chunk.same
 ·funext w
  exact propext ⟨fun x=>arr_holds.2 (by rw[←h1,←h2];exact arr_holds.1 x),fun x=>arr_holds.2 (by rw[h1,h2];exact arr_holds.1 x)⟩
 ·funext b
  exact propext ⟨fun x=>arr_foot.2 (arr_foot.1 x),fun x=>arr_foot.2 (arr_foot.1 x)⟩
 ·rw[arr_excl,arr_excl]
theorem map_set_same{l:List Sn}{k:Nat}(hk:k<l.length){x:Sn}(h:snC x=snC (l.getD k default)):l.map snC=(l.set k x).map snC:=by
 refine List.ext_getElem (by simp) fun j h1 h2=>?_
 simp only[Jf]at h1;rw[List.getElem_map,List.getElem_map,List.getElem_set]
 by_cases hj:k=j
 ·subst hj;rw[if_pos rfl,h,Jd,Je hk];rfl
 ·rw[if_neg hj]
structure Rl(M:ImgM.Mdl)(a:List (Int×Ver.Shape))(l:List Sn):Prop where
 no:∀p,p<l.length→Ver.find a (p:Int)=none→(l.getD p default).come=false
 yes:∀p s,p<l.length→Ver.find a (p:Int)=some s→(l.getD p default).come=true∧(l.getD p default).st=s.1.map Rf7.lt1∧(l.getD p default).hs=s.2
 vt:∀p s,Ver.find a p=some s→∀t∈s.1,Rf7.VT M t
theorem Rl.new{M:ImgM.Mdl}{a:List (Int×Ver.Shape)}{l:List Sn}(h:Rl M a l){p:Nat}(hp:p<l.length)(hn:Ver.find a (p:Int)=none){s:Ver.Shape}(hs:∀t∈s.1,Rf7.VT M t)(ao:Option Addr)(cap:Nat):Rl M (a ++[((p:Int),s)]) (l.set p ⟨true,s.1.map Rf7.lt1,s.2,ao,cap⟩):=by
 have hf:=fun q=>Ver.find_app a (p:Int) q s hn
 refine⟨fun q hq h1=>?_,fun q z hq h1=>?_,fun q z h1=>?_⟩
 ·rw[hf]at h1;rw[Ji]at hq
  by_cases hpq:(p:Int)=(q:Int)
  ·rw[if_pos hpq]at h1;cases h1
  ·rw[if_neg hpq]at h1;rw[getD_setS hp,if_neg (by omega)];exact h.no q hq h1
 ·rw[hf]at h1;rw[Ji]at hq
  by_cases hpq:(p:Int)=(q:Int)
  ·rw[if_pos hpq]at h1
   cases h1
   rw[getD_setS hp,if_pos (by omega)];exact⟨rfl,rfl,rfl⟩
  ·rw[if_neg hpq]at h1;rw[getD_setS hp,if_neg (by omega)];exact h.yes q z hq h1
 ·rw[hf]at h1
  by_cases hpq:(p:Int)=q
  ·rw[if_pos hpq]at h1
   cases h1
   exact hs
  ·rw[if_neg hpq]at h1;exact h.vt q z h1
theorem Rl.put{M:ImgM.Mdl}{a:List (Int×Ver.Shape)}{l:List Sn}(h:Rl M a l){p:Nat}(hp:p<l.length){s:Ver.Shape}(hn:Ver.find a (p:Int)=some s)(x:List Bool):Rl M (Ver.put a (p:Int) (s.1,x)) (l.set p {(l.getD p default)with hs:=x}):=by
 have hf:=fun q=>Ver.find_put a (p:Int) q (s.1,x) s hn
 obtain⟨g1,g2,g3⟩:=h.yes p s hp hn;refine⟨fun q hq h1=>?_,fun q z hq h1=>?_,fun q z h1=>?_⟩
 ·rw[hf]at h1;rw[Ji]at hq
  by_cases hpq:(p:Int)=(q:Int)
  ·rw[if_pos hpq]at h1;cases h1
  ·rw[if_neg hpq]at h1;rw[getD_setS hp,if_neg (by omega)];exact h.no q hq h1
 ·rw[hf]at h1;rw[Ji]at hq
  by_cases hpq:(p:Int)=(q:Int)
  ·rw[if_pos hpq]at h1
   cases h1
   rw[getD_setS hp,if_pos (by omega)];exact⟨g1,g2,rfl⟩
  ·rw[if_neg hpq]at h1;rw[getD_setS hp,if_neg (by omega)];exact h.yes q z hq h1
 ·rw[hf]at h1
  by_cases hpq:(p:Int)=q
  ·rw[if_pos hpq]at h1
   cases h1
   exact h.vt _ s hn
  ·rw[if_neg hpq]at h1;exact h.vt q z h1
theorem tos_err(n:Nat):∀(l:List Int) (g:Ver.Flow),g.err≠0→Ver.tos n l g=g
 |[],_,_=>rfl
 |q::l,g,h=>by
  have e:Ver.to n q g=g:=by unfold Ver.to;rw[if_pos h]
  rw[Ver.tos_cons,e];exact tos_err n l g h
theorem toArr7{α:Type} [Inhabited α](f:α→List Value) [Enc f](l:List α)(n:Nat)(hn:l.length=n)(hx:n≤maxLen){w:World}{L L':List Chunk}{b:Nat}{e:TypeId}(t:Take (blk b (l.flatMap f) e) L L')(h:Mem w L):Mem w (arr (some ⟨b,0,none⟩) n n e f l::L'):=Mem.toArr h t l rfl hn hx
theorem toNone7{α:Type} [Inhabited α](f:α→List Value) [Enc f]{w:World}{L L':List Chunk}{b:Nat}{e:TypeId}(t:Take (blk b [] e) L L')(h:Mem w L):Mem w (arr (some ⟨b,0,none⟩) 0 0 e f []::L'):=Mem.toArr h t [] rfl rfl (Nat.zero_le _)
def sl:Code→Code| .seq a _=>a|c=>c
def sr:Code→Code| .seq _ b=>b|c=>c
def bd:Code→Code| .block _ b=>b|c=>c
def lp:Code→Code| .loop b=>b|c=>c
noncomputable def c14:Code:=Tryz.f52.body.getD .skip
noncomputable def rnd7:Code:=bd (sr (lp (bd (sl (sr (sr (sr (sr (sr (sr (sr c14)))))))))))
noncomputable def rnA:Code:=sr (sr (sr (sr (sr (sr (sr rnd7))))))
noncomputable def rnB:Code:=sr rnA
noncomputable def rnW:Code:=sr (sr rnB)
noncomputable def rnT:Code:=sr (sr (sr (sr (sr rnW))))
noncomputable def rnN:Code:=sr (sr rnT)
theorem Cod.weak{P:Program}{Q:Exit→Act→World→Prop}{N:Nat}{c:Code}{E E':Env}{L L' F:List Chunk}(h:Cod P Q N c E' L')(hE:Sub E' E)(hL:Takes L' L F):Cod P Q N c E L:=fun a w hs hm=>h a w (hs.sub hE) (hm.takes hL).left
theorem End.weak{Q:Exit→Act→World→Prop}{N:Nat}{e:Exit}{E E':Env}{L L' F:List Chunk}(h:End Q N e E' L')(hE:Sub E' E)(hL:Takes L' L F):End Q N e E L:=fun a w hs hm=>h a w (hs.sub hE) (hm.takes hL).left
attribute [local irreducible] Run Cod End OpT Still RunQ RunS RunT Fn PutOk
theorem bad7_is(kb ab:Nat)(q p:Nat)(e:Int):Fn Tryz.prog 85 #[.int .i64 e,ptr kb,ptr ab] [] [blk kb [.int .i64 (q:Int)] 3,blk ab [.int .i64 (p:Int)] 3] (σ:=Unit) (fun _=>True) (fun _=>whereV ⟨e,q,p⟩) (fun _=>[blk kb [.int .i64 (q:Int)] 3,blk ab [.int .i64 (p:Int)] 3]):=by
 refine JE [.int .i64 e,ptr kb,ptr ab] Tryz.func85 Tryz.ntmps85 fun w S=>?_
 (refine Jn ?_)
 repeat(refine Jy ?_;try first|intro ao cap|intro b)
 (refine End.doneC1_ (()) (he:=by rfl) (hp:=?_));trivial
abbrev Rets(Q:Exit→Act→World→Prop)(w:World)(S:Nat→Prop)(wb q p:Nat)(e:Int):Prop:=∀(E:Env) (L L' F:List Chunk),look E 4=some (ptr wb)→Take (blk wb [.int .i64 e, .int .i64 (q:Int), .int .i64 (p:Int)] 87) L L'→Takes [old w S] L F→End Q 308 .ret E L
abbrev M7(m:ML)(q:Nat)(mb kb wb ub zb:Nat)(l:List Sn)(to_:Option Addr)(tc:Nat)(todo:List Int)(w:World)(S:Nat→Prop):List Chunk:=
 [old w S,md m,blk mb [.slice m.bo m.bx.length m.bc, .slice m.uo m.us.length m.uc] 25,blk kb [.int .i64 (q:Int)] 3,blk wb [.int .i64 0, .int .i64 0, .int .i64 0] 87,blk ub (ucell (m.us.getD q default)) 115,arr (some ⟨zb,0,none⟩) l.length l.length 176 snC l,bag (rowsM l),arr to_ todo.length tc 3 i64c todo]
abbrev E7(mb kb wb ub zb n:Nat)(to_:Option Addr)(tc:Nat)(tn:Nat):Env:=[(2,ptr mb),(3,ptr kb),(4,ptr wb),(5,ptr ub),(6, .slice (some ⟨zb,0,none⟩) n n),(9, .slice to_ tn tc)]
abbrev N7(ab ib:Nat)(p:Nat)(i:ImgM.Ins)(no:Option Addr)(nc:Nat)(h:List Bool):List Chunk:=[blk ab [.int .i64 (p:Int)] 3,blk ib (insC i) 126,arr no h.length nc 4 boolc h]
abbrev F7(kb ab ib:Nat)(no:Option Addr)(nc hn:Nat)(st:List UInt8):Env:=[(10,ptr ab),(11,ptr ib),(12, .slice no hn nc),(13,sv st),(14, .func (.func 85) #[] #[ptr kb,ptr ab])]
end
section
attribute [local irreducible] Run Cod End OpT Still RunQ RunS RunT Fn PutOk
section
variable(m:ML)(q:Nat)(hq:q<m.us.length)(mb kb wb ub zb:Nat)(l:List Sn)(p:Nat)(w:World)(S:Nat→Prop)(Q:Exit→Act→World→Prop)
set_option maxHeartbeats 1000000 in
include hq in
theorem code7_a(to_:Option Addr)(tc:Nat)(rest:List Int)(hpl:p<l.length)(hn:l.length=(m.us.getD q default).u.code.length)(hnc:(m.us.getD q default).u.code.length≤4000)(hxl:(l.getD p default).hs.length≤200)
  (hld:((m.us.getD q default).u.code.getD p default).op=3→0≤((m.us.getD q default).u.code.getD p default).a∧((m.us.getD q default).u.code.getD p default).a<((l.getD p default).hs.length:Int)) (hrest:rest.length≤2000000)
  (h11:((m.us.getD q default).u.code.getD p default).op=3∧(l.getD p default).hs.getD ((m.us.getD q default).u.code.getD p default).a.toNat default=false→Rets Q w S wb q p 11)
  (hN:¬(((m.us.getD q default).u.code.getD p default).op=3∧(l.getD p default).hs.getD ((m.us.getD q default).u.code.getD p default).a.toNat default=false)→∀ab ib no nc to' tc',Cod Tryz.prog Q 308 rnA (E7 mb kb wb ub zb l.length to' tc' rest.length ++F7 kb ab ib no nc (l.getD p default).hs.length (l.getD p default).st) (M7 m q mb kb wb ub zb l to' tc' rest w S ++N7 ab ib p ((m.us.getD q default).u.code.getD p default) no nc (l.getD p default).hs)):
  Cod Tryz.prog Q 308 rnd7 (E7 mb kb wb ub zb l.length to_ tc (rest.length+1)) (M7 m q mb kb wb ub zb l to_ tc ((p:Int)::rest) w S):=by
 have hpn:p<(m.us.getD q default).u.code.length:=by omega
 have hlen:((p:Int)::rest).length=rest.length+1:=rfl;have hgp:((p:Int)::rest).getD 0 default=(p:Int):=rfl;have hdp:((p:Int)::rest).drop 1=rest:=rfl;show Cod _ _ _ (Code.seq (sl rnd7) (Code.seq (sl (sr rnd7)) (Code.seq (sl (sr (sr rnd7))) (Code.seq (sl (sr (sr (sr rnd7)))) (Code.seq (sl (sr (sr (sr (sr rnd7))))) (Code.seq (sl (sr (sr (sr (sr (sr rnd7)))))) (Code.seq (sl (sr (sr (sr (sr (sr (sr rnd7))))))) rnA))))))) _ _;generalize rnA=y at hN⊢;dsimp only[M7,E7];rw[hlen]
 repeat(refine Jy ?_;try first|intro ao cap|intro b)
 (apply Run.op;exact rfl;refine OpT.val_ (h:=by(apply Still.at_;exact rfl;exact rfl;exact Jr;exact rfl;exact rfl;exact rfl;exact ix_zero;omega)) (k:=?_))
 repeat(refine Jy ?_;try first|intro ao cap|intro b)
 rw[hgp,hdp];obtain⟨eb,rfl⟩:∃x,x=b:=⟨_,rfl⟩;refine Run.imp (fun w hm=>toNone7 boolc (b:=eb) (tk) hm) ?_;(apply Run.op;exact rfl;refine OpT.appendS_ (f:=boolc) (l2:=(l.getD p default).hs) (hr:=Rdb.bag tk (rows_mem hpl)) (k:=?_);intro no nc);obtain⟨ib,rfl⟩:∃x,x=b:=⟨_,rfl⟩;obtain⟨ab,rfl⟩:∃x,x=b:=⟨_,rfl⟩;simp only[Jk,Nat.zero_add,Nat.add_sub_cancel];generalize hi:(m.us.getD q default).u.code.getD p default=i at *;obtain⟨x,hx⟩:∃x,x=l.getD p default:=⟨_,rfl⟩
 by_cases o3:i.op=3
 ·obtain⟨a,ha⟩:=JI (hld o3).1;have hal:=(hld o3).2;rw[ha]at h11 hN hal;rw[Jj]at h11 hN
  cases hb:(l.getD p default).hs.getD a default with
  |false=>
   have hb':(!((l.getD p default).hs.getD a default))=true:=by rw[hb];rfl
   repeat(refine Jy ?_;try first|intro ao cap|intro b)
   rw[ha]
   repeat(refine Jy ?_;try first|intro ao cap|intro b)
   refine Jc ?_;refine OpT.call_ (spec:=bad7_is kb ab q p 11) (k:=?_);intro s hs;(refine Jn ?_)
   repeat(refine Jy ?_;try first|intro ao cap|intro b)
   exact h11 ⟨o3,hb⟩ _ _ _ _ rfl tk tks
  |true=>
   have hb':(!((l.getD p default).hs.getD a default))=false:=by rw[hb];rfl
   repeat(refine Jy ?_;try first|intro ao cap|intro b)
   rw[ha]
   repeat(refine Jy ?_;try first|intro ao cap|intro b)
   rw[←ha];(apply Cod.weak (hN (fun h=>by rw[hb]at h;cases h.2) ab ib no nc ao cap);(focus (dsimp only[E7,F7,List.cons_append,Jk];exact sb));(focus (dsimp only[M7,N7,List.cons_append,Jk];exact tks)))
 ·repeat(refine Jy ?_;try first|intro ao cap|intro b)
  (apply Cod.weak (hN (fun h=>o3 h.1) ab ib no nc ao cap);(focus (dsimp only[E7,F7,List.cons_append,Jk];exact sb));(focus (dsimp only[M7,N7,List.cons_append,Jk];exact tks)))
end
end
section
attribute [local irreducible] Run Cod End OpT Still RunQ RunS RunT Fn PutOk
section
variable(m:ML)(q:Nat)(mb kb wb ub zb:Nat)(l:List Sn)(p:Nat)(w:World)(S:Nat→Prop)(Q:Exit→Act→World→Prop)
set_option maxHeartbeats 1000000 in
theorem code7_b(to_:Option Addr)(tc:Nat)(rest:List Int)(i:ImgM.Ins)(h:List Bool)(st:List UInt8)(ab ib:Nat)(no:Option Addr)(nc:Nat)
  (h8:(i.op=24∧(m.us.getD q default).u.kind≠2)∨(i.op=25∧(m.us.getD q default).u.kind=2)∨(i.op=31∧(m.us.getD q default).u.kind≠3)→Rets Q w S wb q p 8)
  (hN:¬((i.op=24∧(m.us.getD q default).u.kind≠2)∨(i.op=25∧(m.us.getD q default).u.kind=2)∨(i.op=31∧(m.us.getD q default).u.kind≠3))→Cod Tryz.prog Q 308 rnB (E7 mb kb wb ub zb l.length to_ tc rest.length ++F7 kb ab ib no nc h.length st) (M7 m q mb kb wb ub zb l to_ tc rest w S ++N7 ab ib p i no nc h)):
  Cod Tryz.prog Q 308 rnA (E7 mb kb wb ub zb l.length to_ tc rest.length ++F7 kb ab ib no nc h.length st) (M7 m q mb kb wb ub zb l to_ tc rest w S ++N7 ab ib p i no nc h):=by
 show Cod _ _ _ (Code.seq (sl rnA) rnB) _ _;generalize rnB=y at hN⊢;dsimp only[M7,E7,N7,F7,List.cons_append,Jk]
 by_cases o24:i.op=24
 ·by_cases k2:(m.us.getD q default).u.kind=2
  ·repeat(refine Jy ?_;try first|intro ao cap|intro b)
   (apply Cod.weak (hN (by omega));(focus (dsimp only[E7,F7,List.cons_append,Jk];exact sb));(focus (dsimp only[M7,N7,List.cons_append,Jk];exact tks)))
  ·repeat(refine Jy ?_;try first|intro ao cap|intro b)
   refine Jc ?_;refine OpT.call_ (spec:=bad7_is kb ab q p 8) (k:=?_);intro s hs;(refine Jn ?_)
   repeat(refine Jy ?_;try first|intro ao cap|intro b)
   exact h8 (.inl ⟨o24,k2⟩) _ _ _ _ rfl tk tks
 by_cases o25:i.op=25
 ·by_cases k2:(m.us.getD q default).u.kind=2
  ·repeat(refine Jy ?_;try first|intro ao cap|intro b)
   refine Jc ?_;refine OpT.call_ (spec:=bad7_is kb ab q p 8) (k:=?_);intro s hs;(refine Jn ?_)
   repeat(refine Jy ?_;try first|intro ao cap|intro b)
   exact h8 (.inr (.inl ⟨o25,k2⟩)) _ _ _ _ rfl tk tks
  ·repeat(refine Jy ?_;try first|intro ao cap|intro b)
   (apply Cod.weak (hN (by omega));(focus (dsimp only[E7,F7,List.cons_append,Jk];exact sb));(focus (dsimp only[M7,N7,List.cons_append,Jk];exact tks)))
 by_cases o31:i.op=31
 ·by_cases k3:(m.us.getD q default).u.kind=3
  ·repeat(refine Jy ?_;try first|intro ao cap|intro b)
   (apply Cod.weak (hN (by omega));(focus (dsimp only[E7,F7,List.cons_append,Jk];exact sb));(focus (dsimp only[M7,N7,List.cons_append,Jk];exact tks)))
  ·repeat(refine Jy ?_;try first|intro ao cap|intro b)
   refine Jc ?_;refine OpT.call_ (spec:=bad7_is kb ab q p 8) (k:=?_);intro s hs;(refine Jn ?_)
   repeat(refine Jy ?_;try first|intro ao cap|intro b)
   exact h8 (.inr (.inr ⟨o31,k3⟩)) _ _ _ _ rfl tk tks
 repeat(refine Jy ?_;try first|intro ao cap|intro b)
 (apply Cod.weak (hN (by omega));(focus (dsimp only[E7,F7,List.cons_append,Jk];exact sb));(focus (dsimp only[M7,N7,List.cons_append,Jk];exact tks)))
end
end
section
attribute [local irreducible] Run Cod End OpT Still RunQ RunS RunT Fn PutOk
section
variable(m:ML)(q:Nat)(mb kb wb ub zb:Nat)(l:List Sn)(p:Nat)(w:World)(S:Nat→Prop)(Q:Exit→Act→World→Prop)
theorem letter_tn{m:ML}(hu:m.mdl.units.length≤30){t:Int}(ht:Rf7.VT m.mdl t)(h1:¬Rf7.lt1 t=110)(h2:¬Rf7.lt1 t=98):∃tn:Nat,tn<m.us.length∧(Rf7.lt1 t).toNat=65+tn∧(m.us.getD tn default).u.kind=3:=by
 have hr:=ht.rng hu;obtain⟨a1,a2⟩:=Rf7.lt1_pl hr;have g:Ver.handle m.mdl t=true:=by
  rcases ht with h|h|h
  ·exact absurd (a1.2 h) h1
  ·exact absurd (a2.2 h) h2
  ·exact h
 obtain⟨g1,g2,g3⟩:=Rf7.handle_iff.1 g;have e:=Rf7.lt1_nat (t:=t) (by omega);refine⟨(t-10).toNat,by have:m.mdl.units.length=m.us.length:=(by simp);omega,by omega,?_⟩;rw[m.unit_at]at g3;exact g3
set_option maxHeartbeats 1000000 in
theorem code7_w(hQ:PutOk Q)(hwf:m.Wf)(hF:Formed m)(hB:∀k,k<m.bx.length→(m.bx.getD k default).1=1∨(m.bx.getD k default).1=2)(hq:q<m.us.length)(to_:Option Addr)(tc:Nat)(rest:List Int)(i:ImgM.Ins)(hi:Ver.InsOk m.mdl (m.us.getD q default).u i)(h:List Bool)(st:List UInt8)(ab ib:Nat)(no:Option Addr)(nc:Nat)
  (h24:i.op=24→(m.us.getD q default).u.kind=2) (h31:i.op=31→(m.us.getD q default).u.kind=3) (hl:st.length≤300) (hst:∀g∈st,∃t,Rf7.VT m.mdl t∧g=Rf7.lt1 t)
  (h8:(Rf7.want7 m.mdl (m.us.getD q default).u i st).1≠0→Rets Q w S wb q p (Rf7.want7 m.mdl (m.us.getD q default).u i st).1)
  (hN:(Rf7.want7 m.mdl (m.us.getD q default).u i st).1=0→Cod Tryz.prog Q 308 rnW ((15,sv (Rf7.want7 m.mdl (m.us.getD q default).u i st).2.1)::(16,sv (Rf7.want7 m.mdl (m.us.getD q default).u i st).2.2)::(E7 mb kb wb ub zb l.length to_ tc rest.length ++F7 kb ab ib no nc h.length st)) (M7 m q mb kb wb ub zb l to_ tc rest w S ++N7 ab ib p i no nc h)):
  Cod Tryz.prog Q 308 rnB (E7 mb kb wb ub zb l.length to_ tc rest.length ++F7 kb ab ib no nc h.length st) (M7 m q mb kb wb ub zb l to_ tc rest w S ++N7 ab ib p i no nc h):=by
 show Cod _ _ _ (Code.seq (sl rnB) (Code.seq (sl (sr rnB)) rnW)) _ _;generalize rnW=y at hN⊢;dsimp only[M7,E7,N7,F7,List.cons_append,Jk];have hu30:=hF.units;have hun:m.mdl.units.length=m.us.length:=by simp
 obtain⟨R,hR⟩:∃R,R=Rf7.want7 m.mdl (m.us.getD q default).u i st:=⟨_,rfl⟩;rw[←hR]at h8 hN
 repeat(first|refine Jg ?_|refine Jo ?_|(refine JB ?_;intro b)|(refine JA ?_;intro ao cap))
 refine JQ (needs7_is m hwf hF hB q hq i hi h24 h31) ?_;intro s hs;(refine Jn ?_)
 by_cases o30:i.op=30
 ·have e0:Rf7.want7 m.mdl (m.us.getD q default).u i st=if st.length<2 then(12,[],[])else if st.getD (st.length-2) 0=110∨st.getD (st.length-2) 0=98 then(9,[],[])else(0,[st.getD (st.length-2) 0,Rf7.lt1 (m.mdl.units.getD ((st.getD (st.length-2) 0).toNat-65) default).takes],[Rf7.lt1 (m.mdl.units.getD ((st.getD (st.length-2) 0).toNat-65) default).result]):=by
   unfold Rf7.want7;rw[if_pos (.inl o30)];simp only[o30,if_true]
  rw[e0]at hR
  by_cases c2:st.length<2
  ·rw[if_pos c2]at hR;subst hR
   repeat(first|refine Jg ?_|refine Jo ?_|(refine JB ?_;intro b)|(refine JA ?_;intro ao cap))
   refine Jc ?_;refine OpT.call_ (spec:=bad7_is kb ab q p 12) (k:=?_);intro s hs;(refine Jn ?_)
   repeat(first|refine Jg ?_|refine Jo ?_|(refine JB ?_;intro b)|(refine JA ?_;intro ao cap))
   exact h8 (by decide) _ _ _ _ rfl tk tks
  rw[if_neg c2]at hR;obtain⟨t,ht,hgt⟩:=hst (st.getD (st.length-2) 0) (by rw[Jd,Je (by omega)];exact List.getElem_mem _)
  repeat(first|refine Jg ?_|refine Jo ?_|(refine JB ?_;intro b)|(refine JA ?_;intro ao cap))
  (apply Run.op;exact rfl;refine OpT.val_ (h:=by exact Still.sAt (i:=st.length-2) rfl rfl rfl (by omega) (by omega)) (k:=?_));generalize st.getD (st.length-2) 0=g at hR hgt⊢;subst hgt;have k110:(((Rf7.lt1 t).toNat:Int)=110)↔Rf7.lt1 t=110:=u8_eq (y:=110);have k98:(((Rf7.lt1 t).toNat:Int)=98)↔Rf7.lt1 t=98:=u8_eq (y:=98)
  by_cases c110:Rf7.lt1 t=110
  ·rw[if_pos (.inl c110)]at hR;subst hR;have d:=k110.2 c110;clear k110 k98
   repeat(first|refine Jg ?_|refine Jo ?_|(refine JB ?_;intro b)|(refine JA ?_;intro ao cap))
   refine Jc ?_;refine OpT.call_ (spec:=bad7_is kb ab q p 9) (k:=?_);intro s hs;(refine Jn ?_)
   repeat(first|refine Jg ?_|refine Jo ?_|(refine JB ?_;intro b)|(refine JA ?_;intro ao cap))
   exact h8 (by decide) _ _ _ _ rfl tk tks
  have d110:¬((Rf7.lt1 t).toNat:Int)=110:=fun h=>c110 (k110.1 h)
  by_cases c98:Rf7.lt1 t=98
  ·rw[if_pos (.inr c98)]at hR;subst hR;have d:=k98.2 c98;clear k110 k98
   repeat(first|refine Jg ?_|refine Jo ?_|(refine JB ?_;intro b)|(refine JA ?_;intro ao cap))
   refine Jc ?_;refine OpT.call_ (spec:=bad7_is kb ab q p 9) (k:=?_);intro s hs;(refine Jn ?_)
   repeat(first|refine Jg ?_|refine Jo ?_|(refine JB ?_;intro b)|(refine JA ?_;intro ao cap))
   exact h8 (by decide) _ _ _ _ rfl tk tks
  have d98:¬((Rf7.lt1 t).toNat:Int)=98:=fun h=>c98 (k98.1 h)
  clear k110 k98;rw[if_neg (fun h=>h.elim c110 c98)]at hR;obtain⟨tn,ht1,ht2,ht3⟩:=letter_tn (by rw[hun];exact hu30) ht c110 c98;rw[ht2,Nat.add_sub_cancel_left,ML.unit_at]at hR;have hx1:=(Rf7.uv_head (hF.head tn ht1)).res (by omega);have hx2:=(Rf7.uv_head (hF.head tn ht1)).tak ht3;have etn:(((Rf7.lt1 t).toNat:Int)-65).toNat=tn:=by omega
  repeat(first|refine Jg ?_|refine Jo ?_|(refine JB ?_;intro b)|(refine JA ?_;intro ao cap))
  obtain⟨cb,rfl⟩:∃x,x=b:=⟨_,rfl⟩;obtain⟨xb,rfl⟩:∃x,x=b:=⟨_,rfl⟩;rw[etn];refine Run.imp (fun w hm=>toArr7 byC [Rf7.lt1 t] 1 rfl (by unfold maxLen;omega) (b:=cb) (tk) hm) ?_;(apply Run.op;exact rfl;refine OpT.val_ (h:=by exact Still.sOf (a:=[Rf7.lt1 t]) rfl (Rdb.arr tk) rfl rfl rfl (by omega)) (k:=?_))
  repeat(first|refine Jg ?_|refine Jo ?_|(refine JB ?_;intro b)|(refine JA ?_;intro ao cap))
  apply Cod.draw 9 ([blk xb (ucell (m.us.getD tn default)) 115]) (by kernel_rfl) 10 rfl;refine RunT.takeR_ 0 (hQ:=by(repeat(first|assumption|exact PutOk.body|apply PutOk.nxt|apply PutOk.then_|apply PutOk.block))) (h:=?_);refine RunT.takeR_ 1 (hQ:=by(repeat(first|assumption|exact PutOk.body|apply PutOk.nxt|apply PutOk.then_|apply PutOk.block))) (h:=?_);refine RunT.takeR_ 2 (hQ:=by(repeat(first|assumption|exact PutOk.body|apply PutOk.nxt|apply PutOk.then_|apply PutOk.block))) (h:=?_);refine RunT.takeR_ 5 (hQ:=by(repeat(first|assumption|exact PutOk.body|apply PutOk.nxt|apply PutOk.then_|apply PutOk.block))) (h:=?_);refine RunT.takeR_ 6 (hQ:=by(repeat(first|assumption|exact PutOk.body|apply PutOk.nxt|apply PutOk.then_|apply PutOk.block))) (h:=?_);(refine JT 3 ?_;refine OpT.call0_ (spec:=letter_is _ (hx2.imp id .inl)) (k:=?_);intro s hs;refine JG ?_;(refine Jn ?_));refine RunT.takeR_ 4 (hQ:=by(repeat(first|assumption|exact PutOk.body|apply PutOk.nxt|apply PutOk.then_|apply PutOk.block))) (hy:=by exact Still.sAdd rfl rfl (by simp) (by simp)) (h:=?_);(refine JT 7 ?_;refine OpT.call0_ (spec:=letter_is _ (hx1.imp id .inl)) (k:=?_);intro s hs;refine JG ?_;(refine Jn ?_));refine RunT.takeR_ 8 (hQ:=by(repeat(first|assumption|exact PutOk.body|apply PutOk.nxt|apply PutOk.then_|apply PutOk.block))) (h:=?_);(refine JT 9 ?_;(first|refine Jw ?_|(refine Jb ?_;intro b)|(refine Ja ?_;intro ao cap));refine JG ?_);(apply RunT.done;kernel_rfl);subst hR
  repeat(first|refine Jg ?_|refine Jo ?_|(refine JB ?_;intro b)|(refine JA ?_;intro ao cap))
  (apply Cod.weak (hN rfl);(focus (dsimp only[E7,F7,List.cons_append,Jk];exact sb));(focus (dsimp only[M7,N7,List.cons_append,Jk];exact tks)))
 by_cases o32:i.op=32
 ·have e0:Rf7.want7 m.mdl (m.us.getD q default).u i st=if st.length<1 then(12,[],[])else if st.getD (st.length-1) 0=110∨st.getD (st.length-1) 0=98 then(9,[],[])else(0,[st.getD (st.length-1) 0],[98]):=by
   unfold Rf7.want7;rw[if_pos (.inr o32)];simp only[o30,if_false]
  rw[e0]at hR
  by_cases c2:st.length<1
  ·rw[if_pos c2]at hR;subst hR
   repeat(first|refine Jg ?_|refine Jo ?_|(refine JB ?_;intro b)|(refine JA ?_;intro ao cap))
   refine Jc ?_;refine OpT.call_ (spec:=bad7_is kb ab q p 12) (k:=?_);intro s hs;(refine Jn ?_)
   repeat(first|refine Jg ?_|refine Jo ?_|(refine JB ?_;intro b)|(refine JA ?_;intro ao cap))
   exact h8 (by decide) _ _ _ _ rfl tk tks
  rw[if_neg c2]at hR;obtain⟨t,ht,hgt⟩:=hst (st.getD (st.length-1) 0) (by rw[Jd,Je (by omega)];exact List.getElem_mem _)
  repeat(first|refine Jg ?_|refine Jo ?_|(refine JB ?_;intro b)|(refine JA ?_;intro ao cap))
  (apply Run.op;exact rfl;refine OpT.val_ (h:=by exact Still.sAt (i:=st.length-1) rfl rfl rfl (by omega) (by omega)) (k:=?_));generalize st.getD (st.length-1) 0=g at hR hgt⊢;subst hgt;have k110:(((Rf7.lt1 t).toNat:Int)=110)↔Rf7.lt1 t=110:=u8_eq (y:=110);have k98:(((Rf7.lt1 t).toNat:Int)=98)↔Rf7.lt1 t=98:=u8_eq (y:=98)
  by_cases c110:Rf7.lt1 t=110
  ·rw[if_pos (.inl c110)]at hR;subst hR;have d:=k110.2 c110;clear k110 k98
   repeat(first|refine Jg ?_|refine Jo ?_|(refine JB ?_;intro b)|(refine JA ?_;intro ao cap))
   refine Jc ?_;refine OpT.call_ (spec:=bad7_is kb ab q p 9) (k:=?_);intro s hs;(refine Jn ?_)
   repeat(first|refine Jg ?_|refine Jo ?_|(refine JB ?_;intro b)|(refine JA ?_;intro ao cap))
   exact h8 (by decide) _ _ _ _ rfl tk tks
  have d110:¬((Rf7.lt1 t).toNat:Int)=110:=fun h=>c110 (k110.1 h)
  by_cases c98:Rf7.lt1 t=98
  ·rw[if_pos (.inr c98)]at hR;subst hR;have d:=k98.2 c98;clear k110 k98
   repeat(first|refine Jg ?_|refine Jo ?_|(refine JB ?_;intro b)|(refine JA ?_;intro ao cap))
   refine Jc ?_;refine OpT.call_ (spec:=bad7_is kb ab q p 9) (k:=?_);intro s hs;(refine Jn ?_)
   repeat(first|refine Jg ?_|refine Jo ?_|(refine JB ?_;intro b)|(refine JA ?_;intro ao cap))
   exact h8 (by decide) _ _ _ _ rfl tk tks
  have d98:¬((Rf7.lt1 t).toNat:Int)=98:=fun h=>c98 (k98.1 h)
  clear k110 k98;rw[if_neg (fun h=>h.elim c110 c98)]at hR;obtain⟨tn,ht1,ht2,ht3⟩:=letter_tn (by rw[hun];exact hu30) ht c110 c98;have etn:(((Rf7.lt1 t).toNat:Int)-65).toNat=tn:=by omega
  repeat(first|refine Jg ?_|refine Jo ?_|(refine JB ?_;intro b)|(refine JA ?_;intro ao cap))
  obtain⟨cb,rfl⟩:∃x,x=b:=⟨_,rfl⟩;obtain⟨xb,rfl⟩:∃x,x=b:=⟨_,rfl⟩;rw[etn];refine Run.imp (fun w hm=>toArr7 byC [Rf7.lt1 t] 1 rfl (by unfold maxLen;omega) (b:=cb) (tk) hm) ?_;(apply Run.op;exact rfl;refine OpT.val_ (h:=by exact Still.sOf (a:=[Rf7.lt1 t]) rfl (Rdb.arr tk) rfl rfl rfl (by omega)) (k:=?_))
  repeat(first|refine Jg ?_|refine Jo ?_|(refine JB ?_;intro b)|(refine JA ?_;intro ao cap))
  subst hR
  repeat(first|refine Jg ?_|refine Jo ?_|(refine JB ?_;intro b)|(refine JA ?_;intro ao cap))
  (apply Cod.weak (hN rfl);(focus (dsimp only[E7,F7,List.cons_append,Jk];exact sb));(focus (dsimp only[M7,N7,List.cons_append,Jk];exact tks)))
 have e0:Rf7.want7 m.mdl (m.us.getD q default).u i st=(0,Rf7.needs7 m.mdl (m.us.getD q default).u i):=by
  unfold Rf7.want7;rw[if_neg (fun h=>h.elim o30 o32)]
 rw[e0]at hR;subst hR
 repeat(first|refine Jg ?_|refine Jo ?_|(refine JB ?_;intro b)|(refine JA ?_;intro ao cap))
 (apply Cod.weak (hN rfl);(focus (dsimp only[E7,F7,List.cons_append,Jk];exact sb));(focus (dsimp only[M7,N7,List.cons_append,Jk];exact tks)))
end
end
section
theorem tk7_len:∀(want:List UInt8) (last:UInt8) (st:List UInt8),(Rf7.tk7 want last st).1.length≤st.length
 |[],_,_=>Nat.le_refl _
 |x::want,last,st=>by
  have e:=fun last=>tk7_len want last (st.take (st.length-1))
  have e2:(st.take (st.length-1)).length≤st.length:=by rw[List.length_take];omega
  rw[Rf7.tk7_cons]
  repeat' split
  all_goals first
   |exact Nat.zero_le _
   |exact Nat.le_trans (e _) e2
theorem take7_len(st want:List UInt8):(Rf7.take7 st want).1.length≤st.length:=tk7_len _ _ _
attribute [local irreducible] Run Cod End OpT Still RunQ RunS RunT Fn PutOk
section
variable(m:ML)(q:Nat)(mb kb wb ub zb:Nat)(l:List Sn)(p:Nat)(w:World)(S:Nat→Prop)(Q:Exit→Act→World→Prop)
set_option maxHeartbeats 1000000 in
theorem code7_t(to_:Option Addr)(tc:Nat)(rest:List Int)(i:ImgM.Ins)(h:List Bool)(st want put:List UInt8)(ab ib:Nat)(no:Option Addr)(nc:Nat)
  (hl:st.length≤300) (hw1:want.length≤300) (hp1:put.length≤300) (h4:i.op=4→0≤i.a∧i.a<(h.length:Int))
  (hbt:(Rf7.take7 st want).2≠0→Rets Q w S wb q p (Rf7.take7 st want).2)
  (hbm:(Rf7.take7 st want).2=0→300<((Rf7.take7 st want).1 ++put).length→Rets Q w S wb q p 4)
  (hN:(Rf7.take7 st want).2=0→¬300<((Rf7.take7 st want).1 ++put).length→∀h':List Bool,h'.length=h.length→h'=(if i.op=4 then h.set i.a.toNat true else h)→Cod Tryz.prog Q 308 rnT (E7 mb kb wb ub zb l.length to_ tc rest.length ++F7 kb ab ib no nc h'.length ((Rf7.take7 st want).1 ++put)) (M7 m q mb kb wb ub zb l to_ tc rest w S ++N7 ab ib p i no nc h')):
  Cod Tryz.prog Q 308 rnW ((15,sv want)::(16,sv put)::(E7 mb kb wb ub zb l.length to_ tc rest.length ++F7 kb ab ib no nc h.length st)) (M7 m q mb kb wb ub zb l to_ tc rest w S ++N7 ab ib p i no nc h):=by
 show Cod _ _ _ (Code.seq (sl rnW) (Code.seq (sl (sr rnW)) (Code.seq (sl (sr (sr rnW))) (Code.seq (sl (sr (sr (sr rnW)))) (Code.seq (sl (sr (sr (sr (sr rnW))))) rnT))))) _ _;generalize rnT=y at hN⊢;dsimp only[M7,E7,N7,F7,List.cons_append,Jk];have htl:=take7_len st want
 repeat(first|refine Jg ?_|refine Jo ?_|(refine JB ?_;intro b)|(refine JA ?_;intro ao cap))
 refine JQ (take7_is st want (by omega) (by omega)) ?_;intro s hs;(refine Jn ?_);obtain⟨T,hT⟩:∃T,T=Rf7.take7 st want:=⟨_,rfl⟩;rw[←hT]at hbt hbm hN htl⊢;clear hT;obtain⟨t1,t2⟩:=T;dsimp only at hbt hbm hN htl⊢
 by_cases c0:¬t2=0
 ·repeat(first|refine Jg ?_|refine Jo ?_|(refine JB ?_;intro b)|(refine JA ?_;intro ao cap))
  refine Jc ?_;refine OpT.call_ (spec:=bad7_is kb ab q p t2) (k:=?_);intro s hs;(refine Jn ?_)
  repeat(first|refine Jg ?_|refine Jo ?_|(refine JB ?_;intro b)|(refine JA ?_;intro ao cap))
  exact hbt c0 _ _ _ _ rfl tk tks
 have c0:t2=0:=Classical.not_not.1 c0;have hal:(t1 ++put).length=t1.length+put.length:=Jl
 by_cases c3:300<(t1 ++put).length
 ·repeat(first|refine Jg ?_|refine Jo ?_|(refine JB ?_;intro b)|(refine JA ?_;intro ao cap))
  refine Jc ?_;refine OpT.call_ (spec:=bad7_is kb ab q p 4) (k:=?_);intro s hs;(refine Jn ?_)
  repeat(first|refine Jg ?_|refine Jo ?_|(refine JB ?_;intro b)|(refine JA ?_;intro ao cap))
  exact hbm c0 c3 _ _ _ _ rfl tk tks
 by_cases o4:i.op=4
 ·obtain⟨a,ha⟩:=JI (h4 o4).1;have hal2:=(h4 o4).2;rw[ha]at hal2
  repeat(first|refine Jg ?_|refine Jo ?_|(refine JB ?_;intro b)|(refine JA ?_;intro ao cap))
  rw[ha]
  repeat(first|refine Jg ?_|refine Jo ?_|(refine JB ?_;intro b)|(refine JA ?_;intro ao cap))
  apply Run.op (by exact rfl);refine OpT.storeE_ (a':=true) (k:=?_);simp only[Jj];have hlen:(h.set a true).length=h.length:=Ji;have he:h.set a true=if i.op=4 then h.set i.a.toNat true else h:=by rw[if_pos o4,ha,Jj]
  repeat(first|refine Jg ?_|refine Jo ?_|(refine JB ?_;intro b)|(refine JA ?_;intro ao cap))
  rw[←ha];generalize h.set a true=h' at *;rw[←hlen];(apply Cod.weak (hN c0 c3 h' hlen he);(focus (dsimp only[E7,F7,List.cons_append,Jk];exact sb));(focus (dsimp only[M7,N7,List.cons_append,Jk];exact tks)))
 ·repeat(first|refine Jg ?_|refine Jo ?_|(refine JB ?_;intro b)|(refine JA ?_;intro ao cap))
  (apply Cod.weak (hN c0 c3 h rfl (by rw[if_neg o4]));(focus (dsimp only[E7,F7,List.cons_append,Jk];exact sb));(focus (dsimp only[M7,N7,List.cons_append,Jk];exact tks)))
end
end
attribute [local irreducible] Run Cod End OpT Still RunQ RunS RunT Fn PutOk
section
variable(m:ML)(q:Nat)(mb kb wb ub zb:Nat)(l:List Sn)(p:Nat)(w:World)(S:Nat→Prop)(Q:Exit→Act→World→Prop)
set_option maxHeartbeats 1000000 in
theorem code7_n(to_:Option Addr)(tc:Nat)(rest:List Int)(i:ImgM.Ins)(h:List Bool)(st:List UInt8)(ab ib:Nat)(no:Option Addr)(nc:Nat)(hp:p≤4000)
  (hb:(i.op=24∨i.op=25)∧st.length≠0→Rets Q w S wb q p 12)
  (hN:¬((i.op=24∨i.op=25)∧st.length≠0)→∀lo lc,Cod Tryz.prog Q 308 rnN ((22, .slice lo (Ver.nexts i (p:Int)).length lc)::(E7 mb kb wb ub zb l.length to_ tc rest.length ++F7 kb ab ib no nc h.length st)) (arr lo (Ver.nexts i (p:Int)).length lc 3 i64c (Ver.nexts i (p:Int))::(M7 m q mb kb wb ub zb l to_ tc rest w S ++N7 ab ib p i no nc h))):
  Cod Tryz.prog Q 308 rnT (E7 mb kb wb ub zb l.length to_ tc rest.length ++F7 kb ab ib no nc h.length st) (M7 m q mb kb wb ub zb l to_ tc rest w S ++N7 ab ib p i no nc h):=by
 show Cod _ _ _ (Code.seq (sl rnT) (Code.seq (sl (sr rnT)) rnN)) _ _;generalize rnN=y at hN⊢;dsimp only[M7,E7,N7,F7,List.cons_append,Jk]
 by_cases o24:i.op=24∨i.op=25
 ·have e:Ver.nexts i (p:Int)=[]:=by unfold Ver.nexts;rw[if_neg (by omega),if_neg (by omega),if_pos o24]
  rw[e]at hN
  by_cases c:st=[]
  ·have c':(!decide (st=[]))=false:=by rw[decide_eq_true c];rfl
   have hc0:¬((i.op=24∨i.op=25)∧st.length≠0):=fun h=>h.2 (by rw[c];rfl)
   rcases o24 with o24|o24
   ·repeat(first|refine Jg ?_|refine Jo ?_|(refine JB ?_;intro b)|(refine JA ?_;intro ao cap))
    apply Cod.imp (fun w hm=>hm.nilArr 3 i64c);(apply Cod.weak (hN hc0 none 0);(focus (dsimp only[E7,F7,List.cons_append,Jk];exact sb));(focus (dsimp only[M7,N7,List.cons_append,Jk];exact tks)))
   ·repeat(first|refine Jg ?_|refine Jo ?_|(refine JB ?_;intro b)|(refine JA ?_;intro ao cap))
    apply Cod.imp (fun w hm=>hm.nilArr 3 i64c);(apply Cod.weak (hN hc0 none 0);(focus (dsimp only[E7,F7,List.cons_append,Jk];exact sb));(focus (dsimp only[M7,N7,List.cons_append,Jk];exact tks)))
  ·have c':(!decide (st=[]))=true:=by rw[decide_eq_false c];rfl
   have hc0:(i.op=24∨i.op=25)∧st.length≠0:=⟨o24,fun h=>c (List.eq_nil_of_length_eq_zero h)⟩;rcases o24 with o24|o24
   ·repeat(first|refine Jg ?_|refine Jo ?_|(refine JB ?_;intro b)|(refine JA ?_;intro ao cap))
    refine Jc ?_;refine OpT.call_ (spec:=bad7_is kb ab q p 12) (k:=?_);intro s hs;(refine Jn ?_)
    repeat(first|refine Jg ?_|refine Jo ?_|(refine JB ?_;intro b)|(refine JA ?_;intro ao cap))
    exact hb hc0 _ _ _ _ rfl tk tks
   ·repeat(first|refine Jg ?_|refine Jo ?_|(refine JB ?_;intro b)|(refine JA ?_;intro ao cap))
    refine Jc ?_;refine OpT.call_ (spec:=bad7_is kb ab q p 12) (k:=?_);intro s hs;(refine Jn ?_)
    repeat(first|refine Jg ?_|refine Jo ?_|(refine JB ?_;intro b)|(refine JA ?_;intro ao cap))
    exact hb hc0 _ _ _ _ rfl tk tks
 have hc0:¬((i.op=24∨i.op=25)∧st.length≠0):=fun h=>o24 h.1
 by_cases o21:i.op=21
 ·have e:Ver.nexts i (p:Int)=[i.a]:=by unfold Ver.nexts;rw[if_pos o21]
  rw[e]at hN
  repeat(first|refine Jg ?_|refine Jo ?_|(refine JB ?_;intro b)|(refine JA ?_;intro ao cap))
  obtain⟨cb,rfl⟩:∃x,x=b:=⟨_,rfl⟩;apply Cod.imp (fun w hm=>toArr7 i64c [i.a] 1 rfl (by unfold maxLen;omega) (b:=cb) (tk) hm);(apply Cod.weak (hN hc0 (some ⟨cb,0,none⟩) 1);(focus (dsimp only[E7,F7,List.cons_append,Jk];exact sb));(focus (dsimp only[M7,N7,List.cons_append,Jk];exact tks)))
 by_cases o22:i.op=22
 ·have e:Ver.nexts i (p:Int)=[i.a,(p:Int)+1]:=by unfold Ver.nexts;rw[if_neg o21,if_pos o22]
  rw[e]at hN
  repeat(first|refine Jg ?_|refine Jo ?_|(refine JB ?_;intro b)|(refine JA ?_;intro ao cap))
  obtain⟨cb,rfl⟩:∃x,x=b:=⟨_,rfl⟩;apply Cod.imp (fun w hm=>toArr7 i64c [i.a,(p:Int)+1] 2 rfl (by unfold maxLen;omega) (b:=cb) (tk) hm);(apply Cod.weak (hN hc0 (some ⟨cb,0,none⟩) 2);(focus (dsimp only[E7,F7,List.cons_append,Jk];exact sb));(focus (dsimp only[M7,N7,List.cons_append,Jk];exact tks)))
 ·have e:Ver.nexts i (p:Int)=[(p:Int)+1]:=by unfold Ver.nexts;rw[if_neg o21,if_neg o22,if_neg o24]
  rw[e]at hN;have n24:¬i.op=24:=fun h=>o24 (.inl h)
  have n25:¬i.op=25:=fun h=>o24 (.inr h)
  repeat(first|refine Jg ?_|refine Jo ?_|(refine JB ?_;intro b)|(refine JA ?_;intro ao cap))
  obtain⟨cb,rfl⟩:∃x,x=b:=⟨_,rfl⟩;apply Cod.imp (fun w hm=>toArr7 i64c [(p:Int)+1] 1 rfl (by unfold maxLen;omega) (b:=cb) (tk) hm);(apply Cod.weak (hN hc0 (some ⟨cb,0,none⟩) 1);(focus (dsimp only[E7,F7,List.cons_append,Jk];exact sb));(focus (dsimp only[M7,N7,List.cons_append,Jk];exact tks)))
end
end Go.Proofs.YtjehflelkpacfaaGreat.Vw
