/- yieldref7.Code, walked. -/
import Derived.Test.YtjehflelkpacfaaGreatM38
set_option linter.unusedVariables false
set_option linter.unusedSimpArgs false
set_option linter.unusedSectionVars false
set_option maxRecDepth 100000
namespace Go.Proofs.YtjehflelkpacfaaGreat.Vw
open Go.RowKit Go.Proofs.YtjehflelkpacfaaGreat.Img
theorem par7_len{m:ML}(hF:Formed m)(k:Int):(Rf7.par7 m.mdl k).length≤6:=by
 unfold Rf7.par7;rw[Jf,List.length_take]
 by_cases h:k.toNat<m.us.length
 ·have:=head_ok (hF.head _ h);rw[m.unit_at];omega
 ·have e:m.mdl.units.getD k.toNat default=default:=by
   rw[Jd,List.getElem?_eq_none (by simp;omega)];rfl
  rw[e];exact Nat.le_trans (Nat.min_le_left _ _) (by decide)
def Len3(x:List UInt8×List UInt8):Prop:=x.1.length≤300∧x.2.length≤300
theorem len_ite{c:Prop} [Decidable c]{a b:List UInt8×List UInt8}(ha:Len3 a)(hb:Len3 b):Len3 (if c then a else b):=by split<;>assumption
theorem needs7_len{m:ML}(hF:Formed m)(u:ImgM.Unt)(i:ImgM.Ins):Len3 (Rf7.needs7 m.mdl u i):=by
 have hp:=par7_len hF i.a;unfold Rf7.needs7
 repeat' refine len_ite ?_ ?_
 all_goals first
  |exact⟨Nat.le_trans hp (by decide),by simp⟩
  |exact⟨by simp,by simp⟩
theorem want7_len{m:ML}(hF:Formed m)(u:ImgM.Unt)(i:ImgM.Ins)(st:List UInt8):Len3 (Rf7.want7 m.mdl u i st).2:=by
 unfold Rf7.want7;dsimp only
 by_cases h:i.op=30∨i.op=32
 ·rw[if_pos h]
  by_cases a:st.length<(if i.op=30 then 2 else 1)
  ·rw[if_pos a];exact⟨by simp,by simp⟩
  rw[if_neg a]
  by_cases b:st.getD (st.length-if i.op=30 then 2 else 1) 0=110∨st.getD (st.length-if i.op=30 then 2 else 1) 0=98
  ·rw[if_pos b];exact⟨by simp,by simp⟩
  rw[if_neg b]
  by_cases c:i.op=30
  ·rw[if_pos c];exact⟨by simp,by simp⟩
  ·rw[if_neg c];exact⟨by simp,by simp⟩
 ·rw[if_neg h];exact needs7_len hF u i
theorem out_fst(g:Ver.Flow):(Rf7.out7 g).1=g.err:=by
 unfold Rf7.out7
 split
 ·next h=>exact h.symm
 ·rfl
theorem nil_rows(n:Nat){w:World}{L:List Chunk}(h:Mem w L):Mem w (bag (rowsM (List.replicate n ⟨false,[],[],none,0⟩))::L):=by
 have e:rowsM (List.replicate n ⟨false,[],[],none,0⟩)=List.replicate n (arr none 0 0 4 boolc []):=by
  unfold rowsM;rw[List.map_replicate];rfl
 rw[e];refine Mem.pack ?_ fun c hc=>?_
 ·induction n with
  |zero=>exact h
  |succ n ih=>
   rw[List.replicate_succ];exact(ih (by unfold rowsM;rw[List.map_replicate];rfl)).nilArr 4 boolc
 ·rw[List.eq_of_mem_replicate hc];exact arr_excl
theorem Rl.start{M:ImgM.Mdl}{n:Nat}(hn:0<n)(h:List Bool)(ho:Option Addr)(hc:Nat):Rl M [((0:Int),(([]:List Int),h))] ((List.replicate n (⟨false,[],[],none,0⟩:Sn)).set 0 ⟨true,[],h,ho,hc⟩):=by
 have h0:Rl M [] (List.replicate n (⟨false,[],[],none,0⟩:Sn)):=by
  refine⟨fun p hp _=>?_,fun p s _ h=>?_,fun p s h=>?_⟩
  rotate_left
  ·cases h
  ·cases h
  rw[Jd,Je hp,List.getElem_replicate];rfl
 have:=Rl.new h0 (p:=0) (by simpa using hn) rfl (s:=([],h)) (fun t ht=>by cases ht) ho hc;exact this
attribute [local irreducible] Run Cod End OpT Still RunQ RunS RunT Fn PutOk
set_option maxHeartbeats 1000000 in
theorem round7(m:ML)(q:Nat)(hq:q<m.us.length)(hF:Formed m)(hwf:m.Wf)(hFr:Rf7.Frm m.mdl)(mb kb wb ub zb:Nat)(l:List Sn)(p:Nat)(w:World)(S:Nat→Prop)(Q:Exit→Act→World→Prop)(hQ:PutOk Q)(to_:Option Addr)(tc:Nat)(rest:List Int)(f:Ver.Flow)(s1:List Int)(s2:List Bool)
  (hinv:Ver.Inv (m.us.getD q default).u.code.length (m.us.getD q default).u.locals.length f) (he:f.err=0) (hR:Rl m.mdl f.at_ l) (hll:l.length=(m.us.getD q default).u.code.length) (hT:f.todo=(p:Int)::rest) (hs:Ver.find f.at_ (p:Int)=some (s1,s2)) (hmu:rest.length+Ver.room (m.us.getD q default).u.code.length (m.us.getD q default).u.locals.length f.at_≤2000000)
  (hbad:∀e,(Ver.round m.mdl (m.us.getD q default).u (p:Int) rest f).err=e→e≠0→Rets Q w S wb q p e)
  (hN:(Ver.round m.mdl (m.us.getD q default).u (p:Int) rest f).err=0→∀l' to' tc',Rl m.mdl (Ver.round m.mdl (m.us.getD q default).u (p:Int) rest f).at_ l'→l'.length=(m.us.getD q default).u.code.length→Ver.Inv (m.us.getD q default).u.code.length (m.us.getD q default).u.locals.length (Ver.round m.mdl (m.us.getD q default).u (p:Int) rest f)→(Ver.round m.mdl (m.us.getD q default).u (p:Int) rest f).todo.length+Ver.room (m.us.getD q default).u.code.length (m.us.getD q default).u.locals.length (Ver.round m.mdl (m.us.getD q default).u (p:Int) rest f).at_≤rest.length+Ver.room (m.us.getD q default).u.code.length (m.us.getD q default).u.locals.length f.at_→
   End Q 308 .normal (E7 mb kb wb ub zb l'.length to' tc' (Ver.round m.mdl (m.us.getD q default).u (p:Int) rest f).todo.length) (M7 m q mb kb wb ub zb l' to' tc' (Ver.round m.mdl (m.us.getD q default).u (p:Int) rest f).todo w S)):
  Cod Tryz.prog Q 308 rnd7 (E7 mb kb wb ub zb l.length to_ tc (rest.length+1)) (M7 m q mb kb wb ub zb l to_ tc ((p:Int)::rest) w S):=by
 obtain⟨h1,h2,h3,h4,h5,h6⟩:=head_ok (hF.head q hq);obtain⟨hp0,hpn,hps⟩:=hinv.todo (p:Int) (by rw[hT];exact List.mem_cons_self);have hpl:p<l.length:=by omega
 obtain⟨hcm,hyst,hyhs⟩:=hR.yes p _ hpl hs;obtain⟨g1,g2,g3⟩:=hinv.ent _ _ hs;have hvt:=hR.vt _ _ hs;dsimp only at hyst hyhs g1 g2 g3 hvt;have hu30:m.mdl.units.length≤30:=by simpa using hF.units
 have hin:Ver.instr m.mdl (m.us.getD q default).u ((m.us.getD q default).u.code.getD p default)=0:=hF.instr q hq _ (getD_mem (by omega));have hio:=Ver.instr_ok hin;have hins:Ver.ins (m.us.getD q default).u (p:Int)=((m.us.getD q default).u.code.getD p default):=by unfold Ver.ins;rw[Jj]
 have hre:=Ver.round_eq (M:=m.mdl) (u:=(m.us.getD q default).u) (r:=rest) hs he;rw[hins]at hre;have hnx:=Ver.nexts_ok (M:=m.mdl) (u:=(m.us.getD q default).u) (p:=(p:Int)) (by rw[hins];exact hio) ⟨hp0,hpn⟩;rw[hins]at hnx;have huv:=Rf7.uv_head (hF.head q hq);have hcore:=Rf7.core_eq hFr huv hio (h:=s2) hvt g1;have hcvt:=Rf7.core_vt hFr huv hio (h:=s2) hvt;obtain⟨R,hRd⟩:∃R,R=Ver.sem m.mdl (m.us.getD q default).u ((m.us.getD q default).u.code.getD p default) (s1,s2):=⟨_,rfl⟩;rw[←hRd]at hre hcore hcvt;rw[←hyst]at hcore;rw[hre]at hbad hN;have hst0:∀g∈(l.getD p default).st,∃t,Rf7.VT m.mdl t∧g=Rf7.lt1 t:=fun g hg=>by
  rw[hyst]at hg;obtain⟨t,ht,rfl⟩:=List.mem_map.1 hg;exact⟨t,hvt t ht,rfl⟩
 have hstl:(l.getD p default).st.length≤300:=by rw[hyst,Jf];exact g1
 have hhl:(l.getD p default).hs.length=(m.us.getD q default).u.locals.length:=by rw[hyhs];exact g3
 have hrl:rest.length≤2000000:=by omega
 have hwl:=want7_len hF (m.us.getD q default).u ((m.us.getD q default).u.code.getD p default) (l.getD p default).st;have hb0:∀e,(Rf7.core7 m.mdl (m.us.getD q default).u ((m.us.getD q default).u.code.getD p default) (l.getD p default).st s2).1=e→e≠0→Rets Q w S wb q p e:=fun e h1 h0=>by
  have h2:R.err=e:=by rw[←h1,hcore,out_fst]
  refine hbad e ?_ h0;rw[tos_err _ _ _ (show(Ver.re f.at_ rest R.has R).err≠0 from by show R.err≠0;rw[h2];exact h0)];exact h2
 rw[←hyhs]at hb0 hcore;clear hRd hre;have hld:=hio.loc;obtain⟨C,hC⟩:∃C,C=(Rf7.core7 m.mdl (m.us.getD q default).u ((m.us.getD q default).u.code.getD p default) (l.getD p default).st (l.getD p default).hs):=⟨_,rfl⟩;rw[←hC]at hb0 hcore;unfold Rf7.core7 at hC;have hdf:∀(l:List Bool) k,l.getD k false=l.getD k default:=fun _ _=>rfl
 rw[hdf]at hC;refine code7_a m q hq mb kb wb ub zb l p w S Q to_ tc rest hpl hll h6 (by rw[hhl];exact h1) (fun h=>by have:=hld (.inl h);rw[hhl];exact this) hrl (fun c=>?_) (fun n11 ab ib no nc to' tc'=>?_)
 ·rw[if_pos c]at hC;exact hb0 11 (by rw[hC]) (by decide)
 rw[if_neg n11]at hC;refine code7_b m q mb kb wb ub zb l p w S Q to' tc' rest ((m.us.getD q default).u.code.getD p default) (l.getD p default).hs (l.getD p default).st ab ib no nc (fun c=>?_) (fun n8=>?_)
 ·rw[if_pos c]at hC;exact hb0 8 (by rw[hC]) (by decide)
 rw[if_neg n8]at hC;refine code7_w m q mb kb wb ub zb l p w S Q hQ hwf hF hFr.bx hq to' tc' rest ((m.us.getD q default).u.code.getD p default) hio (l.getD p default).hs (l.getD p default).st ab ib no nc (fun h=>?_) (fun h=>?_) hstl hst0 (fun c=>?_) (fun nw=>?_)
 ·exact Classical.byContradiction fun h'=>n8 (.inl ⟨h,h'⟩)
 ·exact Classical.byContradiction fun h'=>n8 (.inr (.inr ⟨h,h'⟩))
 ·rw[if_pos c]at hC;exact hb0 _ (by rw[hC]) c
 rw[if_neg (fun h=>h nw)]at hC;refine code7_t m q mb kb wb ub zb l p w S Q to' tc' rest ((m.us.getD q default).u.code.getD p default) (l.getD p default).hs (l.getD p default).st _ _ ab ib no nc hstl hwl.1 hwl.2 (fun h=>by have:=hld (.inr h);rw[hhl];exact this) (fun c=>?_) (fun nt c=>?_) (fun nt n3 h' hh1 hh2=>?_)
 ·rw[if_pos c]at hC;exact hb0 _ (by rw[hC]) c
 ·rw[if_neg (fun h=>h nt),if_pos c]at hC;exact hb0 4 (by rw[hC]) (by decide)
 rw[if_neg (fun h=>h nt),if_neg n3]at hC;refine code7_n m q mb kb wb ub zb l p w S Q to' tc' rest ((m.us.getD q default).u.code.getD p default) h' _ ab ib no nc (by omega) (fun c=>?_) (fun n12 lo lc=>?_)
 ·rw[if_pos c]at hC;exact hb0 12 (by rw[hC]) (by decide)
 rw[if_neg n12,←hh2]at hC;have hRe:R.err=0:=by rw[←out_fst,←hcore,hC]
 have ho:Rf7.out7 R=(0,R.stack.map Rf7.lt1,R.has):=by unfold Rf7.out7;rw[if_pos hRe]
 rw[ho,hC]at hcore;obtain⟨q1,q2⟩:=Prod.mk.inj (Prod.mk.inj hcore).2;rw[q1]at n3⊢;rw[q2]at hh1⊢;have hRs:R.stack.length≤300:=by rw[Jf]at n3;omega
 have hvtR:=hcvt hRe;have hnl:(Ver.nexts ((m.us.getD q default).u.code.getD p default) (p:Int)).length≤1000:=by
  unfold Ver.nexts
  repeat' split
  all_goals simp
 have hG:Ver.Inv (m.us.getD q default).u.code.length (m.us.getD q default).u.locals.length (Ver.re f.at_ rest R.has R):=⟨by show R.has.length=_;rw[hh1,hhl],hinv.ent,fun t ht=>hinv.todo t (by rw[hT];exact List.mem_cons_of_mem _ ht)⟩;have hin2:∀t∈R.stack,ImgM.In64 t:=fun t ht=>by
  have:=(hvtR t ht).rng hu30;unfold ImgM.In64;omega
 exact code7_c m q mb kb wb ub zb p w S Q hu30 hq to' tc' (Ver.re f.at_ rest R.has R) l ((m.us.getD q default).u.code.getD p default) ab ib no nc _ lo lc (m.us.getD q default).u.locals.length h6 h1 hG hR hll hRe hRs hvtR hin2 hnx hnl hmu hbad hN
set_option maxHeartbeats 1000000 in
theorem code7_is(m:ML)(q:Nat)(hq:q<m.us.length)(hF:Formed m)(hwf:m.Wf)(hFr:Rf7.Frm m.mdl):Fn Tryz.prog 52 #[m.val, .int .i64 (q:Int)] [md m] [] (σ:=Unit) (fun _=>True) (fun _=>whereV (Ver.code m.mdl q)) (fun _=>[]):=by
 obtain⟨h1,h2,h3,h4,h5,h6⟩:=head_ok (hF.head q hq);have hgood:=hF.good hwf hq;obtain⟨W,hW⟩:∃W,W=Ver.code m.mdl q:=⟨_,rfl⟩;rw[←hW];unfold Ver.code at hW;rw[ML.unit_at]at hW;refine JE [m.val, .int .i64 (q:Int)] Tryz.func52 Tryz.ntmps52 fun w S=>?_
 (refine Jn ?_);obtain⟨P,hP⟩:∃P:Nat,(m.us.getD q default).u.params=(P:Int):=JI h2
 repeat(first|refine Jg ?_|refine Jo ?_|(refine JB ?_;intro b)|(refine JA ?_;intro ao cap))
 obtain⟨ub,rfl⟩:∃x,x=b:=⟨_,rfl⟩;apply Run.op (by exact rfl);refine OpT.makeSlice_ (f:=snC) (iα:=inferInstance) (ef:=inferInstance) (z:=(⟨false,[],[],none,0⟩:Sn)) (n:=(m.us.getD q default).u.code.length) (k:=?_);intro zb
 repeat(first|refine Jg ?_|refine Jo ?_|(refine JB ?_;intro b)|(refine JA ?_;intro ao cap))
 apply Run.op (by exact rfl);refine OpT.makeSlice_ (f:=boolc) (iα:=inferInstance) (ef:=inferInstance) (z:=false) (n:=(m.us.getD q default).u.locals.length) (k:=?_);intro hb
 repeat(first|refine Jg ?_|refine Jo ?_|(refine JB ?_;intro b)|(refine JA ?_;intro ao cap))
 obtain⟨wb,rfl⟩:∃x,x=b:=⟨_,rfl⟩;obtain⟨kb,rfl⟩:∃x,x=b:=⟨_,rfl⟩;obtain⟨mb,rfl⟩:∃x,x=b:=⟨_,rfl⟩;refine Cod.only ((fun k=>[old w S,md m,blk mb [.slice m.bo m.bx.length m.bc, .slice m.uo m.us.length m.uc] 25,blk kb [.int .i64 (q:Int)] 3,blk wb [.int .i64 0, .int .i64 0, .int .i64 0] 87,blk ub (ucell (m.us.getD q default)) 115,arr (some ⟨zb,0,none⟩) (m.us.getD q default).u.code.length (m.us.getD q default).u.code.length 176 snC (List.replicate (m.us.getD q default).u.code.length (⟨false,[],[],none,0⟩:Sn)),arr (some ⟨hb,0,none⟩) (m.us.getD q default).u.locals.length (m.us.getD q default).u.locals.length 4 boolc (has0 (m.us.getD q default).u.locals.length k)]) 0) (tks) ?_;apply Cod.loop (σ:=Nat) (fun k=>k≤P) (fun k=>[(2,ptr mb),(3,ptr kb),(4,ptr wb),(5,ptr ub),(6, .slice (some ⟨zb,0,none⟩) (m.us.getD q default).u.code.length (m.us.getD q default).u.code.length),(7, .slice (some ⟨hb,0,none⟩) (m.us.getD q default).u.locals.length (m.us.getD q default).u.locals.length),(8, .int .i64 (k:Int))]) (fun k=>[old w S,md m,blk mb [.slice m.bo m.bx.length m.bc, .slice m.uo m.us.length m.uc] 25,blk kb [.int .i64 (q:Int)] 3,blk wb [.int .i64 0, .int .i64 0, .int .i64 0] 87,blk ub (ucell (m.us.getD q default)) 115,arr (some ⟨zb,0,none⟩) (m.us.getD q default).u.code.length (m.us.getD q default).u.code.length 176 snC (List.replicate (m.us.getD q default).u.code.length (⟨false,[],[],none,0⟩:Sn)),arr (some ⟨hb,0,none⟩) (m.us.getD q default).u.locals.length (m.us.getD q default).u.locals.length 4 boolc (has0 (m.us.getD q default).u.locals.length k)]) (fun k=>P-k) 0
 rotate_left
 exact sb;exact tks;intro k hs K1 hK1;(refine Jn ?_)
 rotate_left
 ·exact Nat.zero_le _
 by_cases hk:k<P
 ·repeat(first|refine Jg ?_|refine Jo ?_|(refine JB ?_;intro b)|(refine JA ?_;intro ao cap))
  apply Run.op (by exact rfl);refine OpT.storeE_ (a':=true) (k:=?_);rw[has0_set (show k<(m.us.getD q default).u.locals.length by omega)]
  repeat(first|refine Jg ?_|refine Jo ?_|(refine JB ?_;intro b)|(refine JA ?_;intro ao cap))
  refine End.round0_ hK1 (k+1) ?_ ?_
  ·omega
  ·omega
 obtain rfl:k=P:=by omega
 clear hK1 hs hk;have hL0:(has0 (m.us.getD q default).u.locals.length k).length=(m.us.getD q default).u.locals.length:=has0_len (by omega)
 repeat(first|refine Jg ?_|refine Jo ?_|(refine JB ?_;intro b)|(refine JA ?_;intro ao cap))
 obtain⟨h0,hh0⟩:∃h0,h0=has0 (m.us.getD q default).u.locals.length k:=⟨_,rfl⟩;rw[←hh0]at hL0⊢;rw[←hL0];(apply Run.op;exact rfl;refine OpT.val_ (h:=by(apply Still.at_;exact rfl;exact rfl;exact Jr;exact rfl;exact rfl;exact rfl;exact ix_zero;omega)) (k:=?_));apply Run.op (by exact rfl);refine OpT.storeE_ (α:=Sn) (i:=0) (off:=0) (a':=(⟨true,[],h0,some ⟨hb,0,none⟩,h0.length⟩:Sn)) (k:=?_)
 repeat(first|refine Jg ?_|refine Jo ?_|(refine JB ?_;intro b)|(refine JA ?_;intro ao cap))
 obtain⟨tb,rfl⟩:∃x,x=b:=⟨_,rfl⟩;apply Cod.imp (fun w hm=>toArr7 i64c [0] 1 rfl (by unfold maxLen;omega) (b:=tb) (tk) hm);apply Cod.imp (fun w hm=>nil_rows (m.us.getD q default).u.code.length hm);apply Cod.bagOut (rows_at (l:=(List.replicate (m.us.getD q default).u.code.length (⟨false,[],[],none,0⟩:Sn))) (k:=0) (by rw[List.length_replicate];omega)) tk;apply Cod.imp (fun w hm=>Mem.bagIn hm tk tks (rows_set (l:=(List.replicate (m.us.getD q default).u.code.length (⟨false,[],[],none,0⟩:Sn))) (k:=0) (by rw[List.length_replicate];omega) ⟨true,[],h0,some ⟨hb,0,none⟩,h0.length⟩) (by simp[arr_excl]));have hRl:=Rl.start (M:=m.mdl) (n:=(m.us.getD q default).u.code.length) (by omega) h0 (some ⟨hb,0,none⟩) h0.length;have hll:((List.replicate (m.us.getD q default).u.code.length (⟨false,[],[],none,0⟩:Sn)).set 0 ⟨true,[],h0,some ⟨hb,0,none⟩,h0.length⟩).length=(m.us.getD q default).u.code.length:=by simp
 generalize(List.replicate (m.us.getD q default).u.code.length (⟨false,[],[],none,0⟩:Sn)).set 0 ⟨true,[],h0,some ⟨hb,0,none⟩,h0.length⟩=l at *;have hst:Ver.start (m.us.getD q default).u=⟨[((0:Int),(([]:List Int),h0))],[0],[],h0,0⟩:=by
  unfold Ver.start Ver.to;rw[if_neg (fun h=>h rfl),if_neg (by omega),hP,Jj];unfold has0 at hh0;rw[←hh0];rfl
 have hinvb:Ver.Inv (m.us.getD q default).u.code.length (m.us.getD q default).u.locals.length (⟨[],[],[],h0,0⟩:Ver.Flow):=⟨hL0,(fun p s h=>by cases h),(fun p h=>by cases h)⟩;have hw0:=Ver.to_went hinvb (p:=0) (by omega) (by omega) (fun _=>Nat.zero_le _) (fun t h=>by cases h);have hto:Ver.to (m.us.getD q default).u.code.length 0 (⟨[],[],[],h0,0⟩:Ver.Flow)=⟨[((0:Int),(([]:List Int),h0))],[0],[],h0,0⟩:=by
  unfold Ver.to;rw[if_neg (fun h=>h rfl),if_neg (by omega)];rfl
 rw[hto]at hw0;have hmu0:=hw0.mu;rw[hst]at hW;have hm0:Ver.most (m.us.getD q default).u=2*((m.us.getD q default).u.code.length*((m.us.getD q default).u.locals.length+1))+1:=rfl;have hcl:(m.us.getD q default).u.code.length*((m.us.getD q default).u.locals.length+1)≤4000*201:=Nat.mul_le_mul h6 (by omega);have hmu1:1+Ver.room (m.us.getD q default).u.code.length (m.us.getD q default).u.locals.length [((0:Int),(([]:List Int),h0))]≤(m.us.getD q default).u.code.length*((m.us.getD q default).u.locals.length+1):=by
  rw[←Ver.room_nil];have:1+Ver.room (m.us.getD q default).u.code.length (m.us.getD q default).u.locals.length [((0:Int),(([]:List Int),h0))]≤0+Ver.room (m.us.getD q default).u.code.length (m.us.getD q default).u.locals.length []:=hmu0;omega
 rw[←hll];refine Cod.only ((fun(s:Ver.Flow×List Sn×Option Addr×Nat×Nat)=>[old w S,md m,blk mb [.slice m.bo m.bx.length m.bc, .slice m.uo m.us.length m.uc] 25,blk kb [.int .i64 (q:Int)] 3,blk wb [.int .i64 0, .int .i64 0, .int .i64 0] 87,blk ub (ucell (m.us.getD q default)) 115,arr (some ⟨zb,0,none⟩) s.2.1.length s.2.1.length 176 snC s.2.1,bag (rowsM s.2.1),arr s.2.2.1 s.1.todo.length s.2.2.2.1 3 i64c s.1.todo]) ((⟨[((0:Int),(([]:List Int),h0))],[0],[],h0,0⟩:Ver.Flow),l,some ⟨tb,0,none⟩,1,Ver.most (m.us.getD q default).u)) (tks) ?_;apply Cod.loop (σ:=Ver.Flow×List Sn×Option Addr×Nat×Nat) (fun s=>Ver.Inv (m.us.getD q default).u.code.length (m.us.getD q default).u.locals.length s.1∧s.1.err=0∧Rl m.mdl s.1.at_ s.2.1∧s.2.1.length=(m.us.getD q default).u.code.length∧W=Ver.run m.mdl (m.us.getD q default).u q s.2.2.2.2 s.1∧s.1.todo.length+Ver.room (m.us.getD q default).u.code.length (m.us.getD q default).u.locals.length s.1.at_≤s.2.2.2.2∧s.2.2.2.2≤2000000) (fun s=>[(2,ptr mb),(3,ptr kb),(4,ptr wb),(5,ptr ub),(6, .slice (some ⟨zb,0,none⟩) s.2.1.length s.2.1.length),(9, .slice s.2.2.1 s.1.todo.length s.2.2.2.1)]) (fun(s:Ver.Flow×List Sn×Option Addr×Nat×Nat)=>[old w S,md m,blk mb [.slice m.bo m.bx.length m.bc, .slice m.uo m.us.length m.uc] 25,blk kb [.int .i64 (q:Int)] 3,blk wb [.int .i64 0, .int .i64 0, .int .i64 0] 87,blk ub (ucell (m.us.getD q default)) 115,arr (some ⟨zb,0,none⟩) s.2.1.length s.2.1.length 176 snC s.2.1,bag (rowsM s.2.1),arr s.2.2.1 s.1.todo.length s.2.2.2.1 3 i64c s.1.todo]) (fun s=>s.2.2.2.2) ((⟨[((0:Int),(([]:List Int),h0))],[0],[],h0,0⟩:Ver.Flow),l,some ⟨tb,0,none⟩,1,Ver.most (m.us.getD q default).u)
 rotate_left
 exact sb;exact tks;intro s hs KM hKM;(refine Jn ?_)
 rotate_left
 ·exact⟨hw0.inv,rfl,hRl,hll,hW,by dsimp only;exact Nat.le_trans hmu1 (by omega),by dsimp only;omega⟩
 clear hW hw0 hmu0 hst hmu1 hinvb hto hRl hll hh0 hL0;obtain⟨f,l,to_,tc,fuel⟩:=s;obtain⟨hinv,he,hR,hll,hW,hmu,hfu⟩:=hs;dsimp only at hinv he hR hll hW hmu hfu hKM⊢;rcases nil_or_cons f.todo with hT|⟨pI,rest,hT⟩
 ·have hWo:W=⟨0,0,0⟩:=by
   rw[hW]
   cases fuel with
   |zero=>rfl
   |succ j=>unfold Ver.run;rw[hT];rfl
  have hlen:f.todo.length=0:=by rw[hT];rfl
  repeat(first|refine Jg ?_|refine Jo ?_|(refine JB ?_;intro b)|(refine JA ?_;intro ao cap))
  (refine End.doneC1_ (()) (he:=by exact where_eq hWo) (hp:=?_));trivial
 have hlen:f.todo.length=rest.length+1:=by rw[hT];rfl
 obtain⟨j,rfl⟩:∃j,fuel=j+1:=⟨fuel-1,by omega⟩;obtain⟨hp0,hpn,hps⟩:=hinv.todo pI (by rw[hT];exact List.mem_cons_self);obtain⟨p,rfl⟩:=JI hp0;obtain⟨⟨s1,s2⟩,hs⟩:=Option.isSome_iff_exists.1 hps;have hrun:W=if(Ver.round m.mdl (m.us.getD q default).u (p:Int) rest f).err≠0 then⟨(Ver.round m.mdl (m.us.getD q default).u (p:Int) rest f).err,q,p⟩else Ver.run m.mdl (m.us.getD q default).u q j (Ver.round m.mdl (m.us.getD q default).u (p:Int) rest f):=by
  rw[hW]
  conv=>lhs;unfold Ver.run
  rw[hT]
 clear hW;have hmu2:rest.length+Ver.room (m.us.getD q default).u.code.length (m.us.getD q default).u.locals.length f.at_≤j:=by omega
 show Cod _ _ _ (Code.seq (sl (lp (bd (sl (sr (sr (sr (sr (sr (sr (sr c14))))))))))) (Code.block 3 rnd7)) _ _;generalize hy:rnd7=y
 repeat(first|refine Jg ?_|refine Jo ?_|(refine JB ?_;intro b)|(refine JA ?_;intro ao cap))
 subst hy;rw[hT];refine Cod.weak (F:=?zF) (round7 m q hq hF hwf hFr mb kb wb ub zb l p w S _ ?zq to_ tc rest f s1 s2 hinv he hR hll hT hs (by omega) ?zb2 ?zn) ?ze ?zl
 case zq=>(repeat(first|assumption|exact PutOk.body|apply PutOk.nxt|apply PutOk.then_|apply PutOk.block))
 case zb2=>
  intro e h1 h0 E L L' F hl ht hts;rw[h1,if_pos h0]at hrun
  repeat(first|refine Jg ?_|refine Jo ?_|(refine JB ?_;intro b)|(refine JA ?_;intro ao cap))
  exact End.doneC1 () rfl hl rfl ht rfl (where_eq hrun) trivial (by intro c hc;cases hc) hts
 case zn=>
  intro h1 l' to' tc' q1 q2 q3 q4;rw[h1,if_neg (fun h=>h rfl)]at hrun;dsimp only[M7,E7]
  repeat(first|refine Jg ?_|refine Jo ?_|(refine JB ?_;intro b)|(refine JA ?_;intro ao cap))
  refine End.round0_ hKM (Ver.round m.mdl (m.us.getD q default).u (p:Int) rest f,l',to',tc',j) ?_ ?_
  ·exact⟨q3,h1,q1,q2,hrun,Nat.le_trans q4 hmu2,by dsimp only;omega⟩
  ·dsimp only;omega
 case ze=>exact sb
 case zl=>dsimp only[M7];exact tks
end Go.Proofs.YtjehflelkpacfaaGreat.Vw
