/- yieldref7.Code, a round: going on. -/
import Derived.Test.YtjehflelkpacfaaGreatM37
set_option linter.unusedVariables false
set_option linter.unusedSimpArgs false
set_option linter.unusedSectionVars false
set_option maxRecDepth 100000
namespace Go.Proofs.YtjehflelkpacfaaGreat.Vw
open Go.RowKit Go.Proofs.YtjehflelkpacfaaGreat.Img
attribute [local irreducible] Run Cod End OpT Still RunQ RunS RunT Fn PutOk
section
variable(m:ML)(q:Nat)(mb kb wb ub zb:Nat)(p:Nat)(w:World)(S:Nat→Prop)(Q:Exit→Act→World→Prop)
set_option maxHeartbeats 1000000 in
theorem code7_c(hu30:m.mdl.units.length≤30)(hq:q<m.us.length)(to_:Option Addr)(tc:Nat)(f:Ver.Flow)(l:List Sn)(i:ImgM.Ins)(ab ib:Nat)(no:Option Addr)(nc:Nat)(nx:List Int)(lo:Option Addr)(lc:Nat)(L:Nat)
  (hnc:(m.us.getD q default).u.code.length≤4000) (hL:L≤200) (hinv:Ver.Inv (m.us.getD q default).u.code.length L f) (hR:Rl m.mdl f.at_ l) (hln:l.length=(m.us.getD q default).u.code.length) (he:f.err=0) (hst:f.stack.length≤300) (hvt:∀t∈f.stack,Rf7.VT m.mdl t) (hin:∀t∈f.stack,ImgM.In64 t)
  (hnx:∀t∈nx,0≤t∧t≤((m.us.getD q default).u.code.length:Int)) (hnl:nx.length≤1000) (hmu:f.todo.length+Ver.room (m.us.getD q default).u.code.length L f.at_≤2000000)
  (hb:∀e,(Ver.tos (m.us.getD q default).u.code.length nx f).err=e→e≠0→Rets Q w S wb q p e)
  (hN:(Ver.tos (m.us.getD q default).u.code.length nx f).err=0→∀l' to' tc',Rl m.mdl (Ver.tos (m.us.getD q default).u.code.length nx f).at_ l'→l'.length=(m.us.getD q default).u.code.length→Ver.Inv (m.us.getD q default).u.code.length L (Ver.tos (m.us.getD q default).u.code.length nx f)→
   (Ver.tos (m.us.getD q default).u.code.length nx f).todo.length+Ver.room (m.us.getD q default).u.code.length L (Ver.tos (m.us.getD q default).u.code.length nx f).at_≤f.todo.length+Ver.room (m.us.getD q default).u.code.length L f.at_→
   End Q 308 .normal (E7 mb kb wb ub zb l'.length to' tc' (Ver.tos (m.us.getD q default).u.code.length nx f).todo.length) (M7 m q mb kb wb ub zb l' to' tc' (Ver.tos (m.us.getD q default).u.code.length nx f).todo w S)):
  Cod Tryz.prog Q 308 rnN ((22, .slice lo nx.length lc)::(E7 mb kb wb ub zb l.length to_ tc f.todo.length ++F7 kb ab ib no nc f.has.length (f.stack.map Rf7.lt1))) (arr lo nx.length lc 3 i64c nx::(M7 m q mb kb wb ub zb l to_ tc f.todo w S ++N7 ab ib p i no nc f.has)):=by
 conv=>arg 4;whnf
 dsimp only[M7,E7,N7,F7,List.cons_append,Jk];obtain⟨G,hG⟩:∃G,G=Ver.tos (m.us.getD q default).u.code.length nx f:=⟨_,rfl⟩;obtain⟨B,hB⟩:∃B,B=f.todo.length+Ver.room (m.us.getD q default).u.code.length L f.at_:=⟨_,rfl⟩;rw[←hG,←hB]at hN;rw[←hG]at hb;rw[←hB]at hmu;obtain⟨n,hn⟩:∃n,n=(m.us.getD q default).u.code.length:=⟨_,rfl⟩;obtain⟨st,hS⟩:∃st,st=f.stack:=⟨_,rfl⟩;obtain⟨h,hh⟩:∃h,h=f.has:=⟨_,rfl⟩;rw[←hS,←hh];rw[←hS]at hst hvt hin;rw[←hn]at hnx hnc hinv hln hN hG;have hhl:h.length=L:=by rw[hh];exact hinv.has
 have hsl:(st.map Rf7.lt1).length=st.length:=Jf _;have hvr:∀t∈st,t=1∨t=2∨(10≤t∧t<40):=fun t ht=>(hvt t ht).rng hu30
 repeat(first|refine Jg ?_|refine Jo ?_|(refine JB ?_;intro b)|(refine JA ?_;intro ao cap))
 refine Cod.only ((fun s=>[old w S,md m,blk mb [.slice m.bo m.bx.length m.bc, .slice m.uo m.us.length m.uc] 25,blk kb [.int .i64 (q:Int)] 3,blk wb [.int .i64 0, .int .i64 0, .int .i64 0] 87,blk ub (ucell (m.us.getD q default)) 115,arr (some ⟨zb,0,none⟩) s.2.2.1.length s.2.2.1.length 176 snC s.2.2.1,bag (rowsM s.2.2.1),arr s.2.2.2.1 s.2.1.todo.length s.2.2.2.2 3 i64c s.2.1.todo,blk ab [.int .i64 (p:Int)] 3,arr no h.length nc 4 boolc h,arr lo nx.length lc 3 i64c nx]) (0,f,l,to_,tc)) (tks) ?_;apply Cod.loop (σ:=Nat×Ver.Flow×List Sn×Option Addr×Nat) (fun s=>s.1≤nx.length∧Ver.Inv n L s.2.1∧s.2.1.err=0∧s.2.1.stack=st∧s.2.1.has=h∧Rl m.mdl s.2.1.at_ s.2.2.1∧s.2.2.1.length=n∧G=Ver.tos n (nx.drop s.1) s.2.1∧s.2.1.todo.length+Ver.room n L s.2.1.at_≤B) (fun s=>[(2,ptr mb),(3,ptr kb),(4,ptr wb),(5,ptr ub),(6, .slice (some ⟨zb,0,none⟩) s.2.2.1.length s.2.2.1.length),(9, .slice s.2.2.2.1 s.2.1.todo.length s.2.2.2.2),(12, .slice no h.length nc),(13,sv (st.map Rf7.lt1)),(14, .func (.func 85) #[] #[ptr kb,ptr ab]),(232, .slice lo nx.length lc),(233, .int .i64 (nx.length:Int)),(234, .int .i64 (s.1:Int))]) (fun s=>[old w S,md m,blk mb [.slice m.bo m.bx.length m.bc, .slice m.uo m.us.length m.uc] 25,blk kb [.int .i64 (q:Int)] 3,blk wb [.int .i64 0, .int .i64 0, .int .i64 0] 87,blk ub (ucell (m.us.getD q default)) 115,arr (some ⟨zb,0,none⟩) s.2.2.1.length s.2.2.1.length 176 snC s.2.2.1,bag (rowsM s.2.2.1),arr s.2.2.2.1 s.2.1.todo.length s.2.2.2.2 3 i64c s.2.1.todo,blk ab [.int .i64 (p:Int)] 3,arr no h.length nc 4 boolc h,arr lo nx.length lc 3 i64c nx]) (fun s=>nx.length-s.1) (0,f,l,to_,tc)
 rotate_left
 exact sb;exact tks;intro s hs K1 hK1;(refine Jn ?_)
 rotate_left
 ·exact⟨Nat.zero_le _,hinv,he,hS.symm,hh.symm,hR,hln,by rw[hG];rfl,by rw[hB,hn];exact Nat.le_refl _⟩
 clear hinv he hS hh hR hln hG hB;obtain⟨x,f,l,to_,tc⟩:=s;obtain⟨hx,hinv,he,hS,hh,hR,hln,hG,hmu2⟩:=hs;dsimp only at hx hinv he hS hh hR hln hG hmu2 hK1⊢
 by_cases hxl:x<nx.length
 ·rw[drop_cons hxl,Ver.tos_cons]at hG;obtain⟨ht0,htn⟩:=hnx _ (getD_mem hxl);have hw:=Ver.to_went (p:=nx.getD x default) hinv ht0 htn (fun _=>by rw[hS];exact hst) (by rw[hS];exact hin);have hgd:nx.getD x default=nx.getD x default:=rfl;obtain⟨t,ht⟩:∃t,t=nx.getD x default:=⟨_,rfl⟩;rw[←ht]at hG ht0 htn hw
  by_cases hte:t=(n:Int)
  ·have hto:(Ver.to n t f).err=3:=by
    unfold Ver.to;rw[if_neg (fun h=>h he),if_pos hte];unfold Ver.fail;rw[if_pos he]
   rw[tos_err n _ _ (by rw[hto];decide)]at hG;have htn2:nx.getD x default=((m.us.getD q default).u.code.length:Int):=by rw[←ht,hte,hn]
   repeat(first|refine Jg ?_|refine Jo ?_|(refine JB ?_;intro b)|(refine JA ?_;intro ao cap))
   refine Jc ?_;refine OpT.call_ (spec:=bad7_is kb ab q p 3) (k:=?_);intro s hs;(refine Jn ?_)
   repeat(first|refine Jg ?_|refine Jo ?_|(refine JB ?_;intro b)|(refine JA ?_;intro ao cap))
   exact hb 3 (by rw[hG];exact hto) (by decide) _ _ _ _ rfl tk tks
  obtain⟨tn,rfl⟩:=JI ht0;have htl:tn<l.length:=by omega
  have htn2:¬nx.getD x default=((m.us.getD q default).u.code.length:Int):=by rw[←ht,←hn];exact hte
  apply Cod.bagOut (rows_at htl) tk
  cases hfd:Ver.find f.at_ (tn:Int)with
  |none=>
   have hto:Ver.to n (tn:Int) f={f with at_:=f.at_ ++[((tn:Int),(st,h))],todo:=f.todo ++[(tn:Int)]}:=by
    unfold Ver.to;rw[if_neg (fun h=>h he),if_neg hte,hfd,hS,hh]
   have hcm:=hR.no tn htl hfd;have hcm2:(!(l.getD tn default).come)=true:=by rw[hcm];rfl
   repeat(first|refine Jg ?_|refine Jo ?_|(refine JB ?_;intro b)|(refine JA ?_;intro ao cap))
   rw[←ht]
   repeat(first|refine Jg ?_|refine Jo ?_|(refine JB ?_;intro b)|(refine JA ?_;intro ao cap))
   simp only[Jj];obtain⟨eb,rfl⟩:∃x,x=b:=⟨_,rfl⟩;refine Run.imp (fun w hm=>toNone7 boolc (b:=eb) (tk) hm) ?_;(apply Run.op;exact rfl;refine OpT.appendS_ (f:=boolc) (l2:=h) (k:=?_);intro ro rc);simp only[Jk,Nat.zero_add]
   repeat(first|refine Jg ?_|refine Jo ?_|(refine JB ?_;intro b)|(refine JA ?_;intro ao cap))
   apply Run.op (by exact rfl);refine OpT.storeE_ (α:=Sn) (i:=tn) (off:=0) (a':=(⟨true,st.map Rf7.lt1,h,ro,rc⟩:Sn)) (k:=?_)
   repeat(first|refine Jg ?_|refine Jo ?_|(refine JB ?_;intro b)|(refine JA ?_;intro ao cap))
   obtain⟨l',hl'⟩:∃l',l'=l.set tn ⟨true,st.map Rf7.lt1,h,ro,rc⟩:=⟨_,rfl⟩;have hll:l'.length=l.length:=by rw[hl'];exact Ji
   have hrows:=rows_set htl ⟨true,st.map Rf7.lt1,h,ro,rc⟩;have hR2:=hR.new htl hfd (s:=(st,h)) hvt ro rc;rw[←hl']at hrows hR2;rw[←hl'];clear hl';apply End.bagBack hrows tk tks (by simp[arr_excl]);obtain⟨f',hf'⟩:∃f',f'=Ver.to n (tn:Int) f:=⟨_,rfl⟩;have e1:f.todo ++[(tn:Int)]=f'.todo:=by rw[hf',hto]
   have e2:f.todo.length+1=f'.todo.length:=by rw[←e1];simp
   have e3:f'.err=0:=by rw[hf',hto];exact he
   have e4:f'.at_=f.at_ ++[((tn:Int),(st,h))]:=by rw[hf',hto]
   rw[←hf']at hw hG;rw[e1,e2,←hll];refine End.round0_ hK1 (x+1,f',l',ao,cap) ?_ ?_
   ·exact⟨by dsimp only;omega,hw.inv,e3,hw.stack.trans hS,hw.has.trans hh,by dsimp only;rw[e4];exact hR2,by dsimp only;omega,hG,Nat.le_trans hw.mu hmu2⟩
   ·dsimp only;omega
  |some s=>
   obtain⟨hcm,hyst,hyhs⟩:=hR.yes tn s htl hfd;have hcm2:(!(l.getD tn default).come)=false:=by rw[hcm];rfl
   obtain⟨g1,g2,g3⟩:=hinv.ent _ s hfd;have hxh:(l.getD tn default).hs.length=h.length:=by rw[hyhs,g3,hhl]
   by_cases hss:s.1=st
   ·have hts:Ver.to n (tn:Int) f=if Ver.meet s.2 h=s.2 then f else{f with at_:=Ver.put f.at_ (tn:Int) (s.1,Ver.meet s.2 h),todo:=f.todo ++[(tn:Int)]}:=by
     unfold Ver.to;rw[if_neg (fun h=>h he),if_neg hte,hfd];dsimp only;rw[if_neg (fun h=>h (by rw[hss,hS])),hh]
    have hne:(!decide ((l.getD tn default).st=st.map Rf7.lt1))=false:=by rw[hyst,hss,decide_eq_true rfl];rfl
    repeat(first|refine Jg ?_|refine Jo ?_|(refine JB ?_;intro b)|(refine JA ?_;intro ao cap))
    rw[←ht]
    repeat(first|refine Jg ?_|refine Jo ?_|(refine JB ?_;intro b)|(refine JA ?_;intro ao cap))
    simp only[Jj];refine Cod.only ((fun s=>[arr (l.getD tn default).ho (l.getD tn default).hs.length (l.getD tn default).hc 4 boolc s.2.1,bag (rowsM (l.eraseIdx tn)),old w S,md m,blk mb [.slice m.bo m.bx.length m.bc, .slice m.uo m.us.length m.uc] 25,blk kb [.int .i64 (q:Int)] 3,blk wb [.int .i64 0, .int .i64 0, .int .i64 0] 87,blk ub (ucell (m.us.getD q default)) 115,arr (some ⟨zb,0,none⟩) l.length l.length 176 snC l,arr to_ f.todo.length tc 3 i64c f.todo,blk ab [.int .i64 (p:Int)] 3,arr no h.length nc 4 boolc h,arr lo nx.length lc 3 i64c nx]) (0,(l.getD tn default).hs,false)) (tks) ?_;apply Cod.loop (σ:=Nat×List Bool×Bool) (MeetOk (l.getD tn default).hs h) (fun s=>[(2,ptr mb),(3,ptr kb),(4,ptr wb),(5,ptr ub),(6, .slice (some ⟨zb,0,none⟩) l.length l.length),(9, .slice to_ f.todo.length tc),(12, .slice no h.length nc),(13,sv (st.map Rf7.lt1)),(14, .func (.func 85) #[] #[ptr kb,ptr ab]),(24, .int .i64 (tn:Int)),(25, .pointer (place (sz snC) (some ⟨zb,0,none⟩) tn 0)),(26, .bool s.2.2),(232, .slice lo nx.length lc),(233, .int .i64 (nx.length:Int)),(234, .int .i64 (x:Int)),(276, .int .i64 ((l.getD tn default).hs.length:Int)),(277, .int .i64 (s.1:Int))]) (fun s=>[arr (l.getD tn default).ho (l.getD tn default).hs.length (l.getD tn default).hc 4 boolc s.2.1,bag (rowsM (l.eraseIdx tn)),old w S,md m,blk mb [.slice m.bo m.bx.length m.bc, .slice m.uo m.us.length m.uc] 25,blk kb [.int .i64 (q:Int)] 3,blk wb [.int .i64 0, .int .i64 0, .int .i64 0] 87,blk ub (ucell (m.us.getD q default)) 115,arr (some ⟨zb,0,none⟩) l.length l.length 176 snC l,arr to_ f.todo.length tc 3 i64c f.todo,blk ab [.int .i64 (p:Int)] 3,arr no h.length nc 4 boolc h,arr lo nx.length lc 3 i64c nx]) (fun s=>(l.getD tn default).hs.length-s.1) (0,(l.getD tn default).hs,false)
    rotate_left
    exact sb;exact tks;intro z hz K2 hK2;(refine Jn ?_)
    rotate_left
    ·exact MeetOk.start _ _
    obtain⟨j,cur,less⟩:=z;have hle:=hz.le;dsimp only at hle hK2⊢
    by_cases hk:j<(l.getD tn default).hs.length
    ·by_cases hb2:cur.getD j default=true∧h.getD j default=false
     ·obtain⟨hb1,hb2⟩:=hb2;have hb2':(!(h.getD j default))=true:=by rw[hb2];rfl
      repeat(first|refine Jg ?_|refine Jo ?_|(refine JB ?_;intro b)|(refine JA ?_;intro ao cap))
      apply Run.op (by exact rfl);refine OpT.storeE_ (f:=boolc) (i:=j) (off:=0) (a':=false) (k:=?_)
      repeat(first|refine Jg ?_|refine Jo ?_|(refine JB ?_;intro b)|(refine JA ?_;intro ao cap))
      refine End.round0_ hK2 (j+1,cur.set j false,true) ?_ ?_
      ·exact hz.set hk hb1 hb2
      ·dsimp only;omega
     ·cases hb1:cur.getD j default with
      |false=>
       repeat(first|refine Jg ?_|refine Jo ?_|(refine JB ?_;intro b)|(refine JA ?_;intro ao cap))
       refine End.round0_ hK2 (j+1,cur,less) ?_ ?_
       ·exact hz.skip hk hb2
       ·dsimp only;omega
      |true=>
       have hb3:h.getD j default=true:=by cases h':h.getD j default<;>simp_all
       have hb3':(!(h.getD j default))=false:=by rw[hb3];rfl
       repeat(first|refine Jg ?_|refine Jo ?_|(refine JB ?_;intro b)|(refine JA ?_;intro ao cap))
       refine End.round0_ hK2 (j+1,cur,less) ?_ ?_
       ·exact hz.skip hk hb2
       ·dsimp only;omega
    ·have hfin:=hz.fin hk hxh;have hless:=hz.less;dsimp only at hless;clear hz hK2;rcases hless with⟨rfl,hce⟩|⟨rfl,hne2⟩
     ·rw[hce]at hfin;rw[if_pos (by rw[←hyhs];exact hfin.symm)]at hts;rw[hts]at hG;rw[hce]
      repeat(first|refine Jg ?_|refine Jo ?_|(refine JB ?_;intro b)|(refine JA ?_;intro ao cap))
      apply End.bagBack (rows_at htl) tk tks (by simp[arr_excl]);refine End.round0_ hK1 (x+1,f,l,to_,tc) ?_ ?_
      ·exact⟨by dsimp only;omega,hinv,he,hS,hh,hR,hln,hG,hmu2⟩
      ·dsimp only;omega
     ·have hml:(Ver.meet s.2 h)=cur:=by rw[←hyhs];exact hfin.symm
      rw[hml,if_neg (by rw[←hyhs];exact hne2)]at hts;have hcl:cur.length=(l.getD tn default).hs.length:=by rw[hfin];exact meet_len _ _ hxh
      repeat(first|refine Jg ?_|refine Jo ?_|(refine JB ?_;intro b)|(refine JA ?_;intro ao cap))
      obtain⟨l',hl'⟩:∃l',l'=l.set tn {(l.getD tn default)with hs:=cur}:=⟨_,rfl⟩;have hll:l'.length=l.length:=by rw[hl'];exact Ji
      have hrows:=rows_set htl {(l.getD tn default)with hs:=cur};have hR2:=hR.put htl hfd cur;have hsame:arr (some ⟨zb,0,none⟩) l.length l.length 176 snC l=arr (some ⟨zb,0,none⟩) l.length l.length 176 snC l':=by
       rw[hl'];exact arr_same (map_set_same htl (by unfold snC;dsimp only;rw[hcl]))
      rw[←hl']at hrows hR2;rw[hsame];clear hl' hsame;rw[←hcl];apply End.bagBack hrows tk tks (by simp[arr_excl]);obtain⟨f',hf'⟩:∃f',f'=Ver.to n (tn:Int) f:=⟨_,rfl⟩;have e1:f.todo ++[(tn:Int)]=f'.todo:=by rw[hf',hts]
      have e2:f.todo.length+1=f'.todo.length:=by rw[←e1];simp
      have e3:f'.err=0:=by rw[hf',hts];exact he
      have e4:f'.at_=Ver.put f.at_ (tn:Int) (s.1,cur):=by rw[hf',hts]
      rw[←hf']at hw hG;rw[e1,e2,←hll];refine End.round0_ hK1 (x+1,f',l',ao,cap) ?_ ?_
      ·exact⟨by dsimp only;omega,hw.inv,e3,hw.stack.trans hS,hw.has.trans hh,by dsimp only;rw[e4];exact hR2,by dsimp only;omega,hG,Nat.le_trans hw.mu hmu2⟩
      ·dsimp only;omega
   ·have hto:(Ver.to n (tn:Int) f).err=8:=by
     unfold Ver.to;rw[if_neg (fun h=>h he),if_neg hte,hfd];dsimp only;rw[if_pos (fun h=>hss (by rw[h,hS]))];unfold Ver.fail;rw[if_pos he]
    rw[tos_err n _ _ (by rw[hto];decide)]at hG;have hne:(!decide ((l.getD tn default).st=st.map Rf7.lt1))=true:=by
     rw[hyst,decide_eq_false (fun h=>hss (Rf7.map_inj (fun t ht=>(hR.vt _ s hfd t ht).rng hu30) hvr h))];rfl
    repeat(first|refine Jg ?_|refine Jo ?_|(refine JB ?_;intro b)|(refine JA ?_;intro ao cap))
    rw[←ht]
    repeat(first|refine Jg ?_|refine Jo ?_|(refine JB ?_;intro b)|(refine JA ?_;intro ao cap))
    simp only[Jj]
    repeat(first|refine Jg ?_|refine Jo ?_|(refine JB ?_;intro b)|(refine JA ?_;intro ao cap))
    refine Jc ?_;refine OpT.call_ (spec:=bad7_is kb ab q p 8) (k:=?_);intro s hs;(refine Jn ?_)
    repeat(first|refine Jg ?_|refine Jo ?_|(refine JB ?_;intro b)|(refine JA ?_;intro ao cap))
    exact hb 8 (by rw[hG];exact hto) (by decide) _ _ _ _ rfl tk tks
 ·rw[List.drop_of_length_le (by omega),Ver.tos_nil]at hG;subst hG
  repeat(first|refine Jg ?_|refine Jo ?_|(refine JB ?_;intro b)|(refine JA ?_;intro ao cap))
  (apply End.weak (hN he l to_ tc hR (by omega) hinv hmu2);(focus (dsimp only[E7,F7,List.cons_append,Jk];exact sb));(focus (dsimp only[M7,N7,List.cons_append,Jk];exact tks)))
end
end Go.Proofs.YtjehflelkpacfaaGreat.Vw
