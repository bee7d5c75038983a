/- What an instruction does hangs on the task alone, and on what it receives; what it does elsewhere are its events. Plain Lean. -/
import Derived.Test.YtofckcabpchcmaaGreatDoorM22
import Derived.Laws.StructEq
set_option linter.unusedVariables false
set_option linter.unusedSimpArgs false
set_option linter.unusedSectionVars false
set_option maxRecDepth 100000
namespace Go.Proofs.YtofckcabpchcmaaGreatDoor
namespace Vm
open ImgM Ver Opt
abbrev Ev:=Int×Int×Int
def rec(x:Int):Env (List Ev) where
 full _ _:=false
 empty _ _:=false
 put s _ _:=s
 take s _:=(x,s)
 tell s e:=s ++[e]
section
variable{ν:Type}(V:Env ν)(M:aL)
def oV(s:ν)(e:Ev):ν:=if e.1=2 then V.tell (V.put s e.2.1.toNat e.2.2) e else if e.1=3 then V.tell (V.take s e.2.1.toNat).2 e else V.tell s e
def loc(x:Int)(i:aT)(t:Tk):Tk×List Ev:=exec (rec x) M i (t,[])
abbrev pl(s:ν)(r:Tk×List Ev):Tk×ν:=(r.1,r.2.foldl (oV V) s)
variable(x:Int)(s:ν)
theorem VC(t:Tk)(l:List Ev)(e:Ev)(h2:e.1≠2)(h3:e.1≠3):pl V s (t,l ++[e])=(t,V.tell (l.foldl (oV V) s) e):=by
 unfold pl;simp only[List.foldl_append,zA,List.foldl_nil];rw[show oV V (l.foldl (oV V) s) e=V.tell (l.foldl (oV V) s) e by unfold oV;rw[if_neg h2,if_neg h3]]
theorem BA(n:Int)(r:Tk×List Ev):e9 V n (pl V s r)=pl V s (e9 (rec x) n r):=by
 obtain⟨t,l⟩:=r;unfold e9
 by_cases h:t.st=5
 ·rw[if_pos (show(pl V s (t,l)).1.st=5 from h),if_pos (show(t,l).1.st=5 from h)]
 ·rw[if_neg (show¬(pl V s (t,l)).1.st=5 from h),if_neg (show¬(t,l).1.st=5 from h)];exact(VC V s _ l (5,0,n) aW aW).symm
theorem oX(v:Int)(r:Tk×List Ev):push V v (pl V s r)=pl V s (push (rec x) v r):=by
 unfold push
 by_cases h:(cur r.1).ws.length=400
 ·rw[if_pos (show(cur (pl V s r).1).ws.length=400 from h),if_pos h];exact BA V x s 4 r
 ·rw[if_neg (show¬(cur (pl V s r).1).ws.length=400 from h),if_neg h]
theorem VN:∀(n:Nat) (r:Tk×List Ev),gB V n (pl V s r)=pl V s (gB (rec x) n r)
 |0,r=>rfl
 |n+1,r=>by
  unfold gB;rw[oX V x s 0 r];exact VN n _
theorem jH{c:Prop} [Decidable c]{a b:Tk×ν}{a' b':Tk×List Ev}(h1:a=pl V s a')(h2:b=pl V s b'):(if c then a else b)=pl V s (if c then a' else b'):=by
 split
 ·exact h1
 ·exact h2
theorem aB9(i:aT)(t:Tk)(hx:i.op=27→x=(V.take s i.a.toNat).1):exec V M i (t,s)=pl V s (loc M x i t):=by
 have e0:∀t:Tk,(t,s)=pl V s (t,[]):=fun _=>rfl;have tl:∀(t:Tk) (e:Ev),e.1≠2→e.1≠3→(t,V.tell s e)=pl V s (t,[e]):=fun t e h2 h3=>(VC V s t [] e h2 h3).symm;unfold loc exec;dsimp only;refine jH V s (oX V x s _ (_,[])) ?_;refine jH V s (oX V x s _ (_,[])) ?_;refine jH V s (oX V x s _ (_,[])) ?_;refine jH V s rfl ?_;refine jH V s rfl ?_;refine jH V s (oX V x s _ (_,[])) ?_;refine jH V s (oX V x s _ (_,[])) ?_;refine jH V s (jH V s (BA V x s _ (_,[])) (oX V x s _ (_,[]))) ?_;refine jH V s rfl ?_;refine jH V s rfl ?_;refine jH V s rfl ?_
 by_cases h27:i.op=27
 ·rw[if_pos h27,if_pos h27];have hx:=hx h27;have e:((t,V.tell (V.take s i.a.toNat).2 (3,i.a,(V.take s i.a.toNat).1)):Tk×ν)=pl V s (t,[] ++[(3,i.a,x)]):=by
   rw[←hx];rfl
  rw[e,←hx];exact oX V x s _ (t,[] ++[(3,i.a,x)])
 rw[if_neg h27,if_neg h27];refine jH V s (tl _ _ aW aW) ?_;refine jH V s ?_ ?_
 ·unfold vF;refine jH V s (BA V x s _ (_,[])) (VN V x s _ (_,[]))
 refine jH V s ?_ ?_
 ·exact oX V x s _ (_,[])
 refine jH V s ?_ ?_
 ·unfold tO;dsimp only
  cases(cur t).up with
  |none=>exact tl _ _ aW aW
  |some j=>exact oX V x s _ (_,[])
 refine jH V s ?_ ?_
 ·unfold vZ;dsimp only;refine jH V s (BA V x s _ (_,[])) ?_;rw[tl _ _ aW aW];exact oX V x s _ (_,[_])
 refine jH V s ?_ ?_
 ·unfold yC;dsimp only;refine jH V s (BA V x s _ (_,[])) ?_;refine jH V s (BA V x s _ (_,[])) ?_;exact jH V s rfl (oX V x s _ (_,[]))
 refine jH V s ?_ ?_
 ·exact oX V x s _ (_,[])
 exact jH V s (oX V x s _ (_,[])) rfl
end
def outs(l:List Ev):List Int:=l.filterMap fun e=>if e.1=1 then some e.2.2 else none
theorem aEF(a b:List Ev):outs (a ++b)=outs a ++outs b:=List.filterMap_append ..
def B4(t:Tk)(l:List Ev)(r:Tk×List Ev):Prop:=
 (r.2=l∧r.1.st=t.st∧r.1.tr=t.tr∧r.1.out=t.out)∨(r.2=l ++[(5,0,r.1.tr)]∧r.1.st=5∧r.1.out=t.out)
section
variable{x:Int}
theorem X3(n:Int)(r:Tk×List Ev)(h:r.1.st≠5):B4 r.1 r.2 (e9 (rec x) n r):=by
 unfold e9;rw[if_neg h];exact .inr ⟨rfl,rfl,rfl⟩
theorem GP(v:Int)(r:Tk×List Ev)(h:r.1.st≠5):B4 r.1 r.2 (push (rec x) v r):=by
 unfold push
 split
 ·exact X3 _ r h
 ·exact .inl ⟨rfl,rfl,rfl,rfl⟩
theorem aEo{v:Int}{r:Tk×List Ev}(h:r.1.st=5):(push (rec x) v r).2=r.2∧(push (rec x) v r).1.st=5∧(push (rec x) v r).1.tr=r.1.tr∧(push (rec x) v r).1.out=r.1.out:=by
 unfold push
 split
 ·unfold e9;rw[if_pos h];exact⟨rfl,h,rfl,rfl⟩
 ·exact⟨rfl,h,rfl,rfl⟩
theorem VS:∀(n:Nat) {r:Tk×List Ev},r.1.st=5→(gB (rec x) n r).2=r.2∧(gB (rec x) n r).1.st=5∧(gB (rec x) n r).1.tr=r.1.tr∧(gB (rec x) n r).1.out=r.1.out
 |0,r,h=>⟨rfl,h,rfl,rfl⟩
 |n+1,r,h=>by
  unfold gB;obtain⟨h1,h2,h3,h4⟩:=aEo (x:=x) (v:=0) h;obtain⟨g1,g2,g3,g4⟩:=VS n h2;exact⟨g1.trans h1,g2,g3.trans h3,g4.trans h4⟩
theorem VO:∀(n:Nat) (r:Tk×List Ev),r.1.st≠5→B4 r.1 r.2 (gB (rec x) n r)
 |0,r,h=> .inl ⟨rfl,rfl,rfl,rfl⟩
 |n+1,r,h=>by
  unfold gB;rcases GP (x:=x) 0 r h with⟨h1,h2,h3,h4⟩|⟨h1,h2,h3⟩
  ·rcases VO n (push (rec x) 0 r) (by rw[h2];exact h)with⟨g1,g2,g3,g4⟩|⟨g1,g2,g3⟩
   ·exact .inl ⟨g1.trans h1,g2.trans h2,g3.trans h3,g4.trans h4⟩
   ·exact .inr ⟨by rw[g1,h1],g2,g3.trans h4⟩
  ·obtain⟨g1,g2,g3,g4⟩:=VS (x:=x) n h2;exact .inr ⟨by rw[g1,h1,g3],g2,g4.trans h3⟩
structure rY(i:aT)(x:Int)(t:Tk)(r:Tk×List Ev):Prop where
 ex:(∃t1 l1,B4 t1 l1 r∧t1.st=t.st∧t1.tr=t.tr∧t1.out=t.out ++outs l1∧(l1=[]∧i.op≠26∧i.op≠27∨i.op=26∧l1=[(2,i.a,last t)]∨i.op=27∧l1=[(3,i.a,x)]∨i.op=28∧l1=[(1,0,last t)]∨i.op=29∧l1=[(6,0,(i.a.toNat:Int))]))∨(i.op=25∧r.2=[(4,0,0)]∧r.1.st=4∧r.1.tr=t.tr∧r.1.out=t.out)
theorem aCs(M:aL)(x:Int)(i:aT)(t:Tk)(h5:t.st≠5):rY i x t (loc M x i t):=by
 have nil:∀{r:Tk×List Ev} {t1:Tk},B4 t1 [] r→t1.st=t.st→t1.tr=t.tr→t1.out=t.out→i.op≠26→i.op≠27→rY i x t r:=fun{r t1} h1 h2 h3 h4 h6 h7=>
  ⟨.inl ⟨t1,[],h1,h2,h3,by rw[h4];simp[outs], .inl ⟨rfl,h6,h7⟩⟩⟩
 have pn:∀(v:Int) (t1:Tk),t1.st=t.st→t1.tr=t.tr→t1.out=t.out→i.op≠26→i.op≠27→rY i x t (push (rec x) v (t1,[])):=fun v t1 h2 h3 h4 h6 h7=>
  nil (GP v (t1,[]) (by show t1.st≠5;rw[h2];exact h5)) h2 h3 h4 h6 h7
 have tn:∀(n:Int) (t1:Tk),t1.st=t.st→t1.tr=t.tr→t1.out=t.out→i.op≠26→i.op≠27→rY i x t (e9 (rec x) n (t1,[])):=fun v t1 h2 h3 h4 h6 h7=>
  nil (X3 v (t1,[]) (by show t1.st≠5;rw[h2];exact h5)) h2 h3 h4 h6 h7
 have sn:∀(t1:Tk),t1.st=t.st→t1.tr=t.tr→t1.out=t.out→i.op≠26→i.op≠27→rY i x t (t1,[]):=fun t1 h2 h3 h4 h6 h7=>
  nil (.inl ⟨rfl,rfl,rfl,rfl⟩) h2 h3 h4 h6 h7
 unfold loc exec;dsimp only
 by_cases h1:i.op=1
 ·rw[if_pos h1];exact pn _ _ rfl rfl rfl aA aA
 rw[if_neg h1]
 by_cases h1:i.op=2
 ·rw[if_pos h1];exact pn _ _ rfl rfl rfl aA aA
 rw[if_neg h1]
 by_cases h1:i.op=3
 ·rw[if_pos h1];exact pn _ _ rfl rfl rfl aA aA
 rw[if_neg h1]
 by_cases h1:i.op=4
 ·rw[if_pos h1];exact sn _ rfl rfl rfl aA aA
 rw[if_neg h1]
 by_cases h1:i.op=5
 ·rw[if_pos h1];exact sn _ rfl rfl rfl aA aA
 rw[if_neg h1]
 by_cases h1:i.op=6
 ·rw[if_pos h1];exact pn _ _ rfl rfl rfl aA aA
 rw[if_neg h1]
 by_cases h1:i.op=7
 ·rw[if_pos h1];exact pn _ _ rfl rfl rfl aA aA
 rw[if_neg h1]
 by_cases h1:8≤i.op∧i.op≤20
 ·rw[if_pos h1]
  split
  ·exact tn _ _ rfl rfl rfl aA aA
  ·exact pn _ _ rfl rfl rfl aA aA
 rw[if_neg h1]
 by_cases h1:i.op=21
 ·rw[if_pos h1];exact sn _ rfl rfl rfl aA aA
 rw[if_neg h1]
 by_cases h1:i.op=22
 ·rw[if_pos h1]
  split
  ·exact sn _ rfl rfl rfl aA aA
  ·exact sn _ rfl rfl rfl aA aA
 rw[if_neg h1]
 by_cases h1:i.op=26
 ·rw[if_pos h1];exact⟨.inl ⟨drop 1 t,[(2,i.a,last t)], .inl ⟨rfl,rfl,rfl,rfl⟩,rfl,rfl,by simp[outs,drop,setCur,fB], .inr (.inl ⟨h1,rfl⟩)⟩⟩
 rw[if_neg h1]
 by_cases h1:i.op=27
 ·rw[if_pos h1];exact⟨.inl ⟨t,[(3,i.a,x)],GP x (t,[(3,i.a,x)]) h5,rfl,rfl,by simp[outs], .inr (.inr (.inl ⟨h1,rfl⟩))⟩⟩
 rw[if_neg h1]
 by_cases h1:i.op=28
 ·rw[if_pos h1];exact⟨.inl ⟨{drop 1 t with out:=(drop 1 t).out ++[last t]},[(1,0,last t)], .inl ⟨rfl,rfl,rfl,rfl⟩,rfl,rfl,by simp[outs,drop,setCur,fB], .inr (.inr (.inr (.inl ⟨h1,rfl⟩)))⟩⟩
 rw[if_neg h1]
 by_cases h1:i.op=23
 ·rw[if_pos h1];unfold vF
  split
  ·exact tn _ _ rfl rfl rfl aA aA
  ·refine nil (VO _ (_,[]) ?_) rfl rfl rfl aA aA;exact h5
 rw[if_neg h1]
 by_cases h1:i.op=24
 ·rw[if_pos h1];exact pn _ _ rfl rfl rfl aA aA
 rw[if_neg h1]
 by_cases h1:i.op=25
 ·rw[if_pos h1];unfold tO;dsimp only
  cases(cur t).up with
  |none=>exact⟨.inr ⟨h1,rfl,rfl,rfl,rfl⟩⟩
  |some j=>exact pn _ _ rfl rfl rfl aA aA
 rw[if_neg h1]
 by_cases h1:i.op=29
 ·rw[if_pos h1];unfold vZ;dsimp only
  split
  ·exact tn _ _ rfl rfl rfl aA aA
  ·exact⟨.inl ⟨{drop (bL M i.a.toNat).params.toNat t with cs:=(drop (bL M i.a.toNat).params.toNat t).cs ++[begin M i.a.toNat ((cur t).ws.drop ((cur t).ws.length-(bL M i.a.toNat).params.toNat))]},[(6,0,(i.a.toNat:Int))],GP _ (_,[(6,0,(i.a.toNat:Int))]) h5,rfl,rfl,by simp[outs,drop,setCur,fB], .inr (.inr (.inr (.inr ⟨h1,rfl⟩)))⟩⟩
 rw[if_neg h1]
 by_cases h1:i.op=30
 ·rw[if_pos h1];unfold yC;dsimp only
  split
  ·exact tn _ _ rfl rfl rfl aA aA
  split
  ·exact tn _ _ rfl rfl rfl aA aA
  split
  ·exact sn _ rfl rfl rfl aA aA
  ·exact pn _ _ rfl rfl rfl aA aA
 rw[if_neg h1]
 by_cases h1:i.op=31
 ·rw[if_pos h1];exact pn _ _ rfl rfl rfl aA aA
 rw[if_neg h1]
 by_cases h1':i.op=32
 ·rw[if_pos h1'];exact pn _ _ rfl rfl rfl aA aA
 rw[if_neg h1'];exact sn _ rfl rfl rfl (by assumption) (by assumption)
end
def LW(t:Tk):Tk:=gX ((gY (cur t)).pc+1) t
def vK(M:aL)(x:Int)(t:Tk):Tk×List Ev:=loc M x (cO M t) (LW t)
section
variable{ν:Type}(V:Env ν)(M:aL)
def vJ(r:Tk×ν):Int:=if(cO M r.1).op=27 then(V.take r.2 (cO M r.1).a.toNat).1 else 0
theorem xZ(r:Tk×ν):(look V M r).2=r.2:=by
 unfold look waits
 split
 ·split
  ·rfl
  split<;>rfl
 ·rfl
theorem TJ(r:Tk×ν):∃a b,(look V M r).1={r.1 with st:=a,bx:=b}:=by
 unfold look waits
 split
 ·split
  ·exact⟨_,_,rfl⟩
  split<;>exact⟨_,_,rfl⟩
 ·exact⟨r.1.st,r.1.bx,rfl⟩
theorem aCv(r:Tk×ν):cO M (look V M r).1=cO M r.1:=by
 obtain⟨a,b,h⟩:=TJ V M r;rw[h];rfl
theorem xY(r:Tk×ν):(look V M r).1.out=r.1.out∧(look V M r).1.tr=r.1.tr:=by
 obtain⟨a,b,h⟩:=TJ V M r;rw[h];exact⟨rfl,rfl⟩
theorem NK{r:Tk×ν}(h:(look V M r).1.st≠1):step V M r=(false,look V M r):=by unfold step;exact if_pos h
theorem NM{r:Tk×ν}(h:(look V M r).1.st=1):step V M r=(true,look V M (pl V r.2 (vK M (vJ V M r) (look V M r).1))):=by
 unfold step;dsimp only;rw[if_neg (fun h'=>h' h)];unfold vK;rw[aCv];have e:((gX ((gY (cur (look V M r).1)).pc+1) (look V M r).1,(look V M r).2):Tk×ν)=(LW (look V M r).1,r.2):=by rw[xZ];rfl
 rw[e,aB9 V M (vJ V M r) r.2 (cO M r.1) _ (fun h=>by unfold vJ;rw[if_pos h])]
def nZ(r:Tk×ν):List Ev:=if(look V M r).1.st=1 then(vK M (vJ V M r) (look V M r).1).2 else []
theorem LI{x:Int}{t:Tk}(h:t.st≠5):rY (cO M t) x (LW t) (vK M x t):=aCs M x _ _ h
end
section
variable{i:aT}{x:Int}{t:Tk}{r:Tk×List Ev}
theorem UT{k a v:Int}(h:k≠1):outs [(k,a,v)]=[]:=by unfold outs;simp[h]
theorem aEH{i:aT}{x:Int}{t:Tk}{l1:List Ev}(h:l1=[]∧i.op≠26∧i.op≠27∨i.op=26∧l1=[(2,i.a,last t)]∨i.op=27∧l1=[(3,i.a,x)]∨i.op=28∧l1=[(1,0,last t)]∨i.op=29∧l1=[(6,0,(i.a.toNat:Int))]):l1.length≤1:=by
 rcases h with h|h|h|h|h
 ·rw[h.1];simp
 all_goals (rw[h.2];simp)
theorem rY.len(h:rY i x t r):r.2.length≤2:=by
 rcases h.ex with⟨t1,l1,h1,h2,h3,h4,h5⟩|⟨-,h1, -⟩
 ·have hl:=aEH h5;rcases h1 with⟨e, -⟩|⟨e, -⟩
  ·rw[e];omega
  ·rw[e];simp;omega
 ·rw[h1];simp
theorem rY.out(h:rY i x t r):r.1.out=t.out ++outs r.2:=by
 rcases h.ex with⟨t1,l1,h1,h2,h3,h4,h5⟩|⟨-,h1, -, -,h2⟩
 ·rcases h1 with⟨e, -, -,e2⟩|⟨e, -,e2⟩
  ·rw[e,e2,h4]
  ·rw[e,e2,h4,aEF,UT aA,eS]
 ·rw[h1,h2,UT aA,eS]
theorem aEG:∀l:List Ev,(outs l).length≤l.length:=fun l=>List.length_filterMap_le _ l
end
section
variable{ν:Type}{V:Env ν}{M:aL}{sz:ν→Nat}(vX:∀v b x,sz (V.put v b x)≤sz v+1)(uO:∀v b,sz (V.take v b).2≤sz v+1)(qX:∀v x,sz (V.tell v x)≤sz v+1)
include vX uO qX
theorem aEd(s:ν)(e:Ev):sz (oV V s e)≤sz s+2:=by
 unfold oV
 split
 ·have:=qX (V.put s e.2.1.toNat e.2.2) e;have:=vX s e.2.1.toNat e.2.2;omega
 split
 ·have:=qX (V.take s e.2.1.toNat).2 e;have:=uO s e.2.1.toNat;omega
 ·have:=qX s e;omega
theorem VD:∀(l:List Ev) (s:ν),sz (l.foldl (oV V) s)≤sz s+2*l.length
 |[],s=>by simp
 |e::l,s=>by
  have h1:=VD l (oV V s e);have h2:=aEd vX uO qX s e;simp only[zA,JW];omega
theorem XJ(r:Tk×ν):sz (step V M r).2.2≤sz r.2+4:=by
 by_cases h:(look V M r).1.st=1
 ·rw[NM V M h,xZ];have h1:=VD vX uO qX (vK M (vJ V M r) (look V M r).1).2 r.2;have h2:=(LI M (x:=vJ V M r) (t:=(look V M r).1) aA).len;show sz (List.foldl (oV V) r.2 _)≤_;omega
 ·rw[NK V M h,xZ];omega
end
section
variable{ν:Type}{V:Env ν}{M:aL}
theorem aHF(r:Tk×ν):(step V M r).2.1.out=r.1.out ++outs (nZ V M r):=by
 unfold nZ
 by_cases h:(look V M r).1.st=1
 ·rw[if_pos h,NM V M h,(xY V M _).1];show(vK _ _ _).1.out=_;rw[(LI M (x:=vJ V M r) (t:=(look V M r).1) aA).out];show(look V M r).1.out ++_=_;rw[(xY V M r).1]
 ·rw[if_neg h,NK V M h,(xY V M r).1];simp[outs]
theorem aB4(r:Tk×ν):(nZ V M r).length≤2:=by
 unfold nZ
 split
 ·rename_i h
  exact(LI M (x:=vJ V M r) (t:=(look V M r).1) aA).len
 ·simp
theorem XH(r:Tk×ν):(step V M r).2.1.out.length≤r.1.out.length+2:=by
 rw[aHF,Jl];have:=aEG (nZ V M r);have:=aB4 (V:=V) (M:=M) r;omega
end
structure Bs where
 ws:List (List Int)
 log:List (Nat×Ev)
def nE(M:aL)(b:Nat):Nat:=(M.boxes.getD b default).2.toNat
def cZ(M:aL)(told:Option Nat):Env Bs where
 full s b:=decide ((s.ws.getD b []).length=nE M b)
 empty s b:=decide ((s.ws.getD b []).length=0)
 put s b v:={s with ws:=s.ws.set b (s.ws.getD b [] ++[v])}
 take s b:=((s.ws.getD b []).headD 0,{s with ws:=s.ws.set b (s.ws.getD b []).tail})
 tell s e:=match told with
  |none=>s
  |some k=>{s with log:=s.log ++[(k,e)]}
structure Ma where
 ts:List Tk
 bs:Bs
 n:Nat
def Ma.init(M:aL):Ma:=⟨(tasks M).map (Vm.new M),⟨List.replicate M.boxes.length [],[]⟩,0⟩
def A5(told:Bool)(k:Nat):Option Nat:=if told then some k else none
def Ma.at_(c:Ma)(k:Nat):Tk×Bs:=(c.ts.getD k default,c.bs)
def nJ{ν:Type}(V:Env ν)(M:aL)(n:Nat)(q:Int)(r:Tk×ν):(Int×Nat)×(Tk×ν):=
 if q<1∨10000<q then((5,0),r)
 else if(look V M r).1.st≠1 then((11,0),look V M r)
 else(if(goN V M (min q.toNat (20000-n)) (look V M r)).1=0 then(10,0)else(0,(goN V M (min q.toNat (20000-n)) (look V M r)).1),(goN V M (min q.toNat (20000-n)) (look V M r)).2)
def pick(M:aL)(told:Bool)(c:Ma)(p:Int×Int):(Int×Nat)×Ma:=
 if p.1<0∨(c.ts.length:Int)≤p.1 then((3,0),c)
 else
  let r:=nJ (cZ M (A5 told p.1.toNat)) M c.n p.2 (c.at_ p.1.toNat)
  (r.1,⟨c.ts.set p.1.toNat r.2.1,r.2.2,c.n+r.1.2⟩)
def iI(M:aL)(told:Bool):List (Int×Int)→Ma→List (Int×Nat)×Ma
 |[],c=>([],c)
 |p::l,c=>((pick M told c p).1::(iI M told l (pick M told c p).2).1,(iI M told l (pick M told c p).2).2)
def Ma.looked(M:aL)(c:Ma):Ma:=⟨c.ts.map fun t=>(look (cZ M none) M (t,c.bs)).1,c.bs,c.n⟩
def Ma.ready(c:Ma):List Nat:=(List.range c.ts.length).filter fun k=>decide ((c.ts.getD k default).st=1)
def qS(l:List Nat)(last:Int):Nat:=(l.find? fun k:Nat=>decide (last<(k:Int))).getD (l.headD 0)
def settle(M:aL)(q:Int):Nat→Int→Ma→Option Ma
 |0,_,c=>none
 |n+1,last,c=>
  let c:=c.looked M
  if c.ready=[]then some c
  else
   let r:=pick M false c ((qS c.ready last:Int),q)
   if r.1.1≠0 then none else settle M q n (qS c.ready last) r.2
def CN(l:List (Int×Int))(d:List (Int×Nat)):Int:=((l.zip d).filter fun x=>decide (x.2.1=0)).foldl (fun _ x=>x.1.1) (-1)
def kX(M:aL)(n:Nat):Int:=if(verify M).err≠0 then(verify M).err else if 400<n then 5 else 0
theorem aAa{M:aL}(h:verify M= .ok)(hG:∀k,k<M.aJ.length→Ver.Good M (M.aJ.getD k default))(h64:∀k,k<M.aJ.length→∀i∈(bL M k).code,In64 i.n∧In64 i.a):∃T,gN M T:=by
 have hR:=wO.1 h;have hF:=hR.form;have key:∀k,∃τ,k<M.aJ.length→Cert M (bL M k) τ∧∀p s,τ p=some s→s.1.length≤300∧s.2.length=(bL M k).locals.length:=fun k=>by
  by_cases hk:k<M.aJ.length
  ·obtain⟨g1,g2⟩:=hF.aJ _ (aHj hk);have hh:(M.aJ.getD k default).params.toNat≤(M.aJ.getD k default).locals.length:=by
    have g1':head M (M.aJ.getD k default)=0:=g1;unfold head at g1';generalize M.aJ.getD k default=u at *
    by_cases e1:u.kind≠2∧u.kind≠3∧u.kind≠4
    ·rw[if_pos e1]at g1';cases g1'
    rw[if_neg e1]at g1'
    by_cases e2:200<u.locals.length∨u.params<0∨6<u.params∨(u.locals.length:Int)<u.params∨(u.kind=4∧0<u.params)
    ·rw[if_pos e2]at g1';cases g1'
    omega
   obtain⟨τ,h1,h2⟩:=aA8 (hG k hk) hh (aCS g1).1 (hR.code k hk);exact⟨τ,fun _=>⟨h1,h2⟩⟩
  ·exact⟨fun _=>none,fun h=>absurd h hk⟩
 refine⟨fun k=>Classical.choose (key k),hF,h64,fun q hq=>(Classical.choose_spec (key q) hq).1,fun q p s hq hs=>((Classical.choose_spec (key q) hq).2 p s hs).2⟩
def Typed(t:Int)(l:List Int):Prop:=t=2→∀v∈l,v=0∨v=1
structure LsK(M:aL)(F:List (List Int))(s:Ls):Prop where
 qZ:s.qZ.length=M.boxes.length
 oZ:s.oZ.length=M.boxes.length
 le:∀b,b<M.boxes.length→s.qZ.getD b 0≤(F.getD b []).length
 j7:∀b,b<M.boxes.length→Typed (M.boxes.getD b default).1 (s.oZ.getD b [])
structure Fed(M:aL)(F:List (List Int)):Prop where
 len:F.length=M.boxes.length
 mE:∀l∈F,∀v∈l,In64 v
 j7:∀b,b<M.boxes.length→Typed (M.boxes.getD b default).1 (F.getD b [])
theorem FC{l:List (List Int)}{k j:Nat}{v:List Int}(hk:k<l.length):(l.set k v).getD j []=if k=j then v else l.getD j []:=by
 simp only[Jd,w8]
 by_cases h:k=j
 ·subst h;simp[hk]
 ·simp[h]
theorem SO{α:Type}(n k:Nat)(a:α):(List.replicate n a).getD k a=a:=by
 rw[Jd,List.getElem?_replicate]
 split<;>rfl
section
variable{M:aL}{T:Nat→Int→Option Shape}{ν:Type}{V:Env ν}{K:ν→Prop}
theorem SS(hC:gN M T)(hV:o9 V M K):∀(n:Nat) {r:Tk×ν},Good M T K r→Good M T K (goN V M n r).2
 |0,r,h=>h
 |n+1,r,h=>by
  unfold goN;have hs:=XG hC hV h
  split
  ·exact SS hC hV n hs
  ·exact hs
theorem SU:∀(n:Nat) (r:Tk×ν),(goN V M n r).1≤n
 |0,r=>bS _
 |n+1,r=>by
  unfold goN
  split
  ·have:=SU n (step V M r).2;simp only;omega
  ·exact bQ _
end
end Vm
namespace Vw
open Go.RowKit Img
section
attribute [local irreducible] aE aG End aB Still aN aU RunT Fn aS
section
variable{E:dK}{T:Nat→Int→Option Ver.Shape}{K:E.ν→Prop}
abbrev mG(to:Option Addr)(tn tc:Nat)(bo:Option Addr)(bn bc n:Nat):List Value:=[.slice to tn tc, .slice bo bn bc, .int .i64 n]
set_option maxHeartbeats 2000000 in
theorem aE8(p:Pl)(xb:Nat)(to:Option Addr)(tc:Nat)(cW:List Nat)(bo:Option Addr)(bn bc n k:Nat)(q:Int)(hk:k<cW.length)(htb:cW.getD k 0=p.tb)(z:SL E)(hC:Vm.gN p.m.aC T)(hV:Vm.o9 E.V p.m.aC K)(hz:z.Wf)(hb:E.boxes=p.m.bx.length)
  (hg:Vm.Good p.m.aC T K z.two) (hn:n≤20000) (ho:z.out.length≤2*n) (hsz:E.size (E.abs z.e)≤4*n) (htl:cW.length≤1000):
  Fn Tryz.prog 26 #[ptr xb, .agg #[.int .i64 k, .int .i64 q]] [md p.m,E.rc] (aF xb (mG to cW.length tc bo bn bc n) 160::arr to cW.length tc 95 jI cW::TM p z) (σ:=SL E)
   (jL z (Vm.nJ E.V p.m.aC n q z.two).2) (fun _=> .agg #[.int .i64 (Vm.nJ E.V p.m.aC n q z.two).1.1, .int .i64 ((Vm.nJ E.V p.m.aC n q z.two).1.2:Int)])
   (fun z'=>aF xb (mG to cW.length tc bo bn bc (n+(Vm.nJ E.V p.m.aC n q z.two).1.2)) 160::arr to cW.length tc 95 jI cW::TM p z'):=by
 obtain⟨R,hR⟩:∃R,R=Vm.nJ E.V p.m.aC n q z.two:=⟨_,rfl⟩;rw[←hR];refine JE [ptr xb, .agg #[.int .i64 k, .int .i64 q]] Tryz.func26 Tryz.ntmps26 fun w S=>?_;refine Jn ?_
 repeat(refine Jy ?_;try intro b)
 obtain⟨db,rfl⟩:=a7 b;obtain⟨pb,rfl⟩:=a7 b
 by_cases q1:q<1
 ·have hR':R=((5,0),z.two):=by rw[hR];unfold Vm.nJ;rw[if_pos (.inl q1)]
  subst hR';refine aD ?_;refine zQ z ?_;exact⟨hz,rfl⟩
 by_cases q2:10000<q
 ·have hR':R=((5,0),z.two):=by rw[hR];unfold Vm.nJ;rw[if_pos (.inr q2)]
  subst hR';refine aD ?_;refine zQ z ?_;exact⟨hz,rfl⟩
 have hq12:¬(q<1∨10000<q):=aA;refine aD ?_;rw[show cW.getD k default=p.tb from htb];refine aD ?_;(refine KL (LG p z hC hz hb hg) fun s hs=>?_)
 by_cases h1:(z.look p.m).st=1
 ·have hR':R=(if(Vm.goN E.V p.m.aC (min q.toNat (20000-n)) (z.look p.m).two).1=0 then(10,0)else(0,(Vm.goN E.V p.m.aC (min q.toNat (20000-n)) (z.look p.m).two).1),(Vm.goN E.V p.m.aC (min q.toNat (20000-n)) (z.look p.m).two).2):=by
   rw[hR];unfold Vm.nJ;rw[if_neg hq12,←hz.iV,if_neg (fun h=>h h1)]
  refine aD ?_;obtain⟨lim,hlim⟩:∃lim,lim=min q.toNat (20000-n):=⟨_,rfl⟩;rw[←hlim]at hR';obtain⟨G,hG⟩:∃G,G=Vm.goN E.V p.m.aC lim (z.look p.m).two:=⟨_,rfl⟩;rw[←hG]at hR';refine EP (σ:=Nat×SL E) (fun s=>s.2.Wf∧G=(s.1,s.2.two)) (fun s=>[(4,ptr db),(6, .int .i64 s.1)]) (fun s=>aO w S::md p.m::E.rc::aF db [.int .i64 0, .int .i64 0] 82::aF xb (mG to cW.length tc bo bn bc (n+s.1)) 160::arr to cW.length tc 95 jI cW::TM p s.2) ?_ ?_
  ·rintro⟨j,z'⟩ ⟨g1,g2⟩;dsimp only at g1 g2⊢;rw[g2]at hR';dsimp only at hR'
   by_cases hj:j=0
   ·subst hj;rw[if_pos rfl]at hR';subst hR';refine aD ?_;refine zQ (z') ?_;exact⟨g1,rfl⟩
   ·rw[if_neg hj]at hR';subst hR';refine aD ?_;refine zQ (z') ?_;exact⟨g1,rfl⟩
  intro K3 hK3;refine cK (σ:=Nat×SL E) (fun s=>s.1≤lim∧s.2.Wf∧Vm.Good p.m.aC T K s.2.two∧s.2.out.length≤2*(n+s.1)∧E.size (E.abs s.2.e)≤4*(n+s.1)∧G=((Vm.goN E.V p.m.aC (lim-s.1) s.2.two).1+s.1,(Vm.goN E.V p.m.aC (lim-s.1) s.2.two).2)) (fun s=>[(0,ptr xb),(3,ptr pb),(4,ptr db),(5,ptr p.tb),(6, .int .i64 s.1)]) (fun s=>aO w S::md p.m::E.rc::aF pb [.int .i64 k, .int .i64 q] 80::aF db [.int .i64 0, .int .i64 0] 82::aF xb (mG to cW.length tc bo bn bc (n+s.1)) 160::arr to cW.length tc 95 jI cW::TM p s.2) (fun s=>lim-s.1) (0,z.look p.m) ?_ fun s hs K1 hK1=>?_
  ·exact⟨bQ _,hz.look p.m,by rw[hz.iV];exact Vm.AE hg,ho,hsz,by rw[hG];simp⟩
  refine Jn ?_;obtain⟨j,y⟩:=s;obtain⟨r1,r2,r3,r4,r5,r6⟩:=hs;dsimp only at r1 r2 r3 r4 r5 r6 hK1⊢
  by_cases hjq:(j:Int)<q
  ·by_cases hjn:n+j<20000
   ·have hjl:j<lim:=aA;refine aD ?_;(refine KL (aHG p y hC hV r2 hb r3 aA aA) fun s hs=>?_);obtain⟨y',rfl⟩:∃x,x=s:=⟨_,rfl⟩;obtain⟨s1,s2⟩:=hs;have hmk:lim-j=(lim-(j+1))+1:=aA;rw[hmk]at r6;unfold Vm.goN at r6
    by_cases hbb:(Vm.step E.V p.m.aC y.two).1=true
    ·rw[hbb];rw[if_pos hbb]at r6;refine aD ?_;refine End.bK hK1 (j+1,y') ?_ ?_
     ·refine⟨aA,s1,by rw[s2];exact Vm.XG hC hV r3,?_,?_,?_⟩
      ·have h1:=Vm.XH (V:=E.V) (M:=p.m.aC) y.two;have h2:y'.out=(Vm.step E.V p.m.aC y.two).2.1.out:=congrArg (fun r=>r.1.out) s2;rw[h2];have h3:y.two.1.out.length≤2*(n+j):=r4;dsimp only;omega
      ·have h1:=Vm.XJ (M:=p.m.aC) E.vX E.uO E.qX y.two;have h2:E.abs y'.e=(Vm.step E.V p.m.aC y.two).2.2:=congrArg (fun r=>r.2) s2;rw[h2];have h3:E.size y.two.2≤4*(n+j):=r5;dsimp only;omega
      ·rw[r6,s2];refine Prod.ext ?_ rfl;dsimp only;omega
     ·dsimp only;omega
    ·have hbb:(Vm.step E.V p.m.aC y.two).1=false:=by simpa using hbb
     rw[hbb];rw[if_neg (by rw[hbb];simp)]at r6;refine aD ?_;refine End.some_ hK3 (j,y') ?_;exact⟨s1,by rw[r6,s2];exact Prod.ext aW rfl⟩
   ·have hl:lim-j=0:=aA;refine aD ?_;refine End.some_ hK3 (j,y) ?_;refine⟨r2,?_⟩;rw[r6,hl];exact Prod.ext (by simp[Vm.goN]) rfl
  ·have hl:lim-j=0:=aA;refine aD ?_;refine End.some_ hK3 (j,y) ?_;refine⟨r2,?_⟩;rw[r6,hl];exact Prod.ext (by simp[Vm.goN]) rfl
 ·have hR':R=((11,0),(z.look p.m).two):=by
   rw[hR];unfold Vm.nJ;rw[if_neg hq12,←hz.iV,if_pos (show(z.look p.m).two.1.st≠1 from h1)]
  subst hR';refine aD ?_;refine zQ (z.look p.m) ?_;exact⟨hz.look p.m,rfl⟩
theorem aE5(xb:Nat)(to:Option Addr)(tc tn:Nat)(bo:Option Addr)(bn bc n:Nat)(k q:Int)(hk:k<0∨(tn:Int)≤k):
  Fn Tryz.prog 26 #[ptr xb, .agg #[.int .i64 k, .int .i64 q]] [] [aF xb (mG to tn tc bo bn bc n) 160] (σ:=Unit) (fun _=>True) (fun _=> .agg #[.int .i64 3, .int .i64 0]) (fun _=>[aF xb (mG to tn tc bo bn bc n) 160]):=by
 refine JE [ptr xb, .agg #[.int .i64 k, .int .i64 q]] Tryz.func26 Tryz.ntmps26 fun w S=>?_;refine Jn ?_
 by_cases h0:k<0
 ·repeat(refine Jy ?_;try intro b)
  exact R8 ()
 ·repeat(refine Jy ?_;try intro b)
  exact R8 ()
end
structure Ring where
 bb:Nat
 lb:Nat
 l:List Int
 first:Nat
 n:Nat
instance:Inhabited Ring:=⟨⟨0,0,[],0,0⟩⟩
structure Ring.Ok(r:Ring):Prop where
 n:r.n≤r.l.length
 first:r.first<r.l.length
 cap:r.l.length≤20
def Ring.ws(r:Ring):List Int:=(List.range r.n).map fun i=>r.l.getD ((r.first+i) % r.l.length) 0
abbrev AZ(r:Ring):List Value:=[.slice (some ⟨r.lb,0,none⟩) r.l.length r.l.length, .int .i64 r.first, .int .i64 r.n]
abbrev eA(r:Ring):List Chunk:=[aF r.bb (AZ r) 232,arr (some ⟨r.lb,0,none⟩) r.l.length r.l.length 2 aY r.l]
theorem Ring.len(r:Ring):r.ws.length=r.n:=by simp[Ring.ws]
abbrev Ring.put(r:Ring)(v:Int):Ring:={r with l:=r.l.set ((r.first+r.n) % r.l.length) v,n:=r.n+1}
abbrev Ring.take(r:Ring):Ring:={r with first:=(r.first+1) % r.l.length,n:=r.n-1}
theorem mod_one{a b n:Nat}(h:a<n)(hb:b<n):(a+b) % n=if a+b<n then a+b else a+b-n:=by
 by_cases h1:a+b<n
 ·rw[if_pos h1,Nat.mod_eq_of_lt h1]
 ·rw[if_neg h1,Nat.mod_eq_sub_mod aA,Nat.mod_eq_of_lt aA]
theorem Ring.aEp{r:Ring}(h:r.Ok)(hn:r.n<r.l.length)(v:Int):(r.put v).Ok∧(r.put v).ws=r.ws ++[v]:=by
 obtain⟨h1,h2,h3⟩:=h;refine⟨⟨by simp;omega,by simpa using h2,by simpa using h3⟩,?_⟩;have hlt:(r.first+r.n) % r.l.length<r.l.length:=Nat.mod_lt _ aA;unfold Ring.ws;simp only[Ji];rw[nT,Jq];congr 1
 ·refine List.map_congr_left fun i hi=>?_;have hi:i<r.n:=sC.1 hi;have hne:(r.first+r.n) % r.l.length≠(r.first+i) % r.l.length:=by
   rw[mod_one h2 hn,mod_one h2 aA]
   split<;>split<;>omega
  simp only[Jd];rw[List.getElem?_set_ne hne]
 ·simp only[fI,m9,Jd];rw[JS hlt];rfl
theorem Ring.XS{r:Ring}(h:r.Ok)(hn:r.n≠0):r.take.Ok∧r.ws=r.l.getD r.first 0::r.take.ws:=by
 obtain⟨h1,h2,h3⟩:=h;refine⟨⟨by simp only;omega,Nat.mod_lt _ aA,h3⟩,?_⟩;obtain⟨m,hm⟩:∃m,r.n=m+1:=⟨r.n-1,aA⟩;unfold Ring.ws;simp only[hm,Nat.add_sub_cancel];rw[List.range_succ_eq_map,fI,qG];congr 1
 ·rw[Nat.add_zero,Nat.mod_eq_of_lt h2]
 ·refine List.map_congr_left fun i hi=>?_;have hi:i<m:=sC.1 hi;simp only[Function.comp_apply,Nat.succ_eq_add_one];congr 1;rw[Nat.mod_add_mod];congr 1;omega
theorem Ring.head{r:Ring}(h:r.Ok)(hn:r.n≠0):r.ws.headD 0=r.l.getD r.first 0∧r.ws.tail=r.take.ws:=by rw[(Ring.XS h hn).2];exact⟨rfl,rfl⟩
theorem aBx(r:Ring):Fn Tryz.prog 243 #[ptr r.bb] [] (eA r) (σ:=Unit) (fun _=>True) (fun _=> .bool (decide (r.n=r.l.length))) (fun _=>eA r):=by
 refine JE [ptr r.bb] Tryz.func243 Tryz.ntmps243 fun w S=>?_;refine aD ?_;(refine End.aX (()) (he:=by exact jZ (decide_eq_decide.2 aA)) (hp:=?_));trivial
theorem aBV(r:Ring):Fn Tryz.prog 242 #[ptr r.bb] [] (eA r) (σ:=Unit) (fun _=>True) (fun _=> .bool (decide (r.n=0))) (fun _=>eA r):=by
 refine JE [ptr r.bb] Tryz.func242 Tryz.ntmps242 fun w S=>?_;refine aD ?_;(refine End.aX (()) (he:=by exact jZ (decide_eq_decide.2 aA)) (hp:=?_));trivial
theorem aEq(r:Ring)(h:r.Ok)(hn:r.n<r.l.length)(v:Int):Fn Tryz.prog 244 #[ptr r.bb, .int .i64 v] [] (eA r) (σ:=Unit) (fun _=>True) (fun _=> .tuple #[]) (fun _=>eA (r.put v)):=by
 obtain⟨h1,h2,h3⟩:=h;have hlt:(r.first+r.n) % r.l.length<r.l.length:=Nat.mod_lt _ aA;have hm:((r.first:Int)+(r.n:Int)).tmod (r.l.length:Int)=(((r.first+r.n) % r.l.length:Nat):Int):=by
  rw[←Int.natCast_add,Int.ofNat_tmod]
 refine JE [ptr r.bb, .int .i64 v] Tryz.func244 Tryz.ntmps244 fun w S=>?_;refine aD ?_;refine aU.bP (h:=by exact Still.rem rfl rfl aA hm) (k:=?_);refine aD ?_;(apply aE.op;exact rfl;refine aB.j5 (f:=aY) (l:=r.l) (i:=(r.first+r.n) % r.l.length) (off:=0) (vs:=[.int .i64 v]) (a':=v) (k:=?_));refine aD ?_;have hle:(r.l.set ((r.first+r.n) % r.l.length) v).length=r.l.length:=Ji;refine End.dL () (ht:=by(simp only[eA,AZ,Ring.put,hle];exact cA)) (hp:=trivial)
theorem aHS(r:Ring)(h:r.Ok)(hn:r.n≠0):Fn Tryz.prog 245 #[ptr r.bb] [] (eA r) (σ:=Unit) (fun _=>True) (fun _=> .int .i64 (r.l.getD r.first 0)) (fun _=>eA r.take):=by
 obtain⟨h1,h2,h3⟩:=h;refine JE [ptr r.bb] Tryz.func245 Tryz.ntmps245 fun w S=>?_;refine Jn ?_;have hm:((r.first:Int)+1).tmod (r.l.length:Int)=(((r.first+1) % r.l.length:Nat):Int):=by
  rw[show(r.first:Int)+1=((r.first+1:Nat):Int) by omega,Int.ofNat_tmod]
 refine aD ?_;refine aU.bP (h:=by exact Still.rem rfl rfl aA hm) (k:=?_);refine aD ?_;have hn1:(r.n:Int)-1=((r.n-1:Nat):Int):=aA;rw[hn1];exact fZ ()
theorem aDi(c:Nat)(hc:c≤20):Fn Tryz.prog 57 #[.int .i64 c] [] [] (σ:=Nat×Nat) (fun _=>True) (fun s=>ptr s.1) (fun s=>eA ⟨s.1,s.2,List.replicate c 0,0,0⟩):=by
 refine JE [.int .i64 c] Tryz.func57 Tryz.ntmps57 fun w S=>?_;refine aD ?_;apply aE.op aV;refine aB.F5 (f:=aY) (iα:=inferInstance) (ef:=inferInstance) (z:=0) (n:=c) (k:=?_);intro lb
 repeat(refine Jy ?_;try intro b)
 have hle:(List.replicate c (0:Int)).length=c:=List.length_replicate;refine End.aX ((b,lb):Nat×Nat) (he:=by rfl) (ht:=by(simp only[eA,AZ,hle];exact cA)) (hp:=trivial)
theorem Ring.aIY(r:Ring)(k:Nat)(hk:k<r.n):r.ws.take (k+1)=r.ws.take k ++[r.l.getD ((r.first+k) % r.l.length) 0]:=by
 have hl:=r.len;rw[Jp aA];congr 2;simp[Ring.ws]
theorem aIT(r:Ring)(h:r.Ok):Fn Tryz.prog 58 #[ptr r.bb] [] (eA r) (σ:=Option Addr×Nat) (fun _=>True) (fun s=> .slice s.1 r.ws.length s.2) (fun s=>arr s.1 r.ws.length s.2 2 aY r.ws::eA r):=by
 obtain⟨h1,h2,h3⟩:=h;have hl:=r.len;rw[hl];refine JE [ptr r.bb] Tryz.func58 Tryz.ntmps58 fun w S=>?_;refine aD ?_;apply aG.imp (fun w hm=>hm.cU 2 aY);refine cK (σ:=Nat×Option Addr×Nat) (fun z=>z.1≤r.n) (fun z=>[(0,ptr r.bb),(3, .slice z.2.1 z.1 z.2.2),(8, .int .i64 r.n),(9, .int .i64 z.1)]) (fun z=>aO w S::arr z.2.1 z.1 z.2.2 2 aY (r.ws.take z.1)::eA r) (fun z=>r.n-z.1) (0,none,0) ?_ fun z hz K1 hK1=>?_
 ·exact bQ _
 refine Jn ?_;obtain⟨q,ao,ac⟩:=z;simp only at hz hK1⊢
 by_cases hq:q<r.n
 ·have hsn:=r.aIY q hq;have hlt:(r.first+q) % r.l.length<r.l.length:=Nat.mod_lt _ aA;have hm:((r.first:Int)+(q:Int)).tmod (r.l.length:Int)=(((r.first+q) % r.l.length:Nat):Int):=by
   rw[←Int.natCast_add,Int.ofNat_tmod]
  refine aD ?_;refine b8 20 [aF r.bb (AZ r) 232,arr (some ⟨r.lb,0,none⟩) r.l.length r.l.length 2 aY r.l] 22 ?_;refine bR [0,1,2,3,4,5,6,7,8,9,10,11,12,13,14,15] ?_;refine RunT.s4 16 (hy:=by exact Still.rem rfl rfl aA hm) (h:=?_);refine bR [17,18] ?_;refine iF 19 fun b=>?_;(refine JT 20 ?_;refine aB.jN (a:=r.l.getD ((r.first+q) % r.l.length) default) (k:=?_);intro ao cap;refine JG ?_;refine Jn ?_);refine gWl [21] ?_;refine b6 ?_;refine aD ?_;rw[show r.l.getD ((r.first+q) % r.l.length) default=r.l.getD ((r.first+q) % r.l.length) 0 from rfl,←hsn];refine End.bK hK1 (q+1,ao,cap) ?_ ?_
  ·simp only;omega
  ·simp only;omega
 ·obtain rfl:q=r.n:=aA;rw[kN aA];refine aD ?_;exact fZ (ao,ac)
structure m8 where
 bo:Option Addr
 bc:Nat
 bs:List Nat
 tr:Option (Nat×List Nat)
structure eF where
 rs:List Ring
 oo:Option Addr
 oc:Nat
 ev:List (Nat×Vm.Ev)
def I3(e:Nat×Vm.Ev):List Value:=[.int .i64 e.1, .int .i64 e.2.1, .int .i64 e.2.2.1, .int .i64 e.2.2.2]
instance:bH I3:=⟨fun _=>rfl,aK,fun a u hu=>by simp[I3]at hu;rcases hu with rfl|rfl|rfl|rfl<;>rfl⟩
def kcs(kbs:List Nat):List Chunk:=(List.range kbs.length).map fun k=>aF (kbs.getD k 0) [.int .i64 k] 3
def sS(p:m8)(e:eF):List Chunk:=match p.tr with
 |none=>[]
 |some (ob,kbs)=>[aF ob [.slice e.oo e.ev.length e.oc] 0,arr e.oo e.ev.length e.oc 0 I3 e.ev,bC (kcs kbs)]
def nV(p:m8)(e:eF):Chunk:=bC [bC (e.rs.flatMap eA),bC (sS p e)]
theorem vD(p:m8)(e:eF):(nV p e).bE=true:=iB
theorem V8(r:Ring):∀c∈eA r,c.bE=true:=by simp[iL,dU]
abbrev kB(p:m8):Chunk:=rd p.bo p.bs.length p.bc jI p.bs
structure o8(M:ImgM.aL)(p:m8)(e:eF):Prop where
 at_:e.rs.map (·.bb)=p.bs
 len:e.rs.length=M.boxes.length
 ok:∀r∈e.rs,r.Ok
 cap:∀b,b<M.boxes.length→(e.rs.getD b default).l.length=Vm.nE M b
def eF.abs(e:eF):Vm.Bs:=⟨e.rs.map Ring.ws,e.ev⟩
theorem aCF(l:List Ring)(b:Nat):(l.map Ring.ws).getD b []=if b<l.length then(l.getD b default).ws else []:=by
 simp only[Jd,JU]
 split
 ·rename_i h;rw[Je h];rfl
 ·rename_i h;rw[yZ aA];rfl
theorem V9(s u:List Ring)(r:Ring):((s ++r::u).flatMap eA).Perm (eA r ++(s ++u).flatMap eA):=by
 have:=(xB (a:=r) (l₁:=s) (l₂:=u)).flatMap_right eA;simpa only[qE]using this
theorem Mem.DH{w:World}{L L':List Chunk}{p:m8}{e:eF}{s u:List Ring}{r:Ring}(h:Mem w L)(t:Take (nV p e) L L')(he:e.rs=s ++r::u):Mem w (aF r.bb (AZ r) 232::arr (some ⟨r.lb,0,none⟩) r.l.length r.l.length 2 aY r.l::bC ((s ++u).flatMap eA)::bC (sS p e)::L'):=by
 have h1:Mem w (bC (e.rs.flatMap eA)::bC (sS p e)::L'):=(h.take t).unpack;rw[he]at h1;exact Mem.pH (ds:=eA r) h1 .head (V9 s u r)
theorem Mem.DG{w:World}{L F:List Chunk}{p:m8}{e:eF}{s u:List Ring}{r:Ring}(h:Mem w L)(t:aR [aF r.bb (AZ r) 232,arr (some ⟨r.lb,0,none⟩) r.l.length r.l.length 2 aY r.l,bC ((s ++u).flatMap eA),bC (sS p e)] L F):Mem w (nV p {e with rs:=s ++r::u}::F):=by
 have h1:Mem w ((eA r ++[bC ((s ++u).flatMap eA),bC (sS p e)]) ++F):=h.aP t;have h2:Mem w (bC ((s ++u).flatMap eA)::(eA r ++(bC (sS p e)::F))):=by
  have e1:(eA r ++[bC ((s ++u).flatMap eA),bC (sS p e)]) ++F=eA r ++(bC ((s ++u).flatMap eA)::(bC (sS p e)::F)):=aW;rw[e1]at h1;exact h1.perm xB
 have h3:Mem w (bC ((s ++r::u).flatMap eA)::bC (sS p e)::F):=Mem.nC (ds:=eA r) h2 .head (aR.cons .head (.cons .head .nil)) (V9 s u r) (V8 r);have h4:Mem w ([bC ((s ++r::u).flatMap eA),bC (sS p e)] ++F):=h3;exact h4.pack (fun c hc=>by
  simp at hc;rcases hc with rfl|rfl
  ·exact iB
  ·exact iB)
theorem sK(p:m8):(kB p).bE=false:=eO
section
variable{M:ImgM.aL}{p:m8}{e:eF}
theorem o8.split(h:o8 M p e){b:Nat}(hb:b<M.boxes.length):∃s u r,e.rs=s ++r::u∧s.length=b∧r.Ok∧r.l.length=Vm.nE M b∧p.bs.getD b default=r.bb∧e.abs.ws.getD b []=r.ws∧p.bs.length=M.boxes.length:=by
 obtain⟨h1,h2,h3,h4⟩:=h;obtain⟨s,u,hsp,hlen⟩:=aGa (l:=e.rs) (k:=b) aA;refine⟨s,u,e.rs.getD b default,hsp,hlen,h3 _ ?_,h4 b hb,?_,?_,?_⟩
 ·rw[Jd,Je aA];exact hZ _
 ·rw[←h1,Jd,JU,Je aA];simp[Jd,Je (show b<e.rs.length by omega)]
 ·show(e.rs.map Ring.ws).getD b []=_;rw[aCF,if_pos aA]
 ·rw[←h1,Jf,h2]
theorem o8.put(h:o8 M p e){s u:List Ring}{r r':Ring}(he:e.rs=s ++r::u)(hbb:r'.bb=r.bb)(hok:r'.Ok)(hl:r'.l.length=r.l.length):o8 M p {e with rs:=s ++r'::u}:=by
 obtain⟨h1,h2,h3,h4⟩:=h;rw[he]at h1 h2 h3;refine⟨by simpa[hbb]using h1,by simpa using h2,fun x hx=>?_,fun b hb=>?_⟩
 ·rcases dF.1 hx with hx|hx
  ·exact h3 x (by simp[hx])
  ·rcases cY.1 hx with rfl|hx
   ·exact hok
   ·exact h3 x (by simp[hx])
 ·have h4b:=h4 b hb;rw[he]at h4b
  by_cases hbs:b=s.length
  ·subst hbs;rw[SP]at h4b⊢;rw[hl];exact h4b
  ·rw[←h4b];congr 1;have e1:(s ++r'::u)=(s ++r::u).set s.length r':=(W3 s u r r').symm;simp only[e1,Jd];rw[List.getElem?_set_ne (fun h=>hbs h.symm)]
theorem eF.PH{s u:List Ring}{r r':Ring}(he:e.rs=s ++r::u):eF.abs {e with rs:=s ++r'::u}=⟨e.abs.ws.set s.length r'.ws,e.ev⟩:=by
 unfold eF.abs;rw[he];simp only[Vm.Bs.mk.injEq,and_true,Jq,fI];have:=W3 (s.map Ring.ws) (u.map Ring.ws) r.ws r'.ws;rw[Jf]at this;exact this.symm
end
section
variable(M:ImgM.aL)(p:m8)(e:eF)(k:Option Nat)
theorem aAN(he:o8 M p e)(b:Nat)(hb:b<M.boxes.length):Fn Tryz.prog 239 #[.slice p.bo p.bs.length p.bc, .int .i64 b] [kB p] [nV p e] (σ:=Unit) (fun _=>True) (fun _=> .bool ((Vm.cZ M k).full e.abs b)) (fun _=>[nV p e]):=by
 obtain⟨s1,u1,r,h1,h2,h3,h4,h5,h6,h7⟩:=he.split hb;refine Fn.enter (args:=[.slice p.bo p.bs.length p.bc, .int .i64 b]) Tryz.func239 rfl _ Tryz.ntmps239 rfl (by simp[eO]) (fun w S=>?_);refine Jn ?_;apply aG.imp (fun w hm=>Mem.DH hm (tk) h1);refine aD ?_;rw[h5];(refine iN (aBx r) fun s hs=>?_);apply End.imp (fun w hm=>Mem.DG (p:=p) (e:=e) (s:=s1) (u:=u1) (r:=r) hm (cA));rw[←h1];refine End.aX () (he:=?_) (hp:=trivial) (hx:=by simp[vD]);refine jZ ?_;show _=decide ((e.abs.ws.getD b []).length=Vm.nE M b);rw[h6,r.len,h4]
theorem aAM(he:o8 M p e)(b:Nat)(hb:b<M.boxes.length):Fn Tryz.prog 238 #[.slice p.bo p.bs.length p.bc, .int .i64 b] [kB p] [nV p e] (σ:=Unit) (fun _=>True) (fun _=> .bool ((Vm.cZ M k).empty e.abs b)) (fun _=>[nV p e]):=by
 obtain⟨s1,u1,r,h1,h2,h3,h4,h5,h6,h7⟩:=he.split hb;refine Fn.enter (args:=[.slice p.bo p.bs.length p.bc, .int .i64 b]) Tryz.func238 rfl _ Tryz.ntmps238 rfl (by simp[eO]) (fun w S=>?_);refine Jn ?_;apply aG.imp (fun w hm=>Mem.DH hm (tk) h1);refine aD ?_;rw[h5];(refine iN (aBV r) fun s hs=>?_);apply End.imp (fun w hm=>Mem.DG (p:=p) (e:=e) (s:=s1) (u:=u1) (r:=r) hm (cA));rw[←h1];refine End.aX () (he:=?_) (hp:=trivial) (hx:=by simp[vD]);refine jZ ?_;show _=decide ((e.abs.ws.getD b []).length=0);rw[h6,r.len]
theorem aAQ(he:o8 M p e)(b:Nat)(hb:b<M.boxes.length)(v:Int)(hf:(Vm.cZ M k).full e.abs b=false):Fn Tryz.prog 240 #[.slice p.bo p.bs.length p.bc, .int .i64 b, .int .i64 v] [kB p] [nV p e] (σ:=eF) (fun e'=>o8 M p e'∧e'.abs=(Vm.cZ M k).put e.abs b v) (fun _=> .tuple #[]) (fun e'=>[nV p e']):=by
 obtain⟨s1,u1,r,h1,h2,h3,h4,h5,h6,h7⟩:=he.split hb;have hf':decide ((e.abs.ws.getD b []).length=Vm.nE M b)=false:=hf;rw[JY,h6,r.len,←h4]at hf';have hn:r.n<r.l.length:=by have:=h3.n;omega
 obtain⟨q1,q2⟩:=Ring.aEp h3 hn v;refine Fn.enter (args:=[.slice p.bo p.bs.length p.bc, .int .i64 b, .int .i64 v]) Tryz.func240 rfl _ Tryz.ntmps240 rfl (by simp[eO]) (fun w S=>?_);refine Jn ?_;apply aG.imp (fun w hm=>Mem.DH hm (tk) h1);refine aD ?_;rw[h5];(refine iN (aEq r h3 hn v) fun s hs=>?_);apply End.imp (fun w hm=>Mem.DG (p:=p) (e:=e) (s:=s1) (u:=u1) (r:=r.put v) hm (cA));refine End.dL ({e with rs:=s1 ++r.put v::u1}:eF) (hp:=⟨he.put h1 rfl q1 aW,?_⟩) (hx:=by simp[vD]);rw[eF.PH (r':=r.put v) h1,q2,h2];show _=({e.abs with ws:=e.abs.ws.set b (e.abs.ws.getD b [] ++[v])}:Vm.Bs);rw[h6];rfl
theorem aAR(he:o8 M p e)(b:Nat)(hb:b<M.boxes.length)(hf:(Vm.cZ M k).empty e.abs b=false):Fn Tryz.prog 241 #[.slice p.bo p.bs.length p.bc, .int .i64 b] [kB p] [nV p e] (σ:=eF) (fun e'=>o8 M p e'∧e'.abs=((Vm.cZ M k).take e.abs b).2) (fun _=> .int .i64 ((Vm.cZ M k).take e.abs b).1) (fun e'=>[nV p e']):=by
 obtain⟨s1,u1,r,h1,h2,h3,h4,h5,h6,h7⟩:=he.split hb;have hf':decide ((e.abs.ws.getD b []).length=0)=false:=hf;rw[JY,h6,r.len]at hf';obtain⟨q1,q2⟩:=Ring.XS h3 hf';obtain⟨q3,q4⟩:=Ring.head h3 hf';refine Fn.enter (args:=[.slice p.bo p.bs.length p.bc, .int .i64 b]) Tryz.func241 rfl _ Tryz.ntmps241 rfl (by simp[eO]) (fun w S=>?_);refine Jn ?_;apply aG.imp (fun w hm=>Mem.DH hm (tk) h1);refine aD ?_;rw[h5];(refine iN (aHS r h3 hf') fun s hs=>?_);apply End.imp (fun w hm=>Mem.DG (p:=p) (e:=e) (s:=s1) (u:=u1) (r:=r.take) hm (cA));refine End.aX ({e with rs:=s1 ++r.take::u1}:eF) (he:=?_) (hp:=⟨he.put h1 rfl q1 rfl,?_⟩) (hx:=by simp[vD])
 ·show _=Value.int .i64 ((e.abs.ws.getD b []).headD 0);rw[h6,q3]
 ·rw[eF.PH (r':=r.take) h1,h2];show _=({e.abs with ws:=e.abs.ws.set b (e.abs.ws.getD b []).tail}:Vm.Bs);rw[h6,q4];rfl
end
def tF(p:m8):Option Nat→Prop
 |none=>True
 |some k=>False
def toldOf(p:m8):Option Nat→Option (FuncId×List Value)
 |none=>none
 |some k=>some (0,[])
@[reducible] def QG (M : ImgM.aL) (p : m8) (k : Option Nat) (hk : tF p k) : dK where
 μ:=eF
 ν:=Vm.Bs
 V:=Vm.cZ M k
 abs:=eF.abs
 ok:=o8 M p
 mem:=nV p
 size s:=s.log.length
 vX s b v:=sE _
 uO s b:=sE _
 qX s e:=by cases k with
  |none=>exact sE _
  |some k=>show(s.log ++[(k,e)]).length≤s.log.length+1;simp
 bE:=vD p
 rc:=kB p
 eC:=sK p
 T:=158
 rv:= .slice p.bo p.bs.length p.bc
 told:=toldOf p k
 boxes:=M.boxes.length
 EY:=239
 EX:=238
 EZ:=240
 E1:=241
 TO:=E5 (ptr:=false) b7 (E6 Tryz.underlying158)
 TN:=E5 (ptr:=false) b7 (E6 Tryz.underlying158)
 TP:=E5 (ptr:=false) b7 (E6 Tryz.underlying158)
 TQ:=E5 (ptr:=false) b7 (E6 Tryz.underlying158)
 PV:=b7
 PU:=b7
 PW:=b7
 PY:=b7
 full e b he hb:=aAN M p e k he b hb
 empty e b he hb:=aAM M p e k he b hb
 put e b v he hb hf _:=aAQ M p e k he b hb v hf
 take e b he hb hf:=aAR M p e k he b hb hf
 tell:=by
  cases k with
  |none=>exact fun v x=>rfl
  |some k=>exact hk.elim
end
theorem Mem.DO{w:World}{pre L F:List Chunk}{c:Chunk}(t:aR pre L F)(h:Mem w L)(hc:c.holds w)(hx:c.bE=false)(hf:∀b,c.dA b→∃d∈pre,d.dA b):Mem w (c::F):=
 Mem.step (post:=[c]) (S:=Nil) (h.aP t) (cB.refl _ _) (fun b h=>False.elim h) (by simpa using hc) aW (fun d hd b hb=>by
  simp at hd;subst hd;obtain⟨e,e1,e2⟩:=hf b hb;exact .inl ⟨e,e1,⟨fun h=>absurd h (by rw[hx];decide),e2⟩⟩)
theorem aF4(x y:Ver.kA)(w:World):(Op.equalIn 10000 51 (s8 x) (s8 y)).run Tryz.prog w= .ok (decide (x=y)) w:=by
 have u3:=Tryz.underlying3;have a3:=Tryz.isAgg3;have z3:=Tryz.sizeOf3;have u4:=Tryz.underlying33;have a4:=Tryz.isAgg33;have hS:Tryz.prog.underlying 51=some (.struct (Tryz.prog.fieldsOf 51)):=b7;have hp:Tryz.prog.stoodInHeld 51=false:=b7;obtain⟨a,b,c⟩:=x;obtain⟨d,e,f⟩:=y;simp only[s8,HN];rw[show(10000:Nat)=9999+1 from rfl,run_equalIn_agg w 9999 51 _ _ hS hp];simp only[Program.fieldsOf,Tryz.underlying51]
 go_simp
 by_cases h1:a=d<;>by_cases h2:b=e<;>by_cases h3:c=f<;>simp[h1,h2,h3]
section
variable{N:Nd}{E:Env}{L:List Chunk}{dst:Option Tmp}{ty:TypeId}{pos:String}{aft:Array Edge}{g:Option (Nat×Bool)}
theorem Still.aDg{x y:Operand}{a b:Ver.kA}{v v':Value}{r:Bool}(hx:ev E x=some v)(hy:ev E y=some v')(h1:v=s8 a)(h2:v'=s8 b)(hr:(!decide (a=b))=r):Still Tryz.prog N ⟨dst, .binOp .neq 51 x y 51,ty,pos,aft,g⟩ E L (.bool r):=fun A w hs _=>by
 subst h1 h2 hr;have hg:=run_eqGuard_agg (P:=Tryz.prog) w .neq 51 x y (HN a).toArray (HN b).toArray b7;simp[execOp,hs.ev hx,hs.ev hy,hg,run_neq_struct,aF4]
end
end Vw
end Go.Proofs.YtofckcabpchcmaaGreatDoor
