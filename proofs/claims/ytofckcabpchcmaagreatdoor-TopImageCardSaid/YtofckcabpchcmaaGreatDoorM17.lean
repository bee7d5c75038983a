/- A unit's code is right just if there is a typing of it: a certificate. Plain Lean. -/
import Derived.Test.YtofckcabpchcmaaGreatDoorM16
set_option linter.unusedVariables false
set_option linter.unusedSimpArgs false
set_option linter.unusedSectionVars false
set_option maxRecDepth 100000
namespace Go.Proofs.YtofckcabpchcmaaGreatDoor
namespace Ver
open ImgM
def re(a:List (Int×Shape))(t:List Int)(h:List Bool)(f:aZ):aZ:={f with at_:=a,todo:=t,has:=h}
section
variable(a:List (Int×Shape))(t:List Int)(h:List Bool)
theorem sM(e:Int)(f:aZ):fail e (re a t h f)=re a t h (fail e f):=by unfold fail re;split<;>rfl
theorem vU(x:Int)(f:aZ):push x (re a t h f)=re a t h (push x f):=by
 unfold push;simp only[show(re a t h f).stack=f.stack from rfl]
 split
 ·exact sM a t h 4 {f with stack:=f.stack ++[x]}
 ·rfl
theorem DC(f:aZ):(pop (re a t h f)).1=(pop f).1:=by
 unfold pop;simp only[show(re a t h f).stack=f.stack from rfl]
 split<;>rfl
theorem DE(f:aZ):(pop (re a t h f)).2=re a t h (pop f).2:=by
 unfold pop;simp only[show(re a t h f).stack=f.stack from rfl]
 split
 ·exact sM a t h 12 f
 ·rfl
theorem aIQ(x:Int)(f:aZ):lX x (re a t h f)=re a t h (lX x f):=by
 unfold lX;rw[DC,DE]
 split
 ·exact sM a t h 9 _
 ·rfl
theorem BG(l:List Int)(f:aZ):want l (re a t h f)=re a t h (want l f):=by
 induction l with
 |nil=>rfl
 |cons x r ih=>show lX x (want r (re a t h f))=_;rw[ih,aIQ];rfl
theorem aBQ(f:aZ):done (re a t h f)=re a t h (done f):=by
 unfold done;simp only[show(re a t h f).stack=f.stack from rfl]
 split
 ·rfl
 ·exact sM a t h 12 f
theorem SB(M:aL)(f:aZ):(gen M (re a t h f)).1=(gen M f).1:=by
 unfold gen;rw[DC,DE];simp only[show(re a t h (pop f).2).err=(pop f).2.err from rfl]
 split
 ·rfl
 split<;>rfl
theorem SK(M:aL)(f:aZ):(gen M (re a t h f)).2=re a t h (gen M f).2:=by
 unfold gen;rw[DC,DE];simp only[show(re a t h (pop f).2).err=(pop f).2.err from rfl]
 split
 ·rfl
 split
 ·exact sM a t h 9 _
 ·rfl
theorem LA{c:Prop} [Decidable c](f g:aZ):(if c then re a t h f else re a t h g)=re a t h (if c then f else g):=by split<;>rfl
theorem aG8(M:aL)(u:bM)(i:aT)(f:aZ):eP M u i (re a t h f)=((eP M u i f).1,re a t h (eP M u i f).2):=by
 unfold eP;simp only[args,BG,vU,sM,LA,aBQ,DE,DC,SK,SB,show(re a t h (pop f).2).err=(pop f).2.err from rfl]
 by_cases h1:i.op=23
 ·simp only[if_pos h1]
 simp only[if_neg h1]
 by_cases h2:i.op=29
 ·simp only[if_pos h2]
 simp only[if_neg h2]
 by_cases h3:i.op=24
 ·simp only[if_pos h3]
 simp only[if_neg h3]
 by_cases h4:i.op=25
 ·simp only[if_pos h4]
 simp only[if_neg h4]
 by_cases h5:i.op=26
 ·simp only[if_pos h5]
 simp only[if_neg h5]
 by_cases h6:i.op=27
 ·simp only[if_pos h6]
 simp only[if_neg h6]
 by_cases h7:i.op=28
 ·simp only[if_pos h7]
 simp only[if_neg h7]
 by_cases h8:i.op=30
 ·simp only[if_pos h8];have e1:=SB a t h M (pop f).2;have e2:=SK a t h M (pop f).2;generalize gen M (re a t h (pop f).2)=G at *;generalize gen M (pop f).2=G' at *;obtain⟨o,g⟩:=G;obtain⟨o',g'⟩:=G';simp only at e1 e2;subst e1 e2
  cases o with
  |none=>rfl
  |some k=>simp only[sM,LA,vU]
 simp only[if_neg h8]
 by_cases h9:i.op=31
 ·simp only[if_pos h9]
 simp only[if_neg h9]
 by_cases h10:i.op=32
 ·simp only[if_pos h10]
 simp only[if_neg h10]
def core(M:aL)(u:bM)(i:aT)(f:aZ):aZ:=if i.op=21 then f else if i.op=22 then want [2] f else(step M u i f).2
theorem NL(M:aL)(u:bM)(i:aT)(f:aZ)(h3:i.op≠3)(h4:i.op≠4)(h21:i.op≠21)(h22:i.op≠22):step M u i (re a t h f)=((step M u i f).1,re a t h (step M u i f).2):=by
 unfold step;simp only[BG,vU,sM,LA,DE,DC,aG8,if_neg h3,if_neg h4,if_neg h21,if_neg h22]
 by_cases h1:i.op=1
 ·simp only[if_pos h1]
 simp only[if_neg h1]
 by_cases h2:i.op=2
 ·simp only[if_pos h2]
 simp only[if_neg h2]
 by_cases h5:i.op=5
 ·simp only[if_pos h5]
 simp only[if_neg h5]
 by_cases h6:i.op=6
 ·simp only[if_pos h6]
 simp only[if_neg h6]
 by_cases h7:i.op=7
 ·simp only[if_pos h7]
 simp only[if_neg h7]
 by_cases h8:8≤i.op∧i.op≤12
 ·simp only[if_pos h8]
 simp only[if_neg h8]
 by_cases h9:i.op=13∨i.op=14
 ·simp only[if_pos h9]
 simp only[if_neg h9]
 by_cases h10:15≤i.op∧i.op≤18
 ·simp only[if_pos h10]
 simp only[if_neg h10]
 by_cases h11:i.op=19∨i.op=20
 ·simp only[if_pos h11]
 simp only[if_neg h11]
end
theorem yI(M:aL)(u:bM)(i:aT)(f:aZ)(h:i.op=3):step M u i f=(true,push (u.locals.getD i.a.toNat 0) (if f.has.getD i.a.toNat false then f else fail 11 f)):=by
 unfold step;rw[if_neg aA,if_neg aA,if_pos h]
theorem yJ(M:aL)(u:bM)(i:aT)(f:aZ)(h:i.op=4):step M u i f=(true,{want [u.locals.getD i.a.toNat 0] f with has:=(want [u.locals.getD i.a.toNat 0] f).has.set i.a.toNat true}):=by
 unfold step;rw[if_neg aA,if_neg aA,if_neg aA,if_pos h]
theorem MY(f:aZ):re f.at_ f.todo f.has f=f:=rfl
theorem XI{M:aL}{u:bM}{i:aT}{f:aZ}(h3:i.op≠3)(h4:i.op≠4)(h21:i.op≠21)(h22:i.op≠22):(step M u i f).2=re f.at_ f.todo f.has (step M u i f).2:=by
 have:=NL f.at_ f.todo f.has M u i f h3 h4 h21 h22;rw[MY]at this;exact congrArg Prod.snd this
theorem NI{M:aL}{u:bM}{i:aT}{f:aZ}(h:i.op=21):step M u i f=(false,to u.code.length i.a f):=by
 unfold step
 (repeat rw[if_neg aA]);rw[if_pos h]
theorem NJ{M:aL}{u:bM}{i:aT}{f:aZ}(h:i.op=22):step M u i f=(true,to u.code.length i.a (want [2] f)):=by
 unfold step
 (repeat rw[if_neg aA]);rw[if_pos h]
theorem step_done{M:aL}{u:bM}{i:aT}{f:aZ}(h:i.op=24∨i.op=25):(step M u i f).1=false:=by
 have e:step M u i f=eP M u i f:=by
  unfold step
  (repeat rw[if_neg aA])
 rw[e];unfold eP;rw[if_neg aA,if_neg aA];rcases h with h|h
 ·rw[if_pos h]
 ·rw[if_neg aA,if_pos h]
theorem lG{c:Prop} [Decidable c]{a:aZ}{b:Bool×aZ}(h:¬c→b.1=true):(if c then(true,a)else b).1=true:=by
 split
 ·rfl
 ·exact h ‹_›
theorem aHE{M:aL}{u:bM}{i:aT}{f:aZ}(h1:i.op≠21)(h2:i.op≠24)(h3:i.op≠25):(step M u i f).1=true:=by
 unfold step;refine lG fun _=>lG fun _=>lG fun _=>lG fun _=>lG fun _=>lG fun _=>lG fun _=>lG fun _=>lG fun _=>lG fun _=>lG fun _=>?_;rw[if_neg h1];refine lG fun _=>?_;unfold eP;refine lG fun _=>lG fun _=>?_;rw[if_neg h2,if_neg h3];exact lG fun _=>lG fun _=>lG fun _=>lG fun _=>lG fun _=>lG fun _=>rfl
def cS(M:aL)(u:bM)(i:aT)(s:Shape):aZ:=core M u i ⟨[],[],s.1,s.2,0⟩
theorem aAr(a:List (Int×Shape))(t:List Int)(M:aL)(u:bM)(i:aT)(f:aZ):core M u i (re a t f.has f)=re a t (core M u i f).has (core M u i f):=by
 unfold core
 by_cases h21:i.op=21
 ·rw[if_pos h21,if_pos h21]
 rw[if_neg h21,if_neg h21]
 by_cases h22:i.op=22
 ·rw[if_pos h22,if_pos h22,BG,(wQ [2] f).same.has]
 rw[if_neg h22,if_neg h22]
 by_cases h3:i.op=3
 ·rw[yI M u i _ h3,yI M u i _ h3];simp only;have hp:=fun g:aZ=>vU a t f.has (u.locals.getD i.a.toNat 0) g
  by_cases hb:f.has.getD i.a.toNat false=true
  ·rw[if_pos (by exact hb),if_pos hb,hp];congr 1;have:(push (u.locals.getD i.a.toNat 0) f)=re f.at_ f.todo f.has (push (u.locals.getD i.a.toNat 0) f):=by
    have:=vU f.at_ f.todo f.has (u.locals.getD i.a.toNat 0) f;rwa [MY]at this
   rw[this];rfl
  ·rw[if_neg (by exact hb),if_neg hb,sM,hp];congr 1;have:(push (u.locals.getD i.a.toNat 0) (fail 11 f))=re f.at_ f.todo f.has (push (u.locals.getD i.a.toNat 0) (fail 11 f)):=by
    have:=vU f.at_ f.todo f.has (u.locals.getD i.a.toNat 0) (fail 11 f);rw[←sM,MY]at this;exact this
   rw[this];rfl
 by_cases h4:i.op=4
 ·rw[yJ M u i _ h4,yJ M u i _ h4];simp only;rw[BG];have:=(wQ [u.locals.getD i.a.toNat 0] f).same.has;simp only[re,this]
 rw[NL a t f.has M u i f h3 h4 h21 h22];simp only;rw[show(step M u i f).2.has=f.has by rw[XI h3 h4 h21 h22];rfl]
theorem Q4(M:aL)(u:bM)(i:aT)(f:aZ)(he:f.err=0):core M u i f=re f.at_ f.todo (cS M u i (f.stack,f.has)).has (cS M u i (f.stack,f.has)):=by
 have:=aAr f.at_ f.todo M u i ⟨[],[],f.stack,f.has,0⟩;have e:re f.at_ f.todo f.has ⟨[],[],f.stack,f.has,0⟩=f:=by unfold re;rw[←he]
 simp only at this;rw[e]at this;exact this
def Le(a b:List Bool):Prop:=a.length=b.length∧∀j,a.getD j false=true→b.getD j false=true
theorem Le.refl(a:List Bool):Le a a:=⟨rfl,fun _ h=>h⟩
theorem Le.trans{a b c:List Bool}(h:Le a b)(k:Le b c):Le a c:=⟨h.1.trans k.1,fun j x=>k.2 j (h.2 j x)⟩
theorem FB{l:List Bool}{k j:Nat}{v:Bool}:(l.set k v).getD j false=if k=j∧j<l.length then v else l.getD j false:=by
 simp only[Jd,w8]
 by_cases h:k=j
 ·subst h
  by_cases hk:k<l.length
  ·simp[hk]
  ·simp[hk]
 ·simp[h]
theorem Le.set{a b:List Bool}(h:Le a b)(k:Nat):Le (a.set k true) (b.set k true):=by
 refine⟨by simp[h.1],fun j hj=>?_⟩;rw[FB]at hj⊢;rw[h.1]at hj
 split
 ·rfl
 ·rename_i hn
  rw[if_neg hn]at hj;exact h.2 j hj
theorem F7:∀(a b:List Bool) (j:Nat),a.length=b.length→(meet a b).getD j false=(a.getD j false&&b.getD j false)
 |[],[],j,_=>by simp[meet]
 |[],_::_,_,h=>by cases h
 |_::_,[],_,h=>by cases h
 |x::a,y::b,0,_=>rfl
 |x::a,y::b,j+1,h=>by
  have:=F7 a b j (by simpa using h);simpa[meet]using this
theorem aDL{a b:List Bool}(h:a.length=b.length):Le (meet a b) a:=⟨CR a b h,fun j hj=>by rw[F7 a b j h,JX]at hj;exact hj.1⟩
theorem TT{a b:List Bool}(h:a.length=b.length):Le (meet a b) b:=⟨(CR a b h).trans h,fun j hj=>by rw[F7 a b j h,JX]at hj;exact hj.2⟩
theorem le_meet{t a b:List Bool}(h1:Le t a)(h2:Le t b):Le t (meet a b):=
 have hab:=h1.1.symm.trans h2.1
 ⟨h1.1.trans (CR a b hab).symm,fun j hj=>by rw[F7 a b j hab,JX];exact⟨h1.2 j hj,h2.2 j hj⟩⟩
theorem aGF{M:aL}{u:bM}{i:aT}{st:List Int}{h h':List Bool}(hl:Le h h')(he:(cS M u i (st,h)).err=0):
  (cS M u i (st,h')).err=0∧(cS M u i (st,h')).stack=(cS M u i (st,h)).stack∧Le (cS M u i (st,h)).has (cS M u i (st,h')).has:=by
 unfold cS core at *
 by_cases h21:i.op=21
 ·rw[if_pos h21]at he⊢;rw[if_pos h21];exact⟨he,rfl,hl⟩
 rw[if_neg h21]at he⊢;rw[if_neg h21];have e:(⟨[],[],st,h',0⟩:aZ)=re [] [] h' ⟨[],[],st,h,0⟩:=rfl
 by_cases h22:i.op=22
 ·rw[if_pos h22]at he⊢;rw[if_pos h22,e,BG];refine⟨he,rfl,?_⟩;rw[(wQ [2] _).same.has];exact hl
 rw[if_neg h22]at he⊢;rw[if_neg h22]
 by_cases h3:i.op=3
 ·rw[yI M u i _ h3]at he⊢;rw[yI M u i _ h3];simp only at he⊢
  by_cases hb:h.getD i.a.toNat false=true
  ·rw[if_pos hb]at he⊢;rw[if_pos (hl.2 _ hb),e,vU];refine⟨he,rfl,?_⟩;have:=vU [] [] h (u.locals.getD i.a.toNat 0) ⟨[],[],st,h,0⟩;rw[show re [] [] h (⟨[],[],st,h,0⟩:aZ)=⟨[],[],st,h,0⟩from rfl]at this;rw[this];exact hl
  ·rw[if_neg hb]at he
   exfalso
   have h1:¬(fail 11 (⟨[],[],st,h,0⟩:aZ)).err=0:=CD 11 aK _
   revert he
   unfold push
   split
   ·intro he;exact CD 4 aK _ he
   ·intro he;exact h1 he
 by_cases h4:i.op=4
 ·rw[yJ M u i _ h4]at he⊢;rw[yJ M u i _ h4];simp only at he⊢;rw[e,BG];refine⟨he,rfl,?_⟩;rw[(wQ _ _).same.has];exact hl.set _
 rw[e,NL [] [] h' M u i _ h3 h4 h21 h22];refine⟨he,rfl,?_⟩;rw[show(step M u i ⟨[],[],st,h,0⟩).2.has=h by rw[XI h3 h4 h21 h22];rfl];exact hl
def lH(i:aT)(p:Int):List Int:=if i.op=21 then [i.a]else if i.op=22 then [i.a,p+1]else if i.op=24∨i.op=25 then []else [p+1]
def yM(n:Nat)(l:List Int)(f:aZ):aZ:=l.foldl (fun f q=>to n q f) f
theorem X1(n:Nat)(q:Int)(l:List Int)(f:aZ):yM n (q::l) f=yM n l (to n q f):=rfl
def ins(u:bM)(p:Int):aT:=u.code.getD p.toNat default
theorem WB{M:aL}{u:bM}{p:Int}{r:List Int}{f:aZ}{s:Shape}(hs:find f.at_ p=some s)(he:f.err=0):
  round M u p r f=yM u.code.length (lH (ins u p) p) (re f.at_ r (cS M u (ins u p) s).has (cS M u (ins u p) s)):=by
 have hc:=Q4 M u (ins u p) {f with todo:=r,stack:=s.1,has:=s.2} he;simp only at hc;rw[←hc];unfold round;simp only[hs,JZ];show(if(step M u (ins u p) _).1=true then to u.code.length (p+1) (step M u (ins u p) _).2 else(step M u (ins u p) _).2)=_;unfold lH core
 by_cases h21:(ins u p).op=21
 ·rw[if_pos h21,if_pos h21,NI h21];rfl
 rw[if_neg h21,if_neg h21]
 by_cases h22:(ins u p).op=22
 ·rw[if_pos h22,if_pos h22,NJ h22];rfl
 rw[if_neg h22,if_neg h22]
 by_cases h24:(ins u p).op=24∨(ins u p).op=25
 ·rw[if_pos h24,step_done h24];rfl
 rw[if_neg h24,aHE h21 (fun h=>h24 (.inl h)) (fun h=>h24 (.inr h))];rfl
def gJ(u:bM):List Bool:=List.replicate u.params.toNat true ++List.replicate (u.locals.length-u.params.toNat) false
structure Fits(M:aL)(u:bM)(τ:Int→Option Shape)(p:Int)(s:Shape):Prop where
 ok:(cS M u (ins u p) s).err=0
 next:∀q∈lH (ins u p) p,∃h,τ q=some ((cS M u (ins u p) s).stack,h)∧Le h (cS M u (ins u p) s).has
structure Cert(M:aL)(u:bM)(τ:Int→Option Shape):Prop where
 start:∃h,τ 0=some ([],h)∧Le h (gJ u)
 kG:∀p s,τ p=some s→0≤p∧p<(u.code.length:Int)
 fits:∀p s,τ p=some s→Fits M u τ p s
structure Below(τ:Int→Option Shape)(f:aZ):Prop where
 err:f.err=0
 at_:∀p s,find f.at_ p=some s→∃t,τ p=some (s.1,t)∧Le t s.2
 todo:∀p∈f.todo,∃s,find f.at_ p=some s
theorem XV{n:Nat}{τ:Int→Option Shape}{f:aZ}(hb:Below τ f){q:Int}(hq:q<(n:Int)){h:List Bool}(ht:τ q=some (f.stack,h))(hl:Le h f.has):Below τ (to n q f)∧(to n q f).stack=f.stack∧(to n q f).has=f.has:=by
 unfold to;rw[if_neg (fun h=>h hb.err),if_neg aA]
 cases hf:find f.at_ q with
 |none=>
  simp only;have hfa:=fun p=>I6 f.at_ q p (f.stack,f.has) hf;refine⟨⟨hb.err,fun p s hp=>?_,fun p hp=>?_⟩,by trivial,by trivial⟩
  ·simp only at hp;rw[hfa]at hp
   by_cases hqp:q=p
   ·rw[if_pos hqp]at hp
    cases hp
    exact⟨h,hqp▸ht,hl⟩
   ·rw[if_neg hqp]at hp;exact hb.at_ p s hp
  ·simp only at hp⊢;rw[hfa]
   by_cases hqp:q=p
   ·exact⟨_,if_pos hqp⟩
   ·rw[if_neg hqp];rcases dF.1 hp with hp|hp
    ·exact hb.todo p hp
    ·simp at hp;exact absurd hp.symm hqp
 |some s=>
  simp only;obtain⟨t,e1,e2⟩:=hb.at_ q s hf;rw[ht]at e1;simp only[tE,u7]at e1;obtain⟨e1,e3⟩:=e1;subst e3;rw[if_neg (fun hn=>hn e1.symm)]
  by_cases hm:meet s.2 f.has=s.2
  ·rw[if_pos hm];exact⟨hb,rfl,rfl⟩
  rw[if_neg hm];have hfp:=fun p=>I7 f.at_ q p (s.1,meet s.2 f.has) s hf;refine⟨⟨hb.err,fun p s' hp=>?_,fun p hp=>?_⟩,rfl,rfl⟩
  ·simp only at hp;rw[hfp]at hp
   by_cases hqp:q=p
   ·rw[if_pos hqp]at hp
    cases hp
    exact⟨h,by rw[←hqp,ht,e1],le_meet e2 hl⟩
   ·rw[if_neg hqp]at hp;exact hb.at_ p s' hp
  ·simp only at hp⊢;rw[hfp]
   by_cases hqp:q=p
   ·exact⟨_,if_pos hqp⟩
   ·rw[if_neg hqp];rcases dF.1 hp with hp|hp
    ·exact hb.todo p hp
    ·simp at hp;exact absurd hp.symm hqp
theorem X0{n:Nat}{τ:Int→Option Shape}:∀(l:List Int) (f:aZ),Below τ f→(∀q∈l,q<(n:Int)∧∃h,τ q=some (f.stack,h)∧Le h f.has)→Below τ (yM n l f)
 |[],f,hb,_=>hb
 |q::l,f,hb,h=>by
  rw[X1];obtain⟨h1,hh,h2,h3⟩:=h q gF;obtain⟨k1,k2,k3⟩:=XV hb h1 h2 h3;refine X0 l _ k1 (fun q' hq'=>?_);rw[k2,k3];exact h q' (gZ _ hq')
theorem aFT{M:aL}{u:bM}{τ:Int→Option Shape}(hc:Cert M u τ){p:Int}{r:List Int}{f:aZ}(hb:Below τ f)(ht:f.todo=p::r):Below τ (round M u p r f):=by
 obtain⟨s,hs⟩:=hb.todo p (by rw[ht];exact gF);obtain⟨t,h1,h2⟩:=hb.at_ p s hs;have hf:=hc.fits p _ h1;obtain⟨m1,m2,m3⟩:=aGF h2 hf.ok;rw[WB hs hb.err];refine X0 _ _ ⟨m1,hb.at_,fun q hq=>hb.todo q (by rw[ht];exact gZ _ hq)⟩ (fun q hq=>?_);obtain⟨h,k1,k2⟩:=hf.next q hq;exact⟨(hc.kG q _ k1).2,h,by
  show τ q=some ((cS M u (ins u p) s).stack,h);rw[k1];exact congrArg (fun x=>some (x,h)) m2.symm,k2.trans m3⟩
theorem WJ{M:aL}{u:bM}{τ:Int→Option Shape}(hc:Cert M u τ)(k:Nat):∀(n:Nat) (f:aZ),Below τ f→(run M u k n f).err=0
 |0,_,_=>rfl
 |n+1,f,hb=>by
  unfold run
  cases ht:f.todo with
  |nil=>rfl
  |cons p r=>
   simp only;have h:=aFT hc hb ht;rw[if_neg (fun hn=>hn h.err)];exact WJ hc k n _ h
theorem aGd{M:aL}{u:bM}{τ:Int→Option Shape}(hc:Cert M u τ):Below τ (Ver.start u):=by
 obtain⟨h,h1,h2⟩:=hc.start;exact(XV (f:=⟨[],[],[],gJ u,0⟩) ⟨rfl,fun p s hp=>(by cases hp),fun p hp=>(by cases hp)⟩ (hc.kG 0 _ h1).2 h1 h2).1
theorem aAj{M:aL}{k:Nat}{τ:Int→Option Shape}(hc:Cert M (M.aJ.getD k default) τ):(code M k).err=0:=WJ hc k _ _ (aGd hc)
structure rC(f g:aZ):Prop where
 ext:∀q st h,find f.at_ q=some (st,h)→∃h',find g.at_ q=some (st,h')∧Le h' h
 new:∀p s,find g.at_ p=some s→find f.at_ p=some s∨p∈g.todo
 todo:∀p∈f.todo,p∈g.todo
theorem rC.refl(f:aZ):rC f f:=⟨fun _ _ h e=>⟨h,e,Le.refl _⟩,fun _ _ e=> .inl e,fun _ e=>e⟩
theorem rC.trans{f g k:aZ}(a:rC f g)(b:rC g k):rC f k:=
 ⟨fun q st h e=>by
  obtain⟨h1,e1,l1⟩:=a.ext q st h e;obtain⟨h2,e2,l2⟩:=b.ext q st h1 e1;exact⟨h2,e2,l2.trans l1⟩,
 fun p s e=>by
  rcases b.new p s e with e|e
  ·rcases a.new p s e with e|e
   ·exact .inl e
   ·exact .inr (b.todo p e)
  ·exact .inr e,
 fun p e=>b.todo p (a.todo p e)⟩
theorem XW{n L:Nat}{f:aZ}(hi:Inv n L f){q:Int}(he:(to n q f).err=0):f.err=0∧q≠(n:Int)∧rC f (to n q f)∧∃h,find (to n q f).at_ q=some (f.stack,h)∧Le h f.has:=by
 unfold to at he⊢
 by_cases h0:¬f.err=0
 ·rw[if_pos h0]at he;exact absurd he h0
 have h0:f.err=0:=wZ.1 h0;rw[if_neg (fun h=>h h0)]at he⊢
 by_cases hq:q=(n:Int)
 ·rw[if_pos hq]at he;exact absurd he (CD 3 aK f)
 rw[if_neg hq]at he⊢;refine⟨h0,hq,?_⟩
 cases hf:find f.at_ q with
 |none=>
  rw[hf]at he;simp only at he⊢;have hfa:=fun p=>I6 f.at_ q p (f.stack,f.has) hf;refine⟨⟨fun p st h e=>?_,fun p s e=>?_,fun p e=>kY _ e⟩,f.has,?_,Le.refl _⟩
  ·rw[hfa]
   by_cases hqp:q=p
   ·rw[←hqp,hf]at e;cases e
   ·rw[if_neg hqp];exact⟨h,e,Le.refl _⟩
  ·simp only at e⊢;rw[hfa]at e
   by_cases hqp:q=p
   ·exact .inr (mQ _ (by rw[hqp];exact gF))
   ·rw[if_neg hqp]at e;exact .inl e
  ·rw[hfa,if_pos rfl]
 |some s=>
  rw[hf]at he;simp only at he⊢;have hlen:s.2.length=f.has.length:=by rw[(hi.pK q s hf).2.2,hi.has]
  by_cases hst:¬s.1=f.stack
  ·rw[if_pos hst]at he;exact absurd he (CD 8 aK f)
  have hst:s.1=f.stack:=wZ.1 hst;rw[if_neg (fun h=>h hst)]at he⊢
  by_cases hm:meet s.2 f.has=s.2
  ·rw[if_pos hm];refine⟨rC.refl f,s.2,by rw[hf,←hst],?_⟩;have:=TT hlen;rw[hm]at this;exact this
  rw[if_neg hm];have hfp:=fun p=>I7 f.at_ q p (s.1,meet s.2 f.has) s hf;refine⟨⟨fun p st h e=>?_,fun p s' e=>?_,fun p e=>kY _ e⟩,meet s.2 f.has,?_,TT hlen⟩
  ·rw[hfp]
   by_cases hqp:q=p
   ·rw[if_pos hqp];rw[←hqp,hf]at e
    cases e
    exact⟨_,rfl,aDL hlen⟩
   ·rw[if_neg hqp];exact⟨h,e,Le.refl _⟩
  ·simp only at e⊢;rw[hfp]at e
   by_cases hqp:q=p
   ·exact .inr (mQ _ (by rw[hqp];exact gF))
   ·rw[if_neg hqp]at e;exact .inl e
  ·rw[hfp,if_pos rfl,hst]
structure Tos(n L:Nat)(l:List Int)(f g:aZ):Prop where
 err:f.err=0
 tU:rC f g
 there:∀q∈l,q≠(n:Int)∧∃h,find g.at_ q=some (f.stack,h)∧Le h f.has
 inv:Inv n L g
 mu:g.todo.length+room n L g.at_≤f.todo.length+room n L f.at_
theorem X2{n L:Nat}:∀(l:List Int) (f:aZ),Inv n L f→(∀q∈l,0≤q∧q≤(n:Int))→(f.err=0→f.stack.length≤300)→(∀t∈f.stack,In64 t)→(yM n l f).err=0→Tos n L l f (yM n l f)
 |[],f,hi,_,_,_,he=>⟨he,rC.refl f,fun q hq=>(by cases hq),hi,bS _⟩
 |q::l,f,hi,hq,hs,ht,he=>by
  rw[X1]at he⊢;obtain⟨q1,q2⟩:=hq q gF;have hw:=A9 hi q1 q2 hs ht;have hs':(to n q f).err=0→(to n q f).stack.length≤300:=fun e=>by
   rw[hw.stack];refine hs (Decidable.byContradiction fun hn=>?_);rw[hw.err hn]at e;exact hn e
  have h:=X2 l (to n q f) hw.inv (fun q' h'=>hq q' (gZ _ h')) hs' (by rw[hw.stack];exact ht) he;obtain⟨e1,e2,e3,hh,e4,e5⟩:=XW hi h.err;refine⟨e1,e3.trans h.tU,fun q' h'=>?_,h.inv,dP h.mu hw.mu⟩;rcases cY.1 h' with rfl|h'
  ·refine⟨e2,?_⟩;obtain⟨h2,k1,k2⟩:=h.tU.ext _ _ _ e4;exact⟨h2,k1,k2.trans e5⟩
  ·have:=h.there q' h';rw[hw.stack,hw.has]at this;exact this
structure Cons(M:aL)(u:bM)(f:aZ):Prop where
 inv:Inv u.code.length u.locals.length f
 err:f.err=0
 fits:∀p s,find f.at_ p=some s→p∈f.todo∨Fits M u (find f.at_) p s
 kG:∀p s,find f.at_ p=some s→0≤p∧p<(u.code.length:Int)
 start:∃h,find f.at_ 0=some ([],h)∧Le h (gJ u)
theorem Fits.tU{M:aL}{u:bM}{f g:aZ}(h:rC f g){p:Int}{s:Shape}(hf:Fits M u (find f.at_) p s):Fits M u (find g.at_) p s:=
 ⟨hf.ok,fun q hq=>by
  obtain⟨k,k1,k2⟩:=hf.next q hq;obtain⟨k',k3,k4⟩:=h.ext _ _ _ k1;exact⟨k',k3,k4.trans k2⟩⟩
theorem aC2{M:aL}{u:bM}(hg:Good M u){p:Int}(h:0≤p∧p<(u.code.length:Int)):uX M u (ins u p):=by
 refine CJ (hg.code _ ?_);unfold ins;rw[Jd,Je aA];exact hZ _
theorem aDm{M:aL}{u:bM}{p:Int}(hi:uX M u (ins u p))(h:0≤p∧p<(u.code.length:Int)):∀q∈lH (ins u p) p,0≤q∧q≤(u.code.length:Int):=by
 unfold lH;intro q hq
 by_cases h21:(ins u p).op=21
 ·rw[if_pos h21]at hq;have:=hi.jump (.inl h21);simp at hq;omega
 rw[if_neg h21]at hq
 by_cases h22:(ins u p).op=22
 ·rw[if_pos h22]at hq;have:=hi.jump (.inr h22);simp at hq;omega
 rw[if_neg h22]at hq
 by_cases h24:(ins u p).op=24∨(ins u p).op=25
 ·rw[if_pos h24]at hq;cases hq
 ·rw[if_neg h24]at hq;simp at hq;omega
theorem aAq{M:aL}{u:bM}(hg:Good M u){i:aT}(hi:uX M u i){f:aZ}(h:Inv u.code.length u.locals.length f)(hl:f.stack.length≤300)(ht:∀t∈f.stack,In64 t):OX u.code.length u.locals.length f (core M u i f):=by
 unfold core
 by_cases h21:i.op=21
 ·rw[if_pos h21];exact⟨h,aA,fun _=>hl,ht,bS _⟩
 rw[if_neg h21]
 by_cases h22:i.op=22
 ·rw[if_pos h22];have hk:=wQ [2] f;have:=hk.len;exact⟨h.same hk.same,aA,fun _=>aA,hk.ty ht,by rw[hk.same.todo,hk.same.at_];exact bS _⟩
 rw[if_neg h22];exact XF hg hi rfl rfl h hl ht
theorem aFU{M:aL}{u:bM}(hg:Good M u){p:Int}{r:List Int}{f:aZ}(hc:Cons M u f)(ht:f.todo=p::r)(he:(round M u p r f).err=0):
  Cons M u (round M u p r f)∧(round M u p r f).todo.length+room u.code.length u.locals.length (round M u p r f).at_<f.todo.length+room u.code.length u.locals.length f.at_:=by
 obtain⟨t1,t2,t3⟩:=hc.inv.todo p (by rw[ht];exact gF);obtain⟨s,hs⟩:=lK.1 t3;have hi:=aC2 hg ⟨t1,t2⟩;obtain⟨s1,s2,s3⟩:=hc.inv.pK p s hs;have hc0:=Q4 M u (ins u p) {f with todo:=r,stack:=s.1,has:=s.2} hc.err;simp only at hc0;have hgo:=aAq hg hi (f:={f with todo:=r,stack:=s.1,has:=s.2}) ⟨s3,hc.inv.pK,fun q hq=>hc.inv.todo q (by rw[ht];exact gZ _ hq)⟩ s1 s2;rw[hc0]at hgo;rw[WB hs hc.err]at he⊢;generalize hG:re f.at_ r (cS M u (ins u p) s).has (cS M u (ins u p) s)=G at *;have hGst:G.stack=(cS M u (ins u p) s).stack:=by rw[←hG];rfl
 have hGh:G.has=(cS M u (ins u p) s).has:=by rw[←hG];rfl
 have hGe:G.err=(cS M u (ins u p) s).err:=by rw[←hG];rfl
 have hGa:G.at_=f.at_:=by rw[←hG];rfl
 have hGt:G.todo=r:=by rw[←hG];rfl
 have hT:=X2 _ G hgo.inv (aDm hi ⟨t1,t2⟩) hgo.ok hgo.ty he;generalize yM u.code.length (lH (ins u p) p) G=R at *;refine⟨⟨hT.inv,he,fun q s' hq=>?_,fun q s' hq=>?_,?_⟩,?_⟩
 ·rcases hT.tU.new q s' hq with e|e
  ·rw[hGa]at e
   by_cases hqp:q=p
   ·subst hqp;rw[hs]at e
    cases e
    refine .inr ⟨by rw[←hGe];exact hT.err,fun q' hq'=>?_⟩;have:=(hT.there q' hq').2;rw[hGst,hGh]at this;exact this
   ·rcases hc.fits q s' e with e'|e'
    ·rw[ht]at e';rcases cY.1 e' with e'|e'
     ·exact absurd e' hqp
     ·exact .inl (hT.tU.todo q (by rw[hGt];exact e'))
    ·rw[←hGa]at e';exact .inr (Fits.tU hT.tU e')
  ·exact .inl e
 ·rcases hT.tU.new q s' hq with e|e
  ·rw[hGa]at e;exact hc.kG q s' e
  ·have:=hT.inv.todo q e;exact⟨this.1,this.2.1⟩
 ·obtain⟨h,h1,h2⟩:=hc.start;rw[←hGa]at h1;obtain⟨h',h3,h4⟩:=hT.tU.ext _ _ _ h1;exact⟨h',h3,h4.trans h2⟩
 ·have:=hT.mu;rw[hGa,hGt]at this;rw[ht];simp only[JW];omega
theorem WC{M:aL}{u:bM}(hg:Good M u)(k:Nat):∀(n:Nat) (f:aZ),Cons M u f→f.todo.length+room u.code.length u.locals.length f.at_<n→(run M u k n f).err=0→∃τ,Cert M u τ∧∀p s,τ p=some s→s.1.length≤300∧s.2.length=u.locals.length
 |0,_,_,h,_=>by omega
 |n+1,f,hc,hn,he=>by
  unfold run at he
  cases ht:f.todo with
  |nil=>
   refine⟨find f.at_,⟨hc.start,hc.kG,fun p s hp=>?_⟩,fun p s hp=>⟨(hc.inv.pK p s hp).1,(hc.inv.pK p s hp).2.2⟩⟩;rcases hc.fits p s hp with h|h
   ·rw[ht]at h;cases h
   ·exact h
  |cons p r=>
   rw[ht]at he;simp only at he
   by_cases hr:¬(round M u p r f).err=0
   ·rw[if_pos hr]at he;exact absurd he hr
   have hr:(round M u p r f).err=0:=wZ.1 hr;rw[if_neg (fun h=>h hr)]at he;obtain⟨h1,h2⟩:=aFU hg hc ht hr;exact WC hg k n _ h1 aA he
theorem aA8{M:aL}{k:Nat}(hg:Good M (M.aJ.getD k default))(hp:(M.aJ.getD k default).params.toNat≤(M.aJ.getD k default).locals.length)(h1:1≤(M.aJ.getD k default).code.length)(h:(code M k).err=0):
  ∃τ,Cert M (M.aJ.getD k default) τ∧∀p s,τ p=some s→s.1.length≤300∧s.2.length=(M.aJ.getD k default).locals.length:=by
 unfold code at h;generalize M.aJ.getD k default=u at *;have hst:Ver.start u=to u.code.length 0 ⟨[],[],[],gJ u,0⟩:=rfl;have hI:Inv u.code.length u.locals.length ⟨[],[],[],gJ u,0⟩:=⟨by simp only[gJ,Jl,List.length_replicate];omega,fun p s hp=>(by cases hp),fun p hp=>(by cases hp)⟩;have hw:=A9 hI (p:=0) aA aA (fun _=>bQ _) (fun t h=>by cases h);have he:(to u.code.length 0 ⟨[],[],[],gJ u,0⟩).err=0:=by
  unfold to;rw[if_neg (fun h=>h rfl),if_neg aA];rfl
 obtain⟨g1,g2,g3,hh,g4,g5⟩:=XW hI he;rw[←hst]at he g3 g4 hw;have hm:=hw.mu;rw[WA]at hm;simp only[kZ]at hm;refine WC hg k _ _ ⟨hw.inv,he,fun p s hp=>?_,fun p s hp=>?_,hh,g4,g5⟩ ?_ h
 ·rcases g3.new p s hp with e|e
  ·cases e
  ·exact .inl e
 ·rcases g3.new p s hp with e|e
  ·cases e
  ·have:=hw.inv.todo p e;exact⟨this.1,this.2.1⟩
 ·unfold CS;omega
theorem UW{M:aL}:∀(n b:Nat),(owned M b n).err=0↔∀j,b≤j→j<b+n→¬(1<lI M 26 j∨1<lI M 27 j)
 |0,b=>by
  unfold owned;exact⟨fun _ j h1 h2=>aA,fun _=>rfl⟩
 |n+1,b=>by
  by_cases h:1<lI M 26 b∨1<lI M 27 b
  ·rw[MG h];exact⟨fun h'=>by simp at h',fun h'=>absurd h (h' b (bS _) aA)⟩
  ·rw[MH h,UW n (b+1)];constructor
   ·intro h' j h1 h2
    by_cases hj:j=b
    ·subst hj;exact h
    ·exact h' j aA aA
   ·intro h' j h1 h2;exact h' j aA aA
theorem UU{M:aL}:∀(n b:Nat),(owned M b n).err=0→owned M b n= .ok
 |0,_,_=>by unfold owned;rfl
 |n+1,b,h=>by
  by_cases hu:1<lI M 26 b∨1<lI M 27 b
  ·rw[MG hu]at h;simp at h
  ·rw[MH hu]at h⊢;exact UU n _ h
structure HU(M:aL):Prop where
 form:yW M
 code:∀k,k<M.aJ.length→(code M k).err=0
 owned:∀b,b<M.boxes.length→lI M 26 b≤1∧lI M 27 b≤1
theorem YQ{M:aL}:(verify M).err=0↔HU M:=by
 by_cases h:(form M).err=0
 ·by_cases h2:(mU M 0 M.aJ.length).err=0
  ·rw[OG h h2,UW];constructor
   ·intro h3;refine⟨KG.1 h,fun k hk=>(IN _ _).1 h2 k (bQ _) aA,fun b hb=>?_⟩;have:=h3 b (bQ _) aA;omega
   ·rintro⟨-, -,h3⟩ j-hj;have:=h3 j aA;omega
  ·rw[OF h h2];exact⟨fun h'=>absurd h' h2,fun h'=>absurd ((IN _ _).2 (fun j _ hj=>h'.code j aA)) h2⟩
 ·rw[OE h];exact⟨fun h'=>absurd h' h,fun h'=>absurd (KG.2 h'.form) h⟩
theorem YO{M:aL}(h:(verify M).err=0):verify M= .ok:=by
 by_cases h1:(form M).err=0
 ·by_cases h2:(mU M 0 M.aJ.length).err=0
  ·rw[OG h1 h2]at h⊢;exact UU _ _ h
  ·rw[OF h1 h2]at h;exact absurd h h2
 ·rw[OE h1]at h;exact absurd h h1
theorem wO{M:aL}:verify M= .ok↔HU M:=⟨fun h=>YQ.1 (by rw[h];rfl),fun h=>YO (YQ.2 h)⟩
abbrev kK(M:aL)(k:Int):bM:=M.aJ.getD k.toNat default
structure OS(M M':aL):Prop where
 nun:M.aJ.length≤M'.aJ.length
 nbx:M.boxes.length≤M'.boxes.length
 aJ:∀k:Int,0≤k→k<(M.aJ.length:Int)→(kK M k).kind=2∨(kK M k).kind=3→(kK M' k).kind=(kK M k).kind∧(kK M' k).locals=(kK M k).locals∧(kK M' k).params=(kK M k).params∧(kK M' k).result=(kK M k).result∧(kK M' k).aP=(kK M k).aP
 boxes:∀k,k<M.boxes.length→M'.boxes.getD k default=M.boxes.getD k default
structure HT(u u':bM):Prop where
 kind:u'.kind=u.kind
 params:u'.params=u.params
 locals:u'.locals=u.locals
 result:u'.result=u.result
 aP:u'.aP=u.aP
 len:u.code.length≤u'.code.length
 ins:∀p:Int,0≤p→p<(u.code.length:Int)→ins u' p=ins u p
section
variable{M M':aL}(hM:OS M M'){u u':bM}(hU:HT u u')
include hM
end
theorem XK{M:aL}{u:bM}{i:aT}{f:aZ}(h:23≤i.op):step M u i f=eP M u i f:=by
 unfold step
 (repeat rw[if_neg aA])
section
variable{M M':aL}(hM:OS M M'){u u':bM}(hU:HT u u')
include hM hU
end
def key(c:List aT):List aT:=c.filter fun i=>decide (i.op=23)||decide (i.op=29)||decide (i.op=26)||decide (i.op=27)
theorem aAY{out:List Int}{i:aT}{x:Int}(h:x∈zK out i):x∈out∨((i.op=23∨i.op=29)∧i.a=x):=by
 unfold zK at h
 split at h
 ·rename_i h1
  rcases dF.1 h with h|h
  ·exact .inl h
  ·simp at h;exact .inr ⟨h1.1,h.symm⟩
 ·exact .inl h
theorem QN:∀(l:List aT) (out:List Int) (x:Int),x∈calls l out→x∈out∨∃i∈l,(i.op=23∨i.op=29)∧i.a=x
 |[],_,_,h=> .inl h
 |i::l,out,x,h=>by
  rw[IJ]at h;rcases QN l _ x h with h|⟨j,h1,h2⟩
  ·rcases aAY h with h|h
   ·exact .inl h
   ·exact .inr ⟨i,gF,h⟩
  ·exact .inr ⟨j,gZ _ h1,h2⟩
theorem aCD{l:List Int}{k:Nat}(h:k<l.length):l.getD k 0∈l:=by
 rw[Jd,Je h];exact hZ _
def sm:bM:=⟨4,0,[],0,0,[⟨1,0,1⟩,⟨28,0,0⟩,⟨25,0,0⟩]⟩
structure Left(M M':aL):Prop where
 nun:M.aJ.length≤M'.aJ.length
 nbx:M.boxes.length≤M'.boxes.length
 boxes:∀k,k<M.boxes.length→M'.boxes.getD k default=M.boxes.getD k default
 bx:∀b∈M'.boxes,plain b.1=true∧1≤b.2∧b.2≤20
 eL:M'.boxes.length≤30∧M'.aJ.length≤30
 aJ:∀k:Nat,k<M'.aJ.length→(k<M.aJ.length∧HT (kK M k) (kK M' k)∧key (kK M' k).code=key (kK M k).code∧(kK M' k).code.length≤4000∧∀i∈(kK M' k).code,i∈(kK M k).code∨i.op=5∨i.op=7)∨(kK M' k=sm∧(k<M.aJ.length→(kK M k).kind=4))
theorem aHj{M:aL}{k:Nat}(h:k<M.aJ.length):kK M k∈M.aJ:=by
 show M.aJ.getD k default∈_;rw[Jd,Je h];exact hZ _
section
variable{M M':aL}(hF:yW M)(hL:Left M M')
include hF
include hL
end
def aIa(u:bM):bM:={u with code:=u.code ++[⟨7,0,0⟩,⟨5,0,0⟩]}
end Ver
namespace Opt
open ImgM Ver
def S7(i:aT):Bool:=decide (i.op=21)||decide (i.op=22)
def tgt(l:List aT)(p:Int):Bool:=l.any fun i=>S7 i&&decide (i.a=p)
def zN(i:aT):Int:=if i.op=1 then i.n else if i.op=2 then i.a else 0
def FI(i:aT):Bool:=decide (i.op=1)||decide (i.op=2)
def known(v:Int)(t:Bool):List aT:=if t then [⟨2,v,0⟩]else [⟨1,0,v⟩]
def yes(b:Bool):Int:=if b then 1 else 0
def m4(op a b:Int):Int:=
 if op=8 then IntKind.i64.wrap (a+b)
 else if op=9 then IntKind.i64.wrap (a-b)
 else if op=10 then IntKind.i64.wrap (a*b)
 else if op=11∨op=12 then
  if a= -9223372036854775808∧b= -1 then(if op=11 then a else 0)
  else if op=11 then IntKind.i64.wrap (a.tdiv b)else a.tmod b
 else if op=13 then yes (decide (a=b))
 else if op=14 then yes (!decide (a=b))
 else if op=15 then yes (decide (a<b))
 else if op=16 then yes (decide (a≤b))
 else if op=17 then yes (decide (b<a))
 else if op=18 then yes (decide (b≤a))
 else if op=19 then bits .and .i64 a b
 else bits .or .i64 a b
def three(a b c:aT):Option (List aT):=
 if FI a=false∨FI b=false∨a.op≠b.op∨c.op<8∨20<c.op∨(zN b=0∧(c.op=11∨c.op=12))then none
 else if((c.op=19∨c.op=20)↔¬a.op=2)∧c.op≠13∧c.op≠14 then none
 else some (known (m4 c.op (zN a) (zN b)) (decide (12<c.op)))
def pair(a b:aT):Option (List aT):=
 if b.op=5∧(FI a=true∨a.op=3)then some []
 else if FI a=false then none
 else if b.op=6∧a.op=1 then some (known (IntKind.i64.wrap (-(zN a))) false)
 else if a.op=1 then none
 else if b.op=7 then some (known (IntKind.i64.wrap (1-zN a)) true)
 else if b.op=22∧zN a≠0 then some []
 else if b.op=22 then some [⟨21,b.a,0⟩]
 else none
def at_(l:List aT)(k:Nat):aT:=l.getD k default
def free(l:List aT)(p n:Nat):Bool:=decide (p+n<l.length)&&(List.range n).all fun k=>decide (k=0)|| !tgt l ((p+k:Nat):Int)
def shorter(l:List aT)(p:Nat):List aT×Nat:=
 match (if free l p 3 then three (at_ l p) (at_ l (p+1)) (at_ l (p+2))else none)with
 |some r=>(r,3)
 |none=>match (if free l p 2 then pair (at_ l p) (at_ l (p+1))else none)with
  |some r=>(r,2)
  |none=>if free l p 1=true∧(at_ l p).op=21∧(at_ l p).a=(p:Int)+1 then([],1)else([],0)
structure PS where
 p:Nat
 out:List aT
 wh:List Int
 CB:Bool
def W1(wh:List Int)(p:Nat)(v:Int):Nat→List Int
 |0=>wh
 |n+1=>(W1 wh p v n).set (p+n+1) v
def aEk(l:List aT)(s:PS):PS:=
 if(shorter l s.p).2=0 then⟨s.p+1,s.out ++[at_ l s.p],s.wh.set s.p (s.out.length:Int),s.CB⟩
 else⟨s.p+(shorter l s.p).2,s.out ++(shorter l s.p).1,W1 (s.wh.set s.p (s.out.length:Int)) s.p ((s.out ++(shorter l s.p).1).length:Int) ((shorter l s.p).2-1),true⟩
def prun(l:List aT):Nat→PS→PS
 |0,s=>s
 |n+1,s=>if s.p<l.length then prun l n (aEk l s)else s
def aFL(wh:List Int)(i:aT):aT:=if S7 i then{i with a:=wh.getD i.a.toNat 0}else i
def MM(l:List aT):PS:=prun l l.length ⟨0,[],List.replicate (l.length+1) 0,false⟩
def pass(l:List aT):List aT×Bool:=((MM l).out.map (aFL (MM l).wh),(MM l).CB)
def eG:Nat→List aT→List aT
 |0,l=>l
 |n+1,l=>if(pass l).2 then eG n (pass l).1 else(pass l).1
def code(l:List aT):List aT:=eG (l.length+1) l
def unit(u:bM):bM:={u with code:=code u.code}
def aC(M:aL):aL:=⟨M.boxes,M.aJ.map unit⟩
end Opt
namespace Vm
open ImgM Ver Opt
structure Env(ν:Type) where
 full:ν→Nat→Bool
 empty:ν→Nat→Bool
 put:ν→Nat→Int→ν
 take:ν→Nat→Int×ν
 tell:ν→Int×Int×Int→ν
structure Fr where
 unit:Nat
 pc:Nat
 base:Nat
deriving Inhabited,DecidableEq
structure Co where
 st:Nat
 up:Option Nat
 fr:List Fr
 ws:List Int
deriving Inhabited,DecidableEq
structure Tk where
 cs:List Co
 now:Nat
 st:Int
 bx:Int
 tr:Int
 out:List Int
deriving Inhabited,DecidableEq
def bL(M:aL)(k:Nat):bM:=M.aJ.getD k default
def cur(t:Tk):Co:=t.cs.getD t.now default
def fB(t:Tk)(k:Nat)(c:Co):Tk:={t with cs:=t.cs.set k c}
def setCur(t:Tk)(c:Co):Tk:=fB t t.now c
def gY(c:Co):Fr:=c.fr.getD (c.fr.length-1) default
def A2(c:Co)(f:Fr):Co:={c with fr:=c.fr.set (c.fr.length-1) f}
def cO(M:aL)(t:Tk):aT:=(bL M (gY (cur t)).unit).code.getD (gY (cur t)).pc default
def begin(M:aL)(u:Nat)(a:List Int):Co:=⟨0,none,[⟨u,0,0⟩],(List.range (bL M u).locals.length).map fun i=>a.getD i 0⟩
def new(M:aL)(u:Nat):Tk:=⟨[{begin M u []with st:=2}],0,1,0,0,[]⟩
section
variable{ν:Type}(V:Env ν)(M:aL)
def e9(n:Int)(s:Tk×ν):Tk×ν:=if s.1.st=5 then s else({s.1 with st:=5,tr:=n},V.tell s.2 (5,0,n))
def push(v:Int)(s:Tk×ν):Tk×ν:=
 if(cur s.1).ws.length=400 then e9 V 4 s else(setCur s.1 {cur s.1 with ws:=(cur s.1).ws ++[v]},s.2)
def last(s:Tk):Int:=(cur s).ws.getD ((cur s).ws.length-1) 0
def drop(n:Nat)(t:Tk):Tk:=setCur t {cur t with ws:=(cur t).ws.take ((cur t).ws.length-n)}
def waits(i:aT)(s:Tk×ν):Tk×ν:=
 if i.op=26∧V.full s.2 i.a.toNat=true then({s.1 with st:=2,bx:=i.a},s.2)
 else if i.op=27∧V.empty s.2 i.a.toNat=true then({s.1 with st:=3,bx:=i.a},s.2)
 else({s.1 with st:=1,bx:=0},s.2)
def look(s:Tk×ν):Tk×ν:=if s.1.st≤3 then waits V (cO M s.1) s else s
def gX(p:Nat)(t:Tk):Tk:=setCur t (A2 (cur t) {gY (cur t)with pc:=p})
def gB(V:Env ν):Nat→Tk×ν→Tk×ν
 |0,s=>s
 |n+1,s=>gB V n (push V 0 s)
def vF(k:Nat)(s:Tk×ν):Tk×ν:=
 if(cur s.1).fr.length=40 then e9 V 4 s
 else gB V ((bL M k).locals.length-(bL M k).params.toNat) (setCur s.1 {cur s.1 with fr:=(cur s.1).fr ++[⟨k,0,(cur s.1).ws.length-(bL M k).params.toNat⟩]},s.2)
def ret(s:Tk×ν):Tk×ν:=
 push V (last s.1) (setCur s.1 {cur s.1 with fr:=(cur s.1).fr.take ((cur s.1).fr.length-1),ws:=((cur s.1).ws.take ((cur s.1).ws.length-1)).take (gY (cur s.1)).base},s.2)
def tO(s:Tk×ν):Tk×ν:=
 match (cur s.1).up with
 |none=>({setCur s.1 {cur s.1 with st:=3}with st:=4},V.tell s.2 (4,0,0))
 |some j=>push V 0 ({setCur s.1 {cur s.1 with st:=3,up:=none}with now:=j},s.2)
def vZ(k:Nat)(s:Tk×ν):Tk×ν:=
 let n:=(bL M k).params.toNat
 let a:=(cur s.1).ws.drop ((cur s.1).ws.length-n)
 let t:=drop n s.1
 if 30<t.cs.length then e9 V 5 (t,s.2)
 else push V (t.cs.length:Int) ({t with cs:=t.cs ++[begin M k a]},V.tell s.2 (6,0,(k:Int)))
def yC(s:Tk×ν):Tk×ν:=
 let v:=last s.1
 let t:=drop 1 s.1
 let k:=(last t).toNat
 let t:=drop 1 t
 let c:=t.cs.getD k default
 if c.st=3 then e9 V 2 (t,s.2)
 else if c.st=2 then e9 V 3 (t,s.2)
 else
  let t':Tk:={fB t k {c with st:=2,up:=some t.now}with now:=k}
  if c.st=0 then(t',s.2)else push V v (t',s.2)
def D1(s:Tk×ν):Tk×ν:=
 let v:=last s.1
 let t:=drop 1 s.1
 push V v ({setCur t {cur t with st:=1,up:=none}with now:=(cur t).up.getD 0},s.2)
def zH(s:Tk×ν):Tk×ν:=
 let t:=drop 1 s.1
 push V (yes (!decide ((t.cs.getD (last s.1).toNat default).st=3))) (t,s.2)
def exec(i:aT)(s:Tk×ν):Tk×ν:=
 let d:=drop 1 s.1
 if i.op=1 then push V i.n s
 else if i.op=2 then push V i.a s
 else if i.op=3 then push V ((cur s.1).ws.getD ((gY (cur s.1)).base+i.a.toNat) 0) s
 else if i.op=4 then(setCur d {cur d with ws:=(cur d).ws.set ((gY (cur d)).base+i.a.toNat) (last s.1)},s.2)
 else if i.op=5 then(d,s.2)
 else if i.op=6 then push V (IntKind.i64.wrap (-(last s.1))) (d,s.2)
 else if i.op=7 then push V (IntKind.i64.wrap (1-last s.1)) (d,s.2)
 else if 8≤i.op∧i.op≤20 then
  if(i.op=11∨i.op=12)∧last s.1=0 then e9 V 1 (drop 1 d,s.2)
  else push V (m4 i.op (last d) (last s.1)) (drop 1 d,s.2)
 else if i.op=21 then(gX i.a.toNat s.1,s.2)
 else if i.op=22 then(if last s.1=0 then gX i.a.toNat d else d,s.2)
 else if i.op=26 then(d,V.tell (V.put s.2 i.a.toNat (last s.1)) (2,i.a,last s.1))
 else if i.op=27 then push V (V.take s.2 i.a.toNat).1 (s.1,V.tell (V.take s.2 i.a.toNat).2 (3,i.a,(V.take s.2 i.a.toNat).1))
 else if i.op=28 then({d with out:=d.out ++[last s.1]},V.tell s.2 (1,0,last s.1))
 else if i.op=23 then vF V M i.a.toNat s
 else if i.op=24 then ret V s
 else if i.op=25 then tO V s
 else if i.op=29 then vZ V M i.a.toNat s
 else if i.op=30 then yC V s
 else if i.op=31 then D1 V s
 else if i.op=32 then zH V s
 else s
def step(s:Tk×ν):Bool×(Tk×ν):=
 let s1:=look V M s
 if s1.1.st≠1 then(false,s1)
 else(true,look V M (exec V M (cO M s1.1) (gX ((gY (cur s1.1)).pc+1) s1.1,s1.2)))
end
end Vm
namespace Vw
open Go.RowKit Img
structure dK where
 μ:Type
 ν:Type
 V:Vm.Env ν
 abs:μ→ν
 ok:μ→Prop
 mem:μ→Chunk
 size:ν→Nat
 vX:∀v b x,size (V.put v b x)≤size v+1
 uO:∀v b,size (V.take v b).2≤size v+1
 qX:∀v x,size (V.tell v x)≤size v+1
 bE:∀e,(mem e).bE=true
 rc:Chunk
 eC:rc.bE=false
 T:TypeId
 rv:Value
 told:Option (FuncId×List Value)
 boxes:Nat
 EY:FuncId
 EX:FuncId
 EZ:FuncId
 E1:FuncId
 TO:wW Tryz.prog T rv "Full" EY
 TN:wW Tryz.prog T rv "Empty" EX
 TP:wW Tryz.prog T rv "Put" EZ
 TQ:wW Tryz.prog T rv "Take" E1
 PV:fW Tryz.prog EY=true
 PU:fW Tryz.prog EX=true
 PW:fW Tryz.prog EZ=true
 PY:fW Tryz.prog E1=true
 full:∀(e:μ) (b:Nat),ok e→b<boxes→Fn Tryz.prog EY #[rv, .int .i64 b] [rc] [mem e] (σ:=Unit) (fun _=>True) (fun _=> .bool (V.full (abs e) b)) (fun _=>[mem e])
 empty:∀(e:μ) (b:Nat),ok e→b<boxes→Fn Tryz.prog EX #[rv, .int .i64 b] [rc] [mem e] (σ:=Unit) (fun _=>True) (fun _=> .bool (V.empty (abs e) b)) (fun _=>[mem e])
 put:∀(e:μ) (b:Nat) (v:Int),ok e→b<boxes→V.full (abs e) b=false→size (abs e)≤2000000→Fn Tryz.prog EZ #[rv, .int .i64 b, .int .i64 v] [rc] [mem e] (σ:=μ) (fun e'=>ok e'∧abs e'=V.put (abs e) b v) (fun _=> .tuple #[]) (fun e'=>[mem e'])
 take:∀(e:μ) (b:Nat),ok e→b<boxes→V.empty (abs e) b=false→Fn Tryz.prog E1 #[rv, .int .i64 b] [rc] [mem e] (σ:=μ) (fun e'=>ok e'∧abs e'=(V.take (abs e) b).2) (fun e'=> .int .i64 (V.take (abs e) b).1) (fun e'=>[mem e'])
 tell:match told with
  |none=>∀v x,V.tell v x=v
  |some (f,cap)=>fW Tryz.prog f=true∧∀(e:μ) (a b v:Int),ok e→size (abs e)≤2000000→Fn Tryz.prog f (#[.int .i64 a, .int .i64 b, .int .i64 v] ++cap.toArray) [rc] [mem e] (σ:=μ) (fun e'=>ok e'∧abs e'=V.tell (abs e) (a,b,v)) (fun _=> .tuple #[]) (fun e'=>[mem e'])
attribute [simp] dK.bE dK.eC
abbrev dK.iY(E:dK)(e:E.μ):Prop:=E.ok e∧E.size (E.abs e)≤2000000
theorem aH6(E:dK)(n:Int)(s:Vm.Tk×E.ν):E.size (Vm.e9 E.V n s).2≤E.size s.2+1:=by
 unfold Vm.e9
 split
 ·exact sE _
 ·exact E.qX _ _
theorem aEn(E:dK)(v:Int)(s:Vm.Tk×E.ν):E.size (Vm.push E.V v s).2≤E.size s.2+1:=by
 unfold Vm.push
 split
 ·exact aH6 E _ _
 ·exact sE _
theorem VQ(E:dK):∀(n:Nat) (s:Vm.Tk×E.ν),E.size (Vm.gB E.V n s).2≤E.size s.2+n
 |0,s=>bS _
 |n+1,s=>by
  unfold Vm.gB;have h1:=VQ E n (Vm.push E.V 0 s);have h2:=aEn E 0 s;omega
def j6:Option (FuncId×List Value)→Value
 |none=> .nilFunc
 |some (f,cap)=> .func (.func f) #[] cap.toArray
abbrev rV(mb:Nat)(mail cos:Value)(cb:Nat)(st bx tr:Int)(out told:Value):List Value:=[ptr mb,mail,cos,ptr cb, .int .i64 st, .int .i64 bx, .int .i64 tr,out,told]
abbrev QQ(st:Int)(up fr:Value)(sb:Nat):List Value:=[.int .i64 st,up,fr,ptr sb]
structure TF where
 tb:Nat
 mb:Nat
 cos:Value
 cb:Nat
 bx:Int
 out:Value
abbrev dK.kE(E:dK):Value:= .iface E.T E.rv
abbrev dK.tc(E:dK)(F:TF)(st tr:Int):Chunk:=aF F.tb (rV F.mb E.kE F.cos F.cb st F.bx tr F.out (j6 E.told)) 103
abbrev cc(cb:Nat)(st:Int)(up fr:Value)(sb:Nat):Chunk:=aF cb (QQ st up fr sb) 168
structure H0(E:dK)(n st tr:Int)(e:E.μ)(q:Int×Int×E.μ):Prop where
 aO:st=5→q=(st,tr,e)
 new:st≠5→q.1=5∧q.2.1=n∧E.ok q.2.2∧E.abs q.2.2=E.V.tell (E.abs e) (5,0,n)
structure O7(E:dK)(v:Int)(k:Sk)(st tr:Int)(e:E.μ)(q:Sk×Int×Int×E.μ):Prop where
 full:k.live=400→q.1=k∧H0 E 4 st tr e q.2
 room:k.live≠400→pG k q.1 (k.ws ++[v])∧q.2=(st,tr,e)
end Vw
end Go.Proofs.YtofckcabpchcmaaGreatDoor
