/- A unit's code is right just if there is a typing of it: a certificate. Plain Lean. -/
import Derived.Test.YtofckcabpchcmaaGreatDoorM09
set_option linter.unusedVariables false
set_option linter.unusedSimpArgs false
set_option linter.unusedSectionVars false
set_option maxRecDepth 100000
namespace Go.Proofs.YtofckcabpchcmaaGreatDoor
namespace Ver
open ImgM
def re(a:List (Int×Shape))(t:List Int)(h:List Bool)(f:aX):aX:={f with at_:=a,todo:=t,has:=h}
section
variable(a:List (Int×Shape))(t:List Int)(h:List Bool)
theorem rO(e:Int)(f:aX):fail e (re a t h f)=re a t h (fail e f):=by unfold fail re;split<;>rfl
theorem zE(x:Int)(f:aX):push x (re a t h f)=re a t h (push x f):=by
 unfold push;simp only[show(re a t h f).stack=f.stack from rfl]
 split
 ·exact rO a t h 4 {f with stack:=f.stack ++[x]}
 ·rfl
theorem CE(f:aX):(pop (re a t h f)).1=(pop f).1:=by
 unfold pop;simp only[show(re a t h f).stack=f.stack from rfl]
 split<;>rfl
theorem CG(f:aX):(pop (re a t h f)).2=re a t h (pop f).2:=by
 unfold pop;simp only[show(re a t h f).stack=f.stack from rfl]
 split
 ·exact rO a t h 12 f
 ·rfl
theorem aH6(x:Int)(f:aX):mN x (re a t h f)=re a t h (mN x f):=by
 unfold mN;rw[CE,CG]
 split
 ·exact rO a t h 9 _
 ·rfl
theorem GN(l:List Int)(f:aX):want l (re a t h f)=re a t h (want l f):=by
 induction l with
 |nil=>rfl
 |cons x r ih=>show mN x (want r (re a t h f))=_;rw[ih,aH6];rfl
theorem aA9(f:aX):done (re a t h f)=re a t h (done f):=by
 unfold done;simp only[show(re a t h f).stack=f.stack from rfl]
 split
 ·rfl
 ·exact rO a t h 12 f
theorem Q1(M:aG)(f:aX):(gen M (re a t h f)).1=(gen M f).1:=by
 unfold gen;rw[CE,CG];simp only[show(re a t h (pop f).2).err=(pop f).2.err from rfl]
 split
 ·rfl
 split<;>rfl
theorem Q6(M:aG)(f:aX):(gen M (re a t h f)).2=re a t h (gen M f).2:=by
 unfold gen;rw[CE,CG];simp only[show(re a t h (pop f).2).err=(pop f).2.err from rfl]
 split
 ·rfl
 split
 ·exact rO a t h 9 _
 ·rfl
theorem KK{c:Prop} [Decidable c](f g:aX):(if c then re a t h f else re a t h g)=re a t h (if c then f else g):=by split<;>rfl
theorem aFu(M:aG)(u:bS)(i:aY)(f:aX):eS M u i (re a t h f)=((eS M u i f).1,re a t h (eS M u i f).2):=by
 unfold eS;simp only[args,GN,zE,rO,KK,aA9,CG,CE,Q6,Q1,show(re a t h (pop f).2).err=(pop f).2.err from rfl]
 by_cases h1:i.op=23
 ·simp only[if_pos h1]
 simp only[if_neg h1]
 by_cases h2:i.op=29
 ·simp only[if_pos h2]
 simp only[if_neg h2]
 by_cases h3:i.op=24
 ·simp only[if_pos h3]
 simp only[if_neg h3]
 by_cases h4:i.op=25
 ·simp only[if_pos h4]
 simp only[if_neg h4]
 by_cases h5:i.op=26
 ·simp only[if_pos h5]
 simp only[if_neg h5]
 by_cases h6:i.op=27
 ·simp only[if_pos h6]
 simp only[if_neg h6]
 by_cases h7:i.op=28
 ·simp only[if_pos h7]
 simp only[if_neg h7]
 by_cases h8:i.op=30
 ·simp only[if_pos h8];have e1:=Q1 a t h M (pop f).2;have e2:=Q6 a t h M (pop f).2;generalize gen M (re a t h (pop f).2)=G at *;generalize gen M (pop f).2=G' at *;obtain⟨o,g⟩:=G;obtain⟨o',g'⟩:=G';simp only at e1 e2;subst e1 e2
  cases o with
  |none=>rfl
  |some k=>simp only[rO,KK,zE]
 simp only[if_neg h8]
 by_cases h9:i.op=31
 ·simp only[if_pos h9]
 simp only[if_neg h9]
 by_cases h10:i.op=32
 ·simp only[if_pos h10]
 simp only[if_neg h10]
def core(M:aG)(u:bS)(i:aY)(f:aX):aX:=if i.op=21 then f else if i.op=22 then want [2] f else(step M u i f).2
theorem V4(M:aG)(u:bS)(i:aY)(f:aX)(h3:i.op≠3)(h4:i.op≠4)(h21:i.op≠21)(h22:i.op≠22):step M u i (re a t h f)=((step M u i f).1,re a t h (step M u i f).2):=by
 unfold step;simp only[GN,zE,rO,KK,CG,CE,aFu,if_neg h3,if_neg h4,if_neg h21,if_neg h22]
 by_cases h1:i.op=1
 ·simp only[if_pos h1]
 simp only[if_neg h1]
 by_cases h2:i.op=2
 ·simp only[if_pos h2]
 simp only[if_neg h2]
 by_cases h5:i.op=5
 ·simp only[if_pos h5]
 simp only[if_neg h5]
 by_cases h6:i.op=6
 ·simp only[if_pos h6]
 simp only[if_neg h6]
 by_cases h7:i.op=7
 ·simp only[if_pos h7]
 simp only[if_neg h7]
 by_cases h8:8≤i.op∧i.op≤12
 ·simp only[if_pos h8]
 simp only[if_neg h8]
 by_cases h9:i.op=13∨i.op=14
 ·simp only[if_pos h9]
 simp only[if_neg h9]
 by_cases h10:15≤i.op∧i.op≤18
 ·simp only[if_pos h10]
 simp only[if_neg h10]
 by_cases h11:i.op=19∨i.op=20
 ·simp only[if_pos h11]
 simp only[if_neg h11]
end
theorem F0(M:aG)(u:bS)(i:aY)(f:aX)(h:i.op=3):step M u i f=(true,push (u.locals.getD i.a.toNat 0) (if f.has.getD i.a.toNat false then f else fail 11 f)):=by
 unfold step;rw[if_neg (by omega),if_neg (by omega),if_pos h]
theorem F1(M:aG)(u:bS)(i:aY)(f:aX)(h:i.op=4):step M u i f=(true,{want [u.locals.getD i.a.toNat 0] f with has:=(want [u.locals.getD i.a.toNat 0] f).has.set i.a.toNat true}):=by
 unfold step;rw[if_neg (by omega),if_neg (by omega),if_neg (by omega),if_pos h]
theorem MF(f:aX):re f.at_ f.todo f.has f=f:=rfl
theorem aG1{M:aG}{u:bS}{i:aY}{f:aX}(h3:i.op≠3)(h4:i.op≠4)(h21:i.op≠21)(h22:i.op≠22):(step M u i f).2=re f.at_ f.todo f.has (step M u i f).2:=by
 have:=V4 f.at_ f.todo f.has M u i f h3 h4 h21 h22;rw[MF]at this;exact congrArg Prod.snd this
theorem MZ{M:aG}{u:bS}{i:aY}{f:aX}(h:i.op=21):step M u i f=(false,to u.code.length i.a f):=by
 unfold step
 (repeat rw[if_neg (by omega)]);rw[if_pos h]
theorem M0{M:aG}{u:bS}{i:aY}{f:aX}(h:i.op=22):step M u i f=(true,to u.code.length i.a (want [2] f)):=by
 unfold step
 (repeat rw[if_neg (by omega)]);rw[if_pos h]
theorem step_done{M:aG}{u:bS}{i:aY}{f:aX}(h:i.op=24∨i.op=25):(step M u i f).1=false:=by
 have e:step M u i f=eS M u i f:=by
  unfold step
  (repeat rw[if_neg (by omega)])
 rw[e];unfold eS;rw[if_neg (by omega),if_neg (by omega)];rcases h with h|h
 ·rw[if_pos h]
 ·rw[if_neg (by omega),if_pos h]
theorem kI{c:Prop} [Decidable c]{a:aX}{b:Bool×aX}(h:¬c→b.1=true):(if c then(true,a)else b).1=true:=by
 split
 ·rfl
 ·exact h ‹_›
theorem aGZ{M:aG}{u:bS}{i:aY}{f:aX}(h1:i.op≠21)(h2:i.op≠24)(h3:i.op≠25):(step M u i f).1=true:=by
 unfold step;refine kI fun _=>kI fun _=>kI fun _=>kI fun _=>kI fun _=>kI fun _=>kI fun _=>kI fun _=>kI fun _=>kI fun _=>kI fun _=>?_
 rw[if_neg h1];refine kI fun _=>?_
 unfold eS;refine kI fun _=>kI fun _=>?_
 rw[if_neg h2,if_neg h3];exact kI fun _=>kI fun _=>kI fun _=>kI fun _=>kI fun _=>kI fun _=>rfl
def lJ(M:aG)(u:bS)(i:aY)(s:Shape):aX:=core M u i ⟨[],[],s.1,s.2,0⟩
theorem aAN(a:List (Int×Shape))(t:List Int)(M:aG)(u:bS)(i:aY)(f:aX):core M u i (re a t f.has f)=re a t (core M u i f).has (core M u i f):=by
 unfold core
 by_cases h21:i.op=21
 ·rw[if_pos h21,if_pos h21]
 rw[if_neg h21,if_neg h21]
 by_cases h22:i.op=22
 ·rw[if_pos h22,if_pos h22,GN,(AH [2] f).same.has]
 rw[if_neg h22,if_neg h22]
 by_cases h3:i.op=3
 ·rw[F0 M u i _ h3,F0 M u i _ h3];simp only;have hp:=fun g:aX=>zE a t f.has (u.locals.getD i.a.toNat 0) g
  by_cases hb:f.has.getD i.a.toNat false=true
  ·rw[if_pos (by exact hb),if_pos hb,hp];congr 1;have:(push (u.locals.getD i.a.toNat 0) f)=re f.at_ f.todo f.has (push (u.locals.getD i.a.toNat 0) f):=by
    have:=zE f.at_ f.todo f.has (u.locals.getD i.a.toNat 0) f;rwa [MF]at this
   rw[this];rfl
  ·rw[if_neg (by exact hb),if_neg hb,rO,hp];congr 1;have:(push (u.locals.getD i.a.toNat 0) (fail 11 f))=re f.at_ f.todo f.has (push (u.locals.getD i.a.toNat 0) (fail 11 f)):=by
    have:=zE f.at_ f.todo f.has (u.locals.getD i.a.toNat 0) (fail 11 f);rw[←rO,MF]at this;exact this
   rw[this];rfl
 by_cases h4:i.op=4
 ·rw[F1 M u i _ h4,F1 M u i _ h4];simp only;rw[GN];have:=(AH [u.locals.getD i.a.toNat 0] f).same.has;simp only[re,this]
 rw[V4 a t f.has M u i f h3 h4 h21 h22];simp only;rw[show(step M u i f).2.has=f.has by rw[aG1 h3 h4 h21 h22];rfl]
theorem PR(M:aG)(u:bS)(i:aY)(f:aX)(he:f.err=0):core M u i f=re f.at_ f.todo (lJ M u i (f.stack,f.has)).has (lJ M u i (f.stack,f.has)):=by
 have:=aAN f.at_ f.todo M u i ⟨[],[],f.stack,f.has,0⟩;have e:re f.at_ f.todo f.has ⟨[],[],f.stack,f.has,0⟩=f:=by unfold re;rw[←he]
 simp only at this;rw[e]at this;exact this
def Le(a b:List Bool):Prop:=a.length=b.length∧∀j,a.getD j false=true→b.getD j false=true
theorem Le.refl(a:List Bool):Le a a:=⟨rfl,fun _ h=>h⟩
theorem Le.trans{a b c:List Bool}(h:Le a b)(k:Le b c):Le a c:=⟨h.1.trans k.1,fun j x=>k.2 j (h.2 j x)⟩
theorem aB4{l:List Bool}{k j:Nat}{v:Bool}:(l.set k v).getD j false=if k=j∧j<l.length then v else l.getD j false:=by
 simp only[Jd,pI]
 by_cases h:k=j
 ·subst h
  by_cases hk:k<l.length
  ·simp[hk]
  ·simp[hk]
 ·simp[h]
theorem KZ:∀(a b:List Bool) (j:Nat),a.length=b.length→(meet a b).getD j false=(a.getD j false&&b.getD j false)
 |[],[],j,_=>by simp[meet]
 |[],_::_,_,h=>by cases h
 |_::_,[],_,h=>by cases h
 |x::a,y::b,0,_=>rfl
 |x::a,y::b,j+1,h=>by
  have:=KZ a b j (by simpa using h);simpa[meet]using this
theorem aCl{a b:List Bool}(h:a.length=b.length):Le (meet a b) a:=⟨EX a b h,fun j hj=>by rw[KZ a b j h,JX]at hj;exact hj.1⟩
theorem SA{a b:List Bool}(h:a.length=b.length):Le (meet a b) b:=⟨(EX a b h).trans h,fun j hj=>by rw[KZ a b j h,JX]at hj;exact hj.2⟩
def rR(i:aY)(p:Int):List Int:=if i.op=21 then [i.a]else if i.op=22 then [i.a,p+1]else if i.op=24∨i.op=25 then []else [p+1]
def zW(n:Nat)(l:List Int)(f:aX):aX:=l.foldl (fun f q=>to n q f) f
theorem aGp(n:Nat)(q:Int)(l:List Int)(f:aX):zW n (q::l) f=zW n l (to n q f):=rfl
def ins(u:bS)(p:Int):aY:=u.code.getD p.toNat default
theorem aEt{M:aG}{u:bS}{p:Int}{r:List Int}{f:aX}{s:Shape}(hs:find f.at_ p=some s)(he:f.err=0):
  round M u p r f=zW u.code.length (rR (ins u p) p) (re f.at_ r (lJ M u (ins u p) s).has (lJ M u (ins u p) s)):=by
 have hc:=PR M u (ins u p) {f with todo:=r,stack:=s.1,has:=s.2} he;simp only at hc;rw[←hc];unfold round;simp only[hs,JZ];show(if(step M u (ins u p) _).1=true then to u.code.length (p+1) (step M u (ins u p) _).2 else(step M u (ins u p) _).2)=_;unfold rR core
 by_cases h21:(ins u p).op=21
 ·rw[if_pos h21,if_pos h21,MZ h21];rfl
 rw[if_neg h21,if_neg h21]
 by_cases h22:(ins u p).op=22
 ·rw[if_pos h22,if_pos h22,M0 h22];rfl
 rw[if_neg h22,if_neg h22]
 by_cases h24:(ins u p).op=24∨(ins u p).op=25
 ·rw[if_pos h24,step_done h24];rfl
 rw[if_neg h24,aGZ h21 (fun h=>h24 (.inl h)) (fun h=>h24 (.inr h))];rfl
def j0(u:bS):List Bool:=List.replicate u.params.toNat true ++List.replicate (u.locals.length-u.params.toNat) false
structure Fits(M:aG)(u:bS)(τ:Int→Option Shape)(p:Int)(s:Shape):Prop where
 ok:(lJ M u (ins u p) s).err=0
 next:∀q∈rR (ins u p) p,∃h,τ q=some ((lJ M u (ins u p) s).stack,h)∧Le h (lJ M u (ins u p) s).has
structure Cert(M:aG)(u:bS)(τ:Int→Option Shape):Prop where
 start:∃h,τ 0=some ([],h)∧Le h (j0 u)
 kB:∀p s,τ p=some s→0≤p∧p<(u.code.length:Int)
 fits:∀p s,τ p=some s→Fits M u τ p s
structure Below(τ:Int→Option Shape)(f:aX):Prop where
 err:f.err=0
 at_:∀p s,find f.at_ p=some s→∃t,τ p=some (s.1,t)∧Le t s.2
 todo:∀p∈f.todo,∃s,find f.at_ p=some s
structure qB(f g:aX):Prop where
 ext:∀q st h,find f.at_ q=some (st,h)→∃h',find g.at_ q=some (st,h')∧Le h' h
 new:∀p s,find g.at_ p=some s→find f.at_ p=some s∨p∈g.todo
 todo:∀p∈f.todo,p∈g.todo
theorem qB.refl(f:aX):qB f f:=⟨fun _ _ h e=>⟨h,e,Le.refl _⟩,fun _ _ e=> .inl e,fun _ e=>e⟩
theorem qB.trans{f g k:aX}(a:qB f g)(b:qB g k):qB f k:=
 ⟨fun q st h e=>by
  obtain⟨h1,e1,l1⟩:=a.ext q st h e;obtain⟨h2,e2,l2⟩:=b.ext q st h1 e1;exact⟨h2,e2,l2.trans l1⟩,
 fun p s e=>by
  rcases b.new p s e with e|e
  ·rcases a.new p s e with e|e
   ·exact .inl e
   ·exact .inr (b.todo p e)
  ·exact .inr e,
 fun p e=>b.todo p (a.todo p e)⟩
theorem WI{n L:Nat}{f:aX}(hi:Inv n L f){q:Int}(he:(to n q f).err=0):f.err=0∧q≠(n:Int)∧qB f (to n q f)∧∃h,find (to n q f).at_ q=some (f.stack,h)∧Le h f.has:=by
 unfold to at he⊢
 by_cases h0:¬f.err=0
 ·rw[if_pos h0]at he;exact absurd he h0
 have h0:f.err=0:=vW.1 h0;rw[if_neg (fun h=>h h0)]at he⊢
 by_cases hq:q=(n:Int)
 ·rw[if_pos hq]at he;exact absurd he (IJ 3 (by decide) f)
 rw[if_neg hq]at he⊢;refine⟨h0,hq,?_⟩
 cases hf:find f.at_ q with
 |none=>
  rw[hf]at he;simp only at he⊢;have hfa:=fun p=>QM f.at_ q p (f.stack,f.has) hf
  refine⟨⟨fun p st h e=>?_,fun p s e=>?_,fun p e=>rG _ e⟩,f.has,?_,Le.refl _⟩
  ·rw[hfa]
   by_cases hqp:q=p
   ·rw[←hqp,hf]at e;cases e
   ·rw[if_neg hqp];exact⟨h,e,Le.refl _⟩
  ·simp only at e⊢;rw[hfa]at e
   by_cases hqp:q=p
   ·exact .inr (sK _ (by rw[hqp];exact gU))
   ·rw[if_neg hqp]at e;exact .inl e
  ·rw[hfa,if_pos rfl]
 |some s=>
  rw[hf]at he;simp only at he⊢;have hlen:s.2.length=f.has.length:=by rw[(hi.oP q s hf).2.2,hi.has]
  by_cases hst:¬s.1=f.stack
  ·rw[if_pos hst]at he;exact absurd he (IJ 8 (by decide) f)
  have hst:s.1=f.stack:=vW.1 hst;rw[if_neg (fun h=>h hst)]at he⊢
  by_cases hm:meet s.2 f.has=s.2
  ·rw[if_pos hm];refine⟨qB.refl f,s.2,by rw[hf,←hst],?_⟩;have:=SA hlen;rw[hm]at this;exact this
  rw[if_neg hm];have hfp:=fun p=>QO f.at_ q p (s.1,meet s.2 f.has) s hf
  refine⟨⟨fun p st h e=>?_,fun p s' e=>?_,fun p e=>rG _ e⟩,meet s.2 f.has,?_,SA hlen⟩
  ·rw[hfp]
   by_cases hqp:q=p
   ·rw[if_pos hqp];rw[←hqp,hf]at e
    cases e
    exact⟨_,rfl,aCl hlen⟩
   ·rw[if_neg hqp];exact⟨h,e,Le.refl _⟩
  ·simp only at e⊢;rw[hfp]at e
   by_cases hqp:q=p
   ·exact .inr (sK _ (by rw[hqp];exact gU))
   ·rw[if_neg hqp]at e;exact .inl e
  ·rw[hfp,if_pos rfl,hst]
structure Tos(n L:Nat)(l:List Int)(f g:aX):Prop where
 err:f.err=0
 sZ:qB f g
 there:∀q∈l,q≠(n:Int)∧∃h,find g.at_ q=some (f.stack,h)∧Le h f.has
 inv:Inv n L g
 mu:g.todo.length+room n L g.at_≤f.todo.length+room n L f.at_
theorem WO{n L:Nat}:∀(l:List Int) (f:aX),Inv n L f→(∀q∈l,0≤q∧q≤(n:Int))→(f.err=0→f.stack.length≤300)→(∀t∈f.stack,bG t)→(zW n l f).err=0→Tos n L l f (zW n l f)
 |[],f,hi,_,_,_,he=>⟨he,qB.refl f,fun q hq=>(by cases hq),hi,cG _⟩
 |q::l,f,hi,hq,hs,ht,he=>by
  rw[aGp]at he⊢;obtain⟨q1,q2⟩:=hq q gU;have hw:=zV hi q1 q2 hs ht;have hs':(to n q f).err=0→(to n q f).stack.length≤300:=fun e=>by
   rw[hw.stack];refine hs (Decidable.byContradiction fun hn=>?_);rw[hw.err hn]at e;exact hn e
  have h:=WO l (to n q f) hw.inv (fun q' h'=>hq q' (iO _ h')) hs' (by rw[hw.stack];exact ht) he;obtain⟨e1,e2,e3,hh,e4,e5⟩:=WI hi h.err;refine⟨e1,e3.trans h.sZ,fun q' h'=>?_,h.inv,dO h.mu hw.mu⟩;rcases eB.1 h' with rfl|h'
  ·refine⟨e2,?_⟩;obtain⟨h2,k1,k2⟩:=h.sZ.ext _ _ _ e4;exact⟨h2,k1,k2.trans e5⟩
  ·have:=h.there q' h';rw[hw.stack,hw.has]at this;exact this
structure Cons(M:aG)(u:bS)(f:aX):Prop where
 inv:Inv u.code.length u.locals.length f
 err:f.err=0
 fits:∀p s,find f.at_ p=some s→p∈f.todo∨Fits M u (find f.at_) p s
 kB:∀p s,find f.at_ p=some s→0≤p∧p<(u.code.length:Int)
 start:∃h,find f.at_ 0=some ([],h)∧Le h (j0 u)
theorem Fits.sZ{M:aG}{u:bS}{f g:aX}(h:qB f g){p:Int}{s:Shape}(hf:Fits M u (find f.at_) p s):Fits M u (find g.at_) p s:=
 ⟨hf.ok,fun q hq=>by
  obtain⟨k,k1,k2⟩:=hf.next q hq;obtain⟨k',k3,k4⟩:=h.ext _ _ _ k1;exact⟨k',k3,k4.trans k2⟩⟩
theorem aBs{M:aG}{u:bS}(hg:Good M u){p:Int}(h:0≤p∧p<(u.code.length:Int)):rE M u (ins u p):=by
 refine yN (hg.code _ ?_);unfold ins;rw[Jd,Je (by omega)];exact fB _
theorem aDW{M:aG}{u:bS}{p:Int}(hi:rE M u (ins u p))(h:0≤p∧p<(u.code.length:Int)):∀q∈rR (ins u p) p,0≤q∧q≤(u.code.length:Int):=by
 unfold rR;intro q hq
 by_cases h21:(ins u p).op=21
 ·rw[if_pos h21]at hq;have:=hi.jump (.inl h21);simp at hq;omega
 rw[if_neg h21]at hq
 by_cases h22:(ins u p).op=22
 ·rw[if_pos h22]at hq;have:=hi.jump (.inr h22);simp at hq;omega
 rw[if_neg h22]at hq
 by_cases h24:(ins u p).op=24∨(ins u p).op=25
 ·rw[if_pos h24]at hq;cases hq
 ·rw[if_neg h24]at hq;simp at hq;omega
theorem aAM{M:aG}{u:bS}(hg:Good M u){i:aY}(hi:rE M u i){f:aX}(h:Inv u.code.length u.locals.length f)(hl:f.stack.length≤300)(ht:∀t∈f.stack,bG t):N9 u.code.length u.locals.length f (core M u i f):=by
 unfold core
 by_cases h21:i.op=21
 ·rw[if_pos h21];exact⟨h,by omega,fun _=>hl,ht,cG _⟩
 rw[if_neg h21]
 by_cases h22:i.op=22
 ·rw[if_pos h22];have hk:=AH [2] f;have:=hk.len;exact⟨h.same hk.same,by omega,fun _=>by omega,hk.ty ht,by rw[hk.same.todo,hk.same.at_];exact cG _⟩
 rw[if_neg h22];exact V1 hg hi rfl rfl h hl ht
theorem aEs{M:aG}{u:bS}(hg:Good M u){p:Int}{r:List Int}{f:aX}(hc:Cons M u f)(ht:f.todo=p::r)(he:(round M u p r f).err=0):
  Cons M u (round M u p r f)∧(round M u p r f).todo.length+room u.code.length u.locals.length (round M u p r f).at_<f.todo.length+room u.code.length u.locals.length f.at_:=by
 obtain⟨t1,t2,t3⟩:=hc.inv.todo p (by rw[ht];exact gU);obtain⟨s,hs⟩:=lN.1 t3;have hi:=aBs hg ⟨t1,t2⟩;obtain⟨s1,s2,s3⟩:=hc.inv.oP p s hs;have hc0:=PR M u (ins u p) {f with todo:=r,stack:=s.1,has:=s.2} hc.err;simp only at hc0;have hgo:=aAM hg hi (f:={f with todo:=r,stack:=s.1,has:=s.2}) ⟨s3,hc.inv.oP,fun q hq=>hc.inv.todo q (by rw[ht];exact iO _ hq)⟩ s1 s2;rw[hc0]at hgo;rw[aEt hs hc.err]at he⊢;generalize hG:re f.at_ r (lJ M u (ins u p) s).has (lJ M u (ins u p) s)=G at *;have hGst:G.stack=(lJ M u (ins u p) s).stack:=by rw[←hG];rfl
 have hGh:G.has=(lJ M u (ins u p) s).has:=by rw[←hG];rfl
 have hGe:G.err=(lJ M u (ins u p) s).err:=by rw[←hG];rfl
 have hGa:G.at_=f.at_:=by rw[←hG];rfl
 have hGt:G.todo=r:=by rw[←hG];rfl
 have hT:=WO _ G hgo.inv (aDW hi ⟨t1,t2⟩) hgo.ok hgo.ty he;generalize zW u.code.length (rR (ins u p) p) G=R at *;refine⟨⟨hT.inv,he,fun q s' hq=>?_,fun q s' hq=>?_,?_⟩,?_⟩
 ·rcases hT.sZ.new q s' hq with e|e
  ·rw[hGa]at e
   by_cases hqp:q=p
   ·subst hqp;rw[hs]at e
    cases e
    refine .inr ⟨by rw[←hGe];exact hT.err,fun q' hq'=>?_⟩;have:=(hT.there q' hq').2;rw[hGst,hGh]at this;exact this
   ·rcases hc.fits q s' e with e'|e'
    ·rw[ht]at e';rcases eB.1 e' with e'|e'
     ·exact absurd e' hqp
     ·exact .inl (hT.sZ.todo q (by rw[hGt];exact e'))
    ·rw[←hGa]at e';exact .inr (Fits.sZ hT.sZ e')
  ·exact .inl e
 ·rcases hT.sZ.new q s' hq with e|e
  ·rw[hGa]at e;exact hc.kB q s' e
  ·have:=hT.inv.todo q e;exact⟨this.1,this.2.1⟩
 ·obtain⟨h,h1,h2⟩:=hc.start;rw[←hGa]at h1;obtain⟨h',h3,h4⟩:=hT.sZ.ext _ _ _ h1;exact⟨h',h3,h4.trans h2⟩
 ·have:=hT.mu;rw[hGa,hGt]at this;rw[ht];simp only[JW];omega
theorem U5{M:aG}{u:bS}(hg:Good M u)(k:Nat):∀(n:Nat) (f:aX),Cons M u f→f.todo.length+room u.code.length u.locals.length f.at_<n→(run M u k n f).err=0→∃τ,Cert M u τ∧∀p s,τ p=some s→s.1.length≤300∧s.2.length=u.locals.length
 |0,_,_,h,_=>by omega
 |n+1,f,hc,hn,he=>by
  unfold run at he
  cases ht:f.todo with
  |nil=>
   refine⟨find f.at_,⟨hc.start,hc.kB,fun p s hp=>?_⟩,fun p s hp=>⟨(hc.inv.oP p s hp).1,(hc.inv.oP p s hp).2.2⟩⟩;rcases hc.fits p s hp with h|h
   ·rw[ht]at h;cases h
   ·exact h
  |cons p r=>
   rw[ht]at he;simp only at he
   by_cases hr:¬(round M u p r f).err=0
   ·rw[if_pos hr]at he;exact absurd he hr
   have hr:(round M u p r f).err=0:=vW.1 hr;rw[if_neg (fun h=>h hr)]at he;obtain⟨h1,h2⟩:=aEs hg hc ht hr;exact U5 hg k n _ h1 (by omega) he
theorem Z5{M:aG}{k:Nat}(hg:Good M (M.aL.getD k default))(hp:(M.aL.getD k default).params.toNat≤(M.aL.getD k default).locals.length)(h1:1≤(M.aL.getD k default).code.length)(h:(code M k).err=0):
  ∃τ,Cert M (M.aL.getD k default) τ∧∀p s,τ p=some s→s.1.length≤300∧s.2.length=(M.aL.getD k default).locals.length:=by
 unfold code at h;generalize M.aL.getD k default=u at *;have hst:Ver.start u=to u.code.length 0 ⟨[],[],[],j0 u,0⟩:=rfl;have hI:Inv u.code.length u.locals.length ⟨[],[],[],j0 u,0⟩:=⟨by simp only[j0,Jl,AS];omega,fun p s hp=>(by cases hp),fun p hp=>(by cases hp)⟩;have hw:=zV hI (p:=0) (by omega) (by omega) (fun _=>bP _) (fun t h=>by cases h);have he:(to u.code.length 0 ⟨[],[],[],j0 u,0⟩).err=0:=by
  unfold to;rw[if_neg (fun h=>h rfl),if_neg (by omega)];rfl
 obtain⟨g1,g2,g3,hh,g4,g5⟩:=WI hI he;rw[←hst]at he g3 g4 hw;have hm:=hw.mu;rw[U0]at hm;simp only[oI]at hm;refine U5 hg k _ _ ⟨hw.inv,he,fun p s hp=>?_,fun p s hp=>?_,hh,g4,g5⟩ ?_ h
 ·rcases g3.new p s hp with e|e
  ·cases e
  ·exact .inl e
 ·rcases g3.new p s hp with e|e
  ·cases e
  ·have:=hw.inv.todo p e;exact⟨this.1,this.2.1⟩
 ·unfold fV;omega
theorem TK{M:aG}:∀(n b:Nat),(owned M b n).err=0↔∀j,b≤j→j<b+n→¬(1<jR M 26 j∨1<jR M 27 j)
 |0,b=>by
  unfold owned;exact⟨fun _ j h1 h2=>by omega,fun _=>rfl⟩
 |n+1,b=>by
  by_cases h:1<jR M 26 b∨1<jR M 27 b
  ·rw[LS h];exact⟨fun h'=>by simp at h',fun h'=>absurd h (h' b (cG _) (by omega))⟩
  ·rw[LU h,TK n (b+1)];constructor
   ·intro h' j h1 h2
    by_cases hj:j=b
    ·subst hj;exact h
    ·exact h' j (by omega) (by omega)
   ·intro h' j h1 h2;exact h' j (by omega) (by omega)
theorem TJ{M:aG}:∀(n b:Nat),(owned M b n).err=0→owned M b n= .ok
 |0,_,_=>by unfold owned;rfl
 |n+1,b,h=>by
  by_cases hu:1<jR M 26 b∨1<jR M 27 b
  ·rw[LS hu]at h;simp at h
  ·rw[LU hu]at h⊢;exact TJ n _ h
structure sP(M:aG):Prop where
 form:AN M
 code:∀k,k<M.aL.length→(code M k).err=0
 owned:∀b,b<M.boxes.length→jR M 26 b≤1∧jR M 27 b≤1
theorem XI{M:aG}:(verify M).err=0↔sP M:=by
 by_cases h:(form M).err=0
 ·by_cases h2:(lS M 0 M.aL.length).err=0
  ·rw[NW h h2,TK];constructor
   ·intro h3;refine⟨IW.1 h,fun k hk=>(H0 _ _).1 h2 k (bP _) (by omega),fun b hb=>?_⟩;have:=h3 b (bP _) (by omega);omega
   ·rintro⟨-, -,h3⟩ j-hj;have:=h3 j (by omega);omega
  ·rw[NV h h2];exact⟨fun h'=>absurd h' h2,fun h'=>absurd ((H0 _ _).2 (fun j _ hj=>h'.code j (by omega))) h2⟩
 ·rw[NU h];exact⟨fun h'=>absurd h' h,fun h'=>absurd (IW.2 h'.form) h⟩
theorem NX{M:aG}(h:(verify M).err=0):verify M= .ok:=by
 by_cases h1:(form M).err=0
 ·by_cases h2:(lS M 0 M.aL.length).err=0
  ·rw[NW h1 h2]at h⊢;exact TJ _ _ h
  ·rw[NV h1 h2]at h;exact absurd h h2
 ·rw[NU h1]at h;exact absurd h h1
theorem AG{M:aG}:verify M= .ok↔sP M:=⟨fun h=>XI.1 (by rw[h];rfl),fun h=>NX (XI.2 h)⟩
abbrev gT(M:aG)(k:Int):bS:=M.aL.getD k.toNat default
structure N5(M M':aG):Prop where
 nun:M.aL.length≤M'.aL.length
 nbx:M.boxes.length≤M'.boxes.length
 aL:∀k:Int,0≤k→k<(M.aL.length:Int)→(gT M k).kind=2∨(gT M k).kind=3→(gT M' k).kind=(gT M k).kind∧(gT M' k).locals=(gT M k).locals∧(gT M' k).params=(gT M k).params∧(gT M' k).result=(gT M k).result∧(gT M' k).aS=(gT M k).aS
 boxes:∀k,k<M.boxes.length→M'.boxes.getD k default=M.boxes.getD k default
structure GU(u u':bS):Prop where
 kind:u'.kind=u.kind
 params:u'.params=u.params
 locals:u'.locals=u.locals
 result:u'.result=u.result
 aS:u'.aS=u.aS
 len:u.code.length≤u'.code.length
 ins:∀p:Int,0≤p→p<(u.code.length:Int)→ins u' p=ins u p
section
variable{M M':aG}(hM:N5 M M'){u u':bS}(hU:GU u u')
include hM
end
section
variable{M M':aG}(hM:N5 M M'){u u':bS}(hU:GU u u')
include hM hU
end
def key(c:List aY):List aY:=c.filter fun i=>decide (i.op=23)||decide (i.op=29)||decide (i.op=26)||decide (i.op=27)
def sm:bS:=⟨4,0,[],0,0,[⟨1,0,1⟩,⟨28,0,0⟩,⟨25,0,0⟩]⟩
structure Left(M M':aG):Prop where
 nun:M.aL.length≤M'.aL.length
 nbx:M.boxes.length≤M'.boxes.length
 boxes:∀k,k<M.boxes.length→M'.boxes.getD k default=M.boxes.getD k default
 bx:∀b∈M'.boxes,plain b.1=true∧1≤b.2∧b.2≤20
 dY:M'.boxes.length≤30∧M'.aL.length≤30
 aL:∀k:Nat,k<M'.aL.length→(k<M.aL.length∧GU (gT M k) (gT M' k)∧key (gT M' k).code=key (gT M k).code∧(gT M' k).code.length≤4000∧∀i∈(gT M' k).code,i∈(gT M k).code∨i.op=5∨i.op=7)∨(gT M' k=sm∧(k<M.aL.length→(gT M k).kind=4))
theorem WY{M:aG}{k:Nat}(h:k<M.aL.length):gT M k∈M.aL:=by
 show M.aL.getD k default∈_;rw[Jd,Je h];exact fB _
section
variable{M M':aG}(hF:AN M)(hL:Left M M')
include hF
theorem RL{k:Nat}(hk:k<M.aL.length):∀i∈(gT M k).code,rE M (gT M k) i:=fun i hi=>yN ((hF.aL _ (WY hk)).2 i hi)
theorem DO:∀k,k<M.aL.length→∀i∈(M.aL.getD k default).code,i.op=23∨i.op=29→0≤i.a∧i.a<(M.aL.length:Int):=by
 intro k hk i hi ho;have h:=RL hF hk i hi;rcases ho with ho|ho
 ·obtain⟨h1,h2, -⟩:=unit_eq (h.call ho);exact⟨h1,h2⟩
 ·obtain⟨h1,h2, -⟩:=unit_eq (h.start ho);exact⟨h1,h2⟩
theorem aHX{op b:Int}(ho:op=26∨op=27)(hb:(M.boxes.length:Int)≤b){k:Nat}(hk:k<M.aL.length):hY M op b k=false:=by
 cases h:hY M op b k with
 |false=>rfl
 |true=>
  unfold hY at h;rw[qD]at h;obtain⟨x,x1,x2⟩:=h;rw[qD]at x2;obtain⟨i,i1,i2⟩:=x2;have hx:=(MG (DO hF) (M.aL.length+1) 0 [(k:Int)] (iH.one hk)).ok x x1;have:=(RL hF (k:=x.toNat) (by omega) i i1).box;rw[JX,JV,JV]at i2;have:=this (by omega);omega
include hL
end
def aHm(u:bS):bS:={u with code:=u.code ++[⟨7,0,0⟩,⟨5,0,0⟩]}
end Ver
namespace Opt
open ImgM Ver
def RR(i:aY):Bool:=decide (i.op=21)||decide (i.op=22)
def tgt(l:List aY)(p:Int):Bool:=l.any fun i=>RR i&&decide (i.a=p)
def yB(i:aY):Int:=if i.op=1 then i.n else if i.op=2 then i.a else 0
def EB(i:aY):Bool:=decide (i.op=1)||decide (i.op=2)
def known(v:Int)(t:Bool):List aY:=if t then [⟨2,v,0⟩]else [⟨1,0,v⟩]
def yes(b:Bool):Int:=if b then 1 else 0
def lY(op a b:Int):Int:=
 if op=8 then IntKind.i64.wrap (a+b)
 else if op=9 then IntKind.i64.wrap (a-b)
 else if op=10 then IntKind.i64.wrap (a*b)
 else if op=11∨op=12 then
  if a= -9223372036854775808∧b= -1 then(if op=11 then a else 0)
  else if op=11 then IntKind.i64.wrap (a.tdiv b)else a.tmod b
 else if op=13 then yes (decide (a=b))
 else if op=14 then yes (!decide (a=b))
 else if op=15 then yes (decide (a<b))
 else if op=16 then yes (decide (a≤b))
 else if op=17 then yes (decide (b<a))
 else if op=18 then yes (decide (b≤a))
 else if op=19 then bits .and .i64 a b
 else bits .or .i64 a b
def three(a b c:aY):Option (List aY):=
 if EB a=false∨EB b=false∨a.op≠b.op∨c.op<8∨20<c.op∨(yB b=0∧(c.op=11∨c.op=12))then none
 else if((c.op=19∨c.op=20)↔¬a.op=2)∧c.op≠13∧c.op≠14 then none
 else some (known (lY c.op (yB a) (yB b)) (decide (12<c.op)))
def pair(a b:aY):Option (List aY):=
 if b.op=5∧(EB a=true∨a.op=3)then some []
 else if EB a=false then none
 else if b.op=6∧a.op=1 then some (known (IntKind.i64.wrap (-(yB a))) false)
 else if a.op=1 then none
 else if b.op=7 then some (known (IntKind.i64.wrap (1-yB a)) true)
 else if b.op=22∧yB a≠0 then some []
 else if b.op=22 then some [⟨21,b.a,0⟩]
 else none
def at_(l:List aY)(k:Nat):aY:=l.getD k default
def free(l:List aY)(p n:Nat):Bool:=decide (p+n<l.length)&&(List.range n).all fun k=>decide (k=0)|| !tgt l ((p+k:Nat):Int)
def shorter(l:List aY)(p:Nat):List aY×Nat:=
 match (if free l p 3 then three (at_ l p) (at_ l (p+1)) (at_ l (p+2))else none)with
 |some r=>(r,3)
 |none=>match (if free l p 2 then pair (at_ l p) (at_ l (p+1))else none)with
  |some r=>(r,2)
  |none=>if free l p 1=true∧(at_ l p).op=21∧(at_ l p).a=(p:Int)+1 then([],1)else([],0)
structure PS where
 p:Nat
 out:List aY
 wh:List Int
 BA:Bool
def VK(wh:List Int)(p:Nat)(v:Int):Nat→List Int
 |0=>wh
 |n+1=>(VK wh p v n).set (p+n+1) v
def aEV(l:List aY)(s:PS):PS:=
 if(shorter l s.p).2=0 then⟨s.p+1,s.out ++[at_ l s.p],s.wh.set s.p (s.out.length:Int),s.BA⟩
 else⟨s.p+(shorter l s.p).2,s.out ++(shorter l s.p).1,VK (s.wh.set s.p (s.out.length:Int)) s.p ((s.out ++(shorter l s.p).1).length:Int) ((shorter l s.p).2-1),true⟩
def prun(l:List aY):Nat→PS→PS
 |0,s=>s
 |n+1,s=>if s.p<l.length then prun l n (aEV l s)else s
def aEi(wh:List Int)(i:aY):aY:=if RR i then{i with a:=wh.getD i.a.toNat 0}else i
def LZ(l:List aY):PS:=prun l l.length ⟨0,[],List.replicate (l.length+1) 0,false⟩
def pass(l:List aY):List aY×Bool:=((LZ l).out.map (aEi (LZ l).wh),(LZ l).BA)
def DQ:Nat→List aY→List aY
 |0,l=>l
 |n+1,l=>if(pass l).2 then DQ n (pass l).1 else(pass l).1
def code(l:List aY):List aY:=DQ (l.length+1) l
def unit(u:bS):bS:={u with code:=code u.code}
def aC(M:aG):aG:=⟨M.boxes,M.aL.map unit⟩
end Opt
namespace Vm
open ImgM Ver Opt
structure Env(ν:Type) where
 full:ν→Nat→Bool
 empty:ν→Nat→Bool
 put:ν→Nat→Int→ν
 take:ν→Nat→Int×ν
 tell:ν→Int×Int×Int→ν
structure Fr where
 unit:Nat
 pc:Nat
 base:Nat
deriving Inhabited,DecidableEq
structure Co where
 st:Nat
 up:Option Nat
 fr:List Fr
 ws:List Int
deriving Inhabited,DecidableEq
structure Tk where
 cs:List Co
 now:Nat
 st:Int
 bx:Int
 tr:Int
 out:List Int
deriving Inhabited,DecidableEq
def bD(M:aG)(k:Nat):bS:=M.aL.getD k default
def cur(t:Tk):Co:=t.cs.getD t.now default
def dM(t:Tk)(k:Nat)(c:Co):Tk:={t with cs:=t.cs.set k c}
def setCur(t:Tk)(c:Co):Tk:=dM t t.now c
def fK(c:Co):Fr:=c.fr.getD (c.fr.length-1) default
def xH(c:Co)(f:Fr):Co:={c with fr:=c.fr.set (c.fr.length-1) f}
def aV(M:aG)(t:Tk):aY:=(bD M (fK (cur t)).unit).code.getD (fK (cur t)).pc default
def begin(M:aG)(u:Nat)(a:List Int):Co:=⟨0,none,[⟨u,0,0⟩],(List.range (bD M u).locals.length).map fun i=>a.getD i 0⟩
def new(M:aG)(u:Nat):Tk:=⟨[{begin M u []with st:=2}],0,1,0,0,[]⟩
section
variable{ν:Type}(V:Env ν)(M:aG)
def dS(n:Int)(s:Tk×ν):Tk×ν:=if s.1.st=5 then s else({s.1 with st:=5,tr:=n},V.tell s.2 (5,0,n))
def push(v:Int)(s:Tk×ν):Tk×ν:=
 if(cur s.1).ws.length=400 then dS V 4 s else(setCur s.1 {cur s.1 with ws:=(cur s.1).ws ++[v]},s.2)
def last(s:Tk):Int:=(cur s).ws.getD ((cur s).ws.length-1) 0
def drop(n:Nat)(t:Tk):Tk:=setCur t {cur t with ws:=(cur t).ws.take ((cur t).ws.length-n)}
def waits(i:aY)(s:Tk×ν):Tk×ν:=
 if i.op=26∧V.full s.2 i.a.toNat=true then({s.1 with st:=2,bx:=i.a},s.2)
 else if i.op=27∧V.empty s.2 i.a.toNat=true then({s.1 with st:=3,bx:=i.a},s.2)
 else({s.1 with st:=1,bx:=0},s.2)
def look(s:Tk×ν):Tk×ν:=if s.1.st≤3 then waits V (aV M s.1) s else s
def eR(p:Nat)(t:Tk):Tk:=setCur t (xH (cur t) {fK (cur t)with pc:=p})
def eV(V:Env ν):Nat→Tk×ν→Tk×ν
 |0,s=>s
 |n+1,s=>eV V n (push V 0 s)
def rN(k:Nat)(s:Tk×ν):Tk×ν:=
 if(cur s.1).fr.length=40 then dS V 4 s
 else eV V ((bD M k).locals.length-(bD M k).params.toNat) (setCur s.1 {cur s.1 with fr:=(cur s.1).fr ++[⟨k,0,(cur s.1).ws.length-(bD M k).params.toNat⟩]},s.2)
def ret(s:Tk×ν):Tk×ν:=
 push V (last s.1) (setCur s.1 {cur s.1 with fr:=(cur s.1).fr.take ((cur s.1).fr.length-1),ws:=((cur s.1).ws.take ((cur s.1).ws.length-1)).take (fK (cur s.1)).base},s.2)
def qM(s:Tk×ν):Tk×ν:=
 match (cur s.1).up with
 |none=>({setCur s.1 {cur s.1 with st:=3}with st:=4},V.tell s.2 (4,0,0))
 |some j=>push V 0 ({setCur s.1 {cur s.1 with st:=3,up:=none}with now:=j},s.2)
def r0(k:Nat)(s:Tk×ν):Tk×ν:=
 let n:=(bD M k).params.toNat
 let a:=(cur s.1).ws.drop ((cur s.1).ws.length-n)
 let t:=drop n s.1
 if 30<t.cs.length then dS V 5 (t,s.2)
 else push V (t.cs.length:Int) ({t with cs:=t.cs ++[begin M k a]},V.tell s.2 (6,0,(k:Int)))
def tI(s:Tk×ν):Tk×ν:=
 let v:=last s.1
 let t:=drop 1 s.1
 let k:=(last t).toNat
 let t:=drop 1 t
 let c:=t.cs.getD k default
 if c.st=3 then dS V 2 (t,s.2)
 else if c.st=2 then dS V 3 (t,s.2)
 else
  let t':Tk:={dM t k {c with st:=2,up:=some t.now}with now:=k}
  if c.st=0 then(t',s.2)else push V v (t',s.2)
def xO(s:Tk×ν):Tk×ν:=
 let v:=last s.1
 let t:=drop 1 s.1
 push V v ({setCur t {cur t with st:=1,up:=none}with now:=(cur t).up.getD 0},s.2)
def wG(s:Tk×ν):Tk×ν:=
 let t:=drop 1 s.1
 push V (yes (!decide ((t.cs.getD (last s.1).toNat default).st=3))) (t,s.2)
def exec(i:aY)(s:Tk×ν):Tk×ν:=
 let d:=drop 1 s.1
 if i.op=1 then push V i.n s
 else if i.op=2 then push V i.a s
 else if i.op=3 then push V ((cur s.1).ws.getD ((fK (cur s.1)).base+i.a.toNat) 0) s
 else if i.op=4 then(setCur d {cur d with ws:=(cur d).ws.set ((fK (cur d)).base+i.a.toNat) (last s.1)},s.2)
 else if i.op=5 then(d,s.2)
 else if i.op=6 then push V (IntKind.i64.wrap (-(last s.1))) (d,s.2)
 else if i.op=7 then push V (IntKind.i64.wrap (1-last s.1)) (d,s.2)
 else if 8≤i.op∧i.op≤20 then
  if(i.op=11∨i.op=12)∧last s.1=0 then dS V 1 (drop 1 d,s.2)
  else push V (lY i.op (last d) (last s.1)) (drop 1 d,s.2)
 else if i.op=21 then(eR i.a.toNat s.1,s.2)
 else if i.op=22 then(if last s.1=0 then eR i.a.toNat d else d,s.2)
 else if i.op=26 then(d,V.tell (V.put s.2 i.a.toNat (last s.1)) (2,i.a,last s.1))
 else if i.op=27 then push V (V.take s.2 i.a.toNat).1 (s.1,V.tell (V.take s.2 i.a.toNat).2 (3,i.a,(V.take s.2 i.a.toNat).1))
 else if i.op=28 then({d with out:=d.out ++[last s.1]},V.tell s.2 (1,0,last s.1))
 else if i.op=23 then rN V M i.a.toNat s
 else if i.op=24 then ret V s
 else if i.op=25 then qM V s
 else if i.op=29 then r0 V M i.a.toNat s
 else if i.op=30 then tI V s
 else if i.op=31 then xO V s
 else if i.op=32 then wG V s
 else s
def step(s:Tk×ν):Bool×(Tk×ν):=
 let s1:=look V M s
 if s1.1.st≠1 then(false,s1)
 else(true,look V M (exec V M (aV M s1.1) (eR ((fK (cur s1.1)).pc+1) s1.1,s1.2)))
end
structure Ls where
 bX:List Nat
 bM:List (List Int)
deriving DecidableEq
def lists(F:List (List Int)):Env Ls where
 full _ _:=false
 empty s b:=decide (s.bX.getD b 0=(F.getD b []).length)
 put s b v:={s with bM:=s.bM.set b (s.bM.getD b [] ++[v])}
 take s b:=((F.getD b []).getD (s.bX.getD b 0) 0,{s with bX:=s.bX.set b (s.bX.getD b 0+1)})
 tell s _:=s
def Ls.new(n:Nat):Ls:=⟨List.replicate n 0,List.replicate n []⟩
def goN{ν:Type}(V:Env ν)(M:aG):Nat→Tk×ν→Nat×(Tk×ν)
 |0,s=>(0,s)
 |n+1,s=>if(step V M s).1 then((goN V M n (step V M s).2).1+1,(goN V M n (step V M s).2).2)else(0,(step V M s).2)
def tasks(M:aG):List Nat:=(List.range M.aL.length).filter fun k=>decide ((M.aL.getD k default).kind=4)
def xI(M:aG)(u:Nat)(F:List (List Int)):Tk×Ls:=look (lists F) M (new M u,Ls.new F.length)
def e6(M:aG)(u:Nat)(F:List (List Int))(n:Nat):Nat×(Tk×Ls):=goN (lists F) M n (xI M u F)
def pO(t v:Int):Bool:=decide (t=2)&&(decide (v≠0)&&decide (v≠1))
def u9(M:aG)(task:Int)(F:List (List Int))(fV:Int):Int:=
 if(verify M).err≠0 then(verify M).err
 else if task<0∨((tasks M).length:Int)≤task∨fV<0∨5000<fV then 3
 else if F.length≠M.boxes.length then 5
 else if(List.range F.length).any (fun i=>(F.getD i []).any (pO (M.boxes.getD i default).1))then 9
 else 0
def total(l:List (List Int)):Nat:=(l.map List.length).sum
theorem GF:∀(l:List (List Int)) (b:Nat) (v:Int),total (l.set b (l.getD b [] ++[v]))≤total l+1
 |[],b,v=>by simp[total]
 |a::l,0,v=>by simp[total];omega
 |a::l,b+1,v=>by
  have:=GF l b v;simp only[total,List.set_cons_succ,eG,List.sum_cons,List.getD_cons_succ]at *;omega
theorem NG:∀(l:List (List Int)) (b:Nat),(l.getD b []).length≤total l
 |[],b=>by simp[total]
 |a::l,0=>by simp[total]
 |a::l,b+1=>by
  have:=NG l b;simp only[total,eG,List.sum_cons,List.getD_cons_succ]at *;omega
end Vm
namespace Opt
open ImgM Ver
def nx(l:List aY)(p:Nat):Nat:=p+(if(shorter l p).2=0 then 1 else(shorter l p).2)
def em(l:List aY)(p:Nat):List aY:=if(shorter l p).2=0 then [at_ l p]else(shorter l p).1
def B9(l:List aY):Nat→Nat→List Nat
 |0,_=>[]
 |n+1,p=>if p<l.length then p::B9 l n (nx l p)else []
structure Ran(l:List aY)(n:Nat)(s r:PS):Prop where
 out:r.out=s.out ++(B9 l n s.p).flatMap (em l)
 aI:∀q,q<s.p→r.wh.getD q 0=s.wh.getD q 0
 wh:∀A q C,B9 l n s.p=A ++q::C→r.wh.getD q 0=((s.out.length+(A.flatMap (em l)).length:Nat):Int)
 BA:r.BA=(s.BA||(B9 l n s.p).any fun q=>decide ((shorter l q).2≠0))
 len:r.wh.length=l.length+1
def bs(l:List aY):List Nat:=B9 l l.length 0
def aFx(l:List aY)(b:List Nat):List Nat:=b.flatMap fun q=>if em l q=[]then []else [q]
section
variable{M:aG}{u:bS}{i:aY}{st:List Int}{h:List Bool}
end
section
variable{M:aG}{u:bS}{τ:Int→Option Shape}(hc:Cert M u τ)
include hc
end
end Opt
namespace Vm
open ImgM Ver Opt
theorem wO{e:Int}(he:e≠0){f:aX}:(fail e f).err≠0:=by
 unfold Ver.fail
 split
 ·exact he
 ·assumption
theorem mE{t:Int}{f:aX}(h:(Ver.push t f).err=0):f.err=0∧Ver.push t f={f with stack:=f.stack ++[t]}∧f.stack.length+1≤300:=by
 unfold Ver.push at h⊢
 split
 ·rename_i h3
  rw[if_pos h3]at h;exact absurd h (wO (by decide))
 ·rename_i h3
  rw[if_neg h3]at h;exact⟨h,rfl,by omega⟩
theorem aFf{α:Type} [Inhabited α]{l:List α}(h:¬l.length=0):l=l.take (l.length-1) ++[l.getD (l.length-1) default]:=by
 have:l.length-1+1=l.length:=by omega
 conv=>lhs;rw[←l4 (l:=l),←this,Jp (show l.length-1<l.length by omega)]
 rw[Jd,Je (show l.length-1<l.length by omega)];rfl
theorem zD{f:aX}(h:(pop f).2.err=0):f.err=0∧∃st t,f.stack=st ++[t]∧(pop f).1=t∧(pop f).2={f with stack:=st}:=by
 unfold pop at h⊢
 split
 ·rename_i h0
  rw[if_pos h0]at h;exact absurd h (wO (by decide))
 ·rename_i h0
  rw[if_neg h0]at h;exact⟨h,_,_,aFf h0,rfl,rfl⟩
theorem aH3{t:Int}{f:aX}(h:(mN t f).err=0):f.err=0∧∃st,f.stack=st ++[t]∧mN t f={f with stack:=st}:=by
 unfold mN at h⊢
 split
 ·rename_i hn
  rw[if_pos hn]at h;exact absurd h (wO (by decide))
 ·rename_i hn
  rw[if_neg hn]at h;obtain⟨h1,st,t',h2,h3,h4⟩:=zD h;have:t'=t:=nM fun hx=>hn (by rw[h3];exact hx)
  subst this;exact⟨h1,st,h2,h4⟩
theorem oC:∀(l:List Int) {f:aX},(want l f).err=0→f.err=0∧∃st,f.stack=st ++l∧want l f={f with stack:=st}
 |[],f,h=>⟨h,f.stack,by simp,rfl⟩
 |t::r,f,h=>by
  have hh:want (t::r) f=mN t (want r f):=rfl;rw[hh]at h⊢;obtain⟨h1,st,h2,h3⟩:=aH3 h;obtain⟨g1,st',g2,g3⟩:=oC r h1;rw[g3]at h2 h3;simp only at h2;exact⟨g1,st,by rw[g2,h2];simp,by rw[g3];exact h3⟩
theorem yD{e:Int}(he:e≠0){c:Prop} [Decidable c]{f:aX}(h:(if c then fail e f else f).err=0):¬c∧f.err=0:=by
 by_cases hc:c
 ·rw[if_pos hc]at h;exact absurd h (wO he)
 ·rw[if_neg hc]at h;exact⟨hc,h⟩
theorem aBB{e:Int}(he:e≠0){c:Prop} [Decidable c]{f:aX}(h:(if c then f else fail e f).err=0):c∧f.err=0:=by
 by_cases hc:c
 ·rw[if_pos hc]at h;exact⟨hc,h⟩
 ·rw[if_neg hc]at h;exact absurd h (wO he)
theorem P2{f:aX}(h:(done f).err=0):f.err=0∧f.stack=[]∧done f=f:=by
 unfold done at h⊢
 split
 ·rename_i h0;rw[if_pos h0]at h;exact⟨h,pE h0,rfl⟩
 ·rename_i h0;rw[if_neg h0]at h;exact absurd h (wO (by decide))
inductive hZ(M:aG)(u:bS)(i:aY):List Int→List Bool→List Int→List Bool→Prop
 |const (st h) (hi:i.op=1∨i.op=2):hZ M u i st h (st ++[i.op]) h
 |load (st h) (hi:i.op=3) (hh:h.getD i.a.toNat false=true):hZ M u i st h (st ++[u.locals.getD i.a.toNat 0]) h
 |store (st h) (hi:i.op=4):hZ M u i (st ++[u.locals.getD i.a.toNat 0]) h st (h.set i.a.toNat true)
 |drop (st h t) (hi:i.op=5):hZ M u i (st ++[t]) h st h
 |neg (st h) (hi:i.op=6):hZ M u i (st ++[1]) h (st ++[1]) h
 |not (st h) (hi:i.op=7):hZ M u i (st ++[2]) h (st ++[2]) h
 |arith (st h) (hi:8≤i.op∧i.op≤12):hZ M u i (st ++[1,1]) h (st ++[1]) h
 |eq (st h t) (hi:i.op=13∨i.op=14) (ht:t=1∨t=2):hZ M u i (st ++[t,t]) h (st ++[2]) h
 |cmp (st h) (hi:15≤i.op∧i.op≤18):hZ M u i (st ++[1,1]) h (st ++[2]) h
 |KO (st h) (hi:i.op=19∨i.op=20):hZ M u i (st ++[2,2]) h (st ++[2]) h
 |jump (st h) (hi:i.op=21):hZ M u i st h st h
 |eY (st h) (hi:i.op=22):hZ M u i (st ++[2]) h st h
 |call (st h) (hi:i.op=23):hZ M u i (st ++(M.aL.getD i.a.toNat default).locals.take (M.aL.getD i.a.toNat default).params.toNat) h (st ++[(M.aL.getD i.a.toNat default).result]) h
 |ret (h) (hi:i.op=24) (hk:u.kind=2):hZ M u i [u.result] h [] h
 |end_ (h) (hi:i.op=25) (hk:u.kind≠2):hZ M u i [] h [] h
 |send (st h) (hi:i.op=26):hZ M u i (st ++[(M.boxes.getD i.a.toNat default).1]) h st h
 |recv (st h) (hi:i.op=27):hZ M u i st h (st ++[(M.boxes.getD i.a.toNat default).1]) h
 |out (st h t) (hi:i.op=28):hZ M u i (st ++[t]) h st h
 |start (st h) (hi:i.op=29):hZ M u i (st ++(M.aL.getD i.a.toNat default).locals.take (M.aL.getD i.a.toNat default).params.toNat) h (st ++[10+i.a]) h
 |resume (st h k) (hi:i.op=30) (hk:handle M (10+k)=true):hZ M u i (st ++[10+k,(M.aL.getD k.toNat default).aS]) h (st ++[(M.aL.getD k.toNat default).result]) h
 |yield (st h) (hi:i.op=31) (hk:u.kind=3):hZ M u i (st ++[u.result]) h (st ++[u.aS]) h
 |alive (st h k) (hi:i.op=32) (hk:handle M (10+k)=true):hZ M u i (st ++[10+k]) h (st ++[2]) h
theorem ON{α:Type}(s:List α)(a b:α):s ++[a] ++[b]=s ++[a,b]:=by simp
theorem Q2{M:aG}{f:aX}(h:(gen M f).2.err=0):f.err=0∧∃st k,f.stack=st ++[10+k]∧handle M (10+k)=true∧gen M f=(some k,{f with stack:=st}):=by
 unfold gen at h⊢
 by_cases h1:(pop f).2.err≠0
 ·rw[if_pos h1]at h;exact absurd h h1
 rw[if_neg h1]at h⊢
 by_cases h2:handle M (pop f).1=false
 ·rw[if_pos h2]at h;exact absurd h (wO (by decide))
 rw[if_neg h2]at h⊢;obtain⟨g1,st,t,g2,g3,g4⟩:=zD h;rw[g3]at h2⊢;refine⟨g1,st,t-10,by rw[g2];congr 2;omega,?_,?_⟩
 ·rw[show(10:Int)+(t-10)=t by omega];simpa using h2
 ·rw[g4]
theorem aFR{M:aG}{u:bS}{i:aY}{st:List Int}{h:List Bool}(ho:1≤i.op∧i.op≤32)(he:(lJ M u i (st,h)).err=0):
  hZ M u i st h (lJ M u i (st,h)).stack (lJ M u i (st,h)).has:=by
 unfold lJ core at he⊢
 by_cases h21:i.op=21
 ·rw[if_pos h21];exact .jump _ _ h21
 rw[if_neg h21]at he⊢
 by_cases h22:i.op=22
 ·rw[if_pos h22]at he⊢;obtain⟨-,s,g2,g3⟩:=oC _ he;simp only at g2;rw[g3];subst g2;exact .eY _ _ h22
 rw[if_neg h22]at he⊢;unfold Ver.step at he⊢
 by_cases h1:i.op=1
 ·rw[if_pos h1]at he⊢;obtain⟨-,g2, -⟩:=mE he;simp only;rw[g2];have:=hZ.const (M:=M) (u:=u) (i:=i) st h (.inl h1);rw[h1]at this;exact this
 rw[if_neg h1]at he⊢
 by_cases h2:i.op=2
 ·rw[if_pos h2]at he⊢;obtain⟨-,g2, -⟩:=mE he;simp only;rw[g2];have:=hZ.const (M:=M) (u:=u) (i:=i) st h (.inr h2);rw[h2]at this;exact this
 rw[if_neg h2]at he⊢
 by_cases h3:i.op=3
 ·rw[if_pos h3]at he⊢;obtain⟨g1,g2, -⟩:=mE he;obtain⟨k1,k2⟩:=aBB (by decide) g1;simp only at k1⊢;rw[g2,if_pos k1];exact .load _ _ h3 k1
 rw[if_neg h3]at he⊢
 by_cases h4:i.op=4
 ·rw[if_pos h4]at he⊢;obtain⟨-,s,g2,g3⟩:=oC _ (show(want [u.locals.getD i.a.toNat 0] ⟨[],[],st,h,0⟩).err=0 from he);simp only at g2⊢;rw[g3];subst g2;exact .store _ _ h4
 rw[if_neg h4]at he⊢
 by_cases h5:i.op=5
 ·rw[if_pos h5]at he⊢;obtain⟨-,s,t,g2,g3,g4⟩:=zD he;simp only at g2⊢;rw[g4];subst g2;exact .drop _ _ _ h5
 rw[if_neg h5]at he⊢
 by_cases h6:i.op=6
 ·rw[if_pos h6]at he⊢;obtain⟨g1,g2, -⟩:=mE he;obtain⟨-,s,k2,k3⟩:=oC _ g1;simp only at k2⊢;rw[g2,k3];subst k2;exact .neg _ _ h6
 rw[if_neg h6]at he⊢
 by_cases h7:i.op=7
 ·rw[if_pos h7]at he⊢;obtain⟨g1,g2, -⟩:=mE he;obtain⟨-,s,k2,k3⟩:=oC _ g1;simp only at k2⊢;rw[g2,k3];subst k2;exact .not _ _ h7
 rw[if_neg h7]at he⊢
 by_cases h8:8≤i.op∧i.op≤12
 ·rw[if_pos h8]at he⊢;obtain⟨g1,g2, -⟩:=mE he;obtain⟨-,s,k2,k3⟩:=oC _ g1;simp only at k2⊢;rw[g2,k3];subst k2;exact .arith _ _ h8
 rw[if_neg h8]at he⊢
 by_cases h9:i.op=13∨i.op=14
 ·rw[if_pos h9]at he⊢;obtain⟨g1,g2, -⟩:=mE he;obtain⟨g3,s,k2,k3⟩:=oC _ g1;obtain⟨q1,q2⟩:=yD (by decide) g3;obtain⟨-,s',t,p2,p3,p4⟩:=zD q2;rw[if_neg q1]at k2 k3 g2⊢;rw[g2,k3];rw[p4]at k2⊢;rw[p3]at q1 k2;simp only at k2 p2⊢;subst k2 p2;rw[ON];refine .eq _ _ _ h9 ?_;omega
 rw[if_neg h9]at he⊢
 by_cases h10:15≤i.op∧i.op≤18
 ·rw[if_pos h10]at he⊢;obtain⟨g1,g2, -⟩:=mE he;obtain⟨-,s,k2,k3⟩:=oC _ g1;simp only at k2⊢;rw[g2,k3];subst k2;exact .cmp _ _ h10
 rw[if_neg h10]at he⊢
 by_cases h11:i.op=19∨i.op=20
 ·rw[if_pos h11]at he⊢;obtain⟨g1,g2, -⟩:=mE he;obtain⟨-,s,k2,k3⟩:=oC _ g1;simp only at k2⊢;rw[g2,k3];subst k2;exact .KO _ _ h11
 rw[if_neg h11,if_neg h21,if_neg h22]at he⊢;unfold eS at he⊢
 by_cases h23:i.op=23
 ·rw[if_pos h23]at he⊢;obtain⟨g1,g2, -⟩:=mE he;obtain⟨-,s,k2,k3⟩:=oC _ (show(want _ _).err=0 from g1);simp only at k2⊢;rw[g2];unfold args;rw[k3];subst k2;exact .call _ _ h23
 rw[if_neg h23]at he⊢
 by_cases h29:i.op=29
 ·rw[if_pos h29]at he⊢;obtain⟨g1,g2, -⟩:=mE he;obtain⟨-,s,k2,k3⟩:=oC _ (show(want _ _).err=0 from g1);simp only at k2⊢;rw[g2];unfold args;rw[k3];subst k2;exact .start _ _ h29
 rw[if_neg h29]at he⊢
 by_cases h24:i.op=24
 ·rw[if_pos h24]at he⊢;obtain⟨g1,g2,g3⟩:=P2 he;obtain⟨k1,s,k2,k3⟩:=oC _ g1;obtain⟨q1,q2⟩:=yD (by decide) k1;rw[if_neg q1]at k2 k3 g2;simp only at k2⊢;rw[g3,if_neg q1,k3];rw[k3]at g2;simp only at g2;subst g2 k2;exact .ret _ h24 (nM q1)
 rw[if_neg h24]at he⊢
 by_cases h25:i.op=25
 ·rw[if_pos h25]at he⊢;obtain⟨g1,g2,g3⟩:=P2 he;obtain⟨q1,q2⟩:=yD (by decide) g1;rw[if_neg q1]at g2;simp only at g2⊢;rw[g3,if_neg q1];subst g2;exact .end_ _ h25 q1
 rw[if_neg h25]at he⊢
 by_cases h26:i.op=26
 ·rw[if_pos h26]at he⊢;obtain⟨-,s,g2,g3⟩:=oC _ he;simp only at g2⊢;rw[g3];subst g2;exact .send _ _ h26
 rw[if_neg h26]at he⊢
 by_cases h27:i.op=27
 ·rw[if_pos h27]at he⊢;obtain⟨-,g2, -⟩:=mE he;simp only;rw[g2];exact .recv _ _ h27
 rw[if_neg h27]at he⊢
 by_cases h28:i.op=28
 ·rw[if_pos h28]at he⊢;obtain⟨q1,q2⟩:=yD (by decide) (show(if(pop ⟨[],[],st,h,0⟩).2.err=0∧plain (pop ⟨[],[],st,h,0⟩).1=false then fail 9 (pop ⟨[],[],st,h,0⟩).2 else(pop ⟨[],[],st,h,0⟩).2).err=0 from he);obtain⟨-,s,t,g2,g3,g4⟩:=zD q2;simp only at g2⊢;rw[if_neg q1,g4];subst g2;exact .out _ _ _ h28
 rw[if_neg h28]at he⊢
 by_cases h30:i.op=30
 ·rw[if_pos h30]at he⊢;have hg:(gen M (pop ⟨[],[],st,h,0⟩).2).2.err=0∧∀k g,gen M (pop ⟨[],[],st,h,0⟩).2=(some k,g)→(pop ⟨[],[],st,h,0⟩).1=(M.aL.getD k.toNat default).aS:=by
   revert he
   generalize gen M (pop ⟨[],[],st,h,0⟩).2=G;obtain⟨o,g⟩:=G
   cases o with
   |none=>intro he;exact⟨he,fun k g h=>by cases h⟩
   |some k=>
    intro he;obtain⟨g1, -, -⟩:=mE (show(Ver.push _ _).err=0 from he);obtain⟨q1,q2⟩:=yD (by decide) g1;refine⟨q2,fun k' g' h=>?_⟩;simp only[wD,tY]at h;obtain⟨rfl,rfl⟩:=h;exact nM q1
  obtain⟨hg1,hg2⟩:=hg;obtain⟨g1,s,k,g2,g3,g4⟩:=Q2 hg1;obtain⟨-,s',t,p2,p3,p4⟩:=zD g1;have ht:=hg2 _ _ g4;rw[g4]at he⊢;obtain⟨-,r2, -⟩:=mE (show(Ver.push _ _).err=0 from he);simp only at r2⊢;rw[r2,if_neg (fun hx=>hx ht)];rw[p4]at g2⊢;simp only at g2 p2⊢;rw[p3]at ht;subst g2 p2 ht;rw[ON];exact .resume _ _ _ h30 g3
 rw[if_neg h30]at he⊢
 by_cases h31:i.op=31
 ·rw[if_pos h31]at he⊢;obtain⟨g1,g2, -⟩:=mE he;obtain⟨k1,s,k2,k3⟩:=oC _ g1;obtain⟨q1,q2⟩:=yD (by decide) k1;rw[if_neg q1]at k2 k3;simp only at k2⊢;rw[g2,if_neg q1,k3];subst k2;exact .yield _ _ h31 (nM q1)
 rw[if_neg h31]at he⊢;have h32:i.op=32:=by omega
 rw[if_pos h32]at he⊢;obtain⟨g1,g2, -⟩:=mE he;obtain⟨-,s,k,k2,k3,k4⟩:=Q2 g1;simp only at k2⊢;rw[g2,k4];subst k2;exact .alive _ _ _ h32 k3
def fR(gs:List Nat)(t v:Int):Prop:=bG v∧(t=2→v=0∨v=1)∧(10≤t→∃k:Nat,v=(k:Int)∧k<gs.length∧((gs.getD k 0:Nat):Int)=t-10∧0<k)
theorem fR.num{gs:List Nat}{v:Int}(h:bG v):fR gs 1 v:=⟨h,fun h=>by omega,fun h=>by omega⟩
theorem fR.bool{gs:List Nat}{b:Bool}:fR gs 2 (yes b):=by
 cases b
 ·exact⟨by unfold yes bG;simp,fun _=> .inl rfl,fun h=>by omega⟩
 ·exact⟨by unfold yes bG;simp,fun _=> .inr rfl,fun h=>by omega⟩
theorem fR.NH{gs:List Nat}{v:Int}(h:v=0∨v=1):fR gs 2 v:=⟨by unfold bG;omega,fun _=>h,fun h=>by omega⟩
theorem fR.grow{gs gs':List Nat}{t v:Int}(h:fR gs t v):fR (gs ++gs') t v:=by
 refine⟨h.1,h.2.1,fun ht=>?_⟩;obtain⟨k,h1,h2,h3,h4⟩:=h.2.2 ht;refine⟨k,h1,by simp;omega,?_,h4⟩;rw[←h3,Jd,rF h2,Jd]
inductive eI(gs:List Nat):List Int→List Int→Prop
 |nil:eI gs [] []
 |cons {t v:Int} {ts vs:List Int}:fR gs t v→eI gs ts vs→eI gs (t::ts) (v::vs)
theorem eI.len{gs:List Nat}{a x:List Int}(h:eI gs a x):a.length=x.length:=by induction h with|nil=>rfl|cons _ _ ih=>simp[ih]
theorem eI.app{gs:List Nat}{a x b y:List Int}(h:eI gs a x)(k:eI gs b y):eI gs (a ++b) (x ++y):=by induction h with|nil=>exact k|cons h1 _ ih=>exact .cons h1 ih
theorem eI.split{gs:List Nat}:∀{a b z:List Int},eI gs (a ++b) z→∃x y,z=x ++y∧eI gs a x∧eI gs b y
 |[],b,z,h=>⟨[],z,rfl, .nil,h⟩
 |t::a,b,z,h=>by
  cases h with
  |cons h1 h2=>
   obtain⟨x,y,e,g1,g2⟩:=eI.split h2;exact⟨_::x,y,by rw[e];rfl, .cons h1 g1,g2⟩
theorem eI.one{gs:List Nat}{t v:Int}(h:fR gs t v):eI gs [t] [v]:= .cons h .nil
theorem eI.qZ{gs:List Nat}{t:Int}{y:List Int}(h:eI gs [t] y):∃v,y=[v]∧fR gs t v:=by
 cases h with
 |cons h1 h2=>cases h2;exact⟨_,rfl,h1⟩
theorem eI.xM{gs:List Nat}{t u:Int}{y:List Int}(h:eI gs [t,u] y):∃v w,y=[v,w]∧fR gs t v∧fR gs u w:=by
 cases h with
 |cons h1 h2=>obtain⟨w,rfl,hw⟩:=eI.qZ h2;exact⟨_,_,rfl,h1,hw⟩
theorem eI.grow{gs gs':List Nat}{a x:List Int}(h:eI gs a x):eI (gs ++gs') a x:=by induction h with|nil=>exact .nil|cons h1 _ ih=>exact .cons h1.grow ih
theorem eI.iJ{gs:List Nat}{a x:List Int}(h:eI gs a x):∀v∈x,bG v:=by
 induction h with
 |nil=>intro v h;cases h
 |cons h1 _ ih=>intro v h;rcases eB.1 h with rfl|h;exact h1.1;exact ih v h
structure Loc(gs:List Nat)(ts:List Int)(h:List Bool)(loc:List Int):Prop where
 len:loc.length=ts.length
 ok:∀j,j<ts.length→h.getD j false=true→fR gs (ts.getD j 0) (loc.getD j 0)
 iJ:∀v∈loc,bG v
theorem Loc.le{gs:List Nat}{ts:List Int}{h h':List Bool}{loc:List Int}(a:Loc gs ts h loc)(b:Le h' h):Loc gs ts h' loc:=⟨a.len,fun j hj x=>a.ok j hj (b.2 j x),a.iJ⟩
theorem Loc.grow{gs gs':List Nat}{ts:List Int}{h:List Bool}{loc:List Int}(a:Loc gs ts h loc):Loc (gs ++gs') ts h loc:=⟨a.len,fun j hj x=>(a.ok j hj x).grow,a.iJ⟩
theorem aB5{l:List Int}{k j:Nat}{v:Int}(hk:k<l.length):(l.set k v).getD j 0=if k=j then v else l.getD j 0:=by
 simp only[Jd,pI]
 by_cases h:k=j
 ·subst h;simp[hk]
 ·simp[h]
theorem Loc.put{gs:List Nat}{ts:List Int}{h:List Bool}{loc:List Int}(a:Loc gs ts h loc){k:Nat}(hk:k<ts.length){v:Int}(hv:fR gs (ts.getD k 0) v):Loc gs ts (h.set k true) (loc.set k v):=by
 have hl:=a.len;refine⟨by rw[Ji];exact hl,fun j hj x=>?_,fun w hw=>?_⟩
 ·rw[aB5 (by omega)]
  by_cases hkj:k=j
  ·subst hkj;rw[if_pos rfl];exact hv
  ·rw[if_neg hkj];refine a.ok j hj ?_;rw[aB4,if_neg (by omega)]at x;exact x
 ·rcases tU hw with hw|rfl
  ·exact a.iJ w hw
  ·exact hv.1
section
variable(M:aG)(T:Nat→Int→Option Shape)
def uE(gs:List Nat)(q p:Nat)(seg pend:List Int):Prop:=
 q<M.aL.length∧∃st h loc op,T q (p:Int)=some (st ++pend,h)∧seg=loc ++op∧Loc gs (bD M q).locals h loc∧eI gs st op
inductive iA(gs:List Nat):List Fr→List Int→List Int→Prop
 |one {q p:Nat} {seg pend:List Int} (h:uE M T gs q p seg pend):iA gs [⟨q,p,0⟩] seg pend
 |more {fs:List Fr} {ws:List Int} {q p:Nat} {seg pend:List Int} (hs:iA gs fs ws [(bD M q).result]) (hk:(bD M q).kind=2) (h:uE M T gs q p seg pend):iA gs (fs ++[⟨q,p,ws.length⟩]) (ws ++seg) pend
def DH(gs:List Nat)(q:Nat)(fs:List Fr)(ws:List Int):Prop:=(fs=[]∧ws=[])∨(iA M T gs fs ws [(bD M q).result]∧(bD M q).kind=2)
end
section
variable{M:aG}{T:Nat→Int→Option Shape}{gs gs':List Nat}
theorem uE.grow{q p:Nat}{seg pend:List Int}(h:uE M T gs q p seg pend):uE M T (gs ++gs') q p seg pend:=by
 obtain⟨h1,st,hh,loc,op,h2,h3,h4,h5⟩:=h;exact⟨h1,st,hh,loc,op,h2,h3,h4.grow,h5.grow⟩
theorem iA.grow{fs:List Fr}{ws pend:List Int}(h:iA M T gs fs ws pend):iA M T (gs ++gs') fs ws pend:=by
 induction h with
 |one h=>exact .one h.grow
 |more _ hk h ih=>exact .more ih hk h.grow
theorem iA.view{fs:List Fr}{ws pend:List Int}(h:iA M T gs fs ws pend):∃fs0 ws0 q p seg,fs=fs0 ++[⟨q,p,ws0.length⟩]∧ws=ws0 ++seg∧uE M T gs q p seg pend∧DH M T gs q fs0 ws0:=by
 cases h with
 |one h=>exact⟨[],[],_,_,_,rfl,rfl,h, .inl ⟨rfl,rfl⟩⟩
 |more hs hk h=>exact⟨_,_,_,_,_,rfl,rfl,h, .inr ⟨hs,hk⟩⟩
theorem DH.CO{q p:Nat}{fs:List Fr}{ws seg pend:List Int}(h:DH M T gs q fs ws)(k:uE M T gs q p seg pend):iA M T gs (fs ++[⟨q,p,ws.length⟩]) (ws ++seg) pend:=by
 rcases h with⟨rfl,rfl⟩|⟨h1,h2⟩
 ·exact .one k
 ·exact .more h1 h2 k
end
def bot(fs:List Fr):Nat:=(fs.getD 0 default).unit
theorem HL(fs:List Fr)(f f':Fr)(h:f'.unit=f.unit):bot (fs ++[f'])=bot (fs ++[f]):=by
 cases fs with
 |nil=>exact h
 |cons a r=>rfl
theorem OX(fs gs:List Fr)(h:fs≠[]):bot (fs ++gs)=bot fs:=by
 cases fs with
 |nil=>exact absurd rfl h
 |cons a r=>rfl
def cR(t:Tk):List Nat:=t.cs.map fun c=>bot c.fr
def co(t:Tk)(k:Nat):Co:=t.cs.getD k default
structure Ok(M:aG)(T:Nat→Int→Option Shape)(t:Tk)(ch:List Nat):Prop where
 now:ch[0]?=some t.now
 dY:t.cs.length≤31
 nodup:ch.Nodup
 mem:∀k∈ch,k<t.cs.length
 going:∀k,k<t.cs.length→((co t k).st=2↔k∈ch)
 chain:∀i k,ch[i]?=some k→(co t k).up=ch[i+1]?
 root:∀i k,ch[i]?=some k→ch[i+1]?=none→k=0
 top:iA M T (cR t) (cur t).fr (cur t).ws []
 wait:∀i d k,ch[i]?=some d→ch[i+1]?=some k→iA M T (cR t) (co t k).fr (co t k).ws [(bD M (bot (co t d).fr)).result]
 fresh:∀k,k<t.cs.length→(co t k).st=0→iA M T (cR t) (co t k).fr (co t k).ws []
 held:∀k,k<t.cs.length→(co t k).st=1→iA M T (cR t) (co t k).fr (co t k).ws [(bD M (bot (co t k).fr)).aS]
 lens:∀k,k<t.cs.length→(co t k).ws.length≤400∧(co t k).fr.length≤40
 kinds:∀k,k<t.cs.length→bot (co t k).fr<M.aL.length∧(bD M (bot (co t k).fr)).kind=if k=0 then 4 else 3
 bR:∀k,k<t.cs.length→(co t k).st≤3
theorem Ok.iV{M:aG}{T:Nat→Int→Option Shape}{t:Tk}{ch:List Nat}(h:Ok M T t ch):t.now<t.cs.length:=h.mem _ (jB h.now)
theorem jV(t:Tk):cur t=co t t.now:=rfl
theorem pR{t:Tk}{k j:Nat}{c:Co}(h:k<t.cs.length):co (dM t k c) j=if k=j then c else co t j:=by
 unfold co dM;simp only[Jd,pI]
 by_cases hk:k=j
 ·subst hk;simp[h]
 ·simp[hk]
theorem aFX(t:Tk)(k:Nat)(c:Co):(dM t k c).cs.length=t.cs.length:=Ji
theorem mY{t:Tk}{c:Co}(h:t.now<t.cs.length):cur (setCur t c)=c:=by
 show co (dM t t.now c) t.now=c;rw[pR h,if_pos rfl]
theorem set_set(t:Tk)(c d:Co):setCur (setCur t c) d=setCur t d:=by
 unfold setCur dM;simp[List.set_set]
theorem aF4(t:Tk)(c:Co):(setCur t c).now=t.now:=rfl
theorem nG(t:Tk)(c:Co):(setCur t c).cs.length=t.cs.length:=Ji
theorem yI(t:Tk):(cR t).length=t.cs.length:=Jf _
theorem aB8(t:Tk){k:Nat}(h:k<t.cs.length):(cR t).getD k 0=bot (co t k).fr:=by
 unfold cR co;rw[Jd,JU,Je h,Jd,Je h];rfl
theorem BK{t:Tk}{k:Nat}{c:Co}(h:k<t.cs.length)(hb:bot c.fr=bot (co t k).fr):cR (dM t k c)=cR t:=by
 unfold cR dM;simp only[List.map_set];rw[hb];refine mT (by simp) (fun i h1 h2=>?_);rw[tZ]
 split
 ·rename_i hi;subst hi
  unfold co;rw[List.getElem_map,Jd,Je h];rfl
 ·rfl
theorem y8:∀{l:List Nat},l.Nodup→∀{i j a:Nat},l[i]?=some a→l[j]?=some a→i=j
 |[],_,i,j,a,h,_=>by simp at h
 |x::l,hn,i,j,a,hi,hj=>by
  obtain⟨h1,h2⟩:=xX.1 hn
  cases i with
  |zero=>
   cases j with
   |zero=>rfl
   |succ j=>
    simp at hi hj;subst hi;exact absurd (jB hj) h1
  |succ i=>
   cases j with
   |zero=>
    simp at hi hj;subst hj;exact absurd (jB hi) h1
   |succ j=>
    have:=y8 h2 (i:=i) (j:=j) (a:=a) (by simpa using hi) (by simpa using hj);omega
theorem Ok.put{M:aG}{T:Nat→Int→Option Shape}{t:Tk}{ch:List Nat}(h:Ok M T t ch){c:Co}(hst:c.st=(cur t).st)(hup:c.up=(cur t).up)(hb:bot c.fr=bot (cur t).fr)
  (hs:iA M T (cR t) c.fr c.ws []) (hl:c.ws.length≤400∧c.fr.length≤40):Ok M T (setCur t c) ch:=by
 have hn:=h.iV;have hg:cR (setCur t c)=cR t:=BK hn hb;have hc:∀j,co (setCur t c) j=if t.now=j then c else co t j:=fun j=>pR hn
 have hcur:(co (setCur t c) t.now)=c:=by rw[hc,if_pos rfl]
 have hst':∀j,(co (setCur t c) j).st=(co t j).st:=fun j=>by
  rw[hc];split
  ·rename_i e;subst e;exact hst
  ·rfl
 have hup':∀j,(co (setCur t c) j).up=(co t j).up:=fun j=>by
  rw[hc];split
  ·rename_i e;subst e;exact hup
  ·rfl
 have hb':∀j,bot (co (setCur t c) j).fr=bot (co t j).fr:=fun j=>by
  rw[hc];split
  ·rename_i e;subst e;exact hb
  ·rfl
 have hne:∀j,t.now≠j→co (setCur t c) j=co t j:=fun j hj=>by rw[hc,if_neg hj]
 have hin:t.now∈ch:=jB h.now;refine⟨h.now,by rw[nG];exact h.dY,h.nodup,by rw[nG];exact h.mem,fun k hk=>?_,fun i k hk=>?_,h.root,?_,fun i d k hd hk=>?_,fun k hk h0=>?_,fun k hk h1=>?_,fun k hk=>?_,fun k hk=>?_,fun k hk=>?_⟩
 ·rw[nG]at hk;rw[hst'];exact h.going k hk
 ·rw[hup'];exact h.chain i k hk
 ·rw[hg,mY hn];exact hs
 ·rw[hg,hb'];have hk':t.now≠k:=fun e=>by
   subst e;have h0:=h.now;have:=y8 h.nodup h0 hk;omega
  rw[hne k hk'];exact h.wait i d k hd hk
 ·rw[nG]at hk;rw[hst']at h0;have hk':t.now≠k:=fun e=>by subst e;have:=(h.going _ hk).2 hin;omega
  rw[hg,hne k hk'];exact h.fresh k hk h0
 ·rw[nG]at hk;rw[hst']at h1;have hk':t.now≠k:=fun e=>by subst e;have:=(h.going _ hk).2 hin;omega
  rw[hg,hne k hk'];exact h.held k hk h1
 ·rw[nG]at hk;rw[hc];split
  ·exact hl
  ·exact h.lens k hk
 ·rw[nG]at hk;rw[hb'];exact h.kinds k hk
 ·rw[nG]at hk;rw[hst'];exact h.bR k hk
end Vm
namespace Opt
open ImgM Ver
def src(l:List aY):List Nat:=aFx l (bs l)
section
variable{M:aG}{u:bS}{τ:Int→Option Shape}(hc:Cert M u τ)
include hc
end
structure UOk(M:aG)(u:bS):Prop where
 head:head M u=0
 ins:∀i∈u.code,gP M u i=0
 cert:∃τ,Cert M u τ
theorem aBi{M:aG}{u:bS}(h:Ver.head M u=0):1≤u.code.length∧u.code.length≤4000:=by
 unfold Ver.head at h
 by_cases e1:u.kind≠2∧u.kind≠3∧u.kind≠4
 ·rw[if_pos e1]at h;cases h
 rw[if_neg e1]at h
 by_cases e2:200<u.locals.length∨u.params<0∨6<u.params∨(u.locals.length:Int)<u.params∨(u.kind=4∧0<u.params)
 ·rw[if_pos e2]at h;cases h
 rw[if_neg e2]at h
 by_cases e3:u.code.length<1∨4000<u.code.length
 ·rw[if_pos e3]at h;cases h
 omega
theorem aGs{M:aG}{u:bS}{i:aY}(h:gP M u i=0)(ho:i.op=2):i.a=0∨i.a=1:=by
 unfold gP at h;rw[if_pos ho]at h;have:=zM h;rw[Bool.or_eq_true,JV,JV]at this;exact this
theorem aHh(b:Bool):yes b=0∨yes b=1:=by cases b<;>simp[yes]
theorem aGu{op x y:Int}(h:12<op)(h20:op≤20)(hx:18<op→(x=0∨x=1)∧(y=0∨y=1)):lY op x y=0∨lY op x y=1:=by
 unfold lY
 (repeat rw[if_neg (by omega)])
 repeat' split
 all_goals first|exact aHh _|skip
 ·obtain⟨h1,h2⟩:=hx (by omega);rcases h1 with rfl|rfl<;>rcases h2 with rfl|rfl<;>decide
 ·obtain⟨h1,h2⟩:=hx (by omega);rcases h1 with rfl|rfl<;>rcases h2 with rfl|rfl<;>decide
theorem K6{l:List aY}{q:Nat}(hq:q<l.length):at_ l q∈l:=by
 unfold at_;rw[Jd,Je hq];exact fB _
end Opt
end Go.Proofs.YtofckcabpchcmaaGreatDoor
