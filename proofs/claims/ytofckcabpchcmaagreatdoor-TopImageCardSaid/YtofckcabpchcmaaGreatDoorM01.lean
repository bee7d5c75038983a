/- Heaps by whole blocks: what a step may have changed ('Keeps'), and what a block is behind a store, a new block, a draw. Nothing of the program stands here. -/
import Derived.WalkKit
import Derived.WalkSpells
import Derived.WalkLawsBesides
import Derived.Deep.Draws
import Derived.Deep.OwnRows
import Derived.StillTailTactics
import Derived.Deep.AppendLies
import Derived.Deep.RegionHeld3
import Derived.Deep.QuietTactic
import Derived.BigQuiet
import Derived.BigRegion
import Derived.Lib.Hide
import Derived.OrdersHeld
import Derived.RegionTactic
set_option linter.unusedVariables false
set_option linter.unusedSimpArgs false
set_option linter.unusedSectionVars false
set_option maxRecDepth 100000
namespace Go.Proofs.YtofckcabpchcmaaGreatDoor
section
open Go.RowKit
structure cB(S:Nat→Prop)(w w':World):Prop where
 os:w'.os=w.os
 tape:w'.tape=w.tape
 output:w'.output=w.output
 size:w.heap.size≤w'.heap.size
 block:∀k,k<w.heap.size→¬S k→w'.heap[k]?=w.heap[k]?
def Nil:Nat→Prop:=fun _=>False
theorem cB.refl(S:Nat→Prop)(w:World):cB S w w:=⟨rfl,rfl,rfl,Nat.le_refl _,fun _ _ _=>rfl⟩
theorem cB.trans{S T:Nat→Prop}{a b c:World}(h:cB S a b)(k:cB T b c)(ht:∀i,i<a.heap.size→T i→S i):cB S a c:=
 ⟨k.os.trans h.os,k.tape.trans h.tape,k.output.trans h.output,Nat.le_trans h.size k.size,
  fun i hi hs=>(k.block i (Nat.lt_of_lt_of_le hi h.size) (fun t=>hs (ht i hi t))).trans (h.block i hi hs)⟩
theorem cB.mono{S T:Nat→Prop}{a b:World}(h:cB S a b)(ht:∀i,i<a.heap.size→S i→T i):cB T a b:=
 ⟨h.os,h.tape,h.output,h.size,fun i hi hs=>h.block i hi (fun t=>hs (ht i hi t))⟩
theorem cB.drew{S:Nat→Prop}{a b:World}(h:cB S a b):cB S a b.drew:=⟨h.os,h.tape,h.output,h.size,h.block⟩
theorem cB.alloc{S:Nat→Prop}{a b:World}(h:cB S a b)(o:Obj):cB S a (b.alloc o):=
 ⟨h.os,h.tape,h.output,Nat.le_trans h.size (by simp),fun k hk hs=>(Below.heap_alloc _ _ _ (Nat.lt_of_lt_of_le hk h.size)).trans (h.block k hk hs)⟩
theorem cB.setCell{S:Nat→Prop}{a b:World}(h:cB S a b){p:Addr}(hp:p.block<a.heap.size→S p.block)(u:Value):cB S a (b.setCell p u):=
 ⟨h.os,h.tape,h.output,Nat.le_trans h.size (by simp),fun k hk hs=>(Below.heap_setCell _ _ _ _ (fun e=>by subst e;exact hs (hp hk))).trans (h.block k hk hs)⟩
theorem cB.below{S:Nat→Prop}{B:Nat}{a b:World}(h:cB S a b)(hB:B≤a.heap.size)(hs:∀i,S i→B≤i):Below B a b:=
 ⟨h.os,h.tape,h.output,h.size,fun k hk=>h.block k (by omega) (fun s=>by have:=hs k s;omega)⟩
theorem cB.cell{S:Nat→Prop}{w w':World}(h:cB S w w'){p:Addr}(hp:p.block<w.heap.size)(hs:¬S p.block):w'.cell? p=w.cell? p:=World.cell?_of_block (w:=w) (h.block p.block hp hs)
theorem cB.at{S:Nat→Prop}{w w':World}(h:cB S w w'){k:Nat}{o:Obj}(ho:w.heap[k]?=some o)(hs:¬S k):w'.heap[k]?=some o:=(h.block k (lt_of_block ho) hs).trans ho
def eX(w:World)(b:Nat)(cs:Array Value)(t:TypeId):Prop:=w.heap[b]?=some (.cells cs t (0,0))
theorem eX.lt{w:World}{b:Nat}{cs:Array Value}{t:TypeId}(h:eX w b cs t):b<w.heap.size:=lt_of_block h
theorem eX.cell{w:World}{b:Nat}{cs:Array Value}{t:TypeId}(h:eX w b cs t)(i:Nat):w.cell? ⟨b,i,none⟩=cs[i]?:=cell_of_row w b i cs t (0,0) h
theorem eX.free{w:World}{b:Nat}{cs:Array Value}{t:TypeId}(h:eX w b cs t)(i:Nat):w.frozen? ⟨b,i,none⟩=false:=frozen_of_row w b i cs t h
theorem eX.pN{S:Nat→Prop}{w w':World}{b:Nat}{cs:Array Value}{t:TypeId}(h:eX w b cs t)(k:cB S w w')(hs:¬S b):eX w' b cs t:=k.at h hs
theorem eX.new(w:World)(cs:Array Value)(t:TypeId):eX (w.alloc (.cells cs t)) w.heap.size cs t:=heap_alloc_new w _
theorem eX.set{w:World}{b:Nat}{cs:Array Value}{t:TypeId}(h:eX w b cs t)(i:Nat)(u:Value):eX (w.setCell ⟨b,i,none⟩ u) b (cs.setIfInBounds i u) t:=heap_setCell_same w b i cs t u h
theorem eX.to{w w':World}{b:Nat}{cs cs':Array Value}{t:TypeId}(h:eX w b cs t)(hw:w'.heap=w.heap)(e:cs=cs'):eX w' b cs' t:=by
 subst e;unfold eX;rw[hw];exact h
theorem cB.aDw{w w':World}{row:Option Nat}(h:w.grownBy w' row):cB (fun i=>row=some i) w w':=
 ⟨h.os,h.tape,h.output,h.size,fun k hk hs=>h.block k hk (fun e=>hs e.symm)⟩
def Row(w:World)(v:Value)(size n:Nat)(cs:List Value):Prop:=
 cs.length=n*size∧n≤maxLen∧∃ao cap,v= .slice ao n cap∧n≤cap∧(0<n→∃b off,ao=some ⟨b,off,none⟩∧∀j,j<n*size→w.cell? ⟨b,off+j,none⟩=cs[j]?)
def Own(w:World)(base:Nat)(e:TypeId)(size:Nat)(v:Value)(n:Nat)(xs:List Value):Prop:=
 xs.length=n*size∧∃ao cap,v= .slice ao n cap∧n≤cap∧cap≤maxLen∧(ao=none→cap=0)∧
  ∀ad,ao=some ad→ad.spot=none∧base≤ad.block∧∃cur,eX w ad.block cur e∧ad.off+cap*size≤cur.size∧(cur.toList.drop ad.off).take (n*size)=xs
section
variable{w:World}{base:Nat}{e:TypeId}{size:Nat}{v:Value}{n:Nat}{xs:List Value}
theorem Own.nil(w:World)(base:Nat)(e:TypeId)(size:Nat):Own w base e size (.slice none 0 0) 0 []:=
 ⟨by simp,none,0,rfl,Nat.le_refl _,Nat.zero_le _,fun _=>rfl,(fun ad h=>by cases h)⟩
theorem Own.aDx(h:w.ownsRow base e size v n xs):Own w base e size v n xs:=by
 obtain⟨h1,h2⟩:=h;rcases h2 with⟨rfl,rfl⟩|⟨g,cap,cur,rfl,hb,hg,hn,hc,hs,ht⟩
 ·obtain rfl:xs=[]:=List.eq_nil_of_length_eq_zero (by simpa using h1);exact Own.nil w base e size
 ·exact⟨h1,some ⟨g,0,none⟩,cap,rfl,hn,hc,(fun h=>by cases h),fun ad h=>by
   cases h
   exact⟨rfl,hb,cur,hg,by simp[hs],by simpa using ht⟩⟩
theorem Own.le(h:Own w base e size v n xs):n≤maxLen:=by
 obtain⟨_,ao,cap,rfl,h2,h3,_⟩:=h;omega
theorem Own.lt(h:Own w base e size v n xs):∀k,v.ownBlock=some k→base≤k∧k<w.heap.size:=by
 obtain⟨h1,ao,cap,rfl,h2,h3,h4,h5⟩:=h;intro k hk
 cases ao with
 |none=>simp[Value.ownBlock]at hk
 |some ad=>
  simp[Value.ownBlock]at hk;obtain⟨_,hb,cur,hB,_⟩:=h5 ad rfl;subst hk;exact⟨hb,hB.lt⟩
theorem Own.pN(h:Own w base e size v n xs){S:Nat→Prop}{w':World}(k:cB S w w')(hs:∀b,v.ownBlock=some b→¬S b):Own w' base e size v n xs:=by
 obtain⟨h1,ao,cap,rfl,h2,h3,h4,h5⟩:=h;refine⟨h1,ao,cap,rfl,h2,h3,h4,fun ad cG=>?_⟩;obtain⟨h6,h7,cur,h8,h9⟩:=h5 ad cG;exact⟨h6,h7,cur,h8.pN k (hs ad.block (by rw[cG];rfl)),h9⟩
theorem Own.mono(h:Own w base e size v n xs){base':Nat}(hb:base'≤base):Own w base' e size v n xs:=by
 obtain⟨h1,ao,cap,rfl,h2,h3,h4,h5⟩:=h;refine⟨h1,ao,cap,rfl,h2,h3,h4,fun ad cG=>?_⟩;obtain⟨h6,h7,h8⟩:=h5 ad cG;exact⟨h6,by omega,h8⟩
theorem Own.row(h:Own w base e size v n xs)(hsz:0<size):Row w v size n xs:=by
 have hle:=h.le;obtain⟨h1,ao,cap,rfl,h2,h3,h4,h5⟩:=h;refine⟨h1,hle,ao,cap,rfl,h2,fun hn=>?_⟩
 cases ao with
 |none=>have:=h4 rfl;omega
 |some ad=>
  obtain⟨h6,h7,cur,h8,h9,h10⟩:=h5 ad rfl;obtain⟨b,off,spot⟩:=ad;simp only at h6;subst h6;refine⟨b,off,rfl,fun j hj=>?_⟩;have h8':eX w b cur e:=h8;rw[h8'.cell,←h10,List.getElem?_take,if_pos hj,List.getElem?_drop];simp
theorem Row.aA6{w:World}{b off cap size n:Nat}{cs:List Value}(h:Row w (.slice (some ⟨b,off,none⟩) n cap) size n cs):∀j,j<n*size→w.cell? ⟨b,off+j,none⟩=cs[j]?:=by
 obtain⟨h1,h2,ao,cap',he,h3,h4⟩:=h;simp only[Value.slice.injEq]at he;obtain⟨rfl, -,rfl⟩:=he;intro j hj;have hn:0<n:=by
  rcases Nat.eq_zero_or_pos n with h|h
  ·subst h;simp at hj
  ·exact h
 obtain⟨b',off',he,hc⟩:=h4 hn;simp only[Option.some.injEq,Addr.mk.injEq,and_true]at he;obtain⟨rfl,rfl⟩:=he;exact hc j hj
theorem Row.aDv{w:World}{b:Nat}{cs:Array Value}{t:TypeId}(h:eX w b cs t){size n:Nat}(hs:cs.size=n*size)(hn:n≤maxLen):Row w (.slice (some ⟨b,0,none⟩) n n) size n cs.toList:=
 ⟨by simpa using hs,hn,_,n,rfl,Nat.le_refl _,fun _=>⟨b,0,rfl,fun j hj=>by rw[h.cell];simp⟩⟩
theorem Row.form{w:World}{ao:Option Addr}{n cap size:Nat}{cs:List Value}(h:Row w (.slice ao n cap) size n cs)(hn:0<n):∃b off,ao=some ⟨b,off,none⟩:=by
 obtain⟨-, -,ao',cap',he, -,h4⟩:=h;simp only[Value.slice.injEq]at he;obtain⟨rfl, -, -⟩:=he;obtain⟨b,off,rfl, -⟩:=h4 hn;exact⟨b,off,rfl⟩
theorem eX.setCells{b:Nat}{t:TypeId}:∀(vs:List Value) (o:Nat) {w:World} {cs:Array Value},eX w b cs t→o+vs.length≤cs.size→
  eX (w.setCells b o vs) b (cs.toList.take o ++vs ++cs.toList.drop (o+vs.length)).toArray t
 |[],o,w,cs,h,hl=>by simpa[World.setCells]using h
 |v::vs,o,w,cs,h,hl=>by
  simp only[List.length_cons]at hl;have:=eX.setCells vs (o+1) (h.set o v) (by simp;omega);refine(this:eX (w.setCells b o (v::vs)) b _ t).to rfl ?_;apply Array.ext';have ho:o<cs.toList.length:=by simp;omega
  simp only[Array.toList_setIfInBounds,List.length_cons];rw[List.take_set,List.drop_set_of_lt (by omega),List.take_succ_eq_append_getElem ho,List.set_append_right _ _ (by simp;omega)];simp only[List.length_take,Nat.min_eq_left (Nat.le_of_lt ho),Nat.sub_self,List.set_cons_zero,List.append_assoc,List.cons_append,List.nil_append];rw[show o+1+vs.length=o+(vs.length+1) by omega]
theorem cB.setCells{S:Nat→Prop}{b:Nat}:∀(vs:List Value) (o:Nat) {a w:World},cB S a w→(b<a.heap.size→S b)→cB S a (w.setCells b o vs)
 |[],o,a,w,h,hs=>h
 |v::vs,o,a,w,h,hs=>cB.setCells vs (o+1) (h.setCell hs v) hs
end
theorem aF2{P:Program}{w:World}(base:Nat)(t ty e:TypeId)(z:Value)(size bytes:Nat)(ht:P.underlying t=some (.slice e))(hi:(P.info? e).map (fun i=>(i.zero,i.size,i.bytes))=some (some z,size,bytes))
  (hzs:z.cells.size=size) (hsz:0<size) (v:Value) (n:Nat) (xs:List Value) (hown:Own w base e size v n xs)
  (ad:Addr) (m c:Nat) (news:List Value) (hl:news.length=m*size) (hnews:∀j u,news[j]?=some u→w.cell? (ad.add j)=some u) (h1:∀u∈news,u.oneCell'=true)
  (h63:n+m≤maxLen) (hbytes:(n+m)*bytes≤140737488355328) (hbase:base≤w.heap.size):
  ∃v' w',(Builtin.append_ #[t,t] ty #[v, .slice (some ad) m c]).run P w= .ok v' w'∧Own w' base e size v' (n+m) (xs ++news)∧cB (fun i=>v.ownBlock=some i) w w'∧(v'.ownBlock=v.ownBlock∨∀b,v'.ownBlock=some b→w.heap.size≤b):=by
 obtain⟨i,hi0,hi1,hi2,hi3⟩:=info_parts hi;obtain⟨g1,ao,cap,rfl,g2,g3,g4,g5⟩:=hown;have fresh:∀v' w',w'.ownsRow w.heap.size e size v' (n+m) (xs ++news)→w.grownBy w' none→
   Own w' base e size v' (n+m) (xs ++news)∧cB (fun i=>(Value.slice ao n cap).ownBlock=some i) w w'∧(v'.ownBlock=(Value.slice ao n cap).ownBlock∨∀b,v'.ownBlock=some b→w.heap.size≤b):=by
  intro v' w' h2 h3;refine⟨(Own.aDx h2).mono hbase,(cB.aDw h3).mono (fun i _ h=>by cases h), .inr fun b hb=>(h2.lt b hb).1⟩
 cases ao with
 |none=>
  obtain rfl:=g4 rfl;obtain rfl:n=0:=by omega
  obtain rfl:xs=[]:=List.eq_nil_of_length_eq_zero (by simpa using g1);obtain⟨v',w',hr,h2,h3,_⟩:=run_append_own (P:=P) w w.heap.size t ty e i z size bytes ht hi0 hi1 hi2 hi3 hzs hsz (.slice none 0 0) 0 [] (World.ownsRow_nil w _ e size) ad m c news hl hnews h1 h63 hbytes (Nat.le_refl _);exact⟨v',w',hr,fresh v' w' h2 h3⟩
 |some a0=>
  obtain⟨g6,g7,cur,g8,g9,g10⟩:=g5 a0 rfl;obtain⟨b,off,spot⟩:=a0;simp only at g6;subst g6;have g8':eX w b cur e:=g8;simp only at g9 g10;have holds:∀j u,xs[j]?=some u→w.cell? ((⟨b,off,none⟩:Addr).add j)=some u:=by
   intro j u hj;have hjl:j<xs.length:=(List.getElem?_eq_some_iff.1 hj).1;rw[Addr.add_lit,g8'.cell];rw[←g10,List.getElem?_take,if_pos (by omega),List.getElem?_drop]at hj;simpa using hj
  by_cases hroom:n+m≤cap
  ·subst hi2;have hmul:(n+m)*i.size≤cap*i.size:=Nat.mul_le_mul_right _ hroom;rw[Nat.add_mul]at hmul;have hr:=run_append_room_cells (P:=P) w t ty e i ht hi0 b off n cap ad m c news hl hnews h1 hroom
    (fun j hj=>by rw[g8'.cell];simp;omega) (fun j hj=>g8'.free _)
   refine⟨_,_,hr,⟨by rw[List.length_append,g1,hl,Nat.add_mul],some ⟨b,off,none⟩,cap,rfl,hroom,g3,(fun h=>by cases h),?_⟩,cB.setCells _ _ (cB.refl _ _) (fun _=>rfl), .inl rfl⟩;intro ad' had'
   cases had'
   have hs:=eX.setCells news (off+n*i.size) g8' (by omega);refine⟨rfl,g7,_,hs,?_,?_⟩
   ·simp only[List.size_toArray,List.length_append,List.length_take,List.length_drop,Array.length_toList];omega
   ·have hx:(cur.toList.take (off+n*i.size)).drop off=xs:=by
     rw[←g10,List.take_drop,Nat.add_comm]
    have hxl:(cur.toList.take (off+n*i.size)).length=off+n*i.size:=by simp;omega
    simp only[List.append_assoc];rw[List.drop_append_of_le_length (by omega),hx,←List.append_assoc];rw[List.take_append_of_le_length (by simp only[List.length_append,g1,hl,Nat.add_mul];omega)];exact List.take_of_length_le (by simp only[List.length_append,g1,hl,Nat.add_mul];omega)
  ·obtain⟨v',w',hr,h2,h3⟩:=run_append_arg_grows (P:=P) w t ty e i z size bytes ht hi0 hi1 hi2 hi3 hzs hsz ⟨b,off,none⟩ n cap xs g1 holds ad m c news hl hnews (by omega) h63 hbytes;exact⟨v',w',hr,fresh v' w' h2 h3⟩
theorem aF3{P:Program}{w:World}(base:Nat)(t ty e:TypeId)(z:Value)(size bytes:Nat)(ht:P.underlying t=some (.slice e))(hi:(P.info? e).map (fun i=>(i.zero,i.size,i.bytes))=some (some z,size,bytes))
  (hzs:z.cells.size=size) (hsz:0<size) (v:Value) (n:Nat) (xs:List Value) (hown:Own w base e size v n xs)
  (sv:Value) (m:Nat) (news:List Value) (hrow:Row w sv size m news) (h1:∀u∈news,u.oneCell'=true)
  (h63:n+m≤maxLen) (hbytes:(n+m)*bytes≤140737488355328) (hbase:base≤w.heap.size):
  ∃v' w',(Builtin.append_ #[t,t] ty #[v,sv]).run P w= .ok v' w'∧Own w' base e size v' (n+m) (xs ++news)∧cB (fun i=>v.ownBlock=some i) w w'∧(v'.ownBlock=v.ownBlock∨∀b,v'.ownBlock=some b→w.heap.size≤b):=by
 obtain⟨r1,r2,ao,cap,rfl,r3,r4⟩:=hrow
 by_cases hm:m=0
 ·subst hm;obtain rfl:news=[]:=List.eq_nil_of_length_eq_zero (by simpa using r1);obtain⟨i,hi0,hi1,hi2,hi3⟩:=info_parts hi;obtain⟨g1,ao',cap',rfl,g2,g3,g4,g5⟩:=id hown;refine⟨.slice ao' n cap',w,?_,by simpa using hown,cB.refl _ _, .inl rfl⟩
  cases ao with
  |none=>cases ao'<;>simp[Builtin.append_,run_underlying ht,sizeOf,typeInfo,hi0,Builtin.lenOf,g2,Builtin.firstCells,storeCells]
  |some ad=>cases ao'<;>simp[Builtin.append_,run_underlying ht,sizeOf,typeInfo,hi0,Builtin.lenOf,g2,Builtin.firstCells,storeCells,loadCells,loadCellsFrom]
 ·obtain⟨b,off,rfl,hc⟩:=r4 (by omega);exact aF2 base t ty e z size bytes ht hi hzs hsz v n xs hown ⟨b,off,none⟩ m cap news r1 (fun j u hj=>by
   have:j<news.length:=(List.getElem?_eq_some_iff.1 hj).1;rw[Addr.add_lit,hc j (by omega)];exact hj) h1 h63 hbytes hbase
structure Chunk where
 holds:World→Prop
 dA:Nat→Prop
 bE:Bool
 lT:∀{S:Nat→Prop} {w w':World},cB S w w'→(∀b,dA b→¬S b)→holds w→holds w'
 lt:∀{w:World},holds w→∀b,dA b→b<w.heap.size
structure Mem(w:World)(L:List Chunk):Prop where
 all:∀c∈L,c.holds w
 sep:L.Pairwise (fun c d=>(c.bE=true∨d.bE=true)→∀b,c.dA b→¬d.dA b)
theorem Mem.perm{w:World}{L M:List Chunk}(h:Mem w L)(p:L.Perm M):Mem w M:=
 ⟨fun c hc=>h.all c (p.mem_iff.2 hc),(p.pairwise_iff (fun{x y} hxy hd b hb hb'=>hxy hd.symm b hb' hb)).1 h.sep⟩
theorem Mem.nil(w:World):Mem w []:=⟨by simp, .nil⟩
theorem Mem.sub{w:World}{L M:List Chunk}(h:Mem w L)(s:M.Sublist L):Mem w M:=⟨fun c hc=>h.all c (s.subset hc),h.sep.sublist s⟩
theorem Mem.right{w:World}{L M:List Chunk}(h:Mem w (L ++M)):Mem w M:=h.sub (List.sublist_append_right _ _)
theorem Mem.left{w:World}{L M:List Chunk}(h:Mem w (L ++M)):Mem w L:=h.sub (List.sublist_append_left _ _)
theorem Mem.same{w w':World}{L:List Chunk}(h:Mem w L)(k:cB Nil w w'):Mem w' L:=
 ⟨fun c hc=>c.lT k (fun _ _ h=>h) (h.all c hc),h.sep⟩
theorem Mem.drew{w:World}{L:List Chunk}(h:Mem w L):Mem w.drew L:=h.same (cB.refl _ _).drew
theorem Mem.step{w w':World}{pre post F:List Chunk}{S:Nat→Prop}(h:Mem w (pre ++F))(k:cB S w w')
  (hS:∀b,S b→b<w.heap.size→∃c∈pre,c.bE=true∧c.dA b)
  (hp:∀c∈post,c.holds w') (hs:post.Pairwise (fun c d=>(c.bE=true∨d.bE=true)→∀b,c.dA b→¬d.dA b))
  (hf:∀c∈post,∀b,c.dA b→(∃d∈pre,(c.bE=true→d.bE=true)∧d.dA b)∨w.heap.size≤b):Mem w' (post ++F):=by
 have hsep:=List.pairwise_append.1 h.sep;refine⟨fun c hc=>?_,List.pairwise_append.2 ⟨hs,hsep.2.1,fun c hc d hd hx b hb hb'=>?_⟩⟩
 ·rcases List.mem_append.1 hc with hc|hc
  ·exact hp c hc
  ·have hcw:=h.all c (List.mem_append_right _ hc);refine c.lT k (fun b hb hSb=>?_) hcw;obtain⟨d,hd,hx,hdb⟩:=hS b hSb (c.lt hcw b hb);exact hsep.2.2 d hd c hc (.inl hx) b hdb hb
 ·have hdw:=h.all d (List.mem_append_right _ hd);rcases hf c hc b hb with⟨p,hp',hpx,hpb⟩|hge
  ·exact hsep.2.2 p hp' d hd (hx.imp hpx id) b hpb hb'
  ·have:=d.lt hdw b hb';omega
theorem Mem.add{w w':World}{L:List Chunk}(h:Mem w L)(k:cB Nil w w'){c:Chunk}(hc:c.holds w')(hf:∀b,c.dA b→w.heap.size≤b):Mem w' (c::L):=
 Mem.step (pre:=[]) (post:=[c]) (F:=L) h k (fun _ h=>h.elim) (by simpa using hc) (by simp) (fun d hd b hb=>by simp at hd;subst hd;exact .inr (hf b hb))
theorem Mem.s6{w w':World}{L:List Chunk}{c c':Chunk}{S:Nat→Prop}(h:Mem w (c::L))(k:cB S w w')(hx:c.bE=true)(hS:∀b,S b→b<w.heap.size→c.dA b)
  (hc:c'.holds w') (hf:∀b,c'.dA b→c.dA b∨w.heap.size≤b):Mem w' (c'::L):=
 Mem.step (pre:=[c]) (post:=[c']) (F:=L) h k (fun b hb hl=>⟨c,by simp,hx,hS b hb hl⟩) (by simpa using hc) (by simp)
  (fun d hd b hb=>by simp at hd;subst hd;exact(hf b hb).imp (fun h=>⟨c,by simp,fun _=>hx,h⟩) id)
inductive Take(c:Chunk):List Chunk→List Chunk→Prop
 |head {L:List Chunk}:Take c (c::L) L
 |tail {d:Chunk} {L L':List Chunk}:Take c L L'→Take c (d::L) (d::L')
theorem Take.perm{c:Chunk}{L L':List Chunk}(h:Take c L L'):L.Perm (c::L'):=by
 induction h with
 |head=>exact List.Perm.refl _
 |tail _ ih=>exact(List.Perm.cons _ ih).trans (List.Perm.swap _ _ _)
inductive aR:List Chunk→List Chunk→List Chunk→Prop
 |nil {L:List Chunk}:aR [] L L
 |cons {c:Chunk} {cs L L' F:List Chunk}:Take c L L'→aR cs L' F→aR (c::cs) L F
theorem aR.perm{cs L F:List Chunk}(h:aR cs L F):L.Perm (cs ++F):=by
 induction h with
 |nil=>exact List.Perm.refl _
 |cons h1 _ ih=>exact h1.perm.trans (List.Perm.cons _ ih)
theorem Mem.take{w:World}{c:Chunk}{L L':List Chunk}(h:Mem w L)(t:Take c L L'):Mem w (c::L'):=h.perm t.perm
theorem Mem.aP{w:World}{cs L F:List Chunk}(h:Mem w L)(t:aR cs L F):Mem w (cs ++F):=h.perm t.perm
theorem Mem.has{w:World}{c:Chunk}{L L':List Chunk}(h:Mem w L)(t:Take c L L'):c.holds w:=(h.take t).all c (by simp)
@[irreducible] def aF (b : Nat) (cs : List Value) (t : TypeId) : Chunk where
 holds w:=eX w b cs.toArray t
 dA k:=k=b
 bE:=true
 lT k hs h:=h.pN k (hs _ rfl)
 lt h k hk:=by subst hk;exact h.lt
class bH {α:Type} [Inhabited α] (f:α→List Value):Prop where
 len:∀a,(f a).length=(f default).length
 pos:0<(f default).length
 one:∀a,∀u∈f a,u.oneCell'=true
abbrev sz{α:Type} [Inhabited α](f:α→List Value):Nat:=(f default).length
theorem Row.tW{w w':World}{v:Value}{size n:Nat}{cs:List Value}(h:Row w v size n cs)(hz:0<size){S:Nat→Prop}(k:cB S w w')(hs:∀b,v.ownBlock=some b→0<n→¬S b):Row w' v size n cs:=by
 obtain⟨h1,h2,ao,cap,rfl,h3,h4⟩:=h;refine⟨h1,h2,ao,cap,rfl,h3,fun hn=>?_⟩;obtain⟨b,off,rfl,hc⟩:=h4 hn;refine⟨b,off,rfl,fun j hj=>?_⟩;have hlt:b<w.heap.size:=World.block_lt_of_cell? w _ ((hc j hj).trans (List.getElem?_eq_getElem (by omega)));rw[k.cell (p:=⟨b,off+j,none⟩) hlt (hs b rfl hn)];exact hc j hj
theorem Row.tZ{w:World}{v:Value}{size n:Nat}{cs:List Value}(h:Row w v size n cs)(hz:0<size)(hn:0<n):∀b,v.ownBlock=some b→b<w.heap.size:=by
 obtain⟨h1,h2,ao,cap,rfl,h3,h4⟩:=h;intro b hb;obtain⟨b',off,rfl,hc⟩:=h4 hn;simp[Value.ownBlock]at hb;subst hb;have:0<n*size:=Nat.mul_pos hn hz;exact World.block_lt_of_cell? w _ ((hc 0 this).trans (List.getElem?_eq_getElem (by omega)))
def jW(w:World)(e:TypeId)(size:Nat)(ao:Option Addr)(n cap:Nat)(xs:List Value):Prop:=
 (cap=0∧n=0∧xs=[])∨(0<cap∧Own w 0 e size (.slice ao n cap) n xs)
theorem jW.of{w:World}{e:TypeId}{size:Nat}{ao:Option Addr}{n cap:Nat}{xs:List Value}(h:Own w 0 e size (.slice ao n cap) n xs):jW w e size ao n cap xs:=by
 by_cases hc:0<cap
 ·exact .inr ⟨hc,h⟩
 ·obtain⟨h1,ao',cap',he,h2,h3,h4,h5⟩:=h;simp only[Value.slice.injEq]at he;obtain⟨rfl, -,rfl⟩:=he;obtain rfl:n=0:=by omega
  exact .inl ⟨by omega,rfl,List.eq_nil_of_length_eq_zero (by simpa using h1)⟩
theorem jW.pN{w w':World}{e:TypeId}{size:Nat}{ao:Option Addr}{n cap:Nat}{xs:List Value}(h:jW w e size ao n cap xs){S:Nat→Prop}(k:cB S w w')(hs:∀b,(Value.slice ao n cap).ownBlock=some b→0<cap→¬S b):jW w' e size ao n cap xs:=by
 rcases h with h|⟨h0,h⟩
 ·exact .inl h
 ·exact .inr ⟨h0,h.pN k (fun b hb=>hs b hb h0)⟩
theorem jW.lt{w:World}{e:TypeId}{size:Nat}{ao:Option Addr}{n cap:Nat}{xs:List Value}(h:jW w e size ao n cap xs):∀k,(Value.slice ao n cap).ownBlock=some k→0<cap→k<w.heap.size:=by
 intro k hk h0;rcases h with h|⟨-,h⟩
 ·omega
 ·exact(h.lt k hk).2
theorem jW.row{w:World}{e:TypeId}{size:Nat}{ao:Option Addr}{n cap:Nat}{xs:List Value}(h:jW w e size ao n cap xs)(hz:0<size):Row w (.slice ao n cap) size n xs:=by
 rcases h with⟨rfl,rfl,rfl⟩|⟨-,h⟩
 ·exact⟨by simp,Nat.zero_le _,ao,0,rfl,Nat.le_refl _,fun h=>absurd h (Nat.lt_irrefl 0)⟩
 ·exact h.row hz
theorem jW.le{w:World}{e:TypeId}{size:Nat}{ao:Option Addr}{n cap:Nat}{xs:List Value}(h:jW w e size ao n cap xs):n≤cap:=by
 rcases h with⟨rfl,rfl,rfl⟩|⟨-,h⟩
 ·exact Nat.le_refl _
 ·obtain⟨-,ao',cap',g2,g3, -⟩:=h;simp only[Value.slice.injEq]at g2;obtain⟨-, -,rfl⟩:=g2;exact g3
theorem jW.own{w:World}{e:TypeId}{size:Nat}{ao:Option Addr}{n cap:Nat}{xs:List Value}(h:jW w e size ao n cap xs)(hn:0<cap):Own w 0 e size (.slice ao n cap) n xs:=by
 rcases h with⟨h, -⟩|⟨-,h⟩
 ·omega
 ·exact h
section
variable{α:Type} [Inhabited α]
@[irreducible] def arr (ao : Option Addr) (n cap : Nat) (e : TypeId) (f : α → List Value) [bH f] (l : List α) : Chunk where
 holds w:=jW w e (sz f) ao n cap (l.flatMap f)∧l.length=n
 dA k:=(Value.slice ao n cap).ownBlock=some k∧0<cap
 bE:=true
 lT k hs h:=⟨h.1.pN k (fun b hb h0=>hs b ⟨hb,h0⟩),h.2⟩
 lt h k hk:=h.1.lt k hk.1 hk.2
@[irreducible] def rd (ao : Option Addr) (n cap : Nat) (f : α → List Value) [bH f] (l : List α) : Chunk where
 holds w:=Row w (.slice ao n cap) (sz f) n (l.flatMap f)∧l.length=n
 dA k:=(Value.slice ao n cap).ownBlock=some k∧0<n
 bE:=false
 lT k hs h:=⟨h.1.tW bH.pos k (fun b hb hn=>hs b ⟨hb,hn⟩),h.2⟩
 lt h b hb:=h.1.tZ bH.pos hb.2 b hb.1
variable{ao:Option Addr}{n cap k:Nat}{e:TypeId}{f:α→List Value} [bH f]{l:List α}{w:World}
theorem fV:(arr ao n cap e f l).holds w↔jW w e (sz f) ao n cap (l.flatMap f)∧l.length=n:=by unfold arr;exact Iff.rfl
theorem gG:(arr ao n cap e f l).dA k↔(Value.slice ao n cap).ownBlock=some k∧0<cap:=by unfold arr;exact Iff.rfl
theorem dU:(arr ao n cap e f l).bE=true:=by unfold arr;rfl
theorem jJ:(rd ao n cap f l).holds w↔Row w (.slice ao n cap) (sz f) n (l.flatMap f)∧l.length=n:=by unfold rd;exact Iff.rfl
theorem iZ:(rd ao n cap f l).dA k↔(Value.slice ao n cap).ownBlock=some k∧0<n:=by unfold rd;exact Iff.rfl
theorem eO:(rd ao n cap f l).bE=false:=by unfold rd;rfl
end
@[irreducible] def aO (w0 : World) (S : Nat → Prop) : Chunk where
 holds w:=cB S w0 w
 dA k:=k<w0.heap.size∧¬S k
 bE:=false
 lT k hs h:=h.trans k (fun i hi hS=>Classical.byContradiction fun hn=>hs i ⟨hi,hn⟩ hS)
 lt h k hk:=Nat.lt_of_lt_of_le hk.1 h.size
theorem jO{w:World}{b:Nat}{cs:List Value}{t:TypeId}:(aF b cs t).holds w↔eX w b cs.toArray t:=by unfold aF;exact Iff.rfl
theorem sJ{b k:Nat}{cs:List Value}{t:TypeId}:(aF b cs t).dA k↔k=b:=by unfold aF;exact Iff.rfl
theorem iL{b:Nat}{cs:List Value}{t:TypeId}:(aF b cs t).bE=true:=by unfold aF;rfl
theorem MD{w w0:World}{S:Nat→Prop}:(aO w0 S).holds w↔cB S w0 w:=by unfold aO;exact Iff.rfl
theorem UM{w0:World}{S:Nat→Prop}{k:Nat}:(aO w0 S).dA k↔k<w0.heap.size∧¬S k:=by unfold aO;exact Iff.rfl
def e7(L:List Chunk):Nat→Prop:=fun b=>∃c∈L,c.bE=true∧c.dA b
theorem Mem.since{w:World}{L:List Chunk}(h:Mem w L):Mem w (aO w (e7 L)::L):=by
 refine⟨fun c hc=>?_,List.pairwise_cons.2 ⟨fun c hc hx b hb hb'=>?_,h.sep⟩⟩
 ·rcases List.mem_cons.1 hc with rfl|hc
  ·exact MD.2 (cB.refl _ _)
  ·exact h.all c hc
 ·have hb:=UM.1 hb;rcases hx with hx|hx
  ·simp[aO]at hx
  ·exact hb.2 ⟨c,hc,hx,hb'⟩
inductive Reads(w:World):List Chunk→List Chunk→Prop
 |nil {F:List Chunk}:Reads w [] F
 |cons {r c:Chunk} {R F F':List Chunk}:Take c F F'→r.bE=false→(c.holds w→r.holds w∧∀b,r.dA b→c.dA b)→Reads w R F→Reads w (r::R) F
theorem Reads.mem{w:World}{R F:List Chunk}(h:Reads w R F):∀r∈R,r.bE=false∧∃c∈F,(c.holds w→r.holds w∧∀b,r.dA b→c.dA b):=by
 induction h with
 |nil=>simp
 |cons t hx hc _ ih=>
  intro r hr;rcases List.mem_cons.1 hr with rfl|hr
  ·exact⟨hx,_,t.perm.mem_iff.2 (by simp),hc⟩
  ·exact ih r hr
theorem Mem.reads{w:World}{R pre F:List Chunk}(h:Mem w (pre ++F))(hr:Reads w R F):Mem w (R ++pre):=by
 have hsep:=List.pairwise_append.1 h.sep;refine⟨fun c hc=>?_,List.pairwise_append.2 ⟨?_,hsep.1,fun r hr' d hd hx b hb hb'=>?_⟩⟩
 ·rcases List.mem_append.1 hc with hc|hc
  ·obtain⟨-,d,hd,hh⟩:=hr.mem c hc;exact(hh (h.all d (List.mem_append_right _ hd))).1
  ·exact h.all c (List.mem_append_left _ hc)
 ·exact List.Pairwise.imp_of_mem (R:=fun _ _=>True) (fun{x y} hx hy _ hxy=>by
   rw[(hr.mem x hx).1,(hr.mem y hy).1]at hxy;simp at hxy) (by rw[List.pairwise_iff_forall_sublist];intros;trivial)
 ·obtain⟨hrx,c,hc,hh⟩:=hr.mem r hr';have hcw:=hh (h.all c (List.mem_append_right _ hc));have hdx:d.bE=true:=by rcases hx with hx|hx;rw[hrx]at hx;cases hx;exact hx
  exact hsep.2.2 d hd c hc (.inl hdx) b hb' (hcw.2 b hb)
theorem Mem.frame{w w':World}{pre F M:List Chunk}(h:Mem w (pre ++F))(h':Mem w' (aO w (e7 pre)::M))(hx:∀c∈M,c.bE=true):Mem w' (M ++F):=by
 have ho:cB (e7 pre) w w':=MD.1 (h'.all _ (by simp));have hp:=List.pairwise_cons.1 h'.sep;refine Mem.step (pre:=pre) h ho (fun b hb _=>hb) (fun c hc=>h'.all c (by simp[hc])) hp.2 (fun c hc b hb=>?_)
 by_cases hlt:w.heap.size≤b
 ·exact .inr hlt
 ·left
  have:=hp.1 c hc (.inr (hx c hc)) b
  by_cases hf:e7 pre b
  ·obtain⟨d,hd,hdx,hdb⟩:=hf;exact⟨d,hd,fun _=>hdx,hdb⟩
  ·exact absurd hb (this (UM.2 ⟨by omega,hf⟩))
end
section
open Go
section
variable{P:Program}{ops:Array Oper}{Q:Exit→Act→World→Prop}{md:Region.Mode}{e:Nat}{T:World→Prop}
def p9(P:Program)(md:Region.Mode)(ops:Array Oper)(Q:Exit→Act→World→Prop)(e:Nat)(T:World→Prop):Nat→Array Bool→Act→World→Prop
 |0,listed,a,w=>Region.ready md ops listed=[]∧Q .normal a w
 |fuel+1,listed,a,w=>
  (Region.ready md ops listed=[]→Q .normal a w)∧
  ∀i∈Region.ready md ops listed,wpOp P ops Q i (fun a' w'=>((listed.setIfInBounds i true).getD e false=true∨T w')∧p9 P md ops Q e T fuel (listed.setIfInBounds i true) a' w') a w
theorem ZM:∀(fuel:Nat) (listed:Array Bool) (a:Act) (w:World),p9 P md ops Q e T fuel listed a w→wpAny P md ops Q fuel listed a w
 |0,_,_,_,h=>h
 |fuel+1,_,_,_,h=>⟨h.1,fun i hi=>wpOp_mono (fun a' w' h'=>ZM fuel _ a' w' h'.2) (h.2 i hi)⟩
def waits(md:Region.Mode)(ops:Array Oper)(e i:Nat):Bool:=match ops[e]? with
 |some o=>o.after.any fun x=>Region.binds md x&&x.on==i
 |none=>false
theorem xS{listed:Array Bool}{i j:Nat}(h:i≠j):(listed.setIfInBounds i true).getD j false=listed.getD j false:=by
 simp[Array.getD_eq_getD_getElem?,h]
theorem ZJ{i:Nat}{oi:Oper}{v:Value}(hi:ops[i]?=some oi)(hsel:∀(j:Nat) (o:Oper) cs b,ops[j]?=some o→o.op≠ .select cs b)
  (hQ:∀c a w,Q (.panic c) (a.put oi.dst v) w→Q (.panic c) a w):
  ∀(fuel:Nat) (listed:Array Bool) (a:Act) (w:World),
   (∀j oj,ops[j]?=some oj→j≠i→listed.getD j true=false→(∀x∈oj.after,Region.binds md x=true→x.on≠i)→oi.apart ops oj=true)→
   i∈Region.ready md ops listed→i≠e→YieldsIf P ops (fun _=>True) oi v a→(listed.getD e false=true∨T w)→
   p9 P md ops Q e T fuel (listed.setIfInBounds i true) (a.put oi.dst v) w→p9 P md ops Q e T (fuel+1) listed a w:=by
 intro fuel
 induction fuel with
 |zero=>
  intro listed a w _ hr hie hy hT H;refine⟨fun h=>(by rw[h]at hr;cases hr),fun j hj=>?_⟩
  by_cases hji:j=i
  ·subst hji;exact hy.wpOp hi trivial ⟨by rw[xS hie];exact hT,H⟩
  ·have:=ready_mono hj hji;rw[H.1]at this
   cases this
 |succ fuel ih=>
  intro listed a w hfree hr hie hy hT H;refine⟨fun h=>(by rw[h]at hr;cases hr),fun j hj=>?_⟩
  by_cases hji:j=i
  ·subst hji;exact hy.wpOp hi trivial ⟨by rw[xS hie];exact hT,H⟩
  ·have h1:=H.2 j (ready_mono hj hji);obtain⟨hjun,oj,hoj,hall⟩:=mem_ready.1 hj;have hnot:∀x∈oj.after,Region.binds md x=true→x.on≠i:=fun x hx hb heq=>by
    have h1:=hall x hx hb;have h0:=(mem_ready.1 hr).1;rw[heq]at h1;rcases Nat.lt_or_ge i listed.size with h'|h'
    ·simp[h']at h0 h1;rw[h0]at h1;cases h1
    ·simp[Array.getElem?_eq_none h']at h1
   have h2:=wpOp_putIf hoj (hfree j oj hoj hji hjun hnot) (fun cs b=>hsel i oi cs b hi) (fun cs b=>hsel j oj cs b hoj) hQ hy h1;have hfree':∀k ok,ops[k]?=some ok→k≠i→(listed.setIfInBounds j true).getD k true=false→
     (∀x∈ok.after,Region.binds md x=true→x.on≠i)→oi.apart ops ok=true:=fun k ok hk hki hun hno=>by
    refine hfree k ok hk hki ?_ hno
    by_cases hjk:j=k
    ·subst hjk;exact hjun
    ·rw[getD_set_ne true hjk]at hun;exact hun
   refine wpOp_mono (fun a' w' h3=>?_) h2;have hT':(listed.setIfInBounds j true).getD e false=true∨T w':=by
    rcases h3.2.1 with h4|h4
    ·rw[Array.setIfInBounds_comm _ _ (Ne.symm hji),xS hie]at h4;exact .inl h4
    ·exact .inr h4
   refine⟨hT',ih (listed.setIfInBounds j true) a' w' hfree' (ready_mono hr (Ne.symm hji)) hie h3.1 hT' ?_⟩;rw[Array.setIfInBounds_comm _ _ hji];exact h3.2.2
theorem ZK{i:Nat}{oi:Oper}{v:Value}(hi:ops[i]?=some oi)(hsel:∀(j:Nat) (o:Oper) cs b,ops[j]?=some o→o.op≠ .select cs b)
  (hQ:∀c a w,Q (.panic c) (a.put oi.dst v) w→Q (.panic c) a w) (he:ops.size≤e):
  ∀(fuel:Nat) (listed:Array Bool) (a:Act) (w:World),listed.size=ops.size→
   (∀j oj,ops[j]?=some oj→j≠i→listed.getD j true=false→(∀x∈oj.after,Region.binds md x=true→x.on≠i)→oi.apart ops oj=true)→
   i∈Region.ready md ops listed→YieldsIf P ops T oi v a→T w→
   p9 P md ops Q e T fuel (listed.setIfInBounds i true) (a.put oi.dst v) w→p9 P md ops Q e T (fuel+1) listed a w:=by
 intro fuel;have never:∀(l:Array Bool),l.size=ops.size→l.getD e false=false:=fun l hl=>by simp[Array.getD_eq_getD_getElem?,Array.getElem?_eq_none (show l.size≤e by omega)]
 induction fuel with
 |zero=>
  intro listed a w hsz _ hr hy hT H;refine⟨fun h=>(by rw[h]at hr;cases hr),fun j hj=>?_⟩
  by_cases hji:j=i
  ·subst hji;exact hy.wpOp hi hT ⟨.inr hT,H⟩
  ·have:=ready_mono hj hji;rw[H.1]at this
   cases this
 |succ fuel ih=>
  intro listed a w hsz hfree hr hy hT H;refine⟨fun h=>(by rw[h]at hr;cases hr),fun j hj=>?_⟩
  by_cases hji:j=i
  ·subst hji;exact hy.wpOp hi hT ⟨.inr hT,H⟩
  ·have h1:=H.2 j (ready_mono hj hji);obtain⟨hjun,oj,hoj,hall⟩:=mem_ready.1 hj;have hnot:∀x∈oj.after,Region.binds md x=true→x.on≠i:=fun x hx hb heq=>by
    have h1:=hall x hx hb;have h0:=(mem_ready.1 hr).1;rw[heq]at h1;rcases Nat.lt_or_ge i listed.size with h'|h'
    ·simp[h']at h0 h1;rw[h0]at h1;cases h1
    ·simp[Array.getElem?_eq_none h']at h1
   have h2:=wpOp_putIf hoj (hfree j oj hoj hji hjun hnot) (fun cs b=>hsel i oi cs b hi) (fun cs b=>hsel j oj cs b hoj) hQ hy h1;have hfree':∀k ok,ops[k]?=some ok→k≠i→(listed.setIfInBounds j true).getD k true=false→
     (∀x∈ok.after,Region.binds md x=true→x.on≠i)→oi.apart ops ok=true:=fun k ok hk hki hun hno=>by
    refine hfree k ok hk hki ?_ hno
    by_cases hjk:j=k
    ·subst hjk;exact hjun
    ·rw[getD_set_ne true hjk]at hun;exact hun
   refine wpOp_mono (fun a' w' h3=>?_) h2;have hT':T w':=by
    rcases h3.2.1 with h4|h4
    ·rw[never _ (by simp[hsz])]at h4;cases h4
    ·exact h4
   refine⟨.inr hT',ih (listed.setIfInBounds j true) a' w' (by simp[hsz]) hfree' (ready_mono hr (Ne.symm hji)) h3.1 hT' ?_⟩;rw[Array.setIfInBounds_comm _ _ hji];exact h3.2.2
def p8(md:Region.Mode)(ops:Array Oper)(i:Nat):Nat→Nat→Bool
 |0,_=>false
 |n+1,e=>match ops[e]? with
  |some o=>o.after.any fun x=>Region.binds md x&&(x.on==i||p8 md ops i n x.on)
  |none=>false
def vG(md:Region.Mode)(ops:Array Oper)(listed:Array Bool):Bool:=(List.range ops.size).all fun k=>!(listed.getD k false)||(match ops[k]? with
 |some o=>o.after.all fun x=>!Region.binds md x||listed.getD x.on false
 |none=>true)
def wT(md:Region.Mode)(ops:Array Oper)(listed:Array Bool):Prop:=∀k o,ops[k]?=some o→listed.getD k false=true→∀x∈o.after,Region.binds md x=true→listed.getD x.on false=true
theorem QV{listed:Array Bool}(h:vG md ops listed=true):wT md ops listed:=by
 intro k o ho hl x hx hb;have hk:k<ops.size:=(Array.getElem?_eq_some_iff.1 ho).1;have:=(List.all_eq_true.1 h) k (List.mem_range.2 hk);rw[hl,ho]at this;simp only[Bool.not_true,Bool.false_or]at this;have h2:=(Array.all_eq_true'.1 this) x hx;rw[hb]at h2;simpa using h2
theorem wT.upon{listed:Array Bool}(hc:wT md ops listed){i:Nat}:∀(n e:Nat) (o:Oper),ops[e]?=some o→(∀x∈o.after,Region.binds md x=true→listed.getD x.on false=true)→p8 md ops i n e=true→listed.getD i false=true
 |0,e,o,ho,hall,hw=>by cases hw
 |n+1,e,o,ho,hall,hw=>by
  simp only[p8,ho,Array.any_eq_true']at hw;obtain⟨x,hx,hb⟩:=hw;simp only[Bool.and_eq_true,Bool.or_eq_true,beq_iff_eq]at hb;have h1:=hall x hx hb.1;rcases hb.2 with h2|h2
  ·rw[←h2];exact h1
  ·cases n with
   |zero=>cases h2
   |succ n=>
    have h3:=h2;simp only[p8]at h3
    cases ho':ops[x.on]? with
    |none=>rw[ho']at h3;cases h3
    |some o'=>exact hc.upon (n+1) x.on o' ho' (hc x.on o' ho' h1) h2
theorem wT.set{listed:Array Bool}(hc:wT md ops listed){j:Nat}(hj:j∈Region.ready md ops listed):wT md ops (listed.setIfInBounds j true):=by
 intro k o ho hl x hx hb;have hmono:∀y,listed.getD y false=true→(listed.setIfInBounds j true).getD y false=true:=by
  intro y hy
  by_cases hyj:j=y
  ·subst hyj;have hlt:j<listed.size:=by
    rcases Nat.lt_or_ge j listed.size with h|h
    ·exact h
    ·simp[Array.getD_eq_getD_getElem?,Array.getElem?_eq_none h]at hy
   simp[Array.getD_eq_getD_getElem?,hlt]
  ·rw[xS hyj];exact hy
 by_cases hkj:j=k
 ·subst hkj;obtain⟨-,o',ho',hall⟩:=mem_ready.1 hj;rw[ho]at ho';cases ho';exact hmono _ (hall x hx hb)
 ·rw[xS hkj]at hl;exact hmono _ (hc k o ho hl x hx hb)
theorem aFI{listed:Array Bool}{i:Nat}(h:i∈Region.ready md ops listed):listed.getD i false=false:=by
 have h0:=(mem_ready.1 h).1;rcases Nat.lt_or_ge i listed.size with h'|h'
 ·simpa[Array.getD_eq_getD_getElem?,h']using h0
 ·simp[Array.getD_eq_getD_getElem?,Array.getElem?_eq_none h']
theorem ZL{i:Nat}{oi:Oper}{v:Value}(hi:ops[i]?=some oi)(hsel:∀(j:Nat) (o:Oper) cs b,ops[j]?=some o→o.op≠ .select cs b)
  (hQ:∀c a w,Q (.panic c) (a.put oi.dst v) w→Q (.panic c) a w) {n:Nat} (hw:p8 md ops i n e=true):
  ∀(fuel:Nat) (listed:Array Bool) (a:Act) (w:World),wT md ops listed→
   (∀j oj,ops[j]?=some oj→j≠i→listed.getD j true=false→(∀x∈oj.after,Region.binds md x=true→x.on≠i)→oi.apart ops oj=true)→
   i∈Region.ready md ops listed→YieldsIf P ops T oi v a→T w→
   p9 P md ops Q e T fuel (listed.setIfInBounds i true) (a.put oi.dst v) w→p9 P md ops Q e T (fuel+1) listed a w:=by
 intro fuel
 induction fuel with
 |zero=>
  intro listed a w _ _ hr hy hT H;refine⟨fun h=>(by rw[h]at hr;cases hr),fun j hj=>?_⟩
  by_cases hji:j=i
  ·subst hji;exact hy.wpOp hi hT ⟨.inr hT,H⟩
  ·have:=ready_mono hj hji;rw[H.1]at this
   cases this
 |succ fuel ih=>
  intro listed a w hcl hfree hr hy hT H;have hun:=aFI hr;have hle:listed.getD e false=false:=by
   cases hle:listed.getD e false with
   |false=>rfl
   |true=>
    cases n with
    |zero=>cases hw
    |succ n=>
     have h3:=hw;simp only[p8]at h3
     cases ho':ops[e]? with
     |none=>rw[ho']at h3;cases h3
     |some o'=>
      have:=hcl.upon (n+1) e o' ho' (hcl e o' ho' hle) hw;rw[hun]at this;cases this
  refine⟨fun h=>(by rw[h]at hr;cases hr),fun j hj=>?_⟩
  by_cases hji:j=i
  ·subst hji;exact hy.wpOp hi hT ⟨.inr hT,H⟩
  ·have h1:=H.2 j (ready_mono hj hji);obtain⟨hjun,oj,hoj,hall⟩:=mem_ready.1 hj;have hnot:∀x∈oj.after,Region.binds md x=true→x.on≠i:=fun x hx hb heq=>by
    have h1:=hall x hx hb;rw[heq,hun]at h1
    cases h1
   have hje:j≠e:=fun he=>by
    subst he;have:=hcl.upon n j oj hoj hall hw;rw[hun]at this;cases this
   have hie:i≠e:=fun he=>by
    subst he;obtain⟨h0,o',ho',hall'⟩:=mem_ready.1 hr;have:=hcl.upon n i o' ho' hall' hw;rw[hun]at this;cases this
   have h2:=wpOp_putIf hoj (hfree j oj hoj hji hjun hnot) (fun cs b=>hsel i oi cs b hi) (fun cs b=>hsel j oj cs b hoj) hQ hy h1;have hfree':∀k ok,ops[k]?=some ok→k≠i→(listed.setIfInBounds j true).getD k true=false→
     (∀x∈ok.after,Region.binds md x=true→x.on≠i)→oi.apart ops ok=true:=fun k ok hk hki hun hno=>by
    refine hfree k ok hk hki ?_ hno
    by_cases hjk:j=k
    ·subst hjk;exact hjun
    ·rw[getD_set_ne true hjk]at hun;exact hun
   refine wpOp_mono (fun a' w' h3=>?_) h2;have hT':T w':=by
    rcases h3.2.1 with h4|h4
    ·rw[xS hje,xS hie,hle]at h4;cases h4
    ·exact h4
   refine⟨.inr hT',ih (listed.setIfInBounds j true) a' w' (hcl.set hj) hfree' (ready_mono hr (Ne.symm hji)) h3.1 hT' ?_⟩;rw[Array.setIfInBounds_comm _ _ hji];exact h3.2.2
theorem UN{i:Nat}{o:Oper}{fuel:Nat}{listed:Array Bool}{a:Act}{w:World}(hr:Region.ready md ops listed=[i])(ho:ops[i]?=some o)
  (h:∀K':Act→World→Prop,(∀a' w',((listed.setIfInBounds i true).getD e false=true∨T w')→p9 P md ops Q e T fuel (listed.setIfInBounds i true) a' w'→K' a' w')→
   if Region.wanted o (yielded ops a.tmps)=true then Oper.wp P o a w K' Q else K' (a.put o.dst undef) w):p9 P md ops Q e T (fuel+1) listed a w:=by
 refine⟨fun h0=>(by rw[h0]at hr;cases hr),fun j hj=>?_⟩;rw[hr]at hj;obtain rfl:j=i:=by simpa using hj
 exact wpOp_step ho fun K' hK'=>h K' fun a' w' h1 h2=>hK' a' w' ⟨h1,h2⟩
theorem aBO{listed:Array Bool}{a:Act}{w:World}(hr:Region.ready md ops listed=[])(h:Q .normal a w):∀fuel,p9 P md ops Q e T fuel listed a w
 |0=>⟨hr,h⟩
 |_+1=>⟨fun _=>h,by rw[hr];simp⟩
theorem aFK(e:Nat)(T:World→Prop){id:Nat}{a:Act}{w:World}(hm:P.follows .mixedOrders=true)
  (h:p9 P .any ops Q e T ops.size (Array.replicate ops.size false) a w.drew):(Code.region id ops true).wp P Q a w:=
 wp_region_any hm (ZM _ _ _ _ h)
end
end
end Go.Proofs.YtofckcabpchcmaaGreatDoor
