/- The rows of the whole: a start that fits; what a tied row over a text and picks asks. -/
import Derived.Test.YtofckcabpchcmaaGreatDoorM25
import Derived.Test.YtofckcabpchcmaaGreatDoorTie
import Derived.Test.YtofckcabpchcmaaGreatDoorCards
import Derived.Shelf.Vars
import Derived.LaidMore
import Derived.Stop.Joined
import Derived.ChangeMaps5
import Derived.SevenTiedAt
set_option linter.unusedVariables false
set_option linter.unusedSimpArgs false
set_option linter.unusedSectionVars false
set_option maxRecDepth 100000
namespace Go.Proofs.YtofckcabpchcmaaGreatDoor
namespace TopImage
open Go.ChangeShapes Go.WideShapes Go.ChangeAt Go.RowKit
open Go.ChangeMaps (open_string)
theorem own:ownKnob Tryz.prog.godebug=none:=b7
theorem aBR(os:Os)(args:Array Value):laidMetH Tryz.prog Rows.topImageRow.laid ((World.doorLaid Tryz.prog 100 os).forCall (fun _ _=>0) ⟨#[],args,[]⟩).memory:=
 laidMetH_of_parts3 (fuel:=8) (laidMet_of_run' 8 b7 b7) b7 b7
theorem aBy{W:World}(h:W.ShapedOpen Tryz.prog):∃m,W.cell? ⟨Vw.zR,0,none⟩=some (.int .i64 m):=
 cell_of_shapedOpen_int (zero:= #[.int .i64 0]) (t:=3) h (of_decide_eq_true b7) b7 rfl b7 b7 Tryz.underlying3
set_option maxHeartbeats 1000000 in
theorem lifted(hfix:∀(t:List UInt8) (ps:Vw.sG),t.length≤9223372036854775807→Fn Tryz.prog 5 #[sv t,ps.val] [Vw.cF,Vw.vR ps] [] (σ:=Unit) (fun _=>True) (fun _=> .bool true) (fun _=>[]))
  (os:Os) (started:os.Started) (H:Type) (enc:TypeId×Value→H):
  ReturnsInHanded {} Tryz.checked os 5 .any (fun w args=>(Rows.topImageSpec.pre enc Tryz.prog Tryz.f5 [] false w args∧laidMetH Tryz.prog Rows.topImageRow.laid w)∧sizedMet enc Tryz.prog Tryz.f5 (OpenSpec.ofChange Rows.topImageSpec) false w args)
   (Rows.topImageSpec.post enc Tryz.prog Tryz.f5 false true false false):=by
 refine returnsInHanded_of_calls own started b7
  (ChangeSpec.witness_shaped (enc:=enc) (C:=Tryz.checked) (os:=os) (X:=fun w _=>laidMetH Tryz.prog Rows.topImageRow.laid w) false (World.doorLaid Tryz.prog 100 os) #[.string ⟨#[]⟩, .slice none 0 0] 8 rfl (World.shaped_of_RefB b7 b7) b7 b7 b7 (aBR os _)) ?_
 intro w tape i _ hsh _ hok hpre hholds;obtain⟨_,_,_,fn',hfn',_,_,_,_,hval0⟩:=hok;have e:fn'=Tryz.f5:=sB (hfn'.symm.trans Tryz.func5);subst e;obtain⟨⟨⟨ds,gs,before,hw,hc⟩,hx⟩,hz⟩:=hpre;have hsz0:=sizedMet.weights hz hw;have hsz1:(DataW.weightsEach Tryz.prog (Tryz.f5.params.toList ++[]) (ds ++gs)).all (·≤reachBytes)=true:=hsz0;have hW:=DataW.Whole.of_heap (w':=w.forCall tape i) (by rfl) hw;generalize hW0:w.forCall tape i=W at *;clear hc hx hz hholds hw hsz0;obtain⟨r,args,iv⟩:=i;dsimp only at *;have hval:∀(j:Nat) t v,Tryz.f5.params[j]?=some t→args[j]?=some v→Value.okWide Tryz.prog W .any w.heap.size t v:=hval0;have hW':=hW;obtain⟨p,q,hA0,hV,rfl,hfz,hnd⟩:=hW;have hA:DataW.TrodAll enc Tryz.prog W 0 (fun _=>true) true Tryz.f5.params.toList args.toList ds p:=hA0;obtain⟨rfl,rfl⟩:=trodVars_none hV;rw[Tryz.params5]at hA hval hsz1;obtain⟨v0,v1,d0,d1,p0,p1,ha,rfl,rfl,h0,h1⟩:=trodAll_two hA;subst ha;obtain⟨line,rfl,rfl,rfl,ws⟩:=open_string Tryz.underlying9 (hval 0 9 v0 rfl rfl) h0;have hok1:=hval 1 49 v1 rfl rfl;have hfit1:Fits Tryz.prog 49 d1:=aBr (ts:=[9,49]) (ds:=[_,d1]) (j:=1) (fun n hn=>by
  have:=pD.1 hsz1 n (by simpa using hn);simpa using this) rfl rfl
 obtain⟨ps,rfl,hp, -⟩:=aFF hok1 h1 hfit1;obtain⟨m,hm⟩:=aBy hsh;have hl:(Value.string line)=sv line.data.toList:=by simp[sv]
 rw[hl];refine(hfix line.data.toList ps (by unfold maxLen at ws;simp at ws⊢;omega) W ⟨fun c hc=>by simp at hc;rcases hc with rfl|rfl;exact Vw.SR.2 ⟨m,hm⟩;exact jJ.2 ⟨hp,rfl⟩,by simp[Vw.FE,eO]⟩).mono fun e W' h=>?_
 obtain⟨x,_,he,_,hM⟩:=h;have hk:=MD.1 (hM.all _ (.head _));subst he;refine ChangeSpec.post_blind (aCe (f:=Tryz.f5) (tb:=4) b7 (by rw[Tryz.params5];decide +kernel) b7 Tryz.underlying4 rfl hW' rfl (hk.below (bS _) (fun i hi=>by obtain⟨c,hc,_⟩:=hi;cases hc)))
theorem aA5(hfix:∀(t:List UInt8) (ps:Vw.sG),t.length≤9223372036854775807→Fn Tryz.prog 5 #[sv t,ps.val] [Vw.cF,Vw.vR ps] [] (σ:=Unit) (fun _=>True) (fun _=> .bool true) (fun _=>[])):Rows.TopImageCardSaid:=
 Claim7.holds_tied_plain_at .later [] [.data, .data, .data, .sentinel, .sentinel] true (true, "09e48a93bd93582cd95ebd9ef79f7c727c424ed97c270f0c3a2d7fad050a37ca") true
  (OpenClaim.holds_of_wide 5 Tryz.f5 rfl rfl rfl rfl rfl rfl rfl ⟨rfl,rfl,rfl,rfl,rfl⟩ rfl rfl rfl rfl rfl b7 Tryz.func5 b7
   (of_decide_eq_true b7) (by unfold Func.isWrapper;rw[if_neg (of_decide_eq_false b7)];exact⟨rfl,rfl⟩)
   (fun os started H enc _=>lifted hfix os started H enc))
  (fun _ h=>by cases h) b7 (fun _ h=>by cases h) topImage_row_tie rfl ⟨rfl,rfl⟩ b7 rfl
  (fun f fn hf hfn=>by
   obtain rfl:f=5:=sB ((show Tryz.prog.funcNamed "yieldshape/yieldtop.TopImage" =some 5 by kernel_rfl).symm.trans hf)|>.symm;obtain rfl:fn=Tryz.f5:=(sB (Tryz.func5.symm.trans hfn)).symm;exact⟨b7,fun j t ht=>by
    rw[Tryz.params5]at ht;rcases j with _|_|j
    ·have h3:t=9:=by simpa using ht.symm
     subst h3;exact(show Tryz.prog.wantsStandIn 9=false by kernel_rfl)
    ·have h3:t=49:=by simpa using ht.symm
     subst h3;exact(show Tryz.prog.wantsStandIn 49=false by kernel_rfl)
    ·simp at ht⟩)
  b7
end TopImage
end Go.Proofs.YtofckcabpchcmaaGreatDoor
