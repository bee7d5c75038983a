/- The rows of the whole: a start that fits; what a tied row over one text asks. -/
import Derived.Test.YtofckcabpchcmaaGreatDoorM08
import Derived.Test.YtofckcabpchcmaaGreatDoorTie
import Derived.Test.YtofckcabpchcmaaGreatDoorCards
import Derived.Shelf.Vars
import Derived.LaidMore
import Derived.Stop.Joined
import Derived.ChangeMaps5
import Derived.SevenTiedAt
set_option linter.unusedVariables false
set_option linter.unusedSimpArgs false
set_option linter.unusedSectionVars false
set_option maxRecDepth 100000
namespace Go.Proofs.YtofckcabpchcmaaGreatDoor
namespace TopFixed
open Go.ChangeShapes Go.WideShapes Go.ChangeAt Go.RowKit
open Go.ChangeMaps (open_string)
theorem own:ownKnob Tryz.prog.godebug=none:=by kernel_rfl
theorem aAa(os:Os)(args:Array Value):laidMetH Tryz.prog Rows.topFixedRow.laid ((World.doorLaid Tryz.prog 100 os).forCall (fun _ _=>0) ⟨#[],args,[]⟩).memory:=
 laidMetH_of_parts3 (fuel:=8) (laidMet_of_run' 8 (by kernel_rfl) (by kernel_rfl)) (by kernel_rfl) (by kernel_rfl)
theorem aBW{W:World}(h:W.ShapedOpen Tryz.prog):∃m,W.cell? ⟨Vw.yG,0,none⟩=some (.int .i64 m):=
 cell_of_shapedOpen_int (zero:= #[.int .i64 0]) (t:=3) h (of_decide_eq_true (by kernel_rfl)) (by kernel_rfl) rfl (by kernel_rfl) (by kernel_rfl) Tryz.underlying3
set_option maxHeartbeats 1000000 in
theorem lifted(hfix:∀t:List UInt8,t.length≤9223372036854775807→Fn Tryz.prog 3 #[sv t] [Vw.bN] [] (σ:=Unit) (fun _=>True) (fun _=> .bool true) (fun _=>[]))
  (os:Os) (started:os.Started) (H:Type) (enc:TypeId×Value→H):
  ReturnsInHanded {} Tryz.checked os 3 .any (fun w args=>(Rows.topFixedSpec.pre enc Tryz.prog Tryz.f3 [] false w args∧laidMetH Tryz.prog Rows.topFixedRow.laid w)∧sizedMet enc Tryz.prog Tryz.f3 (OpenSpec.ofChange Rows.topFixedSpec) false w args)
   (Rows.topFixedSpec.post enc Tryz.prog Tryz.f3 false true false false):=by
 refine returnsInHanded_of_calls own started (by kernel_rfl)
  (ChangeSpec.witness_shaped (enc:=enc) (C:=Tryz.checked) (os:=os) (X:=fun w _=>laidMetH Tryz.prog Rows.topFixedRow.laid w) false (World.doorLaid Tryz.prog 100 os) #[.string ⟨#[]⟩] 8 rfl (World.shaped_of_RefB (by kernel_rfl) (by kernel_rfl)) (by kernel_rfl) (by kernel_rfl) (by kernel_rfl) (aAa os _)) ?_
 intro w tape i _ hsh _ hok hpre hholds;obtain⟨_,_,_,fn',hfn',_,_,_,_,hval0⟩:=hok;have e:fn'=Tryz.f3:=uB (hfn'.symm.trans Tryz.func3);subst e;obtain⟨⟨⟨ds,gs,before,hw,hc⟩,hx⟩,hz⟩:=hpre;have hW:=DataW.Whole.of_heap (w':=w.forCall tape i) (by rfl) hw;generalize hW0:w.forCall tape i=W at *;clear hc hx hz hholds hw;obtain⟨r,args,iv⟩:=i;dsimp only at *;have hval:∀(j:Nat) t v,Tryz.f3.params[j]?=some t→args[j]?=some v→Value.okWide Tryz.prog W .any w.heap.size t v:=hval0;have hW':=hW;obtain⟨p,q,hA0,hV,rfl,hfz,hnd⟩:=hW;have hA:DataW.TrodAll enc Tryz.prog W 0 (fun _=>true) true Tryz.f3.params.toList args.toList ds p:=hA0;obtain⟨rfl,rfl⟩:=trodVars_none hV;rw[Tryz.params3]at hA hval;obtain⟨v0,d0,ha,rfl,h0⟩:=trodAll_one hA;subst ha;obtain⟨line,rfl,rfl,rfl,ws⟩:=open_string Tryz.underlying9 (hval 0 9 v0 rfl rfl) h0;obtain⟨m,hm⟩:=aBW hsh;have hl:(Value.string line)=sv line.data.toList:=by simp[sv]
 rw[hl];refine(hfix line.data.toList (by unfold maxLen at ws;simp at ws⊢;omega) W ⟨fun c hc=>by simp at hc;subst hc;exact Vw.RA.2 ⟨m,hm⟩,by simp⟩).mono fun e W' h=>?_
 obtain⟨x,_,he,_,hM⟩:=h;have hk:=LP.1 (hM.all _ (.head _));subst he;refine ChangeSpec.post_blind (aCD (f:=Tryz.f3) (tb:=4) (by kernel_rfl) (by rw[Tryz.params3];decide +kernel) (by kernel_rfl) Tryz.underlying4 rfl hW' rfl (hk.below (cG _) (fun i hi=>by obtain⟨c,hc,_⟩:=hi;cases hc)))
theorem Z3(hfix:∀t:List UInt8,t.length≤9223372036854775807→Fn Tryz.prog 3 #[sv t] [Vw.bN] [] (σ:=Unit) (fun _=>True) (fun _=> .bool true) (fun _=>[])):Rows.TopFixedCardSaid:=
 Claim7.holds_tied_plain_at .later [] [.data, .data, .data, .sentinel, .sentinel] true (true, "09e48a93bd93582cd95ebd9ef79f7c727c424ed97c270f0c3a2d7fad050a37ca") true
  (OpenClaim.holds_of_wide 3 Tryz.f3 rfl rfl rfl rfl rfl rfl rfl ⟨rfl,rfl,rfl,rfl,rfl⟩ rfl rfl rfl rfl rfl (by kernel_rfl) Tryz.func3 (by kernel_rfl)
   (of_decide_eq_true (by kernel_rfl)) (by unfold Func.isWrapper;rw[if_neg (of_decide_eq_false (by kernel_rfl))];exact⟨rfl,rfl⟩)
   (fun os started H enc _=>lifted hfix os started H enc))
  (fun _ h=>by cases h) (by kernel_rfl) (fun _ h=>by cases h) topFixed_row_tie rfl ⟨rfl,rfl⟩ (by kernel_rfl) rfl
  (fun f fn hf hfn=>by
   obtain rfl:f=3:=uB ((show Tryz.prog.funcNamed "yieldshape/yieldtop.TopFixed" =some 3 by kernel_rfl).symm.trans hf)|>.symm;obtain rfl:fn=Tryz.f3:=(uB (Tryz.func3.symm.trans hfn)).symm;exact⟨by kernel_rfl,fun j t ht=>by
    rw[Tryz.params3]at ht;have h3:t=9:=by
     rcases j with _|j
     ·simpa using ht.symm
     ·simp at ht
    subst h3;exact(show Tryz.prog.wantsStandIn 9=false by kernel_rfl)⟩)
  (by kernel_rfl)
end TopFixed
end Go.Proofs.YtofckcabpchcmaaGreatDoor
