/- SoloTells: for every module, task, feeds and number of steps the law answers true, and the arguments read as before. No condition of my own. -/
import Derived.Test.YtgnhfinabhimpaaM40
import Derived.Test.YtgnhfinabhimpaaRows
set_option linter.unusedVariables false
set_option linter.unusedSimpArgs false
set_option linter.unusedSectionVars false
set_option maxRecDepth 100000
namespace Go.Proofs.Ytgnhfinabhimpaa.SoloTells
open Go.ChangeShapes Go.WideShapes Go.ChangeAt Go.RowKit
theorem own:ownKnob Try.prog.godebug=none:=by kernel_rfl
set_option maxHeartbeats 1000000 in
theorem lifted(os:Os)(started:os.Started)(H:Type)(enc:TypeId×Value→H):
  ReturnsInHanded {} Try.checked os 6 .any (Rows.soloTellsSpec.pre6 enc Try.prog Try.f6 Rows.soloTellsRow.domain false) (Rows.soloTellsSpec.post enc Try.prog Try.f6 false true false false):=by
 refine returnsInHanded_of_change_sized (C:=Try.checked) own started (by kernel_rfl) Try.func6
  (ChangeSpec.witness6 (enc:=enc) (C:=Try.checked) false ⟨#[], #[.agg #[.slice none 0 0, .slice none 0 0], .int .i64 0, .slice none 0 0, .int .i64 0],[]⟩ 8 (by kernel_rfl) (by kernel_rfl) (by kernel_rfl) (by kernel_rfl)) ?_
 intro W base args ds gs before hval0 hW _ hsz0 _;have hsz1:(DataW.weightsEach Try.prog (Try.f6.params.toList ++[]) (ds ++gs)).all (·≤reachBytes)=true:=hsz0;have hval:∀(j:Nat) t v,Try.f6.params[j]?=some t→args[j]?=some v→Value.okWide Try.prog W .any base t v:=hval0;have hW':=hW;obtain⟨p,q,hA0,hV,rfl,hfz,hnd⟩:=hW;have hA:DataW.TrodAll enc Try.prog W 0 (fun _=>true) true Try.f6.params.toList args.toList ds p:=hA0;obtain⟨rfl,rfl⟩:=trodVars_none hV;rw[Try.params6]at hA hval hsz1;obtain⟨v0,v1,v2,v3,d0,d1,d2,d3,p0,p1,p2,p3,rfl,rfl,rfl,h0,h1,h2,h3⟩:=trodAll_four hA;have hok0:=hval 0 25 v0 rfl rfl;obtain⟨x1,rfl,rfl,rfl,w1⟩:=open_int Try.underlying3 (hval 1 3 v1 rfl rfl) h1;have hok2:=hval 2 26 v2 rfl rfl;obtain⟨x3,rfl,rfl,rfl,w3⟩:=open_int Try.underlying3 (hval 3 3 v3 rfl rfl) h3;have hfit0:Fits Try.prog 25 d0:=fits_each (ts:=[25,3,26,3]) (ds:=[d0,_,d2,_]) (j:=0) (fun n hn=>by
  have:=List.all_eq_true.1 hsz1 n (by simpa using hn);simpa using this) rfl rfl
 have hfit2:Fits Try.prog 26 d2:=fits_each (ts:=[25,3,26,3]) (ds:=[d0,_,d2,_]) (j:=2) (fun n hn=>by
  have:=List.all_eq_true.1 hsz1 n (by simpa using hn);simpa using this) rfl rfl
 suffices key:Calls Try.prog 6 #[v0, .int .i64 x1,v2, .int .i64 x3] W fun e w'=>e= .returned (.bool true)∧Below W.heap.size W w' by
  refine key.mono fun e W' ⟨he,hb⟩=>?_
  subst he;exact⟨_,rfl,law_post (f:=Try.f6) (tb:=4) (by kernel_rfl) (by rw[Try.params6];decide +kernel) (by kernel_rfl) Try.underlying4 rfl hW' rfl hb⟩
 obtain⟨m,rfl,hm,hwf⟩:=read_md hok0 h0;obtain⟨f,rfl,hf,h64⟩:=read_fd hok2 h2;refine(Vw.tells9_is m hwf f h64 x1 x3 W ⟨fun c hc=>by simp at hc;rcases hc with rfl|rfl;exact md_holds.2 hm;exact fd_holds.2 hf,by simp[md_excl,fd_excl]⟩).mono ?_;intro e w' h;obtain⟨x,_,he,_,hM⟩:=h;have hk:=old_holds.1 (hM.all _ (.head _));exact⟨he,hk.below (Nat.le_refl _) (fun i hi=>by obtain⟨c,hc,_⟩:=hi;cases hc)⟩
theorem proved:Rows.SoloTellsSaid:=
 OpenClaim.holds_of_wide 6 Try.f6 rfl rfl rfl rfl rfl rfl rfl ⟨rfl,rfl,rfl,rfl,rfl⟩ rfl rfl rfl rfl rfl (by kernel_rfl) Try.func6 (by kernel_rfl)
  (of_decide_eq_true (by kernel_rfl)) (by unfold Func.isWrapper;rw[if_neg (of_decide_eq_false (by kernel_rfl))];exact⟨rfl,rfl⟩)
  (fun os started H enc _=>lifted os started H enc)
#print axioms proved
end Go.Proofs.Ytgnhfinabhimpaa.SoloTells
