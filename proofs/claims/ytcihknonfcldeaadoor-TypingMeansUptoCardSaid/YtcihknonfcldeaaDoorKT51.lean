import Derived.Test.YtcihknonfcldeaaDoorCards
import Derived.Test.YtcihknonfcldeaaDoorTie
import Derived.JoinedCond
import Derived.Deep.DeepHandedRow
import Derived.SevenTiedAt
import Derived.Test.YtcihknonfcldeaaDoorKT01
import Derived.Test.YtcihknonfcldeaaDoorKT48
import Derived.Test.YtcihknonfcldeaaDoorKT49
import Derived.Test.YtcihknonfcldeaaDoorKT50
namespace Go.Proofs.YtcihknonfcldeaaDoor
open Go Go.ChangeShapes Go.WideShapes Go.ChangeAt Go.RowKit Go.Joins U
set_option linter.unusedVariables false
set_option linter.unusedSimpArgs false
set_option maxRecDepth 100000
set_option maxHeartbeats 40000000
theorem trodAll_single {H:Type}{enc:TypeId×Value->H}{P:Program}{w:World}{base:Nat}{spare:Nat->Bool}{held:Bool}{t:TypeId}{args:Array Value}{ds:List (DataW H)}{ps:List MemPlace}(h:DataW.TrodAll enc P w base spare held [t] args.toList ds ps) :
  ∃v d,args=#[v]∧ds=[d]∧DataW.Trod enc P w base spare held t v d ps:=by
 obtain ⟨v,vs,d,ds',p,q,hargs,rfl,rfl,hd,hrest⟩:=trodAll_cons h;obtain ⟨rfl,rfl,rfl⟩:=trodAll_nil hrest;exact ⟨v,d,by cases args;simp_all,rfl,by simpa using hd⟩
def kwU:List (List UInt8):=[[97,114,114,97,121],[99,97,108,108],[101,108,115,101],[105,102],[105,110],[109,97,105,110],[111,117,116,112,117,116],[112,114,111,99],[112,117,98,108,105,99],[115,101,99,114,101,116],[115,107,105,112],[118,97,114],[119,104,105,108,101]]
theorem kwU_cells:strCells kwU=kwB.map Value.string:=by kernel_rfl
theorem glob_kw:Tryd.prog.globalNamed "sieveholes/ast.keywords"=some 0:=by kernel_rfl
theorem type_kw:(Tryd.prog.globals[0]?).map (·.type)=some 137:=by kernel_rfl
theorem set_kw {W:World}(h:laidMetH Tryd.prog Rows.typingMeansUptoRow.laid W):gSet kwT W:=by
 have e1:Rows.typingMeansUptoRow.laid=[("sieveholes/ast.keywords",strData kwU)]:=by kernel_rfl
 rw[e1] at h;have b1:=(laidMetH_iff.1 h).1;have f1:([("sieveholes/ast.keywords",(strData kwU:DataW Unit))].filter fun x=>x.2.handleName?.isNone)=[("sieveholes/ast.keywords",strData kwU)]:=by kernel_rfl
 rw[f1] at b1;intro x hx;rw[kwT,List.mem_singleton] at hx;subst hx;obtain ⟨ps,h3,_⟩:=b1;obtain ⟨T,fz,h4⟩:=laid_strs (bs:=kwU) glob_kw type_kw Tryd.underlying137 Tryd.underlying9 (by kernel_rfl) (by kernel_rfl) h3 (by simp)
 rw[kwU_cells] at h4;exact ⟨T,fz,h4⟩
noncomputable def laidWorld (os:Os):World :=
 { World.holding Tryd.prog os ⟨#[],#[],[]⟩ with heap:=layAt 0 Rows.laid_sieveholes_ast_keywords (World.holding Tryd.prog os ⟨#[],#[],[]⟩).heap }
theorem laidWorld_met (os:Os) (args:Array Value):laidMet Tryd.prog Rows.typingMeansUptoRow.laid ((laidWorld os).forCall (fun _ _=>0) ⟨#[],args,[]⟩).memory:=laidMet_of_run' 8 (by kernel_rfl) (by kernel_rfl)
set_option maxHeartbeats 1000000 in
theorem typingMeans_contract (H:Type) (enc:TypeId×Value->H) (W:World) (base:Nat) (args:Array Value) (ds gs:List (DataW H)) (before:List MemPlace)
  (hval:∀(j:Nat) t v,Tryd.f3.params[j]?=some t->args[j]?=some v->Value.okWide Tryd.prog W .any base t v)
  (hW:DataW.Whole enc Tryd.prog Tryd.f3.params.toList Rows.typingMeansSpec.vars false W args.toList ds gs before) (hk:Rows.uptoSmall H (ds++gs)=true) (hL:laidMetH Tryd.prog Rows.typingMeansUptoRow.laid W) :
  Calls Tryd.prog 3 args W fun e W'=>∃v,e=.returned v∧Rows.typingMeansSpec.post enc Tryd.prog Tryd.f3 false true false false W args v W':=by
 have hW':=hW;obtain ⟨p,q,hA0,hV,hpq,hfz,hnd⟩:=hW;have hA:DataW.TrodAll enc Tryd.prog W 0 (fun _=>true) true Tryd.f3.params.toList args.toList ds p:=hA0
 rw[Tryd.params3] at hA hval;obtain ⟨v0,d0,rfl,rfl,h0⟩:=trodAll_single hA;obtain ⟨rfl,rfl⟩:=trodVars_none hV;obtain ⟨s,hs,e0⟩:=open_program (hval 0 _ v0 rfl rfl) h0;have hk2:=of_decide_eq_true hk;simp only[List.append_nil,Rows.uptoBulkAll] at hk2
 have hsz:szPr s≤800000:=by omega
 refine ((law_d s hsz).out (zW W) W [v0] (set_kw hL) (fun _ _ _ h=>h) (.cons e0 (.nil _))).mono fun e W' ⟨v,z',he,⟨hb,_⟩,_,_,hr⟩=>?_
 obtain rfl:=hr.flat_eq rfl;subst he;exact ⟨_,rfl,post_law laidOut (by kernel_rfl) rfl hW' rfl rfl Tryd.underlying4 hb⟩
theorem typingMeans_reads (os:Os) {H:Type}(enc:TypeId×Value->H):∃places,DataW.whole enc Tryd.prog ((laidWorld os).forCall (fun _ _=>0) ⟨#[],#[.agg #[.slice none 0 0,.slice none 0 0]],[]⟩).memory Tryd.f3.params.toList Rows.typingMeansSpec.vars false #[Value.agg #[.slice none 0 0,.slice none 0 0]].toList 8=some ([.agg [.nil,.nil]],[],places) :=
 ⟨[],by kernel_rfl⟩
set_option maxHeartbeats 1000000 in
theorem typingMeans_lifted (os:Os) (started:os.Started) (H:Type) (enc:TypeId×Value->H) (F:Stop.Interp) :
  ReturnsInHanded {} Tryd.checked os 3 .any ((Rows.OpenSpec.upto Rows.typingMeansSpec).preRow enc Tryd.prog Tryd.f3 Rows.typingMeansUptoRow.domain false Rows.typingMeansUptoRow.laid) (((Rows.OpenSpec.upto Rows.typingMeansSpec).at F).post enc Tryd.prog Tryd.f3 false true false false):=by
 obtain ⟨places,hx⟩:=typingMeans_reads os enc;refine returnsInHanded_of_row (C:=Tryd.checked) (s:=Rows.OpenSpec.upto Rows.typingMeansSpec) own started (by kernel_rfl) Tryd.func3
  (witness_row_at (enc:=enc) (C:=Tryd.checked) false (laidWorld os) #[.agg #[.slice none 0 0,.slice none 0 0]] rfl (by kernel_rfl) (by kernel_rfl) (by kernel_rfl)
   (OpenSpec.preRow_of_cond 8 hx (by kernel_rfl) (fun k hk=>by cases hk;kernel_rfl) (by kernel_rfl) (laidWorld_met os _))) ?_
 intro W base args ds gs before hval hW _ hcond _ hL _ _;exact typingMeans_contract H enc W base args ds gs before hval hW (hcond _ rfl) hL
end Go.Proofs.YtcihknonfcldeaaDoor
