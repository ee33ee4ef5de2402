import Derived.Test.YtnfppdblcmollaaGreatDoorCards
import Derived.Test.YtnfppdblcmollaaGreatDoorTie
import Derived.SevenTiedAt
import Derived.Handed
import Derived.Test.YtnfppdblcmollaaGreatDoorTS01
import Derived.Test.YtnfppdblcmollaaGreatDoorTS02
import Derived.Test.YtnfppdblcmollaaGreatDoorTS51
import Derived.Test.YtnfppdblcmollaaGreatDoorTS52
/- TaintMarks, for every call: the call. No condition but the tables. -/
namespace Go.Proofs.YtnfppdblcmollaaGreatDoor
open Go Go.ChangeShapes Go.WideShapes Go.ChangeAt Go.RowKit Go.Joins U
set_option linter.unusedVariables false
set_option linter.unusedSimpArgs false
set_option maxRecDepth 100000
set_option maxHeartbeats 40000000
def kwU:List (List UInt8):=[[97,114,114,97,121],[99,97,108,108],[101,108,115,101],[105,102],[105,110],[109,97,105,110],[111,117,116,112,117,116],[112,114,111,99],[112,117,98,108,105,99],[115,101,99,114,101,116],[115,107,105,112],[118,97,114],[119,104,105,108,101]]
theorem kwU_cells:strCells kwU=kwB.map Value.string:=by kernel_rfl
theorem glob_kw:Tryz.prog.globalNamed "sieveholes/ast.keywords"=some 0:=by kernel_rfl
theorem type_kw:(Tryz.prog.globals[0]?).map (·.type)=some 264:=by kernel_rfl
theorem set_kw {W:World}(h:laidMetH Tryz.prog Rows.taintMarksRow.laid W):gSet kwT W:=by
 have e1:Rows.taintMarksRow.laid=[("sieveholes/ast.keywords",strData kwU)]:=by kernel_rfl
 rw[e1] at h;have b1:=(laidMetH_iff.1 h).1;have f1:([("sieveholes/ast.keywords",(strData kwU:DataW Unit))].filter fun x=>x.2.handleName?.isNone)=[("sieveholes/ast.keywords",strData kwU)]:=by kernel_rfl
 rw[f1] at b1;intro x hx;rw[kwT,List.mem_singleton] at hx;subst hx;obtain ⟨ps,h3,_⟩:=b1;obtain ⟨T,fz,h4⟩:=laid_strs (bs:=kwU) glob_kw type_kw Tryz.underlying264 Tryz.underlying9 (by kernel_rfl) (by kernel_rfl) h3 (by simp)
 rw[kwU_cells] at h4;exact ⟨T,fz,h4⟩
noncomputable def laidWorld (os:Os):World :=
 { World.holding Tryz.prog os ⟨#[],#[],[]⟩ with heap:=layAt 0 Rows.laid_sieveholes_ast_keywords (World.holding Tryz.prog os ⟨#[],#[],[]⟩).heap }
theorem laidWorld_met (os:Os) (args:Array Value):laidMetH Tryz.prog Rows.taintMarksRow.laid ((laidWorld os).forCall (fun _ _=>0) ⟨#[],args,[]⟩).memory :=
 laidMetH_of_parts (laidMet_of_run' 8 (by kernel_rfl) (by kernel_rfl)) (by kernel_rfl)
set_option maxHeartbeats 1000000 in
theorem taintMarks_lifted (os:Os) (started:os.Started) (H:Type) (enc:TypeId×Value->H) :
  ReturnsInHanded {} Tryz.checked os 5 .any (fun w args=>(Rows.taintMarksSpec.pre enc Tryz.prog Tryz.f5 [] false w args∧laidMetH Tryz.prog Rows.taintMarksRow.laid w)∧sizedMet enc Tryz.prog Tryz.f5 (OpenSpec.ofChange Rows.taintMarksSpec) false w args) (Rows.taintMarksSpec.post enc Tryz.prog Tryz.f5 false true false false):=by
 refine returnsInHanded_of_change_and (C:=Tryz.checked) (X:=fun w _=>laidMetH Tryz.prog Rows.taintMarksRow.laid w) (fun _ _ _ hh h=>h.of_heap hh) own started (by kernel_rfl) Tryz.func5
  (ChangeSpec.witness_at (enc:=enc) (C:=Tryz.checked) (os:=os) (X:=fun w _=>laidMetH Tryz.prog Rows.taintMarksRow.laid w) false (laidWorld os) #[.agg #[.int .i64 0,.slice none 0 0,.slice none 0 0,.slice none 0 0,.slice none 0 0],.agg #[.slice none 0 0,.slice none 0 0],.bool false,.agg #[.int .i64 0,.int .i64 0,.int .i64 0,.int .i64 0,.slice none 0 0],.agg #[.slice none 0 0,.slice none 0 0]] 8 rfl (by kernel_rfl) (by kernel_rfl) (by kernel_rfl) (by kernel_rfl) (by kernel_rfl) (laidWorld_met os _)) ?_
 intro W base args ds gs before hval0 hW _ _ hL _;have hval:∀(j:Nat) t v,Tryz.f5.params[j]?=some t->args[j]?=some v->Value.okWide Tryz.prog W .any base t v:=hval0
 have hW':=hW;obtain ⟨p,q,hA0,hV,hpq,hfz,hnd⟩:=hW;have hA:DataW.TrodAll enc Tryz.prog W 0 (fun _=>true) true Tryz.f5.params.toList args.toList ds p:=hA0
 rw[Tryz.params5] at hA hval;obtain ⟨v0,v1,v2,v3,v4,d0,d1,d2,d3,d4,q0,q1,q2,q3,q4,rfl,rfl,rfl,h0,h1,h2,h3,h4⟩:=trodAll_five hA;obtain ⟨rfl,rfl⟩:=trodVars_none hV;obtain ⟨a,⟨ha1,ha2⟩,hva⟩:=open_program (hval 0 _ v0 rfl rfl) h0
 obtain ⟨x1,x2,⟨hx1,hx2⟩,hvx⟩:=open_set (hval 1 _ v1 rfl rfl) h1;obtain ⟨m,rfl⟩:=okWide_bool Tryz.underlying4 (hval 2 _ v2 rfl rfl);obtain ⟨e,he,hve⟩:=open_expr (hval 3 _ v3 rfl rfl) h3;obtain ⟨y1,y2,⟨hy1,hy2⟩,hvy⟩:=open_set (hval 4 _ v4 rfl rfl) h4
 refine ((law_d a x1 x2 m e y1 y2 ha1 ha2 he hx1 hx2 hy1 hy2).out (zW W) W [v0,v1,.bool m,v3,v4] (set_kw hL) (fun _ _ _ h=>h) (.cons hva (.cons hvx (.cons (.of_flat _ rfl) (.cons hve (.cons hvy (.nil _))))))).mono fun e W' ⟨v,z',he,⟨hbe,_⟩,_,_,hr⟩=>?_
 obtain rfl:=hr.flat_eq rfl;subst he;exact ⟨_,rfl,post_law laidOut (by kernel_rfl) rfl hW' rfl rfl Tryz.underlying4 hbe⟩
end Go.Proofs.YtnfppdblcmollaaGreatDoor
/- TaintMarks, for every call: the row. No condition but the tables. -/
namespace Go.Proofs.YtnfppdblcmollaaGreatDoor
open Go Go.ChangeShapes Go.WideShapes Go.ChangeAt Go.RowKit Go.Joins U
set_option linter.unusedVariables false
set_option linter.unusedSimpArgs false
set_option maxRecDepth 100000
set_option maxHeartbeats 40000000
set_option maxHeartbeats 1000000 in
theorem taintMarks_holds:Rows.TaintMarksSaid :=
 OpenClaim.holds_of_wide 5 Tryz.f5 rfl rfl rfl rfl rfl rfl rfl ⟨rfl,rfl,rfl,rfl,rfl⟩ rfl rfl rfl rfl rfl (by kernel_rfl) Tryz.func5 taintMarks_facts
  (of_decide_eq_true (by kernel_rfl)) (by unfold Func.isWrapper;rw[if_neg (of_decide_eq_false (by kernel_rfl))];exact ⟨rfl,rfl⟩)
  (fun os started H enc _=>taintMarks_lifted os started H enc)
end Go.Proofs.YtnfppdblcmollaaGreatDoor
/- TaintMarks, for every call: the row. No condition but the tables. -/
namespace Go.Proofs.YtnfppdblcmollaaGreatDoor
open Go Go.ChangeShapes Go.WideShapes Go.ChangeAt Go.RowKit Go.Joins U
set_option linter.unusedVariables false
set_option linter.unusedSimpArgs false
set_option maxRecDepth 100000
set_option maxHeartbeats 40000000
set_option maxHeartbeats 1000000 in
theorem taintMarks_card_holds:Rows.TaintMarksCardSaid :=
 Claim7.holds_tied_plain_at .later [] [.data] true (true,"1483ad7e0e92fde89f781e1c44cfe58502759e64bead281dda2a854da1308bfb") true
  taintMarks_holds (fun _ h=>by cases h) (by kernel_rfl) (fun _ h=>by cases h) taintMarks_row_tie rfl ⟨rfl,rfl⟩ (by kernel_rfl) rfl
  (fun f fn hf hfn=>by
   obtain rfl:f=5:=Option.some.inj ((show Tryz.prog.funcNamed "sieveholes/sieveholeslaw26.TaintMarks"=some 5 by kernel_rfl).symm.trans hf) |>.symm
   obtain rfl:fn=Tryz.f5:=(Option.some.inj (Tryz.func5.symm.trans hfn)).symm;exact ⟨by kernel_rfl,fun j t ht=>by
    have hall:(Tryz.f5.params.toList.all fun t=>!Tryz.pinned.checked.prog.wantsStandIn t)=true:=by kernel_rfl
    have:=List.all_eq_true.1 hall t (by rw[← Array.getElem?_toList] at ht;exact List.mem_of_getElem? ht)
    simpa using this⟩)
  (by kernel_rfl)
#print axioms taintMarks_card_holds
end Go.Proofs.YtnfppdblcmollaaGreatDoor
