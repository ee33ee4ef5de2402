
import Derived.Test.YtocppbocphnbcaaGreatDoorXS22
import Derived.Test.YtocppbocphnbcaaGreatDoorXS46
import Derived.Test.YtocppbocphnbcaaGreatDoorXS48
namespace Go.Proofs.YtocppbocphnbcaaGreatDoor.U
open Go Go.RowKit Go.Sort
set_option linter.unusedVariables false
set_option linter.unusedSimpArgs false
set_option maxRecDepth 100000
set_option maxHeartbeats 40000000
structure DenN (P:Program) (f:FuncId) (args:List Value) (u:Value):Prop where
 out:∀(z:Nat->Nat->Option Value) (W:World) (vs:List Value),(∀r o v,z r o=some v->W.cell? ⟨r,o,none⟩=some v)->VRs ⟨fun _=>none,z⟩ args vs ->
  Calls P f ⟨vs⟩ W fun e w'=>∃v z',e=.returned v∧(Below W.heap.size W w'∧W.drawn≤w'.drawn)∧(∀r o x,z' r o=some x->w'.cell? ⟨r,o,none⟩=some x∧W.heap.size≤r)∧VR ⟨fun _=>none,z'⟩ u v
inductive FrzN (P:Program) (s:AS):Value->Value->Prop where
 |flat (u:Value) (h:flatV u=true):FrzN P s u u
 |nil:FrzN P s (.slice none 0 0) (imS [])
 |agg (l m:List Value) (hl:l.length=m.length) (h:∀(i:Nat) (u v:Value),l[i]?=some u->m[i]?=some v->FrzN P s u v):FrzN P s (.agg ⟨l⟩) (.agg ⟨m⟩)
 |tup (l m:List Value) (hl:l.length=m.length) (h:∀(i:Nat) (u v:Value),l[i]?=some u->m[i]?=some v->FrzN P s u v):FrzN P s (.tuple ⟨l⟩) (.tuple ⟨m⟩)
 |row (k n c z:Nat) (T:TypeId) (xs ys:List Value) (op:Bool) (hlo:s.lo≤k) (hk:s.heap.get k=some (.cells T xs op)) (hz:∀y,y∈ys->(cellsOf y).length=z) (hn:n=ys.length) (hc:n≤c) (hl:(cellsAll ys).length≤xs.length) (h:∀(i:Nat) (u v:Value),xs[i]?=some u->(cellsAll ys)[i]?=some v->FrzN P s u v) :
   FrzN P s (.slice (some ⟨k,0,none⟩) n c) (imS ys)
structure DenE (P:Program) (f:FuncId) (args:List Value) (Q:Value->Prop):Prop where
 out:∀(z:Nat->Nat->Option Value) (W:World) (vs:List Value),(∀r o v,z r o=some v->W.cell? ⟨r,o,none⟩=some v)->VRs ⟨fun _=>none,z⟩ args vs ->
  Calls P f ⟨vs⟩ W fun e w'=>∃u v z',Q u∧e=.returned v∧(Below W.heap.size W w'∧W.drawn≤w'.drawn)∧(∀r o x,z r o=some x->z' r o=some x)∧(∀r o x,z' r o=some x->w'.cell? ⟨r,o,none⟩=some x∧(z r o=some x∨W.heap.size≤r))∧VR ⟨fun _=>none,z'⟩ u v
theorem denE_of_sound {P:Program}(hm:P.follows .mixedOrders=true) {f:FuncId}{args:List Value}{Q:Value->Prop}(h:∀Ts,SoundAt P f args (start [] Ts) fun u' s'=>∃u,Q u∧FrzV P s' u' u):DenE P f args Q:=by
 refine ⟨fun z W vs hz hv=>(run_out hm h z W vs hz hv).mono fun e w' ⟨v,u',s',β',he,⟨u,hq,h1⟩,hlo,hR,hv',z1,z2,hdn⟩=>?_⟩
 have hzlt:∀r o x,z r o=some x->r<W.heap.size:=fun r o x h=>cell_lt (hz r o x h)
 have e1:∀r o,r<W.heap.size->w'.cell? ⟨r,o,none⟩=W.cell? ⟨r,o,none⟩:=fun r o h=>cell_same (hR.below.block r h)
 refine ⟨u,v,fun r o=>if r<W.heap.size then z r o else w'.cell? ⟨r,o,none⟩,hq,he,⟨hR.below,hdn⟩,fun r o x hx'=>?_,fun r o x hx'=>?_,?_⟩
 ·show (if r<W.heap.size then z r o else _)=_
  rw[if_pos (hzlt r o x hx')];exact hx'
 ·have hx':(if r<W.heap.size then z r o else w'.cell? ⟨r,o,none⟩)=some x:=hx'
  split at hx'
  ·rename_i hr;exact ⟨by rw[e1 r o hr];exact hz r o x hx',.inl hx'⟩
  ·rename_i hr;exact ⟨hx',.inr (by omega)⟩
 ·refine FrzV.rel hR (fun r o x hx'=>?_) (fun r o x hr hx'=>?_) h1 hv'
  ·show (if r<W.heap.size then z r o else w'.cell? ⟨r,o,none⟩)=_
   split
   ·rename_i hr;rcases z2 r o x hx' with h|h
    ·exact h
    ·omega
   ·exact (hR.frz r o x hx').1
  ·show (if r<W.heap.size then z r o else w'.cell? ⟨r,o,none⟩)=_
   rw[if_neg (by omega)];exact hx'
end Go.Proofs.YtocppbocphnbcaaGreatDoor.U
namespace Go.Proofs.YtocppbocphnbcaaGreatDoor
open Go Go.RowKit Go.Sort U
set_option linter.unusedVariables false
set_option linter.unusedSimpArgs false
set_option maxRecDepth 100000
set_option maxHeartbeats 40000000
def SetQ (p:Pg) (nt:Nt) (l:List St) (f:SA->Value) (u:Value):Prop:=∃x:SA,u=f x∧(Ris x.1∧∀z,z∈x.1↔InS p nt.sl (allSs l) z)∧(Ris x.2∧∀z,z∈x.2↔InS p nt.ar (allSs l) z)
theorem Writes_e (p:Pg) (hf:FewP p) (l:List St) (hl:szSs l≤900):DenE Tryz.prog 13 [encP p,imS (encSs l),.slice none 0 0,.slice none 0 0] (SetQ p (wNt p) l saV):=by
 refine denE_of_sound hmixU fun Ts=>SoundAt.bodyS Tryz.func13 rfl rfl rfl ?_
 have hp:=hf.procs;have hz:=hf.sz;have hun:=unS_le p.procs (List.replicate p.procs.length false);have c1:=writes_all p hf _ l ([],[]) (List.replicate p.procs.length false) 0 rL (by omega) (by simp) ⟨.nil,.nil,by simp;omega,by simp;omega⟩
 have kP:NoNm (.agg ⟨[.int .i64 p.slots,imS (iL p.arrs),imS (inL p.ins),imS (prL p.procs),imS (encSs p.main)]⟩):=cleanP p;have hpl:=prL_len p.procs;have hmf:=mk_full (zs:=[.bool false]) (n:=(prL p.procs).length) (b:=1) rfl rfl (by decide) (by rw[hpl];omega)
 have hrow:repX (prL p.procs).length [.bool false]=obL (List.replicate p.procs.length false):=by
  have h0:∀n,repX n [Value.bool false]=List.replicate n (.bool false):=fun n=>by
   induction n with
   |zero=>rfl
   |succ n ih=>rw[repX,ih];rfl
  rw[hpl,h0,obL];simp
 refine CodeS.then_ (mkF [(1,imS (encSs l)),(2,imS (iL [])),(3,imS (iL [])),(4,.pointer (some ⟨0,0,none⟩))]) ⟨mkO [(0,some (.cells 34 (cellsOf (encP p)) false))],1,0,0⟩ ?_ (CodeS.seq (k1:=fun e fr1 s1=>e=.normal∧∃x:SA,((Ris x.1∧∀z,z∈x.1↔InS p ((wNt p)).sl (allSs l) z)∧(Ris x.2∧∀z,z∈x.2↔InS p ((wNt p)).ar (allSs l) z))∧Cov Tryz.prog (4+(Tryz.f13.ntmps-4)) 1 fr1 s1 (mkF [(8,imS (iL x.1)),(9,imS (iL x.2))]) ⟨mkO [],2,0,0⟩) ?_ ?_)
 ·refine CodeS.run hmixU 0 rL ?_;(repeat' ((conv=>whnf);first|refine goD ?_|refine U.lw_c ?_ ?_<;>intro hb))
  (conv=>whnf);exact (Cov.frz (fun k=>k) 7 1 (T:=3) (ys:=iL []) rfl rfl (bR rfl) zL (fun _ _=>rfl) rfl nlz zL rfl rfl iL_1 (cleanIC []) (.W rfl ((fun c hc=>cleanP_cells p c hc)) rfl .nil) (.L rfl (cleanSs _) rfl (.cons rfl (.ext _ _ ⟨rfl,rfl⟩) (.cons rfl (.ext _ _ ⟨rfl,rfl⟩) (.cons rfl (.P rfl) .nil)))))
 ·refine CodeS.drawG hmixU 8 [] (.one 8 (.two 9 10 (.one 10 (.one 11 (.one 12 .done))) (.one 9 (.one 11 (.one 12 .done))))) zL (by decide +kernel) (by decide +kernel) (by decide +kernel) (by decide +kernel) rfl ?_
  (repeat' ((conv=>whnf);first|refine U.ob_c hmf ?_|refine goA ?_|refine U.spineC_p ?_|refine U.SoundAt.wr c1 (b:=1) (by exact congrArg (fun z=>some (U.Blk.cells 4 z false)) hrow) rfl rfl (.L kP rfl (.L (cleanSs _) rfl (.L (cleanIL _) rfl (.L (cleanIL _) rfl (.cons (.sl _ _ _ _ _ _ _ (by decide) rfl (by rw[hpl];rfl) (by rw[hpl];rfl)) .nil))))) ?_|refine goB ?_|refine U.lw_c ?_ ?_<;>intro hb))
  rintro v vs ⟨⟨S3,A3⟩,sn3,⟨rfl,rfl⟩,hd3⟩
  (repeat' ((conv=>whnf);first|refine goA ?_|refine U.BothX.mk ?_ ?_|refine goB ?_|refine U.lw_c ?_ ?_<;>intro hb))
  all_goals (conv=>whnf)
  all_goals exact ⟨rfl,(S3,A3),hd3.post.fin,(Cov.renI rfl rfl rfl rfl .nil (.L rfl (cleanIL _) rfl (.L rfl (cleanIL _) rfl .nil)))⟩
 ·rintro e fr1 s1 ⟨rfl,⟨S3,A3⟩,h3,hcov⟩ _
  refine ⟨_,_,hcov,?_⟩;refine CodeS.run hmixU 0 zL ?_;(repeat' ((conv=>whnf);first|refine goD ?_|refine U.lw_c ?_ ?_<;>intro hb))
  (conv=>whnf);exact ⟨_,⟨(S3,A3),rfl,h3⟩,.tupL (.cons (.clean _ (cleanIL _)) (.cons (.clean _ (cleanIL _)) .nil))⟩
theorem Reads_e (p:Pg) (hf:FewP p) (l:List St) (hl:szSs l≤900):DenE Tryz.prog 14 [encP p,imS (encSs l),.slice none 0 0,.slice none 0 0] (SetQ p rNt l saV):=by
 refine denE_of_sound hmixU fun Ts=>SoundAt.bodyS Tryz.func14 rfl rfl rfl ?_
 have hp:=hf.procs;have hz:=hf.sz;have hun:=unS_le p.procs (List.replicate p.procs.length false);have c1:=reads_all p hf _ l ([],[]) (List.replicate p.procs.length false) 0 rL (by omega) (by simp) ⟨.nil,.nil,by simp;omega,by simp;omega⟩
 have kP:NoNm (.agg ⟨[.int .i64 p.slots,imS (iL p.arrs),imS (inL p.ins),imS (prL p.procs),imS (encSs p.main)]⟩):=cleanP p;have hpl:=prL_len p.procs;have hmf:=mk_full (zs:=[.bool false]) (n:=(prL p.procs).length) (b:=1) rfl rfl (by decide) (by rw[hpl];omega)
 have hrow:repX (prL p.procs).length [.bool false]=obL (List.replicate p.procs.length false):=by
  have h0:∀n,repX n [Value.bool false]=List.replicate n (.bool false):=fun n=>by
   induction n with
   |zero=>rfl
   |succ n ih=>rw[repX,ih];rfl
  rw[hpl,h0,obL];simp
 refine CodeS.then_ (mkF [(1,imS (encSs l)),(2,imS (iL [])),(3,imS (iL [])),(4,.pointer (some ⟨0,0,none⟩))]) ⟨mkO [(0,some (.cells 34 (cellsOf (encP p)) false))],1,0,0⟩ ?_ (CodeS.seq (k1:=fun e fr1 s1=>e=.normal∧∃x:SA,((Ris x.1∧∀z,z∈x.1↔InS p (rNt).sl (allSs l) z)∧(Ris x.2∧∀z,z∈x.2↔InS p (rNt).ar (allSs l) z))∧Cov Tryz.prog (4+(Tryz.f14.ntmps-4)) 1 fr1 s1 (mkF [(8,imS (iL x.1)),(9,imS (iL x.2))]) ⟨mkO [],2,0,0⟩) ?_ ?_)
 ·refine CodeS.run hmixU 0 rL ?_;(repeat' ((conv=>whnf);first|refine goD ?_|refine U.lw_c ?_ ?_<;>intro hb))
  (conv=>whnf);exact (Cov.frz (fun k=>k) 7 1 (T:=3) (ys:=iL []) rfl rfl (bR rfl) zL (fun _ _=>rfl) rfl nlz zL rfl rfl iL_1 (cleanIC []) (.W rfl ((fun c hc=>cleanP_cells p c hc)) rfl .nil) (.L rfl (cleanSs _) rfl (.cons rfl (.ext _ _ ⟨rfl,rfl⟩) (.cons rfl (.ext _ _ ⟨rfl,rfl⟩) (.cons rfl (.P rfl) .nil)))))
 ·refine CodeS.drawG hmixU 8 [] (.one 8 (.two 9 10 (.one 10 (.one 11 (.one 12 .done))) (.one 9 (.one 11 (.one 12 .done))))) zL (by decide +kernel) (by decide +kernel) (by decide +kernel) (by decide +kernel) rfl ?_
  (repeat' ((conv=>whnf);first|refine U.ob_c hmf ?_|refine goA ?_|refine U.spineC_p ?_|refine U.SoundAt.wr c1 (b:=1) (by exact congrArg (fun z=>some (U.Blk.cells 4 z false)) hrow) rfl rfl (.L kP rfl (.L (cleanSs _) rfl (.L (cleanIL _) rfl (.L (cleanIL _) rfl (.cons (.sl _ _ _ _ _ _ _ (by decide) rfl (by rw[hpl];rfl) (by rw[hpl];rfl)) .nil))))) ?_|refine goB ?_|refine U.lw_c ?_ ?_<;>intro hb))
  rintro v vs ⟨⟨S3,A3⟩,sn3,⟨rfl,rfl⟩,hd3⟩
  (repeat' ((conv=>whnf);first|refine goA ?_|refine U.BothX.mk ?_ ?_|refine goB ?_|refine U.lw_c ?_ ?_<;>intro hb))
  all_goals (conv=>whnf)
  all_goals exact ⟨rfl,(S3,A3),hd3.post.fin,(Cov.renI rfl rfl rfl rfl .nil (.L rfl (cleanIL _) rfl (.L rfl (cleanIL _) rfl .nil)))⟩
 ·rintro e fr1 s1 ⟨rfl,⟨S3,A3⟩,h3,hcov⟩ _
  refine ⟨_,_,hcov,?_⟩;refine CodeS.run hmixU 0 zL ?_;(repeat' ((conv=>whnf);first|refine goD ?_|refine U.lw_c ?_ ?_<;>intro hb))
  (conv=>whnf);exact ⟨_,⟨(S3,A3),rfl,h3⟩,.tupL (.cons (.clean _ (cleanIL _)) (.cons (.clean _ (cleanIL _)) .nil))⟩
end Go.Proofs.YtocppbocphnbcaaGreatDoor
