
import Derived.Test.YtcihknonfcldeaaDoorKT22
import Derived.Test.YtcihknonfcldeaaDoorKT23
import Derived.Test.YtcihknonfcldeaaDoorKT24
import Derived.Test.YtcihknonfcldeaaDoorKT29
namespace Go.Proofs.YtcihknonfcldeaaDoor
open Go Go.RowKit Go.Sort U
set_option linter.unusedVariables false
set_option linter.unusedSimpArgs false
set_option maxRecDepth 100000
set_option maxHeartbeats 40000000
def letB (n:Int):Bool:=(decide (n≥97)&&decide (n≤122)) || (decide (n≥65)&&decide (n≤90)) || (n==95)
def okC (first:Bool) (c:UInt8):Bool:=letB c.toNat || (!first&&decide ((c.toNat:Int)≥48)&&decide ((c.toNat:Int)≤57))
def okAll:List UInt8->Bool
 |[]=>true
 |c::l=>okC true c&&l.all (okC false)
theorem okAll_snoc (l:List UInt8) (c:UInt8):okAll (l++[c])=(okAll l&&okC l.isEmpty c):=by
 cases l with
 |nil=>simp[okAll]
 |cons d l=>simp[okAll,Bool.and_assoc]
theorem okAll_app (l m:List UInt8):okAll (l++m)=true->okAll l=true:=by
 cases l with
 |nil=>intro;rfl
 |cons d l=>simp only[List.cons_append,okAll,List.all_append,Bool.and_eq_true];exact fun h=>⟨h.1,h.2.1⟩
def wordB (b:ByteArray):Bool:=decide (1≤b.size)&&decide (b.size≤32)&&okAll b.data.toList
def kwB:List ByteArray:=[⟨#[97,114,114,97,121]⟩,⟨#[99,97,108,108]⟩,⟨#[101,108,115,101]⟩,⟨#[105,102]⟩,⟨#[105,110]⟩,⟨#[109,97,105,110]⟩,⟨#[111,117,116,112,117,116]⟩,⟨#[112,114,111,99]⟩,⟨#[112,117,98,108,105,99]⟩,⟨#[115,101,99,114,101,116]⟩,⟨#[115,107,105,112]⟩,⟨#[118,97,114]⟩,⟨#[119,104,105,108,101]⟩]
def nameB (b:ByteArray):Bool:=!kwB.any (fun k=>decide (k=b))&&wordB b
theorem str_eq (a b:ByteArray):(a.toList==b.toList)=decide (a=b):=by
 rw[ByteArray.toList_eq,ByteArray.toList_eq];rw[Bool.eq_iff_iff,beq_iff_eq,decide_eq_true_iff];constructor
 ·intro h;obtain ⟨⟨l⟩⟩:=a;obtain ⟨⟨m⟩⟩:=b;simp at h;subst h;rfl
 ·rintro rfl;rfl
theorem chk_no {pre rest:List UInt8}{c:UInt8}(h:okC pre.isEmpty c=false):okAll (pre++c::rest)=false:=by
 have e:okAll (pre++[c])=false:=by rw[okAll_snoc,h,Bool.and_false]
 have e2:pre++c::rest=(pre++[c])++rest:=by simp
 rw[e2];cases hx:okAll ((pre++[c])++rest) with
 |false=>rfl
 |true=>rw[okAll_app _ _ hx] at e;cases e
theorem wordNo {pre rest:List UInt8}{c:UInt8}(h:okC pre.isEmpty c=false):wordB ⟨⟨pre++c::rest⟩⟩=false:=by
 unfold wordB;rw[show (⟨⟨pre++c::rest⟩⟩:ByteArray).data.toList=pre++c::rest from rfl,chk_no h,Bool.and_false]
theorem str_lt (pre rest:List UInt8) (c:UInt8):decide (((pre.length:Nat):Int)<((⟨⟨pre++c::rest⟩⟩:ByteArray).size:Int))=true:=decide_eq_true (by
 show ((pre.length:Nat):Int)<(((pre++c::rest).length:Nat):Int)
 rw[List.length_append,List.length_cons];omega)
theorem str_no (pre:List UInt8):decide (((pre.length:Nat):Int)<((⟨⟨pre⟩⟩:ByteArray).size:Int))=false:=decide_eq_false (by
 show ¬((pre.length:Nat):Int)<((pre.length:Nat):Int)
 omega)
theorem str_blt (pre rest:List UInt8) (c:UInt8):Nat.blt pre.length (pre++c::rest).length=true:=bLe (by
 rw[List.length_append,List.length_cons];omega)
theorem emp_eq (pre:List UInt8):(((pre.length:Nat):Int)==0)=pre.isEmpty:=by cases pre<;>simp;omega
theorem word_d (b:ByteArray):DenU Tryd.prog [] 63 [.string b] (.bool (wordB b)):=by
 obtain ⟨⟨l⟩⟩:=b;refine denU_of_body hmixU rfl Tryd.func63 rfl rfl rfl 0 ?_;intro Ts;(repeat' ((conv=>whnf);first|refine goD ?_|refine U.lw_c ?_ ?_<;>intro hb))
 all_goals (conv=>whnf)
 ·rw[str_eq] at hb;have hb:(⟨⟨l⟩⟩:ByteArray)=⟨#[]⟩:=of_decide_eq_true hb;cases hb;exact .same (.flat _ rfl) rfl
 ·have hb:((⟨⟨l⟩⟩:ByteArray).size:Int) > 32:=of_decide_eq_true hb;exact .same (.flat _ rfl) (congrArg Value.bool (by unfold wordB;rw[decide_eq_false (p:=(⟨⟨l⟩⟩:ByteArray).size≤32) (by omega)];simp))
 ·rename_i hb2;rw[str_eq] at hb2;have hb:¬((⟨⟨l⟩⟩:ByteArray).size:Int) > 32:=of_decide_eq_false hb;have hb:l.length≤32:=by
   have h2:¬(l.length:Int) > 32:=hb;omega
  have hb1:1≤l.length:=by
   rcases l with _|⟨c,l⟩
   ·exact absurd rfl (of_decide_eq_false hb2)
   ·simp
  clear hb2;refine loop_inv (α:=List UInt8×List UInt8) (fun x=>x.1++x.2=l∧okAll x.1=true) (fun x=>(mkF [(0,.string ⟨⟨l⟩⟩),(2,.bool false),(3,.int .i64 x.1.length)],⟨mkO [],0,0,0⟩)) (fun x=>x.2.length) ([],l) ⟨rfl,rfl⟩ (Cov.slots (Nat.le_refl 0) ⟨rfl,rfl,rfl,trivial⟩) ?_
  rintro ⟨pre,rest⟩ ⟨p1,p2⟩
  dsimp only at p1 p2;subst p1;dsimp only;rcases rest with _|⟨c,rest⟩
  ·rw[List.append_nil] at *;have zb:=str_no pre;(repeat' ((conv=>whnf);first|refine goD ?_|refine U.lw_c ?_ ?_<;>intro hb))
   all_goals (conv=>whnf)
   exact .same (.flat _ rfl) (congrArg Value.bool (by
    unfold wordB;rw[show (⟨⟨pre⟩⟩:ByteArray).size=pre.length from rfl,show (⟨⟨pre⟩⟩:ByteArray).data.toList=pre from rfl,p2,decide_eq_true hb,decide_eq_true hb1];rfl))
  ·have zb:=str_lt pre rest c;have zc:=str_blt pre rest c;have zn:nth ((pre++c::rest).map U.byteV) pre.length=some (U.byteV c):=U.nth_at (en:=fun l=>l.map U.byteV) (fun _=>rfl) pre c rest
   have zw:=U.len_snoc (pre:=pre) (x:=c) (post:=rest) (by omega)
   (repeat' ((conv=>whnf);first|refine goD ?_|refine U.lw_c ?_ ?_<;>intro hb))
   all_goals (conv=>whnf)
   all_goals try simp only[emp_eq] at *
   all_goals clear zb zc zn
   all_goals first
    |(refine .same (.flat _ rfl) (congrArg Value.bool (wordNo ?_).symm)<;>(simp_all[okC,letB]<;>omega);done)
    |(refine ⟨(pre++[c],rest),⟨by simp,?_⟩,by simp,Cov.slots (s:=⟨mkO [],0,0,0⟩) (Nat.le_refl 0) ⟨rfl,rfl,congrArg (fun z=>some (Value.int .i64 z)) zw,trivial⟩⟩;rw[okAll_snoc,p2];(simp_all[okC,letB]<;>omega);done)
def kwT:List (Nat×List Value):=[(0,kwB.map Value.string)]
theorem kw_ok:gOk kwT=true:=by kernel_rfl
def kwNo (b:ByteArray) (i:Nat):Bool:=(kwB.take i).all fun k=>!decide (k=b)
theorem kwNo_end {b:ByteArray}(h:kwNo b 13=true):(kwB.any fun k=>decide (k=b))=false:=by
 unfold kwNo at h;rw[show kwB.take 13=kwB from rfl] at h;rw[Bool.eq_false_iff];intro h2;obtain ⟨k,hk,h2⟩:=List.any_eq_true.1 h2;have:=List.all_eq_true.1 h k hk;rw[h2] at this;cases this
theorem kwNo_s {b k:ByteArray}{i:Nat}(hi:i<13) (hk:kwB[i]?=some k) (h:kwNo b i=true) (h2:decide (k=b)=false):kwNo b (i+1)=true:=by
 unfold kwNo at h ⊢
 rw[List.take_add_one,List.all_append,h,hk];simp[h2]
theorem kwYes {b k:ByteArray}(hk:k∈kwB) (h:k=b):nameB b=false:=by
 unfold nameB;rw[show (kwB.any fun k=>decide (k=b))=true from List.any_eq_true.2 ⟨k,hk,decide_eq_true h⟩]
 rfl
theorem name_d (b:ByteArray):DenU Tryd.prog kwT 48 [.string b] (.bool (nameB b)):=by
 refine denU_of_soundT kw_ok fun Ts=>SoundAt.body hmixU Tryd.func48 rfl rfl rfl 0 ?_
 (repeat' ((conv=>whnf);first|refine goD ?_|refine U.lw_c ?_ ?_<;>intro hb))
 (conv=>whnf);refine loop_inv (α:=Nat) (fun i=>i≤13∧kwNo b i=true) (fun i=>(mkF [(0,.string b),(2,.bool false),(5,.agg ⟨kwB.map Value.string⟩),(6,.int .i64 i)],U.start kwT Ts)) (fun i=>13-i) 0 ⟨by decide,rfl⟩ (Cov.slots rL ⟨rfl,rfl,rfl,rfl,trivial⟩) ?_
 rintro i ⟨h1,h2⟩
 have h3:i=13∨i=0∨i=1∨i=2∨i=3∨i=4∨i=5∨i=6∨i=7∨i=8∨i=9∨i=10∨i=11∨i=12:=by omega
 have hw:=word_d b;rcases h3 with rfl|h3
 ·(repeat' ((conv=>whnf);first|refine goD ?_|refine U.SoundAt.u (hw) clN ?_|refine U.SoundC.u (hw) clN ?_|refine U.lw_c ?_ ?_<;>intro hb))
  (conv=>whnf);exact .same (.flat _ rfl) (congrArg Value.bool (by rw[nameB,kwNo_end h2];rfl))
 ·rcases h3 with rfl|rfl|rfl|rfl|rfl|rfl|rfl|rfl|rfl|rfl|rfl|rfl|rfl
  all_goals (repeat' ((conv=>whnf);first|refine goD ?_|refine U.lw_c ?_ ?_<;>intro hb))
  all_goals (conv=>whnf)
  all_goals rw[str_eq] at hb
  all_goals first
   |exact .same (.flat _ rfl) (congrArg Value.bool (kwYes (by repeat (first|exact List.mem_cons_self|apply List.mem_cons_of_mem)) (of_decide_eq_true hb)).symm)
   |exact ⟨_,⟨bR rfl,kwNo_s (by decide) rfl h2 hb⟩,Nat.lt_of_lt_of_le (Nat.lt_succ_self _) rL,Cov.slots (s:=U.start kwT Ts) rL ⟨rfl,rfl,rfl,rfl,trivial⟩⟩
end Go.Proofs.YtcihknonfcldeaaDoor
namespace Go.Proofs.YtcihknonfcldeaaDoor.U
open Go Go.RowKit Go.Sort
set_option linter.unusedVariables false
set_option linter.unusedSimpArgs false
set_option maxRecDepth 100000
set_option maxHeartbeats 40000000
structure DenET (P:Program) (l:List (Nat×List Value)) (f:FuncId) (args:List Value) (Q:Value->Prop):Prop where
 out:∀(z:Nat->Nat->Option Value) (W:World) (vs:List Value),gSet l W->(∀r o v,z r o=some v->fzc W ⟨r,o,none⟩=some v)->VRs ⟨fun _=>none,z⟩ args vs ->
  Calls P f ⟨vs⟩ W fun e w'=>∃u v z',Q u∧e=.returned v∧(Below W.heap.size W w'∧W.drawn≤w'.drawn)∧(∀r o x,z r o=some x->z' r o=some x)∧(∀r o x,z' r o=some x->fzc w' ⟨r,o,none⟩=some x∧(z r o=some x∨W.heap.size≤r))∧VR ⟨fun _=>none,z'⟩ u v
theorem DenU.eT {P:Program}{l:List (Nat×List Value)}{f:FuncId}{args:List Value}{u:Value}{Q:Value->Prop}(h:DenU P l f args u) (hq:Q u):DenET P l f args Q :=
 ⟨fun z W vs hg hz hv=>(h.out z W vs hg hz hv).mono fun e w' ⟨v,z',h1,h2⟩=>⟨u,v,z',hq,h1,h2⟩⟩
theorem run_outT {P:Program}{l:List (Nat×List Value)}(hl:gOk l=true) {f:FuncId}{args:List Value}{K:Value->AS->Prop}(h:∀Ts,SoundAt P f args (start l Ts) K) (z:Nat->Nat->Option Value) (W:World) (vs:List Value) (hg:gSet l W) (hz:∀r o v,z r o=some v->fzc W ⟨r,o,none⟩=some v) (hv:VRs ⟨fun _=>none,z⟩ args vs) :
  Calls P f ⟨vs⟩ W fun e w'=>∃v u s' β',e=.returned v∧K u s'∧s'.lo=gTop l∧Rel P W β' s' w'∧VR β' u v∧(∀r o x,z r o=some x->β'.z r o=some x)∧(∀r o x,β'.z r o=some x->z r o=some x∨W.heap.size≤r)∧W.drawn≤w'.drawn:=by
 have hR0:=start_rel (P:=P) (l:=l) hl hg;have hR:Rel P W ⟨fun k=>if k<gTop l then some (k,0) else none,z⟩ (start l (typeAt W)) W :=
  ⟨fun k b r sp hk hr=>(hR0.blk k b r sp hk hr).sameX ⟨fun _ _ h=>h,fun _ _ _ h=>by cases h⟩ id rfl,hR0.inj,hR0.dom,hR0.lt,hR0.ge,hR0.below,hR0.glob,fun r o v hv=>⟨hz r o v hv,fun k sp hlo hk _=>absurd (hR0.dom k hk) (Nat.not_lt.2 hlo)⟩⟩
 refine ((h (typeAt W)).out rL W _ W vs hR (fun k hk=>start_free l (typeAt W) k hk) (VRs.growX (β:=⟨fun _=>none,z⟩) (β':=⟨fun k=>if k<gTop l then some (k,0) else none,z⟩) ⟨fun k x hk=>(by cases hk),fun _ _ _ h=>h⟩ hv)).mono fun e w' ⟨v,u',s',he,h1,hst,β',hx,hR',hv',hkd⟩=>?_
 exact ⟨v,u',s',β',he,h1,hst.lo,hR',hv',hx.z.1,hx.z.2,hkd.n⟩
theorem denET_of_sound {P:Program}{l:List (Nat×List Value)}(hl:gOk l=true) {f:FuncId}{args:List Value}{Q:Value->Prop}(h:∀Ts,SoundAt P f args (start l Ts) fun u' s'=>∃u,Q u∧FrzV P s' u' u):DenET P l f args Q:=by
 refine ⟨fun z W vs hg hz hv=>(run_outT hl h z W vs hg hz hv).mono fun e w' ⟨v,u',s',β',he,⟨u,hq,h1⟩,hlo,hR,hv',z1,z2,hdn⟩=>?_⟩
 have hzlt:∀r o x,z r o=some x->r<W.heap.size:=fun r o x h=>cell_lt (hz r o x h)
 have e1:∀r o,r<W.heap.size->fzc w' ⟨r,o,none⟩=fzc W ⟨r,o,none⟩:=fun r o h=>cell_same (hR.below.block r h)
 refine ⟨u,v,fun r o=>if r<W.heap.size then z r o else fzc w' ⟨r,o,none⟩,hq,he,⟨hR.below,hdn⟩,fun r o x hx'=>?_,fun r o x hx'=>?_,?_⟩
 ·show (if r<W.heap.size then z r o else _)=_
  rw[if_pos (hzlt r o x hx')];exact hx'
 ·have hx':(if r<W.heap.size then z r o else fzc w' ⟨r,o,none⟩)=some x:=hx'
  split at hx'
  ·rename_i hr;exact ⟨by rw[e1 r o hr];exact hz r o x hx',.inl hx'⟩
  ·rename_i hr;exact ⟨hx',.inr (by omega)⟩
 ·refine FrzV.rel hR (fun r o x hx'=>?_) (fun r o x hr hx'=>?_) h1 hv'
  ·show (if r<W.heap.size then z r o else fzc w' ⟨r,o,none⟩)=_
   split
   ·rename_i hr;rcases z2 r o x hx' with h|h
    ·exact h
    ·omega
   ·exact (hR.frz r o x hx').1
  ·show (if r<W.heap.size then z r o else fzc w' ⟨r,o,none⟩)=_
   rw[if_neg (by omega)];exact hx'
theorem SoundAt.eT {P:Program}{l:List (Nat×List Value)}(hl:gOk l=true) {f:FuncId}{args:List Value}{Q:Value->Prop}{s:AS}{k:Value->AS->Prop}(h:DenET P l f args Q) (hc:NoNms args) (ht:Tabled l s) (hk:∀u,Q u->k u s):SoundAt P f args s k:=by
 refine ⟨fun hlo W0 β W vs hR hf hv=>?_⟩
 refine (h.out β.z W vs (ht.set hl hR) (fun r o v hz=>(hR.frz r o v hz).1) (NoNm.rels hc.all hv)).mono fun e w' ⟨u,v,z',hq,he,⟨hb,hdn⟩,h1,h2,h3⟩=>?_
 have hR':=hR.later hb;refine ⟨v,u,s,he,hk u hq,.refl _,⟨β.m,z'⟩,⟨fun _ _=>rfl,hf,h1,fun r o x hx=>((h2 r o x hx).2).imp id fun hle=>Nat.le_trans hR.below.size hle⟩,hR'.frozen hR.lt h1 h2,?_,KD.below hb⟩
 exact VR.growX (β:=⟨fun _=>none,z'⟩) (β':=⟨β.m,z'⟩) ⟨fun k x hk=>(by cases hk),fun _ _ _ h=>h⟩ h3
end Go.Proofs.YtcihknonfcldeaaDoor.U
namespace Go.Proofs.YtcihknonfcldeaaDoor
open Go Go.RowKit Go.Sort U
set_option linter.unusedVariables false
set_option linter.unusedSimpArgs false
set_option maxRecDepth 100000
set_option maxHeartbeats 40000000
def BQ (p:Prop) (u:Value):Prop:=∃b:Bool,u=.bool b∧(b=true->p)
theorem bqK {p:Prop}{k:Value->Prop}(h:∀b:Bool,(b=true->p)->k (.bool b)):∀u,BQ p u->k u:=by
 rintro _ ⟨b,rfl,hb⟩
 exact h b hb
theorem bqF {P:Program}{s:AS}{p:Prop}(b:Bool) (h:b=true->p):∃u,BQ p u∧FrzV P s (.bool b) u:=⟨_,⟨b,rfl,h⟩,.same (.flat _ rfl) rfl⟩
theorem tabN {s:AS}{T:TypeId}(h1:s.glb=1) (h2:s.heap.get 0=some (.cells T (kwB.map Value.string) false)):Tabled kwT s:=fun x hx=>by
 rw[kwT,List.mem_singleton] at hx;subst hx;exact ⟨by rw[h1];decide,T,h2⟩
theorem kwClean:∀x∈kwB.map Value.string,NoNm x:=fun x hx=>by
 obtain ⟨b,_,rfl⟩:=List.mem_map.1 hx;exact .flat _ rfl
abbrev kwBlk (Ts:Nat->TypeId):Option U.Blk:=some (.cells (Ts 0) (kwB.map Value.string) false)
theorem cleanStr (s:ByteArray):NoNm (.string s):=.flat _ rfl
theorem lit_d (n:Int):DenU Tryd.prog [] 47 [.int .i64 n] (.bool (decide (n≥0) || n==-9223372036854775808)):=by
 refine denU_of_sound hmixU fun Ts=>SoundAt.body hmixU Tryd.func47 rfl rfl rfl 0 ?_
 (repeat' ((conv=>whnf);first|refine goD ?_|refine U.lw_c ?_ ?_<;>intro hb))
 all_goals (conv=>whnf)
 all_goals exact .same (.flat _ rfl) (congrArg Value.bool (by rw[hb];rfl))
theorem one_d (n:Int):DenU Tryd.prog [] 64 [.int .i64 n] (.bool (decide (n≥18)&&decide (n≤20))):=by
 refine denU_of_sound hmixU fun Ts=>SoundAt.body hmixU Tryd.func64 rfl rfl rfl 0 ?_
 (repeat' ((conv=>whnf);first|refine goD ?_|refine U.lw_c ?_ ?_<;>intro hb))
 all_goals (conv=>whnf)
 all_goals exact .same (.flat _ rfl) (congrArg Value.bool (by rw[hb];rfl))
theorem isOp_d (n:Int):DenU Tryd.prog [] 65 [.int .i64 n] (.bool (decide (n≥0)&&decide (n≤20))):=by
 refine denU_of_sound hmixU fun Ts=>SoundAt.body hmixU Tryd.func65 rfl rfl rfl 0 ?_
 (repeat' ((conv=>whnf);first|refine goD ?_|refine U.lw_c ?_ ?_<;>intro hb))
 all_goals (conv=>whnf)
 all_goals exact .same (.flat _ rfl) (congrArg Value.bool (by rw[hb];rfl))
theorem allE_d (l:List AE) (hl:l.length≤1000) (ih:∀e∈l,DenET Tryd.prog kwT 51 [encA e] (BQ True)):DenET Tryd.prog kwT 50 [imS (encAs l),.func (.func 51) ⟨[]⟩ ⟨[]⟩] (BQ True):=by
 refine denET_of_sound kw_ok fun Ts=>SoundAt.body hmixU Tryd.func50 rfl rfl rfl 0 ?_
 have kl:=cleanAs l;(repeat' ((conv=>whnf);first|refine goD ?_|refine U.lw_c ?_ ?_<;>intro hb))
 (conv=>whnf);refine loop_inv (α:=List AE×List AE) (fun x=>x.1++x.2=l∧ True) (fun x=>(mkF [(0,imS (encAs l)),(1,.func (.func 51) ⟨[]⟩ ⟨[]⟩),(4,.bool false),(7,imS (encAs l)),(8,.int .i64 (encAs l).length),(9,.int .i64 x.1.length)],⟨mkO [(0,kwBlk Ts)],1,1,1⟩)) (fun x=>x.2.length) ([],l) ⟨rfl,trivial⟩ (Cov.slots rL ⟨rfl,rfl,rfl,rfl,rfl,rfl,trivial⟩) ?_
 rintro ⟨pre,rest⟩ ⟨p1,p2⟩
 dsimp only at p1 p2;subst p1;dsimp only;rcases rest with _|⟨x,rest⟩
 ·rw[List.append_nil] at *;have yb:=U.lt_no encAs_map pre;(repeat' ((conv=>whnf);first|refine goD ?_|refine U.lw_c ?_ ?_<;>intro hb))
  (conv=>whnf);exact bqF _ fun _=>p2
 ·have yb:=U.lt_yes encAs_map pre (x) rest;have yc:=U.blt_yes encAs_map pre (x) rest;have yn:=U.nth_at encAs_map pre (x) rest;have yw:=U.len_snoc (pre:=pre) (x:=x) (post:=rest) ((Nat.le_trans hl (by decide)))
  have c1:=ih x (by simp)
  have kx:=cleanA x;clear ih;obtain ⟨x1,x2,x3,x4,x5,x6,x7⟩:=x;(repeat' ((conv=>whnf);first|refine goD ?_|refine U.lw_c ?_ ?_<;>intro hb))
  (conv=>whnf);refine U.SoundAt.eT kw_ok c1 ⟨kx,trivial⟩ (tabN rfl rfl) ?_;refine bqK fun b hb0=>?_
  rcases b with _|_
  ·(repeat' ((conv=>whnf);first|refine goD ?_|refine U.lw_c ?_ ?_<;>intro hb))
   (conv=>whnf);exact bqF _ fun h=>by cases h
  ·(repeat' ((conv=>whnf);first|refine goD ?_|refine U.lw_c ?_ ?_<;>intro hb))
   (conv=>whnf);exact ⟨(pre++[⟨x1,x2,x3,x4,x5,x6,x7⟩],rest),⟨by simp,trivial⟩,by simp,(Cov.renO (fun k=>k) rfl rfl (bR rfl) (bR rfl) (fun _ _=>rfl) rfl (kp1 (by rfl)) (.W rfl (kwClean) rfl .nil) (.L rfl (kl) rfl (.K rfl rfl rfl (.K rfl rfl rfl (.L rfl (kl) rfl (.cons rfl .I (.L rfl (cleanI _) (congrArg (Value.int .i64) (yw.symm)) .nil)))))))⟩
theorem allT_d (l:List AS6) (hl:l.length≤1000) (ih:∀e∈l,DenET Tryd.prog kwT 33 [encT e] (BQ True)):DenET Tryd.prog kwT 32 [imS (encTs l),.func (.func 33) ⟨[]⟩ ⟨[]⟩] (BQ True):=by
 refine denET_of_sound kw_ok fun Ts=>SoundAt.body hmixU Tryd.func32 rfl rfl rfl 0 ?_
 have kl:=cleanT6s l;(repeat' ((conv=>whnf);first|refine goD ?_|refine U.lw_c ?_ ?_<;>intro hb))
 (conv=>whnf);refine loop_inv (α:=List AS6×List AS6) (fun x=>x.1++x.2=l∧ True) (fun x=>(mkF [(0,imS (encTs l)),(1,.func (.func 33) ⟨[]⟩ ⟨[]⟩),(4,.bool false),(7,imS (encTs l)),(8,.int .i64 (encTs l).length),(9,.int .i64 x.1.length)],⟨mkO [(0,kwBlk Ts)],1,1,1⟩)) (fun x=>x.2.length) ([],l) ⟨rfl,trivial⟩ (Cov.slots rL ⟨rfl,rfl,rfl,rfl,rfl,rfl,trivial⟩) ?_
 rintro ⟨pre,rest⟩ ⟨p1,p2⟩
 dsimp only at p1 p2;subst p1;dsimp only;rcases rest with _|⟨x,rest⟩
 ·rw[List.append_nil] at *;have yb:=U.lt_no encTs_map pre;(repeat' ((conv=>whnf);first|refine goD ?_|refine U.lw_c ?_ ?_<;>intro hb))
  (conv=>whnf);exact bqF _ fun _=>p2
 ·have yb:=U.lt_yes encTs_map pre (x) rest;have yc:=U.blt_yes encTs_map pre (x) rest;have yn:=U.nth_at encTs_map pre (x) rest;have yw:=U.len_snoc (pre:=pre) (x:=x) (post:=rest) ((Nat.le_trans hl (by decide)))
  have c1:=ih x (by simp)
  have kx:=cleanT6 x;clear ih;obtain ⟨x1,x2,x3,x4,x5,x6,x7⟩:=x;(repeat' ((conv=>whnf);first|refine goD ?_|refine U.lw_c ?_ ?_<;>intro hb))
  (conv=>whnf);refine U.SoundAt.eT kw_ok c1 ⟨kx,trivial⟩ (tabN rfl rfl) ?_;refine bqK fun b hb0=>?_
  rcases b with _|_
  ·(repeat' ((conv=>whnf);first|refine goD ?_|refine U.lw_c ?_ ?_<;>intro hb))
   (conv=>whnf);exact bqF _ fun h=>by cases h
  ·(repeat' ((conv=>whnf);first|refine goD ?_|refine U.lw_c ?_ ?_<;>intro hb))
   (conv=>whnf);exact ⟨(pre++[⟨x1,x2,x3,x4,x5,x6,x7⟩],rest),⟨by simp,trivial⟩,by simp,(Cov.renO (fun k=>k) rfl rfl (bR rfl) (bR rfl) (fun _ _=>rfl) rfl (kp1 (by rfl)) (.W rfl (kwClean) rfl .nil) (.L rfl (kl) rfl (.K rfl rfl rfl (.K rfl rfl rfl (.L rfl (kl) rfl (.cons rfl .I (.L rfl (cleanI _) (congrArg (Value.int .i64) (yw.symm)) .nil)))))))⟩
theorem allD_d (l:List ADc) (hl:l.length≤1000) (ih:∀e∈l,DenET Tryd.prog kwT 31 [encDc e] (BQ (0≤e.k∧e.k≤4))):DenET Tryd.prog kwT 30 [imS (encDcs l),.func (.func 31) ⟨[]⟩ ⟨[]⟩] (BQ (∀d∈l,0≤d.k∧d.k≤4)):=by
 refine denET_of_sound kw_ok fun Ts=>SoundAt.body hmixU Tryd.func30 rfl rfl rfl 0 ?_
 have kl:=cleanDcs l;(repeat' ((conv=>whnf);first|refine goD ?_|refine U.lw_c ?_ ?_<;>intro hb))
 (conv=>whnf);refine loop_inv (α:=List ADc×List ADc) (fun x=>x.1++x.2=l∧∀d∈x.1,0≤d.k∧d.k≤4) (fun x=>(mkF [(0,imS (encDcs l)),(1,.func (.func 31) ⟨[]⟩ ⟨[]⟩),(4,.bool false),(7,imS (encDcs l)),(8,.int .i64 (encDcs l).length),(9,.int .i64 x.1.length)],⟨mkO [(0,kwBlk Ts)],1,1,1⟩)) (fun x=>x.2.length) ([],l) ⟨rfl,fun d hd=>by cases hd⟩ (Cov.slots rL ⟨rfl,rfl,rfl,rfl,rfl,rfl,trivial⟩) ?_
 rintro ⟨pre,rest⟩ ⟨p1,p2⟩
 dsimp only at p1 p2;subst p1;dsimp only;rcases rest with _|⟨x,rest⟩
 ·rw[List.append_nil] at *;have yb:=U.lt_no encDcs_map pre;(repeat' ((conv=>whnf);first|refine goD ?_|refine U.lw_c ?_ ?_<;>intro hb))
  (conv=>whnf);exact bqF _ fun _=>p2
 ·have yb:=U.lt_yes encDcs_map pre (x) rest;have yc:=U.blt_yes encDcs_map pre (x) rest;have yn:=U.nth_at encDcs_map pre (x) rest;have yw:=U.len_snoc (pre:=pre) (x:=x) (post:=rest) ((Nat.le_trans hl (by decide)))
  have c1:=ih x (by simp)
  have kx:=cleanDc x;clear ih;(repeat' ((conv=>whnf);first|refine goD ?_|refine U.lw_c ?_ ?_<;>intro hb))
  (conv=>whnf);refine U.SoundAt.eT kw_ok c1 ⟨kx,trivial⟩ (tabN rfl rfl) ?_;refine bqK fun b hb0=>?_
  rcases b with _|_
  ·(repeat' ((conv=>whnf);first|refine goD ?_|refine U.lw_c ?_ ?_<;>intro hb))
   (conv=>whnf);exact bqF _ fun h=>by cases h
  ·(repeat' ((conv=>whnf);first|refine goD ?_|refine U.lw_c ?_ ?_<;>intro hb))
   (conv=>whnf);exact ⟨(pre++[x],rest),⟨by simp,fun d hd=>(List.mem_append.1 hd).elim (p2 d) fun hd=>by rw[List.mem_singleton] at hd;subst hd;exact hb0 rfl⟩,by simp,(Cov.renO (fun k=>k) rfl rfl (bR rfl) (bR rfl) (fun _ _=>rfl) rfl (kp1 (by rfl)) (.W rfl (kwClean) rfl .nil) (.L rfl (kl) rfl (.K rfl rfl rfl (.K rfl rfl rfl (.L rfl (kl) rfl (.cons rfl .I (.L rfl (cleanI _) (congrArg (Value.int .i64) (yw.symm)) .nil)))))))⟩
theorem allS_d (l:List ByteArray) (hl:l.length≤1000) (ih:∀e∈l,DenET Tryd.prog kwT 48 [.string e] (BQ True)):DenET Tryd.prog kwT 49 [imS (sL l),.func (.func 48) ⟨[]⟩ ⟨[]⟩] (BQ True):=by
 refine denET_of_sound kw_ok fun Ts=>SoundAt.body hmixU Tryd.func49 rfl rfl rfl 0 ?_
 have kl:=cleanSL l;(repeat' ((conv=>whnf);first|refine goD ?_|refine U.lw_c ?_ ?_<;>intro hb))
 (conv=>whnf);refine loop_inv (α:=List ByteArray×List ByteArray) (fun x=>x.1++x.2=l∧ True) (fun x=>(mkF [(0,imS (sL l)),(1,.func (.func 48) ⟨[]⟩ ⟨[]⟩),(4,.bool false),(7,imS (sL l)),(8,.int .i64 (sL l).length),(9,.int .i64 x.1.length)],⟨mkO [(0,kwBlk Ts)],1,1,1⟩)) (fun x=>x.2.length) ([],l) ⟨rfl,trivial⟩ (Cov.slots rL ⟨rfl,rfl,rfl,rfl,rfl,rfl,trivial⟩) ?_
 rintro ⟨pre,rest⟩ ⟨p1,p2⟩
 dsimp only at p1 p2;subst p1;dsimp only;rcases rest with _|⟨x,rest⟩
 ·rw[List.append_nil] at *;have yb:=U.lt_no sL_map pre;(repeat' ((conv=>whnf);first|refine goD ?_|refine U.lw_c ?_ ?_<;>intro hb))
  (conv=>whnf);exact bqF _ fun _=>p2
 ·have yb:=U.lt_yes sL_map pre (x) rest;have yc:=U.blt_yes sL_map pre (x) rest;have yn:=U.nth_at sL_map pre (x) rest;have yw:=U.len_snoc (pre:=pre) (x:=x) (post:=rest) ((Nat.le_trans hl (by decide)))
  have c1:=ih x (by simp)
  have kx:=cleanStr x;clear ih;(repeat' ((conv=>whnf);first|refine goD ?_|refine U.lw_c ?_ ?_<;>intro hb))
  (conv=>whnf);refine U.SoundAt.eT kw_ok c1 ⟨kx,trivial⟩ (tabN rfl rfl) ?_;refine bqK fun b hb0=>?_
  rcases b with _|_
  ·(repeat' ((conv=>whnf);first|refine goD ?_|refine U.lw_c ?_ ?_<;>intro hb))
   (conv=>whnf);exact bqF _ fun h=>by cases h
  ·(repeat' ((conv=>whnf);first|refine goD ?_|refine U.lw_c ?_ ?_<;>intro hb))
   (conv=>whnf);exact ⟨(pre++[x],rest),⟨by simp,trivial⟩,by simp,(Cov.renO (fun k=>k) rfl rfl (bR rfl) (bR rfl) (fun _ _=>rfl) rfl (kp1 (by rfl)) (.W rfl (kwClean) rfl .nil) (.L rfl (kl) rfl (.K rfl rfl rfl (.K rfl rfl rfl (.L rfl (kl) rfl (.cons rfl .I (.L rfl (cleanI _) (congrArg (Value.int .i64) (yw.symm)) .nil)))))))⟩
end Go.Proofs.YtcihknonfcldeaaDoor
