
import Derived.Test.YtnfppdblcmollaaGreatDoorTS26
import Derived.Test.YtnfppdblcmollaaGreatDoorTS35
import Derived.Test.YtnfppdblcmollaaGreatDoorTS42
namespace Go.Proofs.YtnfppdblcmollaaGreatDoor.U
open Go Go.RowKit Go.Sort
set_option linter.unusedVariables false
set_option linter.unusedSimpArgs false
set_option maxRecDepth 100000
set_option maxHeartbeats 40000000
def leafB (u y:Value):Bool:=match u,y with
 |.slice none 0 0,.slice none 0 0=>true
 |u,y=>valB1 u y
theorem valB1_flat {u v:Value}(h:valB1 u v=true):flat1 u=true:=by
 unfold valB1 at h;split at h
 ·rfl
 ·rfl
 ·rfl
 ·cases h
theorem leafB_eq {u y:Value}(h:leafB u y=true):u=y∧flat1 u=true:=by
 unfold leafB at h;split at h
 ·exact ⟨rfl,rfl⟩
 ·exact ⟨valB1_eq h,valB1_flat h⟩
theorem flat1_V {u:Value}(h:flat1 u=true):flatV u=true:=by
 cases u<;>first|exact h|(simp[flat1] at h)
def allV (f:Value->Value->Bool):List Value->List Value->Bool
 |[],[]=>true
 |a::l,b::m=>f a b&&allV f l m
 |_,_=>false
theorem allV_at {f:Value->Value->Bool}:∀{l m:List Value},allV f l m=true->l.length=m.length∧∀(i:Nat) (u v:Value),l[i]?=some u->m[i]?=some v->f u v=true
 |[],[],_=>⟨rfl,fun i u v h=>by simp at h⟩
 |a::l,b::m,h=>by
  simp only[allV,Bool.and_eq_true] at h;obtain ⟨h1,h2⟩:=allV_at h.2;refine ⟨by simp[h1],fun i u v hu hv=>?_⟩
  cases i with
  |zero=>simp at hu hv;subst hu;subst hv;exact h.1
  |succ i=>simp at hu hv;exact h2 i u v hu hv
 |[],_::_,h=>by cases h
 |_::_,[],h=>by cases h
theorem NoNm.cells {x:Value}(h:NoNm x):∀c∈cellsOf x,NoNm c:=by
 intro c hc;cases h with
 |flat _ h =>
  cases x with
  |agg l =>
   obtain ⟨l⟩:=l;exact .flat c (flat1_V (List.all_eq_true.1 h c hc))
  |_=>simp[cellsOf] at hc;subst hc;exact .flat _ h
 |agg l h=>exact h c hc
 |ims xs h=>simp[cellsOf,imS] at hc;subst hc;exact .ims xs h
 |imp x o h=>simp[cellsOf,imP] at hc;subst hc;exact .imp x o h
 |ime=>simp[cellsOf,imE] at hc;subst hc;exact .ime
def eqS (f:Value->Value->Bool) (u y:Value):Bool:=match u with
 |.agg ⟨l⟩=>match y with
  |.agg ⟨m⟩=>allV f l m
  |_=>false
 |.func (.yield 0) ⟨l⟩ ⟨[.bool true]⟩=>match y with
  |.func (.yield 0) ⟨m⟩ ⟨[.bool true]⟩=>allV f l m
  |_=>false
 |u=>leafB u y
def eqV:Nat->Value->Value->Bool
 |0=>fun _ _=>false
 |n+1=>eqS (eqV n)
theorem allV_eq {f:Value->Value->Bool}(hf:∀u y,f u y=true->u=y∧NoNm u):∀{l m:List Value},allV f l m=true->l=m∧∀x∈l,NoNm x
 |[],[],_=>⟨rfl,fun x h=>by cases h⟩
 |a::l,b::m,h=>by
  simp only[allV,Bool.and_eq_true] at h;obtain ⟨h1,h2⟩:=hf _ _ h.1;obtain ⟨h3,h4⟩:=allV_eq hf h.2;refine ⟨by rw[h1,h3],fun x hx=>?_⟩
  rcases List.mem_cons.1 hx with rfl|hx
  ·exact h2
  ·exact h4 x hx
 |[],_::_,h=>by cases h
 |_::_,[],h=>by cases h
theorem eqV_eq:∀(n:Nat) (u y:Value),eqV n u y=true->u=y∧NoNm u
 |0,u,y,h=>by cases h
 |n+1,u,y,h=>by
  have h:eqS (eqV n) u y=true:=h;unfold eqS at h;split at h
  ·split at h
   ·obtain ⟨e,h2⟩:=allV_eq (eqV_eq n) h;exact ⟨by rw[e],.agg _ h2⟩
   ·cases h
  ·split at h
   ·obtain ⟨e,h2⟩:=allV_eq (eqV_eq n) h;refine ⟨by rw[e],.ims _ fun c hc=>?_⟩
    obtain ⟨x,hx,hc⟩:=List.mem_flatMap.1 hc;exact (h2 x hx).cells c hc
   ·cases h
  ·obtain ⟨e,h2⟩:=leafB_eq h;exact ⟨e,.flat _ (flat1_V h2)⟩
def sameS (f:Value->Value->Bool) (s:AS) (u y:Value):Bool:=match y with
 |.agg ⟨m⟩=>match u with
  |.agg ⟨l⟩=>allV f l m
  |_=>false
 |.tuple ⟨m⟩=>match u with
  |.tuple ⟨l⟩=>allV f l m
  |_=>false
 |.func (.yield 0) ⟨ys⟩ ⟨[.bool true]⟩=>match u with
  |.slice none 0 0=>ys.isEmpty
  |.slice (some ⟨k,0,none⟩) i c=>match Tr.at (pt k) s.heap with
   |some (.cells _ xs _)=>decide (s.lo≤k)&&(decide (i=ys.length)&&(decide (i≤c)&&((ys.all fun y=>decide ((cellsOf y).length=(cellsOf (ys.headD y)).length))&&allV f (xs.take (cellsAll ys).length) (cellsAll ys))))
   |_=>false
  |_=>false
 |_=>false
def sameR:Nat->AS->Value->Value->Bool
 |0,_=>fun _ _=>false
 |n+1,s=>fun u y=>eqV (n+1) u y || sameS (sameR n s) s u y
theorem szB_eq {ys:List Value}(h:(ys.all fun y=>decide ((cellsOf y).length=(cellsOf (ys.headD y)).length))=true):∀y∈ys,(cellsOf y).length=(cellsOf (ys.headD (.bool true))).length:=by
 intro y hy;have:=of_decide_eq_true (List.all_eq_true.1 h y hy);cases ys with
 |nil=>cases hy
 |cons a l=>exact this
theorem sameR_frz {P:Program}{s:AS}:∀(n:Nat) (u y:Value),sameR n s u y=true->FrzV P s u y
 |0,u,y,h=>by cases h
 |n+1,u,y,h=>by
  replace h:=Bool.or_eq_true_iff.1 (show (eqV (n+1) u y || sameS (sameR n s) s u y)=true from h)
  rcases h with h|h
  ·obtain ⟨e,h2⟩:=eqV_eq _ _ _ h;exact .same h2 e
  unfold sameS at h;split at h
  ·split at h
   ·obtain ⟨h1,h2⟩:=allV_at h;exact .agg _ _ h1 fun i u v hu hv=>sameR_frz n u v (h2 i u v hu hv)
   ·cases h
  ·split at h
   ·obtain ⟨h1,h2⟩:=allV_at h;exact .tup _ _ h1 fun i u v hu hv=>sameR_frz n u v (h2 i u v hu hv)
   ·cases h
  ·rename_i ys;split at h
   ·have:ys=[]:=by simpa using h
    subst this;exact .nil
   ·split at h
    ·rename_i k i c _ T xs op hk;simp only[Bool.and_eq_true] at h;obtain ⟨h1,h2,h3,h4,h5⟩:=h;obtain ⟨h6,h7⟩:=allV_at h5;have hle:(cellsAll ys).length≤xs.length:=by rw[List.length_take] at h6;omega
     refine .row k i c _ T xs ys op (of_decide_eq_true h1) hk (szB_eq h4) (of_decide_eq_true h2) (of_decide_eq_true h3) hle fun j u v hu hv=>sameR_frz n u v (h7 j u v ?_ hv)
     have hj:j<(cellsAll ys).length:=(List.getElem?_eq_some_iff.1 hv).1;rw[List.getElem?_take_of_lt hj];exact hu
    ·cases h
   ·cases h
  ·cases h
theorem sameR_L {P:Program}{s:AS}{n:Nat}:∀{l m:List Value},allV (sameR n s) l m=true->FrzL P s l m
 |[],[],_=>trivial
 |a::l,b::m,h=>by
  simp only[allV,Bool.and_eq_true] at h;exact .cons (sameR_frz n a b h.1) (sameR_L h.2)
 |[],_::_,h=>by cases h
 |_::_,[],h=>by cases h
structure Con where
 own:Bool
 f:FuncId
 args:List Value
 u:Value
structure DenNT (P:Program) (l:List (Nat×List Value)) (f:FuncId) (args:List Value) (u:Value):Prop where
 out:∀(z:Nat->Nat->Option Value) (W:World) (vs:List Value),gSet l W->(∀r o v,z r o=some v->W.cell? ⟨r,o,none⟩=some v)->VRs ⟨fun _=>none,z⟩ args vs ->
  Calls P f ⟨vs⟩ W fun e w'=>∃v z',e=.returned v∧(Below W.heap.size W w'∧W.drawn≤w'.drawn)∧(∀r o x,z' r o=some x->w'.cell? ⟨r,o,none⟩=some x∧W.heap.size≤r)∧VR ⟨fun _=>none,z'⟩ u v
theorem run_outT {P:Program}(hm:P.follows .mixedOrders=true) {l:List (Nat×List Value)}(hl:gOk l=true) {f:FuncId}{args:List Value}{K:Value->AS->Prop}(h:∀Ts,SoundAt P f args (start l Ts) K) (z:Nat->Nat->Option Value) (W:World) (vs:List Value) (hg:gSet l W) (hz:∀r o v,z r o=some v->W.cell? ⟨r,o,none⟩=some v) (hv:VRs ⟨fun _=>none,z⟩ args vs) :
  Calls P f ⟨vs⟩ W fun e w'=>∃v u s' β',e=.returned v∧K u s'∧Rel P W β' s' w'∧VR β' u v∧(∀r o x,z r o=some x->β'.z r o=some x)∧(∀r o x,β'.z r o=some x->z r o=some x∨W.heap.size≤r)∧W.drawn≤w'.drawn:=by
 have hR0:=start_rel (P:=P) (l:=l) hl hg;have hR:Rel P W ⟨fun k=>if k<gTop l then some (k,0) else none,z⟩ (start l (typeAt W)) W :=
  ⟨fun k b r sp hk hr=>(hR0.blk k b r sp hk hr).sameX ⟨fun _ _ h=>h,fun _ _ _ h=>by cases h⟩ id rfl,hR0.inj,hR0.dom,hR0.lt,hR0.ge,hR0.below,hR0.glob,fun r o v hv=>⟨hz r o v hv,fun k sp hlo hk _=>absurd (hR0.dom k hk) (Nat.not_lt.2 hlo)⟩⟩
 refine ((h (typeAt W)).out rL W _ W vs hR (fun k hk=>start_free l (typeAt W) k hk) (VRs.growX (β:=⟨fun _=>none,z⟩) (β':=⟨fun k=>if k<gTop l then some (k,0) else none,z⟩) ⟨fun k x hk=>(by cases hk),fun _ _ _ h=>h⟩ hv)).mono fun e w' ⟨v,u',s',he,h1,hst,β',hx,hR',hv',hkd⟩=>?_
 exact ⟨v,u',s',β',he,h1,hR',hv',hx.z.1,hx.z.2,hkd.n⟩
theorem denNT_of_sound {P:Program}(hm:P.follows .mixedOrders=true) {l:List (Nat×List Value)}(hl:gOk l=true) {f:FuncId}{args:List Value}{u:Value}(h:∀Ts,SoundAt P f args (start l Ts) fun u' s'=>FrzN P s' u' u):DenNT P l f args u:=by
 refine ⟨fun z W vs hg hz hv=>(run_outT hm hl h z W vs hg hz hv).mono fun e w' ⟨v,u',s',β',he,h1,hR,hv',z1,z2,hdn⟩=>?_⟩
 refine ⟨v,fun r o=>if r<W.heap.size then none else w'.cell? ⟨r,o,none⟩,he,⟨hR.below,hdn⟩,fun r o x hx=>?_,?_⟩
 ·have hx:(if r<W.heap.size then none else w'.cell? ⟨r,o,none⟩)=some x:=hx
  split at hx
  ·cases hx
  ·exact ⟨hx,by omega⟩
 ·refine FrzN.rel hR (fun r o x hr hx=>?_) h1 hv'
  show (if r<W.heap.size then none else w'.cell? ⟨r,o,none⟩)=_
  rw[if_neg (by omega)];exact hx
theorem DenNT.of_flat {P:Program}{l:List (Nat×List Value)}{f:FuncId}{args:List Value}{u:Value}(h:DenU P l f args u) (hu:flatV u=true):DenNT P l f args u :=
 ⟨fun z W vs hg hz hv=>(h.out z W vs hg hz hv).mono fun e w' ⟨v,z',he,hb,_,_,hv'⟩=>⟨v,fun _ _=>none,he,hb,fun r o x hx=>(by cases hx),by
  rw[hv'.flat_eq hu];exact .of_flat _ hu⟩⟩
theorem DenNT.u {P:Program}{l:List (Nat×List Value)}{f:FuncId}{args:List Value}{u:Value}(h:DenNT P l f args u) (hu:flatV u=true):DenU P l f args u:=by
 refine ⟨fun z W vs hg hz hv=>(h.out z W vs hg hz hv).mono fun e w' ⟨v,z',he,hb,h2,hv'⟩=>⟨v,z,he,hb,fun _ _ _ h=>h,fun r o x hx=>⟨?_,.inl hx⟩,?_⟩⟩
 ·rw[cell_same (hb.1.block r (cell_lt (hz r o x hx)))];exact hz r o x hx
 ·rw[hv'.flat_eq hu];exact .of_flat _ hu
theorem SoundAt.nFT {P:Program}{l:List (Nat×List Value)}(hgl:gOk l=true) {f:FuncId}{args args':List Value}{u:Value}{s:AS}{k:Value->AS->Prop}(h:DenNT P l f args' u) (hf:FrzL P (seen s) args args') (ht:Tabled l s) (hk:k u s):SoundAt P f args s k:=by
 refine ⟨fun hl W0 β W vs hR hfr hv=>?_⟩
 have hall:VRs ⟨fun _=>none,fun r o=>W.cell? ⟨r,o,none⟩⟩ args' vs:=⟨hf.at_.1.symm.trans hv.1,fun i y v hy hv'=>by
  have hi:i<args.length:=by rw[hf.at_.1];exact (List.getElem?_eq_some_iff.1 hy).1
  exact (hf.at_.2 i args[i] y (List.getElem?_eq_getElem hi) hy).relAll (s0:=seen s) (s:=s) rfl hR (fun r o x hx=>(hR.frz r o x hx).1) (fun _ _ _ h=>h) (hv.2 i _ v (List.getElem?_eq_getElem hi) hv')⟩
 refine (h.out (fun r o=>W.cell? ⟨r,o,none⟩) W vs (ht.set hgl hR) (fun _ _ _ h=>h) hall).mono fun e w' ⟨v,z',he,⟨hb,hdn⟩,h2,hv'⟩=>?_
 have hR':=hR.later hb;let zf:Nat->Nat->Option Value:=fun r o=>if r<W.heap.size then β.z r o else z' r o
 have hzlt:∀r o x,β.z r o=some x->r<W.heap.size:=fun r o x h=>cell_lt (hR.frz r o x h).1
 have hz1:∀r o x,β.z r o=some x->zf r o=some x:=fun r o x hx=>by
  show (if r<W.heap.size then _ else _)=_
  rw[if_pos (hzlt r o x hx)];exact hx
 have hz2:∀r o x,zf r o=some x->(r<W.heap.size∧β.z r o=some x)∨(W.heap.size≤r∧z' r o=some x):=fun r o x hx=>by
  have hx:(if r<W.heap.size then β.z r o else z' r o)=some x:=hx
  split at hx
  ·rename_i h;exact .inl ⟨h,hx⟩
  ·rename_i h;exact .inr ⟨by omega,hx⟩
 have hz3:∀r o x,z' r o=some x->zf r o=some x:=fun r o x hx=>by
  show (if r<W.heap.size then _ else _)=_
  rw[if_neg (by have:=(h2 r o x hx).2;omega)];exact hx
 refine ⟨v,u,s,he,hk,.refl _,⟨β.m,zf⟩,⟨fun _ _=>rfl,hfr,⟨hz1,fun r o x hx=>?_⟩⟩,⟨fun k b r sp hk hr=>(hR'.blk k b r sp hk hr).sameX ⟨fun _ _ h=>h,hz1⟩ id rfl,hR'.inj,hR'.dom,hR'.lt,hR'.ge,hR'.below,hR'.glob,fun r o x hx=>?_⟩,?_,KD.below hb⟩
 ·rcases hz2 r o x hx with ⟨_,h⟩|⟨h,_⟩
  ·exact .inl h
  ·exact .inr (Nat.le_trans hR.below.size h)
 ·rcases hz2 r o x hx with ⟨_,h⟩|⟨h,h'⟩
  ·exact hR'.frz r o x h
  ·refine ⟨(h2 r o x h').1,fun k sp hlo hk hr=>?_⟩
   have:=hR.lt k r sp hr;omega
 ·exact VR.growX (β:=⟨fun _=>none,z'⟩) (β':=⟨β.m,zf⟩) ⟨fun k x hk=>(by cases hk),hz3⟩ hv'
def tabB (l:List (Nat×List Value)) (s:AS):Bool:=l.all fun x=>decide (x.1<s.glb)&&(match Tr.at (pt x.1) s.heap with
 |some (.cells _ xs false)=>valsB xs x.2
 |_=>false)
theorem tabB_ok {l:List (Nat×List Value)}{s:AS}(h:tabB l s=true):Tabled l s:=fun x hx=>by
 have h:=List.all_eq_true.1 h x hx;simp only[Bool.and_eq_true,decide_eq_true_eq] at h;obtain ⟨h1,h2⟩:=h;refine ⟨h1,?_⟩;split at h2
 ·rename_i T xs hk;exact ⟨T,by rw[← valsB_eq h2];exact hk⟩
 ·cases h2
structure ConT where
 f:FuncId
 args:List Value
 u:Value
def ConT.fits (l:List (Nat×List Value)) (c:ConT) (f:FuncId) (args:List Value) (s:AS):Bool:=Nat.beq c.f f&&(allV (sameR 8 (seen s)) args c.args&&tabB l s)
noncomputable def conT (l:List (Nat×List Value)) (cs:List ConT) (cx:CallFX Bool):CallFX Bool:=⟨fun f args s kp k=>cs.rec (cx.call f args s kp k) fun c _ ih=>cond (c.fits l f args s) (k c.u s) ih,cx.round⟩
theorem conT_ok {P:Program}{l:List (Nat×List Value)}(hl:gOk l=true) {cs:List ConT}(hc:∀c∈cs,DenNT P l c.f c.args c.u) {cx:CallFX Bool}(hx:CallX P boolX cx):CallX P boolX (conT l cs cx):=by
 refine ⟨fun f args s kp k hlo h W0 β W vs hR hfr hv=>?_,hx.round⟩
 replace h:(cs.rec (cx.call f args s kp k) fun c _ ih=>cond (c.fits l f args s) (k c.u s) ih:Bool)=true:=h
 induction cs with
 |nil=>exact hx.call f args s kp k hlo h W0 β W vs hR hfr hv
 |cons c cs ih =>
  by_cases hf:c.fits l f args s=true
  ·replace h:cond (c.fits l f args s) (k c.u s) (cs.rec (cx.call f args s kp k) fun c _ ih=>cond (c.fits l f args s) (k c.u s) ih:Bool)=true:=h
   rw[hf] at h;have h1:=hc c (by simp)
   simp only[ConT.fits,Bool.and_eq_true] at hf;obtain ⟨f1,f2,f3⟩:=hf;have f1:c.f=f:=Nat.eq_of_beq_eq_true f1;subst f1;exact ((SoundAt.nFT (k:=fun u s'=>k u s'=true) hl h1 (sameR_L f2) (tabB_ok f3) h).out hlo W0 β W vs hR hfr hv).mono fun e w' h=>.inl h
  ·replace h:cond (c.fits l f args s) (k c.u s) (cs.rec (cx.call f args s kp k) fun c _ ih=>cond (c.fits l f args s) (k c.u s) ih:Bool)=true:=h
   rw[Bool.eq_false_iff.2 hf] at h;exact ih (fun c hc'=>hc c (by simp[hc'])) h
noncomputable def callTT (P:Program) (l:List (Nat×List Value)) (cs:List ConT) (fuel:Nat) (cf:CallF Bool):Nat->CallFX Bool
 |0=>badX boolX
 |n+1=>conT l cs ⟨bodyX boolX P cf (callTT P l cs fuel cf n) fuel,roundX boolX P cf (callTT P l cs fuel cf n) fuel⟩
theorem callTT_ok {P:Program}(hm:P.follows .mixedOrders=true) {l:List (Nat×List Value)}(hl:gOk l=true) {cs:List ConT}(hc:∀c∈cs,DenNT P l c.f c.args c.u) {cf:CallF Bool}(hcf:CallOk P boolD cf) (fuel:Nat):∀n,CallX P boolX (callTT P l cs fuel cf n)
 |0=>badX_ok
 |n+1=>conT_ok hl hc ⟨bodyX_sound (D:=boolX) hm hcf (callTT_ok hm hl hc hcf fuel n) fuel,roundX_sound (D:=boolX) hm hcf (callTT_ok hm hl hc hcf fuel n) fuel⟩
theorem denNT_closed {P:Program}(hm:P.follows .mixedOrders=true) {l:List (Nat×List Value)}(hl:gOk l=true) (cs:List ConT) (hc:∀c∈cs,DenNT P l c.f c.args c.u) {f:FuncId}{args:List Value}{u:Value}{chk:Value->AS->Bool}(hk:∀u' s',chk u' s'=true->FrzN P s' u' u) (fuel n m:Nat) (h:∀Ts,((callTT P l cs fuel (callN boolD P fuel (badF boolD) m) n).call f args (start l Ts) (noX Bool boolX) chk)=true):DenNT P l f args u :=
 denNT_of_sound hm hl fun Ts=>⟨fun hlo W0 β W vs hR hf hv=>((callTT_ok hm hl hc (callN_ok (D:=boolD) hm badF_ok fuel m) fuel n).call f args (start l Ts) (noX Bool boolX) chk hlo (h Ts) W0 β W vs hR hf hv).mono fun e w' h=>(by
  rcases h with ⟨v,u,s',e1,e2,e3,e4⟩|⟨_,_,_,h,_⟩
  ·exact ⟨v,u,s',e1,hk _ _ e2,e3,e4⟩
  ·exact absurd h boolX.nb)⟩
def newR:Nat->AS->Value->Value->Bool
 |0,_=>fun _ _=>false
 |n+1,s=>fun u y=>leafB u y || sameS (newR n s) s u y
theorem newR_frz {P:Program}{s:AS}:∀(n:Nat) (u y:Value),newR n s u y=true->FrzN P s u y
 |0,u,y,h=>by cases h
 |n+1,u,y,h=>by
  replace h:=Bool.or_eq_true_iff.1 (show (leafB u y || sameS (newR n s) s u y)=true from h)
  rcases h with h|h
  ·obtain ⟨e,h2⟩:=leafB_eq h;subst e;exact .flat _ (flat1_V h2)
  unfold sameS at h;split at h
  ·split at h
   ·obtain ⟨h1,h2⟩:=allV_at h;exact .agg _ _ h1 fun i u v hu hv=>newR_frz n u v (h2 i u v hu hv)
   ·cases h
  ·split at h
   ·obtain ⟨h1,h2⟩:=allV_at h;exact .tup _ _ h1 fun i u v hu hv=>newR_frz n u v (h2 i u v hu hv)
   ·cases h
  ·rename_i ys;split at h
   ·have:ys=[]:=by simpa using h
    subst this;exact .nil
   ·split at h
    ·rename_i k i c _ T xs op hk;simp only[Bool.and_eq_true] at h;obtain ⟨h1,h2,h3,h4,h5⟩:=h;obtain ⟨h6,h7⟩:=allV_at h5;have hle:(cellsAll ys).length≤xs.length:=by rw[List.length_take] at h6;omega
     refine .row k i c _ T xs ys op (of_decide_eq_true h1) hk (szB_eq h4) (of_decide_eq_true h2) (of_decide_eq_true h3) hle fun j u v hu hv=>newR_frz n u v (h7 j u v ?_ hv)
     have hj:j<(cellsAll ys).length:=(List.getElem?_eq_some_iff.1 hv).1;rw[List.getElem?_take_of_lt hj];exact hu
    ·cases h
   ·cases h
  ·cases h
end Go.Proofs.YtnfppdblcmollaaGreatDoor.U
namespace Go.Proofs.YtnfppdblcmollaaGreatDoor
open Go Go.RowKit Go.Sort U
set_option linter.unusedVariables false
set_option linter.unusedSimpArgs false
set_option maxRecDepth 100000
set_option maxHeartbeats 40000000
def vE (a:Int):Ex:=.mk 1 0 a 0 []
def nE (n:Int):Ex:=.mk 0 n 0 0 []
def insW:List In13:=[⟨⟨#[115]⟩,0,0,9,true⟩]
def pgA:Pg:=⟨3,[],insW,[],[.mk 0 1 [vE 0] [] [] 0,.mk 0 2 [nE 1] [] [] 1,.mk 4 0 [vE 2] [] [] 2]⟩
def pgB:Pg:=⟨3,[],insW,[],[.mk 2 0 [vE 0] [.mk 0 1 [nE 1] [] [] 1] [] 0,.mk 4 0 [vE 1] [] [] 2]⟩
def pgC:Pg:=⟨3,[2],insW,[],[.mk 1 0 [vE 0,nE 1] [] [] 0,.mk 0 2 [.mk 2 0 0 0 [nE 0]] [] [] 1]⟩
def pgD:Pg:=⟨3,[],insW,[],[.mk 3 0 [.mk 4 0 0 4 [vE 2,nE 3]] [.mk 0 2 [.mk 4 0 0 13 [vE 2,nE 1]] [] [] 1] [] 0,.mk 0 1 [.mk 4 0 0 15 [vE 0,nE 2]] [] [] 2]⟩
theorem fewW (p:Pg) (h:(decide (p.arrs.length≤20)&&decide (p.ins.length≤20)&&decide (p.procs.length≤20)&&decide (p.procs.length=0)&&decide (szSs p.main≤900))=true):FewP p:=by
 simp only[Bool.and_eq_true,decide_eq_true_eq] at h;obtain ⟨⟨⟨⟨h1,h2⟩,h3⟩,h4⟩,h5⟩:=h;have h4:p.procs=[]:=List.length_eq_zero_iff.1 h4;exact ⟨h1,h2,h3,fun x hx=>(by rw[h4] at hx;cases hx),by rw[h4];simpa [szPrs] using h5⟩
theorem rightW (p:Pg) (hf:FewP p) (hr:rightP p=true):U.DenNT Tryz.prog kwT 8 [encP p] (.bool true):=by
 have:=right_d p hf;rw[hr] at this;exact .of_flat this rfl
theorem conR {p:Pg}(hf:FewP p) (hr:rightP p=true):∀c∈[(⟨8,[encP p],.bool true⟩:U.ConT)],U.DenNT Tryz.prog kwT c.f c.args c.u:=fun c hc=>by
 rw[List.mem_singleton] at hc;subst hc;exact rightW p hf hr
def setW (x y:List Int):Value:=.agg ⟨[imS (iL x),imS (iL y)]⟩
theorem rA:rightP pgA=true:=by kernel_rfl
theorem rB:rightP pgB=true:=by kernel_rfl
theorem rC:rightP pgC=true:=by kernel_rfl
theorem rD:rightP pgD=true:=by kernel_rfl
theorem fA:FewP pgA:=fewW _ (by kernel_rfl)
theorem fB:FewP pgB:=fewW _ (by kernel_rfl)
theorem fC:FewP pgC:=fewW _ (by kernel_rfl)
theorem fD:FewP pgD:=fewW _ (by kernel_rfl)
theorem everA:U.DenNT Tryz.prog kwT 9 [encP pgA] (setW [0,1] []):=U.denNT_closed hmixU kw_ok _ (conR fA rA) (chk:=fun u s=>U.newR 8 s u (setW [0,1] [])) (fun _ _ h=>U.newR_frz 8 _ _ h) 100000 60 60 fun Ts=>by kernel_rfl
theorem everB:U.DenNT Tryz.prog kwT 9 [encP pgB] (setW [0,1] []):=U.denNT_closed hmixU kw_ok _ (conR fB rB) (chk:=fun u s=>U.newR 8 s u (setW [0,1] [])) (fun _ _ h=>U.newR_frz 8 _ _ h) 100000 60 60 fun Ts=>by kernel_rfl
theorem everC:U.DenNT Tryz.prog kwT 9 [encP pgC] (setW [0,2] [0]):=U.denNT_closed hmixU kw_ok _ (conR fC rC) (chk:=fun u s=>U.newR 8 s u (setW [0,2] [0])) (fun _ _ h=>U.newR_frz 8 _ _ h) 100000 60 60 fun Ts=>by kernel_rfl
theorem everD:U.DenNT Tryz.prog kwT 9 [encP pgD] (setW [0,1] []):=U.denNT_closed hmixU kw_ok _ (conR fD rD) (chk:=fun u s=>U.newR 8 s u (setW [0,1] [])) (fun _ _ h=>U.newR_frz 8 _ _ h) 100000 60 60 fun Ts=>by kernel_rfl
theorem blindA:U.DenNT Tryz.prog kwT 11 [encP pgA] (.bool true):=U.denNT_closed hmixU kw_ok _ (conR fA rA) (chk:=fun u s=>U.newR 8 s u (.bool true)) (fun _ _ h=>U.newR_frz 8 _ _ h) 100000 60 60 fun Ts=>by kernel_rfl
theorem blindB:U.DenNT Tryz.prog kwT 11 [encP pgB] (.bool false):=U.denNT_closed hmixU kw_ok _ (conR fB rB) (chk:=fun u s=>U.newR 8 s u (.bool false)) (fun _ _ h=>U.newR_frz 8 _ _ h) 100000 60 60 fun Ts=>by kernel_rfl
theorem blindC:U.DenNT Tryz.prog kwT 11 [encP pgC] (.bool false):=U.denNT_closed hmixU kw_ok _ (conR fC rC) (chk:=fun u s=>U.newR 8 s u (.bool false)) (fun _ _ h=>U.newR_frz 8 _ _ h) 100000 60 60 fun Ts=>by kernel_rfl
theorem blindD:U.DenNT Tryz.prog kwT 11 [encP pgD] (.bool true):=U.denNT_closed hmixU kw_ok _ (conR fD rD) (chk:=fun u s=>U.newR 8 s u (.bool true)) (fun _ _ h=>U.newR_frz 8 _ _ h) 100000 60 60 fun Ts=>by kernel_rfl
end Go.Proofs.YtnfppdblcmollaaGreatDoor
namespace Go.Proofs.YtnfppdblcmollaaGreatDoor.U
open Go Go.RowKit Go.Sort
set_option linter.unusedVariables false
set_option linter.unusedSimpArgs false
set_option maxRecDepth 100000
set_option maxHeartbeats 40000000
theorem SoundC.nFT {P:Program}{l:List (Nat×List Value)}(hgl:gOk l=true) {f:FuncId}{args args':List Value}{u:Value}{s:AS}{k:Value->AS->Prop}(h:DenNT P l f args' u) (hf:FrzL P (seen s) args args') (ht:Tabled l s) (hk:k u s):SoundC P f args s k:=by
 refine ⟨fun hl=>⟨u,s,hk,.refl _,fun W0 β W vs hR hfr hv=>?_⟩⟩
 have hall:VRs ⟨fun _=>none,fun r o=>W.cell? ⟨r,o,none⟩⟩ args' vs:=⟨hf.at_.1.symm.trans hv.1,fun i y v hy hv'=>by
  have hi:i<args.length:=by rw[hf.at_.1];exact (List.getElem?_eq_some_iff.1 hy).1
  exact (hf.at_.2 i args[i] y (List.getElem?_eq_getElem hi) hy).relAll (s0:=seen s) (s:=s) rfl hR (fun r o x hx=>(hR.frz r o x hx).1) (fun _ _ _ h=>h) (hv.2 i _ v (List.getElem?_eq_getElem hi) hv')⟩
 refine (h.out (fun r o=>W.cell? ⟨r,o,none⟩) W vs (ht.set hgl hR) (fun _ _ _ h=>h) hall).mono fun e w' ⟨v,z',he,⟨hb,hdn⟩,h2,hv'⟩=>?_
 have hR':=hR.later hb;let zf:Nat->Nat->Option Value:=fun r o=>if r<W.heap.size then β.z r o else z' r o
 have hzlt:∀r o x,β.z r o=some x->r<W.heap.size:=fun r o x h=>cell_lt (hR.frz r o x h).1
 have hz1:∀r o x,β.z r o=some x->zf r o=some x:=fun r o x hx=>by
  show (if r<W.heap.size then _ else _)=_
  rw[if_pos (hzlt r o x hx)];exact hx
 have hz2:∀r o x,zf r o=some x->(r<W.heap.size∧β.z r o=some x)∨(W.heap.size≤r∧z' r o=some x):=fun r o x hx=>by
  have hx:(if r<W.heap.size then β.z r o else z' r o)=some x:=hx
  split at hx
  ·rename_i h;exact .inl ⟨h,hx⟩
  ·rename_i h;exact .inr ⟨by omega,hx⟩
 have hz3:∀r o x,z' r o=some x->zf r o=some x:=fun r o x hx=>by
  show (if r<W.heap.size then _ else _)=_
  rw[if_neg (by have:=(h2 r o x hx).2;omega)];exact hx
 refine ⟨v,he,⟨β.m,zf⟩,⟨⟨fun _ _ h=>h,⟨hz1,fun r o x hx=>?_⟩⟩,fun _ _=>rfl⟩,⟨fun k b r sp hk hr=>(hR'.blk k b r sp hk hr).sameX ⟨fun _ _ h=>h,hz1⟩ id rfl,hR'.inj,hR'.dom,hR'.lt,hR'.ge,hR'.below,hR'.glob,fun r o x hx=>?_⟩,?_,KD.below hb⟩
 ·rcases hz2 r o x hx with ⟨_,h⟩|⟨h,_⟩
  ·exact .inl h
  ·exact .inr (Nat.le_trans hR.below.size h)
 ·rcases hz2 r o x hx with ⟨_,h⟩|⟨h,h'⟩
  ·exact hR'.frz r o x h
  ·refine ⟨(h2 r o x h').1,fun k sp hlo hk hr=>?_⟩
   have:=hR.lt k r sp hr;omega
 ·exact VR.growX (β:=⟨fun _=>none,z'⟩) (β':=⟨β.m,zf⟩) ⟨fun k x hk=>(by cases hk),hz3⟩ hv'
abbrev Try:=FuncId->List Value->AS->Option (Value×AS)
def TryOk (P:Program) (t:Try):Prop:=∀f args s u s',t f args s=some (u,s')->∀k:Value->AS->Prop,k u s'->SoundC P f args s k
noncomputable def conTry (l:List (Nat×List Value)) (cs:List ConT):Try:=fun f args s=>cs.rec none fun c _ ih=>cond (c.fits l f args s) (some (c.u,s)) ih
theorem conTry_ok {P:Program}{l:List (Nat×List Value)}(hl:gOk l=true) {cs:List ConT}(hc:∀c∈cs,DenNT P l c.f c.args c.u):TryOk P (conTry l cs):=by
 intro f args s u s' h k hk
 induction cs with
 |nil=>cases h
 |cons c cs ih =>
  replace h:cond (c.fits l f args s) (some (c.u,s)) (conTry l cs f args s)=some (u,s'):=h;by_cases hf:c.fits l f args s=true
  ·rw[hf] at h;cases h;have h1:=hc c (by simp)
   simp only[ConT.fits,Bool.and_eq_true] at hf;obtain ⟨f1,f2,f3⟩:=hf;have f1:c.f=f:=Nat.eq_of_beq_eq_true f1;subst f1;exact SoundC.nFT hl h1 (sameR_L f2) (tabB_ok f3) hk
  ·rw[Bool.eq_false_iff.2 hf] at h;exact ih (fun c hc'=>hc c (by simp[hc'])) h
def orTry (a b:Try):Try:=fun f args s=>match a f args s with
 |some x=>some x
 |none=>b f args s
theorem orTry_ok {P:Program}{a b:Try}(ha:TryOk P a) (hb:TryOk P b):TryOk P (orTry a b):=by
 intro f args s u s' h k hk
 unfold orTry at h;split at h
 ·rename_i x hx;cases h;exact ha _ _ _ _ _ hx k hk
 ·exact hb _ _ _ _ _ h k hk
def tryF (t:Try) (cf:CallF Bool):CallF Bool:=⟨fun f args s k=>match t f args s with
 |some (u,s')=>k u s'
 |none=>cf.call f args s k,cf.round⟩
theorem tryF_ok {P:Program}{t:Try}(ht:TryOk P t) {cf:CallF Bool}(hcf:CallOk P boolD cf):CallOk P boolD (tryF t cf):=by
 refine ⟨fun f args s k hl h=>?_,hcf.round⟩
 replace h:(match t f args s with
  |some (u,s')=>k u s'
  |none=>cf.call f args s k)=true:=h
 split at h
 ·rename_i u s' hx
  exact (ht _ _ _ _ _ hx (fun u s=>k u s=true) h).out hl
 ·exact hcf.call f args s k hl h
def tryX (t:Try) (cx:CallFX Bool):CallFX Bool:=⟨fun f args s kp k=>match t f args s with
 |some (u,s')=>k u s'
 |none=>cx.call f args s kp k,cx.round⟩
theorem tryX_ok {P:Program}{t:Try}(ht:TryOk P t) {cx:CallFX Bool}(hx:CallX P boolX cx):CallX P boolX (tryX t cx):=by
 refine ⟨fun f args s kp k hl h W0 β W vs hR hfr hv=>?_,hx.round⟩
 replace h:(match t f args s with
  |some (u,s')=>k u s'
  |none=>cx.call f args s kp k)=true:=h
 split at h
 ·rename_i u s' hxx
  exact ((SoundAt.c (ht _ _ _ _ _ hxx (fun u s=>k u s=true) h)).out hl W0 β W vs hR hfr hv).mono fun e w' h=>.inl h
 ·exact hx.call f args s kp k hl h W0 β W vs hR hfr hv
noncomputable def callTY (P:Program) (t:Try) (fuel:Nat) (cf:CallF Bool):Nat->CallFX Bool
 |0=>badX boolX
 |n+1=>tryX t ⟨bodyX boolX P (tryF t cf) (callTY P t fuel cf n) fuel,roundX boolX P (tryF t cf) (callTY P t fuel cf n) fuel⟩
theorem callTY_ok {P:Program}(hm:P.follows .mixedOrders=true) {t:Try}(ht:TryOk P t) {cf:CallF Bool}(hcf:CallOk P boolD cf) (fuel:Nat):∀n,CallX P boolX (callTY P t fuel cf n)
 |0=>badX_ok
 |n+1=>tryX_ok ht ⟨bodyX_sound (D:=boolX) hm (tryF_ok ht hcf) (callTY_ok hm ht hcf fuel n) fuel,roundX_sound (D:=boolX) hm (tryF_ok ht hcf) (callTY_ok hm ht hcf fuel n) fuel⟩
theorem denNT_shown {P:Program}(hm:P.follows .mixedOrders=true) {l:List (Nat×List Value)}(hl:gOk l=true) {t:Try}(ht:TryOk P t) {f:FuncId}{args:List Value}{u:Value}{chk:Value->AS->Bool}(hk:∀u' s',chk u' s'=true->FrzN P s' u' u) (fuel n m:Nat) (h:∀Ts,((callTY P t fuel (callN boolD P fuel (badF boolD) m) n).call f args (start l Ts) (noX Bool boolX) chk)=true):DenNT P l f args u :=
 denNT_of_sound hm hl fun Ts=>⟨fun hlo W0 β W vs hR hf hv=>((callTY_ok hm ht (callN_ok (D:=boolD) hm badF_ok fuel m) fuel n).call f args (start l Ts) (noX Bool boolX) chk hlo (h Ts) W0 β W vs hR hf hv).mono fun e w' h=>(by
  rcases h with ⟨v,u,s',e1,e2,e3,e4⟩|⟨_,_,_,h,_⟩
  ·exact ⟨v,u,s',e1,hk _ _ e2,e3,e4⟩
  ·exact absurd h boolX.nb)⟩
theorem intsAt {P:Program}{f:FuncId}{T:TypeId}{g:List Int->List Int}(hlen:∀l,(g l).length=l.length) {ua:Value}{vr:List Int->Nat->Nat->Value}
  (hC:∀(d:List Int) (W:World) (r cap:Nat),Go.Sort.Holds (Value.int .i64) W r 0 d.toArray->r<W.heap.size->d.length≤cap->d.length≤1000000->Calls P f #[.slice (some ⟨r,0,none⟩) d.length cap] W fun e w'=>e=.returned (vr d r cap)∧∃n os,w'=grow (putRow (Value.int .i64) (Sort.ahead W n) r 0 (g d).toArray) os)
  {es:List Int}{s:AS}{b n c:Nat}{op:Bool}(hb:s.heap.get b=some (.cells T (es.map (Value.int .i64)) op)) (hlo:s.lo≤b) (hn:es.length=n) (hnc:n≤c) (hm:n≤1000000)
  (hres:∀(β:Bt) (r sp:Nat),β b=some (r,sp)->VR β ua (vr es r (c+sp))) {K:Value->AS->Prop}(hK:K ua ⟨s.heap.set b (some (.cells T ((g es).map (Value.int .i64)) op)),s.next,s.lo,s.glb⟩) :
  SoundAt P f [.slice (some ⟨b,0,none⟩) n c] s K:=by
 subst hn;refine ⟨fun hl W0 β W vs hR hfa hv=>?_⟩
 obtain ⟨v0,vs,rfl,hv0,hv⟩:=hv.inv_cons;cases hv.inv_nil;obtain ⟨r,sp,hr,rfl⟩:=hv0.sl_inv;obtain ⟨cs,fz,g1,g2,g3,g4,g5⟩:=hR.blk b _ r sp hb hr;have g2:=g2 hlo;subst g2;have hcell:∀j,j<es.length->cs[j]?=some (.int .i64 es[j]!):=fun j hj=>by
  have e:(es.map (Value.int .i64))[j]?=some (.int .i64 es[j]!):=by simp[hj]
  obtain ⟨q1,v,q2,q3⟩:=g5 j _ e;rw[q2,q3.flat1_eq rfl]
 have hH:Go.Sort.Holds (Value.int .i64) W r 0 es.toArray:=fun j hj=>by
  have hj:j<es.length:=by simpa using hj
  refine ⟨?_,?_⟩
  ·simp only[World.cell?,g1,Nat.zero_add];rw[show es.toArray[j]! = es[j]! by simp]
   exact hcell j hj
  ·simp[World.frozen?,g1]
 have hrl:r<W.heap.size:=hR.lt b r sp hr;refine (hC es W r (c+sp) hH hrl (by omega) hm).mono fun e w' ⟨he,m,os,hw⟩=>?_
 have hW:w'=grow (Sort.ahead (putRow (Value.int .i64) W r 0 (g es).toArray) m) os:=hw;generalize hW1:Sort.ahead (putRow (Value.int .i64) W r 0 (g es).toArray) m=W1 at hW
 have z1:W1.heap.size=W.heap.size:=by rw[← hW1];exact size_putRow ..
 have o1:∀i,i≠r->W1.heap[i]?=W.heap[i]?:=fun i hi=>by
  rw[← hW1];show (W.heap.modify r _)[i]?=_
  rw[Array.getElem?_modify,if_neg (Ne.symm hi)]
 have r1:W1.heap[r]?=some (.cells (putCells (Value.int .i64) 0 (g es).toArray cs) T (0,0)):=by
  rw[← hW1];show (W.heap.modify r _)[r]?=_
  rw[Array.getElem?_modify,if_pos rfl,g1];rfl
 have hB1:Below W0.heap.size W0 W1:=by
  have hge:=hR.ge b r sp (by rw[hb];simp) hr hlo
  refine hR.below.trans ⟨by rw[← hW1];rfl,by rw[← hW1];rfl,by rw[← hW1];rfl,Nat.le_of_eq z1.symm,fun i hi=>o1 i (by omega)⟩
 have hb1:BlkR P β W1 r sp True (.cells T ((g es).map (Value.int .i64)) op):=by
  refine ⟨_,_,r1,fun _=>rfl,g3,?_,fun i u hu=>?_⟩
  ·rw[List.length_map,hlen];rw[List.length_map] at g4;rw[← g4];simp[putCells]
  ·have hi:i<(g es).length:=by
    have:=(List.getElem?_eq_some_iff.1 hu).1;simpa using this
   have hu':u=.int .i64 (g es)[i]!:=by
    rw[List.getElem?_map,List.getElem?_eq_getElem hi] at hu;cases hu;simp[hi]
   subst hu';refine ⟨rfl,_,?_,.flat _ rfl⟩;simp only[putCells,Array.getElem?_mapIdx,hcell i (by rw[← hlen];exact hi),Option.map_some]
   rw[if_pos ⟨Nat.zero_le _,by simpa using hi⟩]
   simp
 have hR1:=hR.write (by rw[hb];simp) hr hlo z1 o1 hB1 hb1
 have hB2:Below W1.heap.size W1 w':=by
  rw[hW];exact ⟨rfl,rfl,rfl,by simp,fun i hi=>by simp[grow,Array.getElem?_append,hi]⟩
 have hkd:KD W w':=(KD.write g1 ⟨by simp,by simp⟩ o1 z1 (by rw[← hW1];exact Nat.le_add_right _ _)).trans (KD.below hB2 (by rw[hW];exact Nat.le_refl _))
 exact ⟨_,_,_,he,hK,(Stp.turn _ (by rw[hb];simp) hlo (by rw[hb];intro h;cases h)).x,β,.refl hfa,hR1.later hB2,hres β r sp hr,hkd⟩
end Go.Proofs.YtnfppdblcmollaaGreatDoor.U
