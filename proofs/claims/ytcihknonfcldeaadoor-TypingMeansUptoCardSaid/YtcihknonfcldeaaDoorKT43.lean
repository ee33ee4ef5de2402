
import Derived.Test.YtcihknonfcldeaaDoorKT41
namespace Go.Proofs.YtcihknonfcldeaaDoor
open Go Go.RowKit Go.Sort U
set_option linter.unusedVariables false
set_option linter.unusedSimpArgs false
set_option maxRecDepth 100000
set_option maxHeartbeats 40000000
def Cyc (rows:List (List Int)) (u:Nat):Prop:=∃w,ES rows u w∧Rch rows w u
def Tur (rows back:List (List Int)):Prop:=back.length=rows.length∧∀u v,ES back v u↔ES rows u v
theorem Rch.head {rows:List (List Int)}{u v:Nat}(h:Rch rows u v):u=v∨∃w,ES rows u w∧Rch rows w v:=by
 induction h with
 |refl=>exact .inl rfl
 |@step x y h e ih =>
  rcases ih with rfl|⟨w,h1,h2⟩
  ·exact .inr ⟨y,e,.refl⟩
  ·exact .inr ⟨w,h1,h2.step e⟩
theorem Rch.cons {rows:List (List Int)}{u w v:Nat}(e:ES rows u w) (h:Rch rows w v):Rch rows u v:=(Rch.step .refl e).trans h
theorem cyc_of {rows:List (List Int)}{u v:Nat}(h:Mut rows u v) (hne:u≠v):Cyc rows u:=by
 rcases h.1.head with e|⟨w,h1,h2⟩
 ·exact absurd e hne
 ·exact ⟨w,h1,h2.trans h.2⟩
structure Srt (rows:List (List Int)) (sb:List Bool) (Q:List Nat) (least:Int):Prop where
 sl:sb.length=rows.length
 cl:∀u v,sb.getD u false=true->Mut rows u v->sb.getD v false=true
 q:∀u∈Q,sb.getD u false=true
 ls:(least=-1∧∀u,sb.getD u false=true->¬Cyc rows u)∨∃v:Nat,least=v∧sb.getD v false=true∧Cyc rows v∧∀u,sb.getD u false=true->Cyc rows u->v≤u
theorem getD_lt {sb:List Bool}{u:Nat}(h:sb.getD u false=true):u<sb.length:=by
 rcases Nat.lt_or_ge u sb.length with h1|h1
 ·exact h1
 ·rw[List.getD_eq_getElem?_getD,List.getElem?_eq_none h1] at h;cases h
theorem srt_init (rows:List (List Int)):Srt rows (List.replicate rows.length false) [] (-1):=by
 have h0:∀u,(List.replicate rows.length false).getD u false=true->False:=fun u h=>by
  rw[List.getD_eq_getElem?_getD,List.getElem?_replicate] at h;split at h<;>cases h
 exact ⟨by simp,fun u v h=>(h0 u h).elim,by simp,.inl ⟨rfl,fun u h=>(h0 u h).elim⟩⟩
structure Prt (rows back:List (List Int)) (sb0:List Bool) (r:Nat) (sb:List Bool) (part:List Nat) (i:Nat) (p:List Int):Prop where
 sl:sb.length=rows.length
 nd:part.Nodup
 lt:∀u∈part,u<rows.length
 hd:part[0]?=some r
 sn:∀u,sb.getD u false=true↔(sb0.getD u false=true∨u∈part)
 nw:∀u∈part,sb0.getD u false=false∧Rch rows u r
 dn:∀j v,j<i->part[j]?=some v->∀u,ES back v u->sb.getD u false=true
 pt:∀u:Nat,(u:Int)∈p->sb.getD u false=true
 il:i≤part.length
theorem prt_init {rows back:List (List Int)}{sb0:List Bool}{r:Nat}(hl:sb0.length=rows.length) (hr:r<rows.length) (h0:sb0.getD r false=false):Prt rows back sb0 r (sb0.set r true) [r] 0 []:=by
 refine ⟨by simpa using hl,by simp,by simpa using hr,rfl,fun u=>?_,fun u hu=>?_,fun j v hj=>by omega,by simp,by simp⟩
 ·by_cases hur:u=r
  ·subst hur;exact ⟨fun _=>.inr (by simp),fun _=>getD_set_same (by rw[hl];exact hr)⟩
  ·rw[getD_set_ne hur];simp[hur]
 ·have:u=r:=by simpa using hu
  subst this;exact ⟨h0,.refl⟩
theorem Prt.skip {rows back:List (List Int)}{sb0 sb:List Bool}{r i w:Nat}{part:List Nat}{p:List Int}(h:Prt rows back sb0 r sb part i p) (hw:sb.getD w false=true):Prt rows back sb0 r sb part i (p++[(w:Int)]):=by
 refine { h with pt:=fun u hu=>?_ }
 rcases List.mem_append.1 hu with hu|hu
 ·exact h.pt u hu
 ·have:u=w:=Int.ofNat_inj.1 (by simpa using hu)
  subst this;exact hw
theorem Prt.add {rows back:List (List Int)}{sb0 sb:List Bool}{r i v w:Nat}{part:List Nat}{p:List Int}(hT:Tur rows back) (h:Prt rows back sb0 r sb part i p) (hv:part[i]?=some v) (hw:w<rows.length) (h0:sb.getD w false=false) (he:ES back v w):Prt rows back sb0 r (sb.set w true) (part++[w]) i (p++[(w:Int)]):=by
 have hwn:w∉part:=fun hm=>by rw[(h.sn w).2 (.inr hm)] at h0;cases h0
 have hmono:∀u,sb.getD u false=true->(sb.set w true).getD u false=true:=fun u hu=>by
  by_cases huw:u=w
  ·subst huw;exact getD_set_same (by rw[h.sl];exact hw)
  ·rw[getD_set_ne huw];exact hu
 refine ⟨by rw[List.length_set];exact h.sl,?_,?_,?_,fun u=>?_,?_,fun j v' hj hv' u hu=>?_,fun u hu=>?_,by have:=h.il;simp;omega⟩
 ·rw[List.nodup_append];exact ⟨h.nd,by simp,fun a ha b hb e=>by simp at hb;subst hb;subst e;exact hwn ha⟩
 ·intro u hu;rcases List.mem_append.1 hu with hu|hu
  ·exact h.lt u hu
  ·have:u=w:=by simpa using hu
   omega
 ·have h1:=(List.getElem?_eq_some_iff.1 h.hd).1;rw[List.getElem?_append_left h1];exact h.hd
 ·by_cases huw:u=w
  ·subst huw;exact ⟨fun _=>.inr (by simp),fun _=>getD_set_same (by rw[h.sl];exact hw)⟩
  ·rw[getD_set_ne huw,h.sn u];simp[huw]
 ·intro u hu;rcases List.mem_append.1 hu with hu|hu
  ·exact h.nw u hu
  ·have:u=w:=by simpa using hu
   subst this;refine ⟨?_,.cons ((hT.2 u v).1 he) (h.nw v (List.mem_of_getElem? hv)).2⟩;cases hs:sb0.getD u false
   ·rfl
   ·rw[(h.sn u).2 (.inl hs)] at h0;cases h0
 ·have hil:=h.il;have hv2:part[j]?=some v':=by rwa [List.getElem?_append_left (by omega)] at hv'
  exact hmono u (h.dn j v' hj hv2 u hu)
 ·rcases List.mem_append.1 hu with hu|hu
  ·exact hmono u (h.pt u hu)
  ·have:u=w:=Int.ofNat_inj.1 (by simpa using hu)
   subst this;exact getD_set_same (by rw[h.sl];exact hw)
theorem Prt.next {rows back:List (List Int)}{sb0 sb:List Bool}{r i v:Nat}{part:List Nat}(hv:part[i]?=some v) (h:Prt rows back sb0 r sb part i (back.getD v [])):Prt rows back sb0 r sb part (i+1) []:=by
 refine { h with dn:=fun j w hj hw u hu=>?_,pt:=fun u hu=>(by cases hu),il:=(List.getElem?_eq_some_iff.1 hv).1 }
 by_cases hji:j=i
 ·subst hji;rw[hv] at hw;cases hw;exact h.pt u hu
 ·exact h.dn j w (by omega) hw u hu
theorem Prt.scc {rows back:List (List Int)}{sb0 sb:List Bool}{r:Nat}{part out P Q:List Nat}{least:Int}{p:List Int}(hT:Tur rows back) (hF:FinOk rows out) (ho:out=P++r::Q) (hS:Srt rows sb0 Q least) (h:Prt rows back sb0 r sb part part.length p) (u:Nat):u∈part↔Mut rows u r:=by
 have hr0:r∈part:=List.mem_of_getElem? h.hd;have hlead:∀u,u<rows.length->sb0.getD u false=false->Rch rows u r->Mut rows u r:=fun u hu h0 hur=>by
  obtain ⟨pre,u',post,e,h1,h2⟩:=hF.ld u (hF.all u hu);have hrp:=h2 r hur;have hu'0:u'∉Q:=fun hq=>by
   have:=hS.cl u' u (hS.q u' hq) h1.symm;rw[h0] at this;cases this
  have hnd:=hF.nd;-- r stands in pre ++ [u'], Q behind r; u' is not in Q: u' = r
  rcases List.mem_append.1 hrp with hrp|hrp
  ·exfalso
   obtain ⟨a,b,hab⟩:=List.append_of_mem hrp;rw[hab,List.append_assoc] at e;have e2:P++r::Q=a++r::(b++u'::post):=by rw[← ho,e];rfl
   have hPa:P=a∧r::Q=r::(b++u'::post):=by
    have hndP:(P++r::Q).Nodup:=ho ▸ hnd;have hnda:(a++r::(b++u'::post)).Nodup:=e2 ▸ hndP;rcases List.append_eq_append_iff.1 e2 with ⟨c,h3,h4⟩|⟨c,h3,h4⟩
    ·cases c with
     |nil=>exact ⟨by simpa using h3.symm,by simpa using h4⟩
     |cons x c =>
      simp only[List.cons_append,List.cons.injEq] at h4;rw[h3,← h4.1] at hnda;exact absurd rfl ((List.nodup_append.1 hnda).2.2 r (by simp) r (by simp))
    ·cases c with
     |nil=>exact ⟨by simpa using h3,by simpa using h4.symm⟩
     |cons x c =>
      simp only[List.cons_append,List.cons.injEq] at h4;rw[h3,← h4.1] at hndP;exact absurd rfl ((List.nodup_append.1 hndP).2.2 r (by simp) r (by simp))
   have:Q=b++u'::post:=by simpa using hPa.2
   exact hu'0 (by rw[this];simp)
  ·have:r=u':=by simpa using hrp
   subst this;exact h1
 constructor
 ·intro hu;obtain ⟨h0,h1⟩:=h.nw u hu;exact hlead u (h.lt u hu) h0 h1
 ·intro hm;have hr00:=(h.nw r hr0).1;-- walk backwards from r
  have key:∀x,Rch rows x r->Mut rows x r->x∈part:=fun x hx=>by
   intro hxm;have hgen:∀y,Rch rows x y->Rch rows y r->y∈part->x∈part:=fun y hxy=>by
    induction hxy with
    |refl=>exact fun _ hy=>hy
    |@step a b hxa e ih =>
     intro hbr hb;have har:Rch rows a r:=.cons e hbr;have ham:Mut rows a r:=⟨har,hxm.2.trans hxa⟩;obtain ⟨j,hj,hjb⟩:=List.mem_iff_getElem.1 hb;have hs:=h.dn j b hj (by rw[List.getElem?_eq_getElem hj,hjb]) a ((hT.2 a b).2 e)
     rcases (h.sn a).1 hs with hs|hs
     ·have:=hS.cl a r hs ham;rw[hr00] at this;cases this
     ·exact ih har hs
   exact hgen r hx .refl hr0
  exact key u hm.1 hm
def startOk (rows:List (List Int)) (least:Int):Prop:=(least=-1∧∀u,u<rows.length->¬Cyc rows u)∨∃v:Nat,least=v∧v<rows.length∧Cyc rows v∧∀u,u<rows.length->Cyc rows u->v≤u
theorem Srt.old {rows:List (List Int)}{sb:List Bool}{Q:List Nat}{least:Int}(h:Srt rows sb Q least) {r:Nat}(hr:sb.getD r false=true):Srt rows sb (r::Q) least:=by
 refine { h with q:=fun u hu=>?_ }
 rcases List.mem_cons.1 hu with rfl|hu
 ·exact hr
 ·exact h.q u hu
theorem Srt.new {rows:List (List Int)}{sb0 sb:List Bool}{Q part:List Nat}{least least':Int}{r:Nat}(h:Srt rows sb0 Q least) (hl:sb.length=rows.length) (hsn:∀u,sb.getD u false=true↔(sb0.getD u false=true∨u∈part)) (hscc:∀u,u∈part↔Mut rows u r)
  (hls:(least'=least∧∀u∈part,¬Cyc rows u)∨∃m:Nat,m∈part∧(∀u∈part,m≤u)∧(∀u∈part,Cyc rows u)∧least'=if least<0∨(m:Int)<least then (m:Int) else least):Srt rows sb (r::Q) least':=by
 refine ⟨hl,fun u v hu huv=>?_,fun u hu=>?_,?_⟩
 ·rw[hsn] at hu ⊢;rcases hu with hu|hu
  ·exact .inl (h.cl u v hu huv)
  ·exact .inr ((hscc v).2 (huv.symm.trans ((hscc u).1 hu)))
 ·rw[hsn];rcases List.mem_cons.1 hu with rfl|hu
  ·exact .inr ((hscc u).2 .refl)
  ·exact .inl (h.q u hu)
 ·rcases hls with ⟨rfl,hn⟩|⟨m,hm,hmin,hc,rfl⟩
  ·rcases h.ls with ⟨e,h1⟩|⟨v,e,h1,h2,h3⟩
   ·refine .inl ⟨e,fun u hu=>?_⟩
    rcases (hsn u).1 hu with hu|hu
    ·exact h1 u hu
    ·exact hn u hu
   ·refine .inr ⟨v,e,(hsn v).2 (.inl h1),h2,fun u hu hcu=>?_⟩
    rcases (hsn u).1 hu with hu|hu
    ·exact h3 u hu hcu
    ·exact absurd hcu (hn u hu)
  ·right
   rcases h.ls with ⟨e,h1⟩|⟨v,e,h1,h2,h3⟩
   ·refine ⟨m,by rw[if_pos (.inl (by omega))],(hsn m).2 (.inr hm),hc m hm,fun u hu hcu=>?_⟩
    rcases (hsn u).1 hu with hu|hu
    ·exact absurd hcu (h1 u hu)
    ·exact hmin u hu
   ·by_cases hmv:(m:Int)<least
    ·refine ⟨m,by rw[if_pos (.inr hmv)],(hsn m).2 (.inr hm),hc m hm,fun u hu hcu=>?_⟩
     rcases (hsn u).1 hu with hu|hu
     ·have:=h3 u hu hcu;omega
     ·exact hmin u hu
    ·refine ⟨v,by rw[if_neg (by omega)];exact e,(hsn v).2 (.inl h1),h2,fun u hu hcu=>?_⟩
     rcases (hsn u).1 hu with hu|hu
     ·exact h3 u hu hcu
     ·have:=hmin u hu;omega
theorem Srt.fin {rows:List (List Int)}{sb:List Bool}{Q:List Nat}{least:Int}(h:Srt rows sb Q least) (ha:∀u,u<rows.length->u∈Q):startOk rows least:=by
 rcases h.ls with ⟨e,h1⟩|⟨v,e,h1,h2,h3⟩
 ·exact .inl ⟨e,fun u hu=>h1 u (h.q u (ha u hu))⟩
 ·exact .inr ⟨v,e,by rw[← h.sl];exact getD_lt h1,h2,fun u hu=>h3 u (h.q u (ha u hu))⟩
theorem index_e (l:List Int) (x:Int) (hl:l.length≤maxI):DenE Tryd.prog 62 [imS (iL l),.int .i64 x] (fun u=>∃i:Int,u=.int .i64 i∧(0≤i↔x∈l)):=by
 refine denE_of_sound hmixU fun Ts=>SoundAt.body hmixU Tryd.func62 rfl rfl rfl 0 ?_
 (repeat' ((conv=>whnf);first|refine goD ?_|refine U.lw_c ?_ ?_<;>intro hb))
 (conv=>whnf);refine loop_inv (α:=List Int×List Int) (fun y=>y.1++y.2=l∧x∉y.1) (fun y=>(mkF [(0,imS (iL l)),(1,.int .i64 x),(4,.int .i64 0),(7,.int .i64 (iL l).length),(8,.int .i64 y.1.length)],⟨.e,0,0,0⟩)) (fun y=>y.2.length) ([],l) ⟨rfl,by simp⟩ (Cov.slots rL ⟨rfl,rfl,rfl,rfl,rfl,trivial⟩) ?_
 rintro ⟨pre,rest⟩ ⟨p1,p2⟩
 dsimp only at p1 p2;subst p1;dsimp only;rcases rest with _|⟨y,rest⟩
 ·rw[List.append_nil] at *;have h3b:=U.lt_no iL_map pre;(repeat' ((conv=>whnf);first|refine goD ?_|refine U.lw_c ?_ ?_<;>intro hb))
  (conv=>whnf);exact ⟨.int .i64 (-1),⟨-1,rfl,⟨fun h=>by omega,fun h=>absurd h p2⟩⟩,.clean _ (cleanI _)⟩
 ·obtain ⟨h3b,h3c,h3n,h3w⟩:=U.at4 iL_map pre (y) rest (hl);(repeat' ((conv=>whnf);first|refine goD ?_|refine U.lw_c ?_ ?_<;>intro hb))
  all_goals (conv=>whnf)
  ·have hxy:x=y:=by simpa using hb
   subst hxy;exact ⟨.int .i64 pre.length,⟨pre.length,rfl,⟨fun _=>by simp,fun _=>by omega⟩⟩,.clean _ (cleanI _)⟩
  ·have hxy:¬x=y:=by simpa using hb
   exact ⟨(pre++[y],rest),⟨by simp,by simp[p2,hxy]⟩,by simp,Cov.slots (s:=⟨.e,0,0,0⟩) rL ⟨rfl,rfl,rfl,rfl,congrArg some (congrArg (Value.int .i64) h3w),trivial⟩⟩
theorem contains_d (l:List Int) (x:Int) (hl:l.length≤maxI):DenU Tryd.prog [] 44 [imS (iL l),.int .i64 x] (.bool (decide (x∈l))):=by
 refine denU_of_sound hmixU fun Ts=>SoundAt.body hmixU Tryd.func44 rfl rfl rfl 0 ?_
 have cI:=index_e l x hl;have cg:=cleanIL l;(repeat' ((conv=>whnf);first|refine goA ?_|refine U.SoundAt.e cI clN (fun u hq=>?_)|refine goB ?_|refine U.lw_c ?_ ?_<;>intro hb))
 obtain ⟨i,rfl,hi⟩:=hq;(repeat' ((conv=>whnf);first|refine goD ?_|refine U.lw_c ?_ ?_<;>intro hb))
 all_goals (conv=>whnf)
 all_goals refine FrzV.same (.flat _ rfl) (congrArg Value.bool ?_)
 all_goals exact decide_eq_decide.2 hi
theorem min_e (l:List Int) (h0:l≠[]) (hl:l.length≤maxI):DenE Tryd.prog 45 [imS (iL l)] (fun u=>∃m:Int,u=.int .i64 m∧m∈l∧∀x∈l,m≤x):=by
 refine denE_of_sound hmixU fun Ts=>SoundAt.body hmixU Tryd.func45 rfl rfl rfl 0 ?_
 rcases l with _|⟨a,l⟩
 ·exact absurd rfl h0
 have g0:decide (((iL (a::l)).length:Int)<1)=false:=by rw[iL_len];simp;omega
 have hn0:nth (iL (a::l)) 0=some (.int .i64 a):=rfl;(repeat' ((conv=>whnf);first|refine goD ?_|refine U.lw_c ?_ ?_<;>intro hb))
 (conv=>whnf);refine loop_inv (α:=List Int×List Int×Int) (fun y=>a::(y.1++y.2.1)=a::l∧y.2.2∈a::y.1∧∀x∈a::y.1,y.2.2≤x) (fun y=>(mkF [(0,imS (iL (a::l))),(2,.int .i64 0),(3,.int .i64 y.2.2),(4,.int .i64 ((y.1.length+1:Nat):Int))],⟨.e,0,0,0⟩)) (fun y=>y.2.1.length) ([],l,a) ⟨rfl,by simp,by simp⟩ (Cov.slots rL ⟨rfl,rfl,rfl,rfl,trivial⟩) ?_
 rintro ⟨pre,rest,m⟩ ⟨p1,p2,p3⟩
 dsimp only at p1 p2 p3;have p1:pre++rest=l:=by simpa using p1
 subst p1;dsimp only;rcases rest with _|⟨y,rest⟩
 ·rw[List.append_nil] at *;have g1:decide (((pre.length+1:Nat):Int)<((iL (a::pre)).length:Int))=false:=by rw[iL_len];simp
  (repeat' ((conv=>whnf);first|refine goD ?_|refine U.lw_c ?_ ?_<;>intro hb))
  (conv=>whnf);exact ⟨.int .i64 m,⟨m,rfl,p2,p3⟩,.clean _ (cleanI _)⟩
 ·have hpo:(a::pre++y::rest).length≤maxI:=by simpa using hl
  have e1:a::(pre++y::rest)=(a::pre)++y::rest:=rfl;rw[e1];obtain ⟨h3b,h3c,h3n,h3w⟩:=U.at4 iL_map (a::pre) (y) rest (hpo);have h4b:decide (((pre.length+1:Nat):Int)<((iL (a::pre++y::rest)).length:Int))=true:=h3b
  have h4c:(pre.length+1).blt (iL (a::pre++y::rest)).length=true:=h3c;have h4n:nth (iL (a::pre++y::rest)) (pre.length+1)=some (.int .i64 y):=h3n;(repeat' ((conv=>whnf);first|refine goD ?_|refine U.lw_c ?_ ?_<;>intro hb))
  (conv=>whnf);refine ⟨(pre++[y],rest,if y<m then y else m),⟨by simp,?_,fun x hx=>?_⟩,by simp,Cov.slots (s:=⟨.e,0,0,0⟩) rL ⟨rfl,rfl,rfl,congrArg some (congrArg (Value.int .i64) ?_),trivial⟩⟩
  ·dsimp only;split
   ·simp
   ·rcases List.mem_cons.1 p2 with h|h
    ·rw[h];simp
    ·simp[h]
  ·dsimp only at hx ⊢;have hx':x∈a::pre∨x=y:=by
    rcases List.mem_cons.1 hx with h|h
    ·exact .inl (by simp[h])
    ·rcases List.mem_append.1 h with h|h
     ·exact .inl (by simp[h])
     ·exact .inr (by simpa using h)
   rcases hx' with h|h
   ·have:=p3 x h;split<;>omega
   ·subst h;split<;>omega
  ·exact h3w
end Go.Proofs.YtcihknonfcldeaaDoor
