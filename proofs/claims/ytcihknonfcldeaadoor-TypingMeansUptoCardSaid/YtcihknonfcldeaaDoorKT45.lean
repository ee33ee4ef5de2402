
import Derived.Test.YtcihknonfcldeaaDoorKT28
import Derived.Test.YtcihknonfcldeaaDoorKT43
import Derived.Test.YtcihknonfcldeaaDoorKT44
namespace Go.Proofs.YtcihknonfcldeaaDoor
open Go Go.RowKit Go.Sort U
set_option linter.unusedVariables false
set_option linter.unusedSimpArgs false
set_option maxRecDepth 100000
set_option maxHeartbeats 40000000
theorem turned_at {rows:List (List Int)}{v:Nat}(hv:v<rows.length):(turnedR rows).getD v []=froms rows v:=by
 simp[turnedR,hv]
theorem tur_turned {rows:List (List Int)}(hb:okB rows):Tur rows (turnedR rows):=by
 refine ⟨by simp[turnedR],fun u v=>?_⟩
 constructor
 ·intro h;unfold ES at h;rcases Nat.lt_or_ge v rows.length with hv|hv
  ·rw[turned_at hv,froms_mem] at h;obtain ⟨i,hi,e,hm⟩:=h;have:u=i:=Int.ofNat_inj.1 e;subst this;exact hm
  ·rw[List.getD_eq_getElem?_getD,List.getElem?_eq_none (by simp[turnedR];exact hv)] at h
   simp at h
 ·intro h;have hv:=es_lt hb h;unfold ES at h ⊢
  rw[turned_at hv,froms_mem];refine ⟨u,?_,rfl,h⟩;rcases Nat.lt_or_ge u rows.length with hu|hu
  ·exact hu
  ·rw[List.getD_eq_getElem?_getD,List.getElem?_eq_none hu] at h;simp at h
theorem okB_turned (rows:List (List Int)):okB (turnedR rows):=by
 intro r hr x hx;obtain ⟨c,hc,rfl⟩:=List.mem_map.1 hr;obtain ⟨i,hi,e,_⟩:=froms_mem.1 hx;exact ⟨i,e,by simpa [turnedR] using hi⟩
theorem way_lt {back:List (List Int)}(hb:okB back) {v k u:Nat}(h:Way back v k u) (hv:v<back.length):u<back.length:=by
 cases h with
 |here=>exact hv
 |step _ e=>exact es_lt hb e
theorem far_v {back:List (List Int)}{v:Nat}{way:List Int}(hF:farOk back v way) (hv:v<back.length):gt0 way v=0:=by
 rcases hF.2 v hv with ⟨_,h⟩|⟨d,h1,_,h3⟩
 ·exact absurd .here (h 0)
 ·have:=h3 0 .here;omega
theorem far_zero {back:List (List Int)}{v u:Nat}{way:List Int}(hF:farOk back v way) (hu:u<back.length) (h0:gt0 way u=0):u=v:=by
 rcases hF.2 u hu with ⟨h,_⟩|⟨d,h1,h2,_⟩
 ·omega
 ·have hd:d=0:=by omega
  subst hd;cases h2;rfl
theorem far_next {rows back:List (List Int)}(hT:Tur rows back) (hb:okB back) {v u:Nat}{way:List Int}(hF:farOk back v way) (hv:v<back.length) (hu:u<back.length) {d:Nat}(hd:gt0 way u=((d+1:Nat):Int)):∃w,w<back.length∧ES rows u w∧gt0 way w=d:=by
 rcases hF.2 u hu with ⟨h,_⟩|⟨d',h1,h2,h3⟩
 ·omega
 ·have hdd:d'=d+1:=by omega
  subst hdd;cases h2 with
  |@step k w _ h e =>
   have hw:=way_lt hb h hv;have e2:=(hT.2 u w).1 e;refine ⟨w,hw,e2,?_⟩;rcases hF.2 w hw with ⟨_,h4⟩|⟨d2,h5,h6,h7⟩
   ·exact absurd h (h4 _)
   ·have h8:=h7 _ h;have h9:=h3 _ (.step h6 e);omega
theorem way_back {rows back:List (List Int)}(hT:Tur rows back) {v w x:Nat}(h:Rch rows w x):(∃k,Way back v k x)->∃k,Way back v k w:=by
 induction h with
 |refl=>exact id
 |@step a b h e ih =>
  rintro ⟨k,hk⟩
  exact ih ⟨k+1,.step hk ((hT.2 a b).2 e)⟩
theorem far_cyc {rows back:List (List Int)}(hT:Tur rows back) (hb:okB rows) {v:Nat}{way:List Int}(hF:farOk back v way) (hc:Cyc rows v):∃w,w<back.length∧ES rows v w∧0≤gt0 way w:=by
 obtain ⟨w,e,h⟩:=hc;have hw:w<back.length:=by rw[hT.1];exact es_lt hb e
 obtain ⟨k,hk⟩:=way_back (v:=v) hT h ⟨0,.here⟩;refine ⟨w,hw,e,?_⟩;rcases hF.2 w hw with ⟨_,h4⟩|⟨d,h5,_,_⟩
 ·exact absurd hk (h4 _)
 ·omega
def Bst (way:List Int) (p:List Int) (best:Int):Prop:=(best=-1∧∀x:Nat,(x:Int)∈p->gt0 way x<0)∨∃b:Nat,best=b∧(b:Int)∈p∧0≤gt0 way b∧∀x:Nat,(x:Int)∈p->0≤gt0 way x->gt0 way b<gt0 way x∨(gt0 way b=gt0 way x∧b≤x)
theorem bst_nil (way:List Int):Bst way [] (-1):=.inl ⟨rfl,fun x h=>by cases h⟩
theorem bst_old {way p:List Int}{best:Int}{w:Nat}(h:Bst way p best) (hp:(p++[(w:Int)]).Pairwise (·<·)) (hw:gt0 way w<0∨∃b:Nat,best=b∧gt0 way b≤gt0 way w):Bst way (p++[(w:Int)]) best:=by
 have hlt:=(List.pairwise_append.1 hp).2.2;rcases h with ⟨e,h⟩|⟨b,e,h1,h2,h3⟩
 ·refine .inl ⟨e,fun x hx=>?_⟩
  rcases List.mem_append.1 hx with hx|hx
  ·exact h x hx
  ·have:x=w:=Int.ofNat_inj.1 (by simpa using hx)
   subst this;rcases hw with hw|⟨b,hb,_⟩
   ·exact hw
   ·omega
 ·refine .inr ⟨b,e,List.mem_append_left _ h1,h2,fun x hx h0=>?_⟩
  rcases List.mem_append.1 hx with hx|hx
  ·exact h3 x hx h0
  ·have:x=w:=Int.ofNat_inj.1 (by simpa using hx)
   subst this;have hbx:=hlt b h1 x (by simp)
   rcases hw with hw|⟨b',hb',h4⟩
   ·omega
   ·have:b'=b:=by omega
    subst this;omega
theorem bst_new {way p:List Int}{best:Int}{w:Nat}(h:Bst way p best) (h0:0≤gt0 way w) (hw:best<0∨∃b:Nat,best=b∧gt0 way w<gt0 way b):Bst way (p++[(w:Int)]) w:=by
 refine .inr ⟨w,rfl,by simp,h0,fun x hx hx0=>?_⟩
 rcases List.mem_append.1 hx with hx|hx
 ·rcases h with ⟨e,h⟩|⟨b,e,h1,h2,h3⟩
  ·have:=h x hx;omega
  ·rcases hw with hw|⟨b',hb',h4⟩
   ·omega
   ·have:b'=b:=by omega
    subst this;have:=h3 x hx hx0;omega
 ·have:x=w:=Int.ofNat_inj.1 (by simpa using hx)
  subst this;exact .inr ⟨rfl,Nat.le_refl _⟩
structure RingOk (rows:List (List Int)) (way:List Int) (v:Nat) (L:List Nat):Prop where
 lt:∀u∈L,u<rows.length
 hd:L[0]?=some v
 nd:L.Nodup
 st:∀i a b,L[i]?=some a->L[i+1]?=some b->ES rows a b∧Bst way (rows.getD a []) (b:Int)∧0<gt0 way b
 cl:∀a,L.getLast?=some a->ES rows a v∧Bst way (rows.getD a []) (v:Int)
structure Rg (rows:List (List Int)) (way:List Int) (v:Nat) (pre:List Nat) (node:Nat):Prop where
 lt:∀u∈pre++[node],u<rows.length
 hd:(pre++[node])[0]?=some v
 st:∀i a b,(pre++[node])[i]?=some a->(pre++[node])[i+1]?=some b->ES rows a b∧Bst way (rows.getD a []) (b:Int)∧0<gt0 way b
 dn:(pre++[node]).tail.Pairwise fun a b=>gt0 way b<gt0 way a
 ps:∀u∈(pre++[node]).tail,0<gt0 way u
theorem rg_init {rows:List (List Int)}{way:List Int}{v:Nat}(hv:v<rows.length):Rg rows way v [] v:=by
 refine ⟨by simpa using hv,by simp,fun i a b h1 h2=>by simp at h2,by simp,by simp⟩
theorem Rg.next {rows:List (List Int)}{way:List Int}{v node b:Nat}{pre:List Nat}(h:Rg rows way v pre node) (hb:b<rows.length) (e:ES rows node b) (e2:Bst way (rows.getD node []) (b:Int)) (h0:0<gt0 way b) (hd:pre=[]∨gt0 way b<gt0 way node):Rg rows way v (pre++[node]) b:=by
 have htail:(pre++[node]++[b]).tail=(pre++[node]).tail++[b]:=by cases pre<;>simp
 refine ⟨fun u hu=>?_,?_,fun i x y h1 h2=>?_,?_,fun u hu=>?_⟩
 ·rcases List.mem_append.1 hu with hu|hu
  ·exact h.lt u hu
  ·have:u=b:=by simpa using hu
   omega
 ·have:=(List.getElem?_eq_some_iff.1 h.hd).1;rw[List.getElem?_append_left this];exact h.hd
 ·rcases Nat.lt_trichotomy (i+1) (pre++[node]).length with hi|hi|hi
  ·rw[List.getElem?_append_left hi] at h2;rw[List.getElem?_append_left (by omega)] at h1;exact h.st i x y h1 h2
  ·rw[List.getElem?_append_right (by omega),hi] at h2;rw[List.getElem?_append_left (by omega)] at h1;simp at h2
   subst h2;have hl:i=pre.length:=by simp at hi;omega
   subst hl;simp at h1
   subst h1;exact ⟨e,e2,h0⟩
  ·rw[List.getElem?_eq_none (by rw[List.length_append,List.length_singleton];omega)] at h2
   cases h2
 ·rw[htail,List.pairwise_append];refine ⟨h.dn,by simp,fun a ha c hc=>?_⟩
  have:c=b:=by simpa using hc
  subst this;rcases hd with rfl|hd
  ·simp at ha
  ·have hge:gt0 way node≤gt0 way a:=by
    have ht:(pre++[node]).tail=pre.tail++[node]∨pre=[]:=by cases pre<;>simp
    rcases ht with ht|ht
    ·have hdn:=h.dn;rw[ht] at ha hdn;rcases List.mem_append.1 ha with ha|ha
     ·have:=(List.pairwise_append.1 hdn).2.2 a ha node (by simp);omega
     ·have:a=node:=by simpa using ha
      subst this;exact Int.le_refl _
    ·subst ht;simp at ha
   omega
 ·rw[htail] at hu;rcases List.mem_append.1 hu with hu|hu
  ·exact h.ps u hu
  ·have:u=b:=by simpa using hu
   subst this;exact h0
theorem Rg.nodup {rows:List (List Int)}{way:List Int}{v node:Nat}{pre:List Nat}(h:Rg rows way v pre node) (h0:gt0 way v=0):(pre++[node]).Nodup:=by
 have hd:=h.hd;have hdn:=h.dn;have hps:=h.ps;generalize pre++[node]=L at *
 cases L with
 |nil=>simp
 |cons x l =>
  simp at hd
  subst hd;replace hdn:l.Pairwise fun a b=>gt0 way b<gt0 way a:=hdn
  replace hps:∀u∈l,0<gt0 way u:=hps
  rw[List.nodup_cons];refine ⟨fun hx=>?_,hdn.imp fun hab e=>by subst e;omega⟩
  have:=hps x hx;omega
theorem Rg.fin {rows:List (List Int)}{way:List Int}{v node:Nat}{pre:List Nat}(h:Rg rows way v pre node) (h0:gt0 way v=0) (e:ES rows node v) (e2:Bst way (rows.getD node []) (v:Int)):RingOk rows way v (pre++[node]):=by
 refine ⟨h.lt,h.hd,h.nodup h0,h.st,fun a ha=>?_⟩
 ·have:a=node:=by simpa using ha.symm
  subst this;exact ⟨e,e2⟩
theorem Rg.near {rows back:List (List Int)}(hT:Tur rows back) (hb:okB rows) (hb2:okB back) {way:List Int}{v node:Nat}{pre:List Nat}{best:Int}(hF:farOk back v way) (hv:v<rows.length) (hc:Cyc rows v) (h:Rg rows way v pre node) (hB:Bst way (rows.getD node []) best):∃b:Nat,best=b∧b<rows.length∧ES rows node b∧0≤gt0 way b∧(pre=[]∨gt0 way b<gt0 way node):=by
 have hvb:v<back.length:=by rw[hT.1];exact hv
 have hex:∃w,ES rows node w∧0≤gt0 way w∧(pre=[]∨gt0 way w<gt0 way node):=by
  rcases pre with _|⟨x,pre⟩
  ·have hd:=h.hd;simp at hd
   subst hd;obtain ⟨w,_,h1,h2⟩:=far_cyc hT hb hF hc;exact ⟨w,h1,h2,.inl rfl⟩
  ·have hp:=h.ps node (by simp)
   obtain ⟨w,_,h1,h2⟩:=far_next (d:=(gt0 way node).toNat-1) hT hb2 hF hvb (by rw[hT.1];exact h.lt node (by simp)) (by omega)
   exact ⟨w,h1,by omega,.inr (by omega)⟩
 obtain ⟨w,h1,h2,h3⟩:=hex;rcases hB with ⟨_,h4⟩|⟨b,e,h4,h5,h6⟩
 ·have:=h4 w h1;omega
 ·refine ⟨b,e,es_lt hb (v:=node) h4,h4,h5,?_⟩;rcases h3 with h3|h3
  ·exact .inl h3
  ·right
   rcases h6 w h1 h2 with h7|⟨h7,_⟩<;>omega
def RingQ (rows:List (List Int)) (u:Value):Prop:=(u=imS (iL [])∧∀w,w<rows.length->¬Cyc rows w)∨∃(v:Nat) (way:List Int) (L:List Nat),u=imS (iL (nL L))∧v<rows.length∧Cyc rows v∧(∀w,w<rows.length->Cyc rows w->v≤w)∧farOk (turnedR rows) v way∧RingOk rows way v L
theorem rg_len {rows:List (List Int)}{way:List Int}{v node:Nat}{pre:List Nat}(h:Rg rows way v pre node) (h0:gt0 way v=0):(pre++[node]).length≤rows.length:=nodup_len (h.nodup h0) h.lt
theorem callees_rise (g:Gz):∀r∈calleesR g,r.Pairwise (·<·):=fun r hr=>by
 obtain ⟨s,_,rfl⟩:=List.mem_map.1 hr;rw[rowR,List.pairwise_map];exact (List.pairwise_lt_range.filter _).imp fun h=>by omega
theorem ring_e (g:Gz) (hg:okG g) (hst:g.st.length≤29000) (hs:sumL g.st≤500000) (hR:rightG g=true):DenE Tryd.prog 13 [encG g] (RingQ (calleesR g)):=by
 refine denE_of_sound hmixU fun Ts=>SoundAt.body hmixU Tryd.func13 rfl rfl rfl 0 ?_
 have c1:=cright_d g hg;rw[hR] at c1;have c2:=callees_d g hg hR (by omega) hs
 have hR2:=hR;simp only[rightG,Bool.and_eq_true,decide_eq_true_eq] at hR2;have hok:okRows (calleesR g).length (calleesR g):=callees_ok g hR2.1 (Nat.le_trans hg.1 (by unfold maxI;omega))
 have hcl:(calleesR g).length=g.st.length:=by simp[calleesR]
 have htl:(turnedR (calleesR g)).length=g.st.length:=by simp[turnedR,calleesR]
 have c3:=turned_d (calleesR g) (by simp[calleesR];omega) hok
 have hb:okB (calleesR g):=fun r hr x hx=>(hok r hr).2.2 x hx
 have hbl:∀r∈turnedR (calleesR g),r.length≤maxI:=fun r hr=>by
  obtain ⟨c,_,rfl⟩:=List.mem_map.1 hr;exact Nat.le_trans (froms_len _ _) (by rw[hcl];unfold maxI;omega)
 have c4:=start_e (calleesR g) (turnedR (calleesR g)) hb (okB_turned _) (tur_turned hb) (by omega) (fun r hr=>(hok r hr).2.1) (fun r hr=>hbl r hr)
 obtain ⟨nm,st⟩:=g;dsimp only at hcl htl hst hs;have cg:=cleanG ⟨nm,st⟩;have cr:=cleanGL (calleesR ⟨nm,st⟩);have ct:=cleanGL (turnedR (calleesR ⟨nm,st⟩));(repeat' ((conv=>whnf);first|refine goA ?_|refine U.SoundAt.e c4 clN ?_|refine goB ?_|refine U.SoundAt.u (c1) clN ?_|refine U.SoundAt.u (c2) clN ?_|refine U.SoundAt.u (c3) clN ?_|refine U.SoundC.u (c1) clN ?_|refine U.SoundC.u (c2) clN ?_|refine U.SoundC.u (c3) clN ?_|refine U.drawX_p (D:=U.propX) 20 [] (by decide +kernel) (by decide +kernel) ?_|refine U.lw_c ?_ ?_<;>intro hb))
 rintro u ⟨least,rfl,hS⟩
 rcases hS with ⟨rfl,hno⟩|⟨v,rfl,hv,hcy,hmin⟩
 ·have g1:decide ((-1:Int)<0)=true:=by decide
  (repeat' ((conv=>whnf);first|refine goD ?_|refine U.lw_c ?_ ?_<;>intro hb))
  (conv=>whnf);exact ⟨imS [],.inl ⟨rfl,hno⟩,.nil⟩
 ·have g1:decide ((v:Int)<0)=false:=by simp
  have c5:=far_e (turnedR (calleesR ⟨nm,st⟩)) v (okB_turned _) (by omega) (by omega) hbl
  (repeat' ((conv=>whnf);first|refine goA ?_|refine U.SoundAt.e c5 clN ?_|refine goB ?_|refine U.lw_c ?_ ?_<;>intro hb))
  rintro u ⟨way,rfl,hW⟩
  (repeat' ((conv=>whnf);first|refine goD ?_|refine U.lw_c ?_ ?_<;>intro hb))
  (conv=>whnf);have hvt:v<(turnedR (calleesR ⟨nm,st⟩)).length:=by omega
  have hT:=tur_turned hb;have hb2:=okB_turned (calleesR ⟨nm,st⟩);have hv0:=far_v hW hvt;have hwl:way.length=st.length:=by rw[hW.1];exact htl
  have hrise:=callees_rise ⟨nm,st⟩;clear c1 c2 c3 c4 c5;generalize hrows:calleesR ⟨nm,st⟩=rows at *
  have hrl0:rows.length≤29000:=by omega
  refine loop_inv (α:=List Nat×Nat×Bool) (fun x=>∃pre,x.1=pre++[x.2.1]∧Rg rows way v pre x.2.1) (fun x=>(mkF [(2,.slice none 0 0),(3,imS (gL rows)),(4,imS (gL (turnedR rows))),(5,.int .i64 v),(6,imS (iL way)),(7,.slice (some ⟨2,0,none⟩) x.1.length x.1.length),(8,.int .i64 x.2.1)],⟨mkO [(0,some (.cells 48 [imS (sL nm),imS (gL st)] false)),(2,some (.cells 3 (iL (nL x.1)) x.2.2))],3,0,0⟩)) (fun x=>st.length+1-x.1.length) ([v],v,false) ⟨[],rfl,rg_init (by omega)⟩ (Cov.renO (fun k=>if k=2 then 1 else k) rfl rfl (bR rfl) zL (fun k hk=>by have:k<2:=hk;rw[if_neg (by omega)]) rfl nlz (.W rfl (cleanG_cells ⟨nm,st⟩) rfl (.W rfl (cleanIl0 _) rfl .nil)) (.K rfl rfl rfl (.L rfl (cleanGL _) rfl (.L rfl (cleanGL _) rfl (.cons rfl .I (.L rfl (cleanIL _) rfl (.cons rfl (.S rfl rfl rfl) (.cons rfl .I .nil)))))))) ?_
  rintro ⟨L,node,op⟩ ⟨pre,p1,hG⟩
  dsimp only at p1 hG;dsimp only;have hLn:=rg_len hG hv0;rw[← p1] at hLn;have hnd:=hG.lt node (by simp)
  obtain ⟨row,hrw⟩:∃row,rows[node]?=some row:=⟨_,List.getElem?_eq_getElem hnd⟩
  have hrd:rows.getD node []=row:=by simp[hrw]
  have hrm:=List.mem_of_getElem? hrw;have hrl:=(hok row hrm).2.1;have hrs:=hrise row hrm;have hnb:node.blt (gL rows).length=true:=by rw[gL_len];exact bLe hnd
  have hnx:nth (gL rows) node=some (imS (iL row)):=by rw[nth_eq,gL];simp[hrw]
  (repeat' ((conv=>whnf);first|refine goD ?_|refine U.lw_c ?_ ?_<;>intro hb))
  (conv=>whnf);refine loop_inv (α:=List Int×List Int×Int) (fun y=>y.1++y.2.1=row∧Bst way y.1 y.2.2) (fun y=>(mkF [(2,.slice none 0 0),(3,imS (gL rows)),(4,imS (gL (turnedR rows))),(5,.int .i64 v),(6,imS (iL way)),(7,.slice (some ⟨2,0,none⟩) L.length L.length),(8,.int .i64 node),(9,.int .i64 y.2.2),(33,imS (iL row)),(34,.int .i64 (iL row).length),(35,.int .i64 y.1.length)],⟨mkO [(0,some (.cells 48 [imS (sL nm),imS (gL st)] false)),(2,some (.cells 3 (iL (nL L)) op))],3,0,0⟩)) (fun y=>y.2.1.length) ([],row,-1) ⟨rfl,bst_nil way⟩ (Cov.renI rfl rfl rfl rfl (.W rfl (cleanG_cells ⟨nm,st⟩) rfl (.W rfl (cleanIl0 _) rfl .nil)) (.K rfl rfl rfl (.L rfl (cleanGL _) rfl (.L rfl (cleanGL _) rfl (.cons rfl .I (.L rfl (cleanIL _) rfl (.cons rfl (.S rfl rfl rfl) (.cons rfl .I (.cons rfl .I (.L rfl (cleanIL _) rfl (.cons rfl .I (.cons rfl .I .nil)))))))))))) ?_
  rintro ⟨p,q,best⟩ ⟨p2,hB⟩
  dsimp only at p2 hB;dsimp only;rcases q with _|⟨t,q⟩
  ·rw[List.append_nil] at p2;subst p2;have h4b:=U.lt_no iL_map p;rw[← hrd] at hB;obtain ⟨b,rfl,h1,h2,h3,h4⟩:=hG.near hT hb hb2 hW (by omega) hcy hB
   have g2:decide ((b:Int)<0)=false:=by simp
   have hbb:b.blt (iL way).length=true:=by rw[iL_len,hwl];exact bLe (by omega)
   have hbx:=iL_at (l:=way) (i:=b) (by omega)
   by_cases hz:gt0 way b=0
   ·have hbv:=far_zero hW (by rw[htl];omega) hz
    subst hbv;have g3:(gt0 way b==0)=true:=by rw[hz];rfl
    (repeat' ((conv=>whnf);first|refine goD ?_|refine U.lw_c ?_ ?_<;>intro hb))
    (conv=>whnf);have hfin:=hG.fin hv0 h2 hB;rw[← p1] at hfin;exact ⟨imS (iL (nL L)),.inr ⟨b,way,L,rfl,hv,hcy,hmin,hW,hfin⟩,.rowL (k:=2) (ys:=iL (nL L)) zL rfl (by rw[cellsI]) iL_1 (by rw[iL_len,nL_len]) rL (cleanIC _)⟩
   ·have g3:(gt0 way b==0)=false:=beq_eq_false_iff_ne.2 hz;have hG2:=hG.next h1 h2 hB (by omega) h4
    have hLn2:=rg_len hG2 hv0;rw[← p1] at hG2 hLn2;rcases L with _|⟨y,ys⟩
    ·simp at p1
    have hyl:(iL (nL (y::ys))).length=(y::ys).length*(0+1):=by rw[iL_len,nL_len];simp
    have hys:ys.length+1≤29000:=by simp at hLn;omega
    have hb7:(Nat.ble ((ys.length+1+(0+1))*8) 140737488355328&&Nat.ble (ys.length+1+(0+1)) 1000000)=true:=by
     rw[bLe (by omega),bLe (by omega)];rfl
    have hgr:iL (nL (y::ys++[b]))=iL (nL (y::ys))++[Value.int .i64 (b:Int)]:=by simp[iL,nL]
    (repeat' ((conv=>whnf);first|refine goA ?_|refine U.ob_c hb7 ?_|(rw[ble_f];dsimp only;refine growRow_p hyl rfl ?_)|refine goB ?_|refine U.lw_c ?_ ?_<;>intro hb))
    rw[ble_f];dsimp only;cases op
    ·dsimp only;rw[dropL_eq];refine takeA_p hyl ?_;refine U.catC_p ?_;(repeat' ((conv=>whnf);first|refine goD ?_|refine U.lw_c ?_ ?_<;>intro hb))
     (conv=>whnf);refine ⟨(y::ys++[b],b,true),⟨y::ys,rfl,hG2⟩,by dsimp only;rw[List.length_append,List.length_singleton] at hLn2 ⊢;omega,?_⟩
     exact (Cov.renO (fun k=>if k=2 then 4 else k) rfl rfl (bR rfl) zL (fun k hk=>by have:k<2:=hk;rw[if_neg (by omega)]) rfl nlz (.W rfl (cleanG_cells ⟨nm,st⟩) rfl (.W rfl (cleanIl0 _) (hgr) .nil)) (.K rfl rfl rfl (.L rfl (cleanGL _) rfl (.L rfl (cleanGL _) rfl (.cons rfl .I (.L rfl (cleanIL _) rfl (.cons rfl (.sl _ _ _ _ _ _ _ (by decide) rfl ((by simp)) ((by simp))) (.cons rfl .I .nil))))))))
    ·dsimp only;refine growRow_p hyl (lo:=0) (b:=2) rfl ?_;(repeat' ((conv=>whnf);first|refine goD ?_|refine U.lw_c ?_ ?_<;>intro hb))
     (conv=>whnf);refine ⟨(y::ys++[b],b,true),⟨y::ys,rfl,hG2⟩,by dsimp only;rw[List.length_append,List.length_singleton] at hLn2 ⊢;omega,?_⟩
     exact (Cov.renO (fun k=>if k=2 then 4 else k) rfl rfl (bR rfl) zL (fun k hk=>by have:k<2:=hk;rw[if_neg (by omega)]) rfl nlz (.W rfl (cleanG_cells ⟨nm,st⟩) rfl (.W rfl (cleanIl0 _) (hgr) .nil)) (.K rfl rfl rfl (.L rfl (cleanGL _) rfl (.L rfl (cleanGL _) rfl (.cons rfl .I (.L rfl (cleanIL _) rfl (.cons rfl (.sl _ _ _ _ _ _ _ (by decide) rfl ((by simp)) ((by simp))) (.cons rfl .I .nil))))))))
  ·have hrl2:=hrl;rw[← p2] at hrl2;obtain ⟨h4b,h4c,h4n,h4w⟩:=U.at4 iL_map p (t) q (hrl2);rw[p2] at h4b h4c h4n;obtain ⟨w,rfl,hw⟩:=hb row hrm t (by rw[← p2];simp)
   have hpw:(p++[(w:Int)]).Pairwise (·<·):=by
    rw[← p2,show p++(w:Int)::q=(p++[(w:Int)])++q by simp] at hrs
    exact (List.pairwise_append.1 hrs).1
   have hwb:w.blt (iL way).length=true:=by rw[iL_len,hwl];exact bLe (by omega)
   have hwx:=iL_at (l:=way) (i:=w) (by omega)
   have hold:∀b':Nat,best=b'->gt0 way b'≤gt0 way w->Bst way (p++[(w:Int)]) best:=fun b' e1 e2=>bst_old hB hpw (.inr ⟨b',e1,e2⟩)
   rcases Int.lt_or_le (gt0 way w) 0 with hneg|hpos
   ·have g2:decide (gt0 way w≥0)=false:=decide_eq_false (by omega)
    (repeat' ((conv=>whnf);first|refine goD ?_|refine U.drawX_p (D:=U.propX) 20 [] (by decide +kernel) (by decide +kernel) ?_|refine U.lw_c ?_ ?_<;>intro hb))
    (conv=>whnf);refine ⟨(p++[(w:Int)],q,best),⟨by rw[← p2];simp,bst_old hB hpw (.inl hneg)⟩,by simp,?_⟩
    exact (Cov.renI rfl rfl rfl rfl (.W rfl (cleanG_cells ⟨nm,st⟩) rfl (.W rfl (cleanIl0 _) rfl .nil)) (.K rfl rfl rfl (.L rfl (cleanGL _) rfl (.L rfl (cleanGL _) rfl (.cons rfl .I (.L rfl (cleanIL _) rfl (.cons rfl (.S rfl rfl rfl) (.cons rfl .I (.cons rfl .I (.L rfl (cleanIL _) rfl (.cons rfl .I (.L rfl (cleanI _) (congrArg (Value.int .i64) (h4w.symm)) .nil))))))))))))
   ·have g2:decide (gt0 way w≥0)=true:=decide_eq_true (by omega)
    have hB0:=hB;rcases hB0 with ⟨rfl,_⟩|⟨b,rfl,hbm,hb0,_⟩
    ·have g3:decide ((-1:Int)<0)=true:=by decide
     (repeat' ((conv=>whnf);first|refine goD ?_|refine U.drawX_p (D:=U.propX) 20 [] (by decide +kernel) (by decide +kernel) ?_|refine U.lw_c ?_ ?_<;>intro hb))
     (conv=>whnf);refine ⟨(p++[(w:Int)],q,w),⟨by rw[← p2];simp,bst_new hB hpos (.inl (by decide))⟩,by simp,?_⟩
     exact (Cov.renI rfl rfl rfl rfl (.W rfl (cleanG_cells ⟨nm,st⟩) rfl (.W rfl (cleanIl0 _) rfl .nil)) (.K rfl rfl rfl (.L rfl (cleanGL _) rfl (.L rfl (cleanGL _) rfl (.cons rfl .I (.L rfl (cleanIL _) rfl (.cons rfl (.S rfl rfl rfl) (.cons rfl .I (.cons rfl .I (.L rfl (cleanIL _) rfl (.cons rfl .I (.L rfl (cleanI _) (congrArg (Value.int .i64) (h4w.symm)) .nil))))))))))))
    ·have g3:decide ((b:Int)<0)=false:=by simp
     have hbl:b<st.length:=by
      obtain ⟨b',e1,e2⟩:=hb row hrm (b:Int) (by rw[← p2];simp[hbm])
      omega
     have hbb:b.blt (iL way).length=true:=by rw[iL_len,hwl];exact bLe (by omega)
     have hbx:=iL_at (l:=way) (i:=b) (by omega)
     by_cases hlt:gt0 way w<gt0 way b
     ·have g4:decide (gt0 way w<gt0 way b)=true:=decide_eq_true hlt;(repeat' ((conv=>whnf);first|refine goD ?_|refine U.drawX_p (D:=U.propX) 20 [] (by decide +kernel) (by decide +kernel) ?_|refine U.lw_c ?_ ?_<;>intro hb))
      (conv=>whnf);refine ⟨(p++[(w:Int)],q,w),⟨by rw[← p2];simp,bst_new hB hpos (.inr ⟨b,rfl,hlt⟩)⟩,by simp,?_⟩
      exact (Cov.renI rfl rfl rfl rfl (.W rfl (cleanG_cells ⟨nm,st⟩) rfl (.W rfl (cleanIl0 _) rfl .nil)) (.K rfl rfl rfl (.L rfl (cleanGL _) rfl (.L rfl (cleanGL _) rfl (.cons rfl .I (.L rfl (cleanIL _) rfl (.cons rfl (.S rfl rfl rfl) (.cons rfl .I (.cons rfl .I (.L rfl (cleanIL _) rfl (.cons rfl .I (.L rfl (cleanI _) (congrArg (Value.int .i64) (h4w.symm)) .nil))))))))))))
     ·have g4:decide (gt0 way w<gt0 way b)=false:=decide_eq_false hlt;(repeat' ((conv=>whnf);first|refine goD ?_|refine U.drawX_p (D:=U.propX) 20 [] (by decide +kernel) (by decide +kernel) ?_|refine U.lw_c ?_ ?_<;>intro hb))
      (conv=>whnf);refine ⟨(p++[(w:Int)],q,b),⟨by rw[← p2];simp,bst_old hB hpw (.inr ⟨b,rfl,by omega⟩)⟩,by simp,?_⟩
      exact (Cov.renI rfl rfl rfl rfl (.W rfl (cleanG_cells ⟨nm,st⟩) rfl (.W rfl (cleanIl0 _) rfl .nil)) (.K rfl rfl rfl (.L rfl (cleanGL _) rfl (.L rfl (cleanGL _) rfl (.cons rfl .I (.L rfl (cleanIL _) rfl (.cons rfl (.S rfl rfl rfl) (.cons rfl .I (.cons rfl .I (.L rfl (cleanIL _) rfl (.cons rfl .I (.L rfl (cleanI _) (congrArg (Value.int .i64) (h4w.symm)) .nil))))))))))))
end Go.Proofs.YtcihknonfcldeaaDoor
