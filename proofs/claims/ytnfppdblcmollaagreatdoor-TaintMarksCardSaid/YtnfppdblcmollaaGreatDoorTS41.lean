
import Derived.Test.YtnfppdblcmollaaGreatDoorTS40
namespace Go.Proofs.YtnfppdblcmollaaGreatDoor
open Go Go.RowKit Go.Sort U
set_option linter.unusedVariables false
set_option linter.unusedSimpArgs false
set_option maxRecDepth 100000
set_option maxHeartbeats 40000000
def blkI:List Int->Option U.Blk
 |[]=>none
 |y::ys=>some (.cells 3 (iL (y::ys)) true)
theorem blkI_row {h:Tr U.Blk}{n:Nat}{ρ:Ren}{k:Nat}{l l':List Int}{L:List (Nat×Option U.Blk)}(h1:Tr.at (pt (ρ k)) h=blkI l') (e:l=l') (h3:blksO h n ρ L):blksO h n ρ ((k,blkI l)::L):=by
 subst e;refine ⟨fun x hx=>⟨x,by rw[h1];exact hx,?_⟩,h3⟩
 cases l with
 |nil=>cases hx
 |cons y m=>cases hx;exact .row _ _ _ _ (cleanIl _) rfl
theorem blkI_grown {h:Tr U.Blk}{n:Nat}{ρ:Ren}{k:Nat}{l:List Int}{xs:List Value}{L:List (Nat×Option U.Blk)}(h1:Tr.at (pt (ρ k)) h=some (.cells 3 xs true)) (e:iL l=xs) (h3:blksO h n ρ L):blksO h n ρ ((k,blkI l)::L):=by
 refine ⟨fun x hx=>⟨.cells 3 xs true,h1,?_⟩,h3⟩
 cases l with
 |nil=>cases hx
 |cons y m=>cases hx;exact .row _ _ _ _ (cleanIl _) e
def waitF (n:Nat) (pre:List (List Int)):List Int:=pre.map (fun r=>(r.length:Int))++List.replicate (n-pre.length) 0
def openF (pre:List (List Int)):List Int:=((List.range pre.length).filter fun i=>pre.getD i []==[]).map fun (i:Nat)=>(i:Int)
theorem waitF_len {n:Nat}{pre:List (List Int)}(h:pre.length≤n):(waitF n pre).length=n:=by simp[waitF];omega
theorem waitF_snoc {n:Nat}{pre:List (List Int)}{x:List Int}(h:pre.length<n):waitF n (pre++[x])=(waitF n pre).set pre.length (x.length:Int):=by
 obtain ⟨d,hd⟩:∃d,n-pre.length=d+1:=⟨n-pre.length-1,by omega⟩
 have h2:n-(pre++[x]).length=d:=by simp;omega
 rw[waitF,waitF,h2,hd,List.replicate_succ,List.set_append_right _ _ (by simp)];simp
theorem openF_snoc (pre:List (List Int)) (x:List Int):openF (pre++[x])=openF pre++if x=[] then [(pre.length:Int)] else []:=by
 have h1:(List.range pre.length).filter (fun i=>(pre++[x]).getD i []==[])=(List.range pre.length).filter (fun i=>pre.getD i []==[]):=List.filter_congr fun i hi=>by
  have hi:i<pre.length:=List.mem_range.1 hi;simp[List.getElem?_append_left hi]
 simp only[openF,List.length_append,List.length_singleton,List.range_succ,List.filter_append,List.map_append,h1];congr 1
 by_cases h:x=[]
 ·simp[h]
 ·simp[h]
theorem openF_mem {R:List (List Int)}{x:Int}:x∈openF R↔∃v:Nat,v<R.length∧x=(v:Int)∧R.getD v []=[]:=by
 simp only[openF,List.mem_map,List.mem_filter,List.mem_range,beq_iff_eq];constructor
 ·rintro ⟨i,⟨h1,h2⟩,rfl⟩
  exact ⟨i,h1,rfl,h2⟩
 ·rintro ⟨i,h1,rfl,h2⟩
  exact ⟨i,⟨h1,h2⟩,rfl⟩
theorem openF_nodup (R:List (List Int)):(openF R).Nodup:=by
 refine List.Pairwise.map (R:=fun (a b:Nat)=>a<b) _ (fun a b h=>by omega) ?_
 exact List.pairwise_lt_range.filter _
theorem openF_len (R:List (List Int)):(openF R).length≤R.length:=by
 rw[openF,List.length_map];exact Nat.le_trans (List.length_filter_le ..) (by simp)
theorem waitF_nil (R:List (List Int)):iL (waitF R.length [])=repX ((((gL R).length:Nat):Int).toNat) [.int .i64 0]:=by
 rw[repX_one,gL_len,iL,waitF];simp
theorem wtO_zero (R:List (List Int)):waitF R.length R=wtO R []:=by
 rw[waitF,Nat.sub_self,List.replicate_zero,List.append_nil,wtO];apply List.ext_getElem (by simp)
 intro i h1 h2;have hi:i<R.length:=by simpa using h1
 have e:cntW R [] i=R[i].length:=by
  unfold cntW;rw[show R.getD i []=R[i] by simp[hi]]
  simp
 simp[e]
theorem callees_ok (g:Gz) (hl:g.st.length=g.nm.length+1) (hn:g.nm.length≤maxI):okRows (calleesR g).length (calleesR g):=fun r hr=>by
 obtain ⟨s,_,rfl⟩:=List.mem_map.1 hr;refine ⟨rowR_nodup _ _,Nat.le_trans (rowR_len _ _) hn,fun t ht=>?_⟩
 obtain ⟨i,h1,h2,_⟩:=rowR_mem.1 ht;exact ⟨i,h2,by simp[calleesR];omega⟩
def stF (w xs:List Int):AS:=⟨mkO [(1,some (.cells 3 (iL w) false)),(2,some (.cells 202 [rowS 3 (iL xs)] false)),(3,blkI xs),(0,rowO 3 (iL []))],4,0,0⟩
def stQ (b o nx:Nat) (w L:List Int) (m:Nat) (ord:List Int):AS:=match L with
 |[]=>stZ b o nx w ord
 |y::ys=>stN b o nx w (y::ys) m (ys.length+1) ord
theorem stQ_next (b o nx:Nat) (w L:List Int) (m:Nat) (ord:List Int):(stQ b o nx w L m ord).next=nx:=by cases L<;>rfl
theorem init_q (w xs:List Int) (hx:xs.length≤30000):SoundAt Tryz.prog 116 [hpV] (stF w xs) (fun u s'=>u=.tuple ⟨[]⟩∧∃L,L.Perm xs∧HeapFrom 0 L L.length∧s'=stQ 3 0 4 w L L.length []):=by
 rcases xs with _|⟨y,ys⟩
 ·refine (init_z w).mono ?_;rintro u s' _ ⟨rfl,rfl⟩
  exact ⟨rfl,[],.refl _,fun k h1 h2=>by simp at h2,rfl⟩
 ·refine (init_s w (y::ys) ((iL ys).length+1) ((iL ys).length+1) (by rw[iL_len];exact Nat.le_refl _) rL (by rw[iL_len];exact hx)).mono ?_
  rintro u s' _ ⟨rfl,L,q1,q2,rfl⟩
  have hl:L.length=(iL ys).length+1:=by rw[q1.length_eq,iL_len];rfl
  refine ⟨rfl,L,q1,by rw[hl];exact q2,?_⟩
  rw[← hl];cases L with
  |nil=>simp at hl
  |cons z zs=>rfl
theorem heap_take {L:List Int}{m n:Nat}(hn:n≤m):HeapFrom 0 (L.take m) n↔HeapFrom 0 L n:=by
 have e:∀k,k<n->gt0 (L.take m) k=gt0 L k:=fun k hk=>by
  simp only[gt0,List.getD_eq_getElem?_getD];rw[List.getElem?_take_of_lt (by omega)]
 constructor
 ·intro h k h1 h2 h3;have:=h k h1 h2 h3;rwa [e _ (by omega),e _ h2] at this
 ·intro h k h1 h2 h3;have:=h k h1 h2 h3;rwa [e _ (by omega),e _ h2]
theorem ordI_start {R:List (List Int)}{L:List Int}{m:Nat}(hp:L.Perm (openF R)) (hm:L.length=m) (hh:HeapFrom 0 L m):OrdI R [] (L.take m):=by
 subst hm;rw[List.take_length];exact .zero (hp.nodup_iff.2 (openF_nodup R)) (fun x=>hp.mem_iff.trans openF_mem) hh
def ordV (r:List Int×Bool):Value:=.tuple ⟨[imS (iL r.1),.bool r.2]⟩
theorem frz_no {P:Program}{s:AS}{R:List (List Int)}{ord:List Int}(hg:ord=greedy R R.length []) (h:ord.length<R.length):FrzV P s (retC [.slice none 0 0,.bool false]) (ordV (orderR R)):=by
 rw[order_no hg h];exact .tupL (.cons .nil (.cons (.clean _ (.flat _ rfl)) .nil))
theorem frz_yes {P:Program}{s:AS}{R:List (List Int)}{ord:List Int}(hg:ord=greedy R R.length []) (h:¬ord.length<R.length) (hlo:s.lo≤5) (hk:Tr.at (pt 5) s.heap=rowO 3 (iL ord)):FrzV P s (retC [rowS 5 (iL ord),.bool true]) (ordV (orderR R)):=by
 rw[order_yes hg h];exact .tupL (.cons (.ofRow hlo hk iL_1 (cleanIC _)) (.cons (.clean _ (.flat _ rfl)) .nil))
theorem order_d (g:Gz) (hg:okG g) (hr:rightG g=true) (hst:g.st.length≤29000) (hs:sumL g.st≤500000):DenU Tryz.prog [] 49 [encG g] (ordV (orderR (calleesR g))):=by
 refine denU_of_sound hmixU fun Ts=>SoundAt.body hmixU Tryz.func49 rfl rfl rfl 0 ?_
 have hl:g.st.length=g.nm.length+1:=by
  simp only[rightG,Bool.and_eq_true,decide_eq_true_eq] at hr;exact hr.1
 have c1:=cright_d g hg;rw[hr] at c1;have c2:=callees_d g hg hr (by omega) hs
 have hRl:(calleesR g).length=g.st.length:=by simp[calleesR]
 have hok:=callees_ok g hl (by have:=hg.1;unfold maxI;omega)
 have c3:=turned_d (calleesR g) (by omega) hok
 obtain ⟨nm,st⟩:=g;have cg:=cleanG ⟨nm,st⟩;generalize calleesR ⟨nm,st⟩=R at *
 dsimp only at hl hst hs hRl;have hmf:=mk_full (zs:=[.int .i64 0]) (n:=(gL R).length) (b:=8) rfl rfl (by decide) (by rw[gL_len];omega)
 have cR:=cleanGL R;have cT:=cleanGL (turnedR R);(repeat' ((conv=>whnf);first|refine U.ob_c hmf ?_|refine goA ?_|refine U.spineC_p ?_|refine goB ?_|refine U.SoundAt.u (c1) clM ?_|refine U.SoundAt.u (c2) clM ?_|refine U.SoundAt.u (c3) clM ?_|refine U.SoundC.u (c1) clM ?_|refine U.SoundC.u (c2) clM ?_|refine U.SoundC.u (c3) clM ?_|refine U.lw_c ?_ ?_<;>intro hb))
 (conv=>whnf);refine loop_inv (α:=List (List Int)×List (List Int)) (fun x=>x.1++x.2=R) (fun x=>(mkF [(2,.slice none 0 0),(3,.bool false),(4,imS (gL R)),(5,imS (gL (turnedR R))),(6,.slice (some ⟨1,0,none⟩) (gL R).length (gL R).length),(7,.pointer (some ⟨2,0,none⟩)),(25,imS (gL R)),(26,.int .i64 (gL R).length),(27,.int .i64 x.1.length)],stF (waitF R.length x.1) (openF x.1))) (fun x=>x.2.length) ([],R) rfl (Cov.renI rfl rfl rfl rfl (.W rfl (cleanIl _) ((waitF_nil R)) (.C rfl (.K rfl rfl .nil) (.none (.none .nil)))) (.K rfl rfl rfl (.K rfl rfl rfl (.L rfl (cleanGL _) rfl (.L rfl (cleanGL _) rfl (.cons rfl (.S rfl rfl rfl) (.cons rfl (.P rfl) (.L rfl (cleanGL _) rfl (.cons rfl .I (.cons rfl .I .nil)))))))))) ?_
 rintro ⟨pre,rest⟩ p1
 dsimp only at p1;dsimp only;have g2:R.length≤maxI:=by unfold maxI;omega
 rcases rest with _|⟨x,rest⟩
 ·rw[List.append_nil] at p1;subst p1;have h3b:=U.lt_no gL_map pre;have hw0:=congrArg iL (wtO_zero pre).symm;(repeat' ((conv=>whnf);first|refine goD ?_|refine U.lw_c ?_ ?_<;>intro hb))
  (conv=>whnf);refine (init_q (waitF pre.length pre) (openF pre) (by have:=openF_len pre;omega)).mono ?_
  rintro u s' _ ⟨rfl,L,q1,q2,rfl⟩
  (repeat' ((conv=>whnf);first|refine goD ?_|refine U.lw_c ?_ ?_<;>intro hb))
  (conv=>whnf);refine loop_inv (α:=List Int×List Int×Nat) (fun x=>x.2.2≤x.2.1.length∧x.2.1.length≤pre.length∧HeapFrom 0 x.2.1 x.2.2∧OrdI pre x.1 (x.2.1.take x.2.2)) (fun x=>(mkF [(2,.slice none 0 0),(3,.bool false),(4,imS (gL pre)),(5,imS (gL (turnedR pre))),(6,.slice (some ⟨1,0,none⟩) (gL pre).length (gL pre).length),(7,.pointer (some ⟨2,0,none⟩)),(10,rowS 5 (iL x.1))],stQ 4 5 6 (wtO pre x.1) x.2.1 x.2.2 x.1)) (fun x=>pre.length-x.1.length) ([],L,L.length) ⟨Nat.le_refl _,by rw[q1.length_eq];exact openF_len pre,q2,ordI_start q1 rfl q2⟩ ?_ ?_
  ·rw[stQ_next];rcases L with _|⟨z,zs⟩
   ·exact (Cov.renO (fun k=>if k=4 then 3 else k) rfl rfl (bR rfl) zL (fun k hk=>by have:k<4:=hk;rw[if_neg (by omega)]) rfl nlz (.W rfl (cleanIl _) (hw0) (.C rfl (.K rfl rfl .nil) (.none (.none .nil)))) (.K rfl rfl rfl (.K rfl rfl rfl (.L rfl (cleanGL _) rfl (.L rfl (cleanGL _) rfl (.cons rfl (.S rfl rfl rfl) (.cons rfl (.P rfl) (.K rfl rfl rfl .nil))))))))
   ·exact (Cov.renO (fun k=>if k=4 then 3 else k) rfl rfl (bR rfl) zL (fun k hk=>by have:k<4:=hk;rw[if_neg (by omega)]) rfl nlz (.W rfl (cleanIl _) (hw0) (.C rfl (.cons (.S rfl rfl rfl) .nil) (.W rfl (cleanIl _) rfl (.none .nil)))) (.K rfl rfl rfl (.K rfl rfl rfl (.L rfl (cleanGL _) rfl (.L rfl (cleanGL _) rfl (.cons rfl (.S rfl rfl rfl) (.cons rfl (.P rfl) (.K rfl rfl rfl .nil))))))))
  rw[stQ_next];clear q1 q2;rintro ⟨ord,L,m⟩ ⟨h1,h2,h4,h5⟩
  dsimp only at h1 h2 h4 h5;dsimp only;rcases L with _|⟨z,zs⟩
  ·have hm0:m=0:=by simpa using h1
   subst hm0;rw[List.take_nil] at h5;have hg:=h5.stop;rcases ord with _|⟨o1,os⟩
   ·(repeat' ((conv=>whnf);first|refine goA ?_|refine len_z ?_|refine goB ?_|refine U.lw_c ?_ ?_<;>intro hb))
    all_goals (conv=>whnf)
    ·exact frz_no hg (by rw[gL_len] at hb;simp at hb;simpa using hb)
    ·exact frz_yes hg (by rw[gL_len] at hb;simp at hb;simp[hb]) zL rfl
   ·(repeat' ((conv=>whnf);first|refine goA ?_|refine len_z ?_|refine goB ?_|refine U.lw_c ?_ ?_<;>intro hb))
    all_goals (conv=>whnf)
    ·exact frz_no hg (by rw[gL_len,show (List.map (Value.int IntKind.i64) os).length=os.length from List.length_map ..] at hb;simp at hb;simp;omega)
    ·exact frz_yes hg (by rw[gL_len,show (List.map (Value.int IntKind.i64) os).length=os.length from List.length_map ..] at hb;simp at hb;simp;omega) zL rfl
  ·have hB:nmsOk 4 5 6:=.inr (.inl ⟨rfl,rfl,rfl⟩);have hml:m≤zs.length+1:=h1;rcases Nat.eq_zero_or_pos m with rfl|h0
   ·rw[List.take_zero] at h5;have hg:=h5.stop;rcases ord with _|⟨o1,os⟩
    ·(repeat' ((conv=>whnf);first|refine goA ?_|refine len_s hB _ _ _ _ _ h1 hml ?_|refine goB ?_|refine U.lw_c ?_ ?_<;>intro hb))
     all_goals (conv=>whnf)
     ·exact frz_no hg (by rw[gL_len] at hb;simp at hb;simpa using hb)
     ·exact frz_yes hg (by rw[gL_len] at hb;simp at hb;simp[hb]) zL rfl
    ·(repeat' ((conv=>whnf);first|refine goA ?_|refine len_s hB _ _ _ _ _ h1 hml ?_|refine goB ?_|refine U.lw_c ?_ ?_<;>intro hb))
     all_goals (conv=>whnf)
     ·exact frz_no hg (by rw[gL_len,show (List.map (Value.int IntKind.i64) os).length=os.length from List.length_map ..] at hb;simp at hb;simp;omega)
     ·exact frz_yes hg (by rw[gL_len,show (List.map (Value.int IntKind.i64) os).length=os.length from List.length_map ..] at hb;simp at hb;simp;omega) zL rfl
   ·have g0:decide ((m:Int) > 0)=true:=by simp;omega
    have ht:(z::zs).take m=z::zs.take (m-1):=by
     obtain ⟨d,rfl⟩:∃d,m=d+1:=⟨m-1,by omega⟩
     simp
    rw[ht] at h5;obtain ⟨u,rfl,hu,hur,_⟩:=h5.first
    (repeat' ((conv=>whnf);first|refine goA ?_|refine len_s hB _ _ _ _ _ h1 hml ?_|refine goB ?_|refine U.lw_c ?_ ?_<;>intro hb))
    (conv=>whnf);refine (pop_s (wtO pre ord) ((u:Int)::zs) ord m (zs.length+1) h0 h1 hml (by simp at h2;omega) h4).mono ?_
    rintro r s' _ ⟨rfl,L,q1,q2,q3,rfl⟩
    rw[ht] at q2;have q4:(L.take (m-1)).Perm (zs.take (m-1)):=(List.perm_cons _).1 q2;have hmid:=h5.mid q4 (by rw[List.length_take,show min (m-1) L.length=m-1 by rw[q1];simp;omega];exact (heap_take rL).2 q3)
    have hbt:u.blt (gL (turnedR pre)).length=true:=by rw[gL_len,turnedR];exact bLe (by simp;omega)
    have hnt:nth (gL (turnedR pre)) u=some (imS (iL (froms pre u))):=by
     rw[nth_eq,gL,turnedR];simp[hu]
    rcases L with _|⟨z2,zs2⟩
    ·simp at q1
    have q5:zs2.length+1=zs.length+1:=by simpa using q1
    have hol:ord.length≤29000:=by have:=nodup_le h5.nd h5.inn;omega
    have hw1:=congrArg iL (wtM_nil pre ord u);have hlo:ord.length<pre.length:=by
     have hn:((u:Int)::ord).Nodup:=List.nodup_cons.2 ⟨(rdy_iff.1 hur).1,h5.nd⟩;have:=nodup_le (n:=pre.length) hn fun t ht=>by
      rcases List.mem_cons.1 ht with rfl|ht
      ·exact ⟨u,hu,rfl⟩
      ·exact h5.inn t ht
     rw[List.length_cons] at this;omega
    rcases ord with _|⟨o1,os⟩
    ·(repeat' ((conv=>whnf);first|refine goA ?_|refine U.catC_p ?_|refine goB ?_|refine U.lw_c ?_ ?_<;>intro hb))
     (conv=>whnf);refine loop_inv (α:=List Int×List Int×List Int×Nat) (fun y=>y.1++y.2.1=froms pre u∧y.2.2.2≤y.2.2.1.length∧y.2.2.1.length≤pre.length∧MidI pre [] u y.1 (y.2.2.1.take y.2.2.2)) (fun y=>(mkF [(2,.slice none 0 0),(3,.bool false),(4,imS (gL pre)),(5,imS (gL (turnedR pre))),(6,.slice (some ⟨1,0,none⟩) (gL pre).length (gL pre).length),(7,.pointer (some ⟨2,0,none⟩)),(10,rowS 7 (iL ([]++[(u:Int)]))),(65,imS (iL (froms pre u))),(66,.int .i64 (iL (froms pre u)).length),(67,.int .i64 y.1.length)],stQ 8 7 9 (wtM pre [] u y.1) y.2.2.1 y.2.2.2 ([]++[(u:Int)]))) (fun y=>y.2.1.length) ([],froms pre u,z2::zs2,m-1) ⟨rfl,by rw[q1];simp;omega,by rw[q1];exact h2,hmid⟩ (Cov.renO (fun k=>if k=8 then 4 else k) rfl rfl (bR rfl) zL (fun k hk=>by have:k<8:=hk;rw[if_neg (by omega)]) rfl nlz (.W rfl (cleanIl _) (hw1) (.C rfl (.cons (.sl _ _ _ _ _ _ _ (by decide) rfl rfl q5) .nil) (.W rfl (cleanIl _) rfl (blksO.grown rfl rfl (cleanIC _) .nil)))) (.K rfl rfl rfl (.K rfl rfl rfl (.L rfl (cleanGL _) rfl (.L rfl (cleanGL _) rfl (.cons rfl (.S rfl rfl rfl) (.cons rfl (.P rfl) (.cons rfl (.S rfl rfl rfl) (.L rfl (cleanIL _) rfl (.cons rfl .I (.cons rfl .I .nil))))))))))) ?_
     clear q1 q2 q3 q4 q5 hmid hw1 h1 h2 h4 hml h0 g0 ht;rintro ⟨p,q,L,m⟩ ⟨h6,h1,h2,hmid⟩
     dsimp only at h6 h1 h2 hmid;dsimp only;have hlt:L.take m=L.take m:=rfl;have hh:HeapFrom 0 L m:=by
      have:=hmid.hp;rw[List.length_take,show min m L.length=m by omega] at this;exact (heap_take rL).1 this
     rcases q with _|⟨c,q⟩
     ·rw[List.append_nil] at h6;subst h6;have h8b:=U.lt_no iL_map (froms pre u);(repeat' ((conv=>whnf);first|refine goD ?_|refine U.lw_c ?_ ?_<;>intro hb))
      (conv=>whnf);have hw2:=(congrArg iL (wtM_all pre [] u)).symm;refine ⟨(([]++[(u:Int)]),L,m),⟨h1,h2,hh,hmid.end_⟩,by simp at hlo ⊢;omega,?_⟩
      dsimp only;rcases L with _|⟨z3,zs3⟩
      ·exact (Cov.renO (fun k=>if k=4 then 8 else if k=5 then 7 else k) rfl rfl (bR rfl) zL (fun k hk=>by have:k<4:=hk;rw[if_neg (by omega)];rw[if_neg (by omega)]) rfl nlz (.W rfl (cleanIl _) (hw2) (.C rfl (.K rfl rfl .nil) (.none (blksO.row rfl rfl (cleanIC _) .nil)))) (.K rfl rfl rfl (.K rfl rfl rfl (.L rfl (cleanGL _) rfl (.L rfl (cleanGL _) rfl (.cons rfl (.S rfl rfl rfl) (.cons rfl (.P rfl) (.cons rfl (.ofRow (by decide) rfl rfl) .nil))))))))
      ·exact (Cov.renO (fun k=>if k=4 then 8 else if k=5 then 7 else k) rfl rfl (bR rfl) zL (fun k hk=>by have:k<4:=hk;rw[if_neg (by omega)];rw[if_neg (by omega)]) rfl nlz (.W rfl (cleanIl _) (hw2) (.C rfl (.cons (.S rfl rfl rfl) .nil) (.W rfl (cleanIl _) rfl (blksO.row rfl rfl (cleanIC _) .nil)))) (.K rfl rfl rfl (.K rfl rfl rfl (.L rfl (cleanGL _) rfl (.L rfl (cleanGL _) rfl (.cons rfl (.S rfl rfl rfl) (.cons rfl (.P rfl) (.cons rfl (.ofRow (by decide) rfl rfl) .nil))))))))
     ·have hfl:(p++c::q).length≤maxI:=by
       rw[h6];have:=froms_len pre u;unfold maxI;omega
      obtain ⟨h8b,h8c,h8n,h8w⟩:=U.at4 iL_map p (c) q (hfl);rw[h6] at h8b h8c h8n;obtain ⟨k,hk,rfl,hku⟩:=froms_mem.1 (by rw[← h6];simp:c∈froms pre u)
      have hkp:(k:Int)∉p:=fun h=>by
       have hn:=froms_nodup pre u;rw[← h6] at hn;exact (List.nodup_append.1 hn).2.2 _ h (k:Int) (by simp) rfl
      have hkr:(pre.getD k []).Nodup:=(hok _ (by simp[hk])).1
      have hdec:=cntW_dec hkr hku (rdy_iff.1 hur).1;have hcb:cntW pre [] k≤30000:=by
       have h9:(pre.getD k []).length≤pre.length:=nodup_le hkr fun t ht=>by
        obtain ⟨v,e1,e2⟩:=(hok (pre.getD k []) (by simp[hk])).2.2 t ht
        exact ⟨v,e2,e1⟩
       have:cntW pre [] k≤(pre.getD k []).length:=List.length_filter_le ..;omega
      have ewr:IntKind.i64.wrap ((cntW pre [] k:Int)-1)=(cntW pre ([]++[(u:Int)]) k:Int):=by
       rw[IntKind.wrap_i64];omega
      have hwl:(wtM pre [] u p).length=pre.length:=by simp[wtM]
      have nk:nth (iL (wtM pre [] u p)) (0+k*1)=some (.int .i64 (cntW pre [] k:Int)):=by
       rw[iL_nth (by rw[hwl];exact hk)]
       simp[gt0,wtM,hk,hkp]
      have es0:=iL_store (L:=wtM pre [] u p) (i:=k) (x:=IntKind.i64.wrap ((cntW pre [] k:Int)-1)) (by rw[hwl];exact hk)
      have nk2:nth ((iL (wtM pre [] u p)).take (0+k*1)++[Value.int .i64 (IntKind.i64.wrap ((cntW pre [] k:Int)-1))]++(iL (wtM pre [] u p)).drop (0+k*1+[Value.int .i64 (IntKind.i64.wrap ((cntW pre [] k:Int)-1))].length)) (0+k*1)=some (.int .i64 (IntKind.i64.wrap ((cntW pre [] k:Int)-1))):=by
       rw[es0,iL_nth (by rw[List.length_set,hwl];exact hk)]
       simp[gt0,hwl,hk]
      have es:iL (wtM pre [] u (p++[(k:Int)]))=(iL (wtM pre [] u p)).take (0+k*1)++[Value.int .i64 (IntKind.i64.wrap ((cntW pre [] k:Int)-1))]++(iL (wtM pre [] u p)).drop (0+k*1+[Value.int .i64 (IntKind.i64.wrap ((cntW pre [] k:Int)-1))].length):=by
       rw[es0,wtM_snoc,ewr]
      have hkb:k.blt (gL pre).length=true:=by rw[gL_len];exact bLe hk
      have hst:∀v:Value,0+k*1+[v].length≤(iL (wtM pre [] u p)).length:=fun v=>by rw[iL_len,hwl,List.length_singleton];omega
      have hfin:p++[(k:Int)]++q=froms pre u:=by rw[← h6];simp
      by_cases hz:cntW pre ([]++[(u:Int)]) k=0
      ·have g9:decide (IntKind.i64.wrap ((cntW pre [] k:Int)-1) > 0)=false:=by rw[ewr,hz];rfl
       have hmp:=fun (ys:List Int) (hp:ys.Perm (L.take m++[(k:Int)])) (hq:HeapFrom 0 ys ys.length)=>hmid.push hz hk hku hkp hp hq
       have hlm:L.length≤29000:=by omega
       rcases L with _|⟨z3,zs3⟩
       ·(repeat' ((conv=>whnf);first|refine goA ?_|(conv in (nth _ _)=>(change nth _ (0+k*1);rw[nk]))|(conv in (nth _ _)=>(change nth ((iL (wtM pre [] u p)).take (0+k*1)++[Value.int .i64 (IntKind.i64.wrap ((cntW pre [] k:Int)-1))]++(iL (wtM pre [] u p)).drop (0+k*1+[Value.int .i64 (IntKind.i64.wrap ((cntW pre [] k:Int)-1))].length)) (0+k*1);rw[nk2]))|refine U.storeC_p (hst _) ?_|refine goB ?_|refine U.lw_c ?_ ?_<;>intro hb))
        (conv=>whnf);refine SoundAt.cov (args1:=[hpV,.iface 3 (.int .i64 (k:Int))]) (s1:=stZ 8 7 9 (wtM pre [] u (p++[(k:Int)])) ([]++[(u:Int)])) [(0,hpV),(1,.iface 3 (.int .i64 (k:Int)))] (by exact (Cov.renI rfl rfl rfl rfl (.W rfl (cleanIl _) (es) (.C rfl (.K rfl rfl .nil) (.none (blksO.row rfl rfl (cleanIC _) .nil)))) (.cons rfl (hpV_ren (by decide) rfl) (.cons rfl (.ifc _ _ _ .I) .nil)))) rfl (fun i u h=>?_) ?_
        ·rcases i with _|_|i
         ·exact h
         ·exact h
         ·simp at h
        refine (push_z (wtM pre [] u (p++[(k:Int)])) ([]++[(u:Int)]) k).mono ?_;rintro r s' _ ⟨rfl,L',r1,r2,rfl⟩
        have hl':=r1.length_eq;have hm':=hmp L' (by rw[List.take_nil];exact r1) (by rw[hl'];exact r2)
        (repeat' ((conv=>whnf);first|refine goD ?_|refine U.lw_c ?_ ?_<;>intro hb))
        (conv=>whnf);refine ⟨(p++[(k:Int)],q,L',1),⟨hfin,by rw[hl'];exact Nat.le_refl _,by rw[hl'];show 1≤pre.length;omega,?_⟩,by simp,?_⟩
        ·show MidI pre [] u (p++[(k:Int)]) (L'.take 1)
         rw[List.take_of_length_le (by rw[hl'];exact Nat.le_refl _)]
         exact hm'
        dsimp only;rcases L' with _|⟨z4,zs4⟩
        ·simp at hl'
        ·have e4:zs4.length+1=1:=by simpa using hl'
         exact (Cov.renO (fun k=>if k=8 then 10 else k) rfl rfl (bR rfl) zL (fun k hk=>by have:k<8:=hk;rw[if_neg (by omega)]) rfl nlz (.W rfl (cleanIl _) rfl (.C rfl (.cons (.sl _ _ _ _ _ _ _ (by decide) rfl rfl e4) .nil) (.W rfl (cleanIl _) rfl (blksO.row rfl rfl (cleanIC _) .nil)))) (.K rfl rfl rfl (.K rfl rfl rfl (.L rfl (cleanGL _) rfl (.L rfl (cleanGL _) rfl (.cons rfl (.S rfl rfl rfl) (.cons rfl (.P rfl) (.cons rfl (.ofRow (by decide) rfl rfl) (.L rfl (cleanIL _) rfl (.cons rfl .I (.L rfl (cleanI _) (congrArg (Value.int .i64) (h8w.symm)) .nil)))))))))))
       ·rcases Nat.lt_or_ge m (z3::zs3).length with hmm|hmm
        ·(repeat' ((conv=>whnf);first|refine goA ?_|(conv in (nth _ _)=>(change nth _ (0+k*1);rw[nk]))|(conv in (nth _ _)=>(change nth ((iL (wtM pre [] u p)).take (0+k*1)++[Value.int .i64 (IntKind.i64.wrap ((cntW pre [] k:Int)-1))]++(iL (wtM pre [] u p)).drop (0+k*1+[Value.int .i64 (IntKind.i64.wrap ((cntW pre [] k:Int)-1))].length)) (0+k*1);rw[nk2]))|refine U.storeC_p (hst _) ?_|refine goB ?_|refine U.lw_c ?_ ?_<;>intro hb))
         (conv=>whnf);refine SoundAt.cov (args1:=[hpV,.iface 3 (.int .i64 (k:Int))]) (s1:=stN 8 7 9 (wtM pre [] u (p++[(k:Int)])) (z3::zs3) m (z3::zs3).length ([]++[(u:Int)])) [(0,hpV),(1,.iface 3 (.int .i64 (k:Int)))] (by exact (Cov.renI rfl rfl rfl rfl (.W rfl (cleanIl _) (es) (.C rfl (.cons (.S rfl rfl rfl) .nil) (.W rfl (cleanIl _) rfl (blksO.row rfl rfl (cleanIC _) .nil)))) (.cons rfl (hpV_ren (by decide) rfl) (.cons rfl (.ifc _ _ _ .I) .nil)))) rfl (fun i u h=>?_) ?_
         ·rcases i with _|_|i
          ·exact h
          ·exact h
          ·simp at h
         refine (push_in (wtM pre [] u (p++[(k:Int)])) (z3::zs3) ([]++[(u:Int)]) m k hmm (by omega) hh).mono ?_
         rintro r s' _ ⟨rfl,L',r1,r2,r3,rfl⟩
         have hm':=hmp (L'.take (m+1)) r2 (by rw[List.length_take,show min (m+1) L'.length=m+1 by omega];exact (heap_take rL).2 r3)
         (repeat' ((conv=>whnf);first|refine goD ?_|refine U.lw_c ?_ ?_<;>intro hb))
         (conv=>whnf);refine ⟨(p++[(k:Int)],q,L',m+1),⟨hfin,by rw[r1];exact hmm,by rw[r1];exact h2,hm'⟩,by simp,?_⟩
         dsimp only;rcases L' with _|⟨z4,zs4⟩
         ·simp at r1
         ·have e4:zs4.length+1=(z3::zs3).length:=by simpa using r1
          exact (Cov.renI rfl rfl rfl rfl (.W rfl (cleanIl _) rfl (.C rfl (.cons (.sl _ _ _ _ _ _ _ (by decide) rfl rfl e4) .nil) (.W rfl (cleanIl _) rfl (blksO.row rfl rfl (cleanIC _) .nil)))) (.K rfl rfl rfl (.K rfl rfl rfl (.L rfl (cleanGL _) rfl (.L rfl (cleanGL _) rfl (.cons rfl (.S rfl rfl rfl) (.cons rfl (.P rfl) (.cons rfl (.ofRow (by decide) rfl rfl) (.L rfl (cleanIL _) rfl (.cons rfl .I (.L rfl (cleanI _) (congrArg (Value.int .i64) (h8w.symm)) .nil)))))))))))
        ·obtain rfl:m=(z3::zs3).length:=by omega
         (repeat' ((conv=>whnf);first|refine goA ?_|(conv in (nth _ _)=>(change nth _ (0+k*1);rw[nk]))|(conv in (nth _ _)=>(change nth ((iL (wtM pre [] u p)).take (0+k*1)++[Value.int .i64 (IntKind.i64.wrap ((cntW pre [] k:Int)-1))]++(iL (wtM pre [] u p)).drop (0+k*1+[Value.int .i64 (IntKind.i64.wrap ((cntW pre [] k:Int)-1))].length)) (0+k*1);rw[nk2]))|refine U.storeC_p (hst _) ?_|refine goB ?_|refine U.lw_c ?_ ?_<;>intro hb))
         (conv=>whnf);refine SoundAt.cov (args1:=[hpV,.iface 3 (.int .i64 (k:Int))]) (s1:=stN 8 7 9 (wtM pre [] u (p++[(k:Int)])) (z3::zs3) (z3::zs3).length (z3::zs3).length ([]++[(u:Int)])) [(0,hpV),(1,.iface 3 (.int .i64 (k:Int)))] (by exact (Cov.renI rfl rfl rfl rfl (.W rfl (cleanIl _) (es) (.C rfl (.cons (.S rfl rfl rfl) .nil) (.W rfl (cleanIl _) rfl (blksO.row rfl rfl (cleanIC _) .nil)))) (.cons rfl (hpV_ren (by decide) rfl) (.cons rfl (.ifc _ _ _ .I) .nil)))) rfl (fun i u h=>?_) ?_
         ·rcases i with _|_|i
          ·exact h
          ·exact h
          ·simp at h
         refine (push_out (wtM pre [] u (p++[(k:Int)])) (z3::zs3) ([]++[(u:Int)]) k (by simp) (by omega) hh).mono ?_
         rintro r s' _ ⟨rfl,L',r1,r3,rfl⟩
         have r2:L'.length=(z3::zs3).length+1:=by rw[r1.length_eq,List.length_append];rfl
         have hm':=hmp L' (by rw[List.take_length];exact r1) (by rw[r2];exact r3)
         have hL':L'.length≤pre.length:=nodup_le hm'.xd fun t ht=>by
          obtain ⟨v,e1,e2,_⟩:=(hm'.xm t).1 ht;exact ⟨v,e1,e2⟩
         (repeat' ((conv=>whnf);first|refine goD ?_|refine U.lw_c ?_ ?_<;>intro hb))
         (conv=>whnf);refine ⟨(p++[(k:Int)],q,L',(z3::zs3).length+1),⟨hfin,by rw[r2];exact Nat.le_refl _,hL',?_⟩,by simp,?_⟩
         ·show MidI pre [] u (p++[(k:Int)]) (L'.take ((z3::zs3).length+1))
          rw[List.take_of_length_le (by rw[r2];exact Nat.le_refl _)]
          exact hm'
         dsimp only;rcases L' with _|⟨z4,zs4⟩
         ·simp at r2
         ·have e4:zs4.length+1=(z3::zs3).length+1:=by simpa using r2
          exact (Cov.renO (fun k=>if k=8 then 10 else k) rfl rfl (bR rfl) zL (fun k hk=>by have:k<8:=hk;rw[if_neg (by omega)]) rfl nlz (.W rfl (cleanIl _) rfl (.C rfl (.cons (.sl _ _ _ _ _ _ _ (by decide) rfl rfl e4) .nil) (.W rfl (cleanIl _) rfl (blksO.row rfl rfl (cleanIC _) .nil)))) (.K rfl rfl rfl (.K rfl rfl rfl (.L rfl (cleanGL _) rfl (.L rfl (cleanGL _) rfl (.cons rfl (.S rfl rfl rfl) (.cons rfl (.P rfl) (.cons rfl (.ofRow (by decide) rfl rfl) (.L rfl (cleanIL _) rfl (.cons rfl .I (.L rfl (cleanI _) (congrArg (Value.int .i64) (h8w.symm)) .nil)))))))))))
      ·have g9:decide (IntKind.i64.wrap ((cntW pre [] k:Int)-1) > 0)=true:=by rw[ewr];exact decide_eq_true (by omega)
       have hms:=hmid.skip hz;rcases L with _|⟨z3,zs3⟩
       ·(repeat' ((conv=>whnf);first|refine goA ?_|(conv in (nth _ _)=>(change nth _ (0+k*1);rw[nk]))|(conv in (nth _ _)=>(change nth ((iL (wtM pre [] u p)).take (0+k*1)++[Value.int .i64 (IntKind.i64.wrap ((cntW pre [] k:Int)-1))]++(iL (wtM pre [] u p)).drop (0+k*1+[Value.int .i64 (IntKind.i64.wrap ((cntW pre [] k:Int)-1))].length)) (0+k*1);rw[nk2]))|refine U.storeC_p (hst _) ?_|refine goB ?_|refine U.lw_c ?_ ?_<;>intro hb))
        (conv=>whnf);exact ⟨(p++[(k:Int)],q,[],m),⟨hfin,h1,h2,hms⟩,by simp,(Cov.renI rfl rfl rfl rfl (.W rfl (cleanIl _) (es) (.C rfl (.K rfl rfl .nil) (.none (blksO.row rfl rfl (cleanIC _) .nil)))) (.K rfl rfl rfl (.K rfl rfl rfl (.L rfl (cleanGL _) rfl (.L rfl (cleanGL _) rfl (.cons rfl (.S rfl rfl rfl) (.cons rfl (.P rfl) (.cons rfl (.ofRow (by decide) rfl rfl) (.L rfl (cleanIL _) rfl (.cons rfl .I (.L rfl (cleanI _) (congrArg (Value.int .i64) (h8w.symm)) .nil)))))))))))⟩
       ·(repeat' ((conv=>whnf);first|refine goA ?_|(conv in (nth _ _)=>(change nth _ (0+k*1);rw[nk]))|(conv in (nth _ _)=>(change nth ((iL (wtM pre [] u p)).take (0+k*1)++[Value.int .i64 (IntKind.i64.wrap ((cntW pre [] k:Int)-1))]++(iL (wtM pre [] u p)).drop (0+k*1+[Value.int .i64 (IntKind.i64.wrap ((cntW pre [] k:Int)-1))].length)) (0+k*1);rw[nk2]))|refine U.storeC_p (hst _) ?_|refine goB ?_|refine U.lw_c ?_ ?_<;>intro hb))
        (conv=>whnf);exact ⟨(p++[(k:Int)],q,z3::zs3,m),⟨hfin,h1,h2,hms⟩,by simp,(Cov.renI rfl rfl rfl rfl (.W rfl (cleanIl _) (es) (.C rfl (.cons (.S rfl rfl rfl) .nil) (.W rfl (cleanIl _) rfl (blksO.row rfl rfl (cleanIC _) .nil)))) (.K rfl rfl rfl (.K rfl rfl rfl (.L rfl (cleanGL _) rfl (.L rfl (cleanGL _) rfl (.cons rfl (.S rfl rfl rfl) (.cons rfl (.P rfl) (.cons rfl (.ofRow (by decide) rfl rfl) (.L rfl (cleanIL _) rfl (.cons rfl .I (.L rfl (cleanI _) (congrArg (Value.int .i64) (h8w.symm)) .nil)))))))))))⟩
    ·have hyl:(cellsAll (iL (o1::os))).length=((iL os).length+1)*(0+1):=by rw[cellsI,iL_len,iL_len];simp
     have hys:os.length+1≤30000:=by simp at hol;omega
     have hb7:(Nat.ble (((iL os).length+1+(0+1))*8) 140737488355328&&Nat.ble ((iL os).length+1+(0+1)) 1000000)=true:=by
      rw[iL_len,bLe (by omega),bLe (by omega)];rfl
     have hgr:cellsAll (iL (o1::os++[(u:Int)]))=cellsAll (iL (o1::os))++[Value.int .i64 (u:Int)]:=by
      rw[cellsI,cellsI,iL_app];rfl
     (repeat' ((conv=>whnf);first|refine goA ?_|refine U.ob_c hb7 ?_|(rw[ble_f];dsimp only;refine growRow_p hyl rfl ?_)|refine goB ?_|refine U.lw_c ?_ ?_<;>intro hb))
     (conv=>whnf);refine loop_inv (α:=List Int×List Int×List Int×Nat) (fun y=>y.1++y.2.1=froms pre u∧y.2.2.2≤y.2.2.1.length∧y.2.2.1.length≤pre.length∧MidI pre (o1::os) u y.1 (y.2.2.1.take y.2.2.2)) (fun y=>(mkF [(2,.slice none 0 0),(3,.bool false),(4,imS (gL pre)),(5,imS (gL (turnedR pre))),(6,.slice (some ⟨1,0,none⟩) (gL pre).length (gL pre).length),(7,.pointer (some ⟨2,0,none⟩)),(10,rowS 7 (iL ((o1::os)++[(u:Int)]))),(65,imS (iL (froms pre u))),(66,.int .i64 (iL (froms pre u)).length),(67,.int .i64 y.1.length)],stQ 8 7 9 (wtM pre (o1::os) u y.1) y.2.2.1 y.2.2.2 ((o1::os)++[(u:Int)]))) (fun y=>y.2.1.length) ([],froms pre u,z2::zs2,m-1) ⟨rfl,by rw[q1];simp;omega,by rw[q1];exact h2,hmid⟩ (Cov.renO (fun k=>if k=8 then 4 else k) rfl rfl (bR rfl) zL (fun k hk=>by have:k<8:=hk;rw[if_neg (by omega)]) rfl nlz (.W rfl (cleanIl _) (hw1) (.C rfl (.cons (.sl _ _ _ _ _ _ _ (by decide) rfl rfl q5) .nil) (.W rfl (cleanIl _) rfl (blksO.grown rfl (hgr) (cleanIC _) .nil)))) (.K rfl rfl rfl (.K rfl rfl rfl (.L rfl (cleanGL _) rfl (.L rfl (cleanGL _) rfl (.cons rfl (.S rfl rfl rfl) (.cons rfl (.P rfl) (.cons rfl (.grown (by decide) rfl (by simp[iL]) (by simp[iL]) (by simp[iL])) (.L rfl (cleanIL _) rfl (.cons rfl .I (.cons rfl .I .nil))))))))))) ?_
     clear q1 q2 q3 q4 q5 hmid hw1 h1 h2 h4 hml h0 g0 ht;rintro ⟨p,q,L,m⟩ ⟨h6,h1,h2,hmid⟩
     dsimp only at h6 h1 h2 hmid;dsimp only;have hlt:L.take m=L.take m:=rfl;have hh:HeapFrom 0 L m:=by
      have:=hmid.hp;rw[List.length_take,show min m L.length=m by omega] at this;exact (heap_take rL).1 this
     rcases q with _|⟨c,q⟩
     ·rw[List.append_nil] at h6;subst h6;have h8b:=U.lt_no iL_map (froms pre u);(repeat' ((conv=>whnf);first|refine goD ?_|refine U.lw_c ?_ ?_<;>intro hb))
      (conv=>whnf);have hw2:=(congrArg iL (wtM_all pre (o1::os) u)).symm;refine ⟨(((o1::os)++[(u:Int)]),L,m),⟨h1,h2,hh,hmid.end_⟩,by simp at hlo ⊢;omega,?_⟩
      dsimp only;rcases L with _|⟨z3,zs3⟩
      ·exact (Cov.renO (fun k=>if k=4 then 8 else if k=5 then 7 else k) rfl rfl (bR rfl) zL (fun k hk=>by have:k<4:=hk;rw[if_neg (by omega)];rw[if_neg (by omega)]) rfl nlz (.W rfl (cleanIl _) (hw2) (.C rfl (.K rfl rfl .nil) (.none (blksO.row rfl rfl (cleanIC _) .nil)))) (.K rfl rfl rfl (.K rfl rfl rfl (.L rfl (cleanGL _) rfl (.L rfl (cleanGL _) rfl (.cons rfl (.S rfl rfl rfl) (.cons rfl (.P rfl) (.cons rfl (.ofRow (by decide) rfl rfl) .nil))))))))
      ·exact (Cov.renO (fun k=>if k=4 then 8 else if k=5 then 7 else k) rfl rfl (bR rfl) zL (fun k hk=>by have:k<4:=hk;rw[if_neg (by omega)];rw[if_neg (by omega)]) rfl nlz (.W rfl (cleanIl _) (hw2) (.C rfl (.cons (.S rfl rfl rfl) .nil) (.W rfl (cleanIl _) rfl (blksO.row rfl rfl (cleanIC _) .nil)))) (.K rfl rfl rfl (.K rfl rfl rfl (.L rfl (cleanGL _) rfl (.L rfl (cleanGL _) rfl (.cons rfl (.S rfl rfl rfl) (.cons rfl (.P rfl) (.cons rfl (.ofRow (by decide) rfl rfl) .nil))))))))
     ·have hfl:(p++c::q).length≤maxI:=by
       rw[h6];have:=froms_len pre u;unfold maxI;omega
      obtain ⟨h8b,h8c,h8n,h8w⟩:=U.at4 iL_map p (c) q (hfl);rw[h6] at h8b h8c h8n;obtain ⟨k,hk,rfl,hku⟩:=froms_mem.1 (by rw[← h6];simp:c∈froms pre u)
      have hkp:(k:Int)∉p:=fun h=>by
       have hn:=froms_nodup pre u;rw[← h6] at hn;exact (List.nodup_append.1 hn).2.2 _ h (k:Int) (by simp) rfl
      have hkr:(pre.getD k []).Nodup:=(hok _ (by simp[hk])).1
      have hdec:=cntW_dec hkr hku (rdy_iff.1 hur).1;have hcb:cntW pre (o1::os) k≤30000:=by
       have h9:(pre.getD k []).length≤pre.length:=nodup_le hkr fun t ht=>by
        obtain ⟨v,e1,e2⟩:=(hok (pre.getD k []) (by simp[hk])).2.2 t ht
        exact ⟨v,e2,e1⟩
       have:cntW pre (o1::os) k≤(pre.getD k []).length:=List.length_filter_le ..;omega
      have ewr:IntKind.i64.wrap ((cntW pre (o1::os) k:Int)-1)=(cntW pre ((o1::os)++[(u:Int)]) k:Int):=by
       rw[IntKind.wrap_i64];omega
      have hwl:(wtM pre (o1::os) u p).length=pre.length:=by simp[wtM]
      have nk:nth (iL (wtM pre (o1::os) u p)) (0+k*1)=some (.int .i64 (cntW pre (o1::os) k:Int)):=by
       rw[iL_nth (by rw[hwl];exact hk)]
       simp[gt0,wtM,hk,hkp]
      have es0:=iL_store (L:=wtM pre (o1::os) u p) (i:=k) (x:=IntKind.i64.wrap ((cntW pre (o1::os) k:Int)-1)) (by rw[hwl];exact hk)
      have nk2:nth ((iL (wtM pre (o1::os) u p)).take (0+k*1)++[Value.int .i64 (IntKind.i64.wrap ((cntW pre (o1::os) k:Int)-1))]++(iL (wtM pre (o1::os) u p)).drop (0+k*1+[Value.int .i64 (IntKind.i64.wrap ((cntW pre (o1::os) k:Int)-1))].length)) (0+k*1)=some (.int .i64 (IntKind.i64.wrap ((cntW pre (o1::os) k:Int)-1))):=by
       rw[es0,iL_nth (by rw[List.length_set,hwl];exact hk)]
       simp[gt0,hwl,hk]
      have es:iL (wtM pre (o1::os) u (p++[(k:Int)]))=(iL (wtM pre (o1::os) u p)).take (0+k*1)++[Value.int .i64 (IntKind.i64.wrap ((cntW pre (o1::os) k:Int)-1))]++(iL (wtM pre (o1::os) u p)).drop (0+k*1+[Value.int .i64 (IntKind.i64.wrap ((cntW pre (o1::os) k:Int)-1))].length):=by
       rw[es0,wtM_snoc,ewr]
      have hkb:k.blt (gL pre).length=true:=by rw[gL_len];exact bLe hk
      have hst:∀v:Value,0+k*1+[v].length≤(iL (wtM pre (o1::os) u p)).length:=fun v=>by rw[iL_len,hwl,List.length_singleton];omega
      have hfin:p++[(k:Int)]++q=froms pre u:=by rw[← h6];simp
      by_cases hz:cntW pre ((o1::os)++[(u:Int)]) k=0
      ·have g9:decide (IntKind.i64.wrap ((cntW pre (o1::os) k:Int)-1) > 0)=false:=by rw[ewr,hz];rfl
       have hmp:=fun (ys:List Int) (hp:ys.Perm (L.take m++[(k:Int)])) (hq:HeapFrom 0 ys ys.length)=>hmid.push hz hk hku hkp hp hq
       have hlm:L.length≤29000:=by omega
       rcases L with _|⟨z3,zs3⟩
       ·(repeat' ((conv=>whnf);first|refine goA ?_|(conv in (nth _ _)=>(change nth _ (0+k*1);rw[nk]))|(conv in (nth _ _)=>(change nth ((iL (wtM pre (o1::os) u p)).take (0+k*1)++[Value.int .i64 (IntKind.i64.wrap ((cntW pre (o1::os) k:Int)-1))]++(iL (wtM pre (o1::os) u p)).drop (0+k*1+[Value.int .i64 (IntKind.i64.wrap ((cntW pre (o1::os) k:Int)-1))].length)) (0+k*1);rw[nk2]))|refine U.storeC_p (hst _) ?_|refine goB ?_|refine U.lw_c ?_ ?_<;>intro hb))
        (conv=>whnf);refine SoundAt.cov (args1:=[hpV,.iface 3 (.int .i64 (k:Int))]) (s1:=stZ 8 7 9 (wtM pre (o1::os) u (p++[(k:Int)])) ((o1::os)++[(u:Int)])) [(0,hpV),(1,.iface 3 (.int .i64 (k:Int)))] (by exact (Cov.renI rfl rfl rfl rfl (.W rfl (cleanIl _) (es) (.C rfl (.K rfl rfl .nil) (.none (blksO.row rfl rfl (cleanIC _) .nil)))) (.cons rfl (hpV_ren (by decide) rfl) (.cons rfl (.ifc _ _ _ .I) .nil)))) rfl (fun i u h=>?_) ?_
        ·rcases i with _|_|i
         ·exact h
         ·exact h
         ·simp at h
        refine (push_z (wtM pre (o1::os) u (p++[(k:Int)])) ((o1::os)++[(u:Int)]) k).mono ?_;rintro r s' _ ⟨rfl,L',r1,r2,rfl⟩
        have hl':=r1.length_eq;have hm':=hmp L' (by rw[List.take_nil];exact r1) (by rw[hl'];exact r2)
        (repeat' ((conv=>whnf);first|refine goD ?_|refine U.lw_c ?_ ?_<;>intro hb))
        (conv=>whnf);refine ⟨(p++[(k:Int)],q,L',1),⟨hfin,by rw[hl'];exact Nat.le_refl _,by rw[hl'];show 1≤pre.length;omega,?_⟩,by simp,?_⟩
        ·show MidI pre (o1::os) u (p++[(k:Int)]) (L'.take 1)
         rw[List.take_of_length_le (by rw[hl'];exact Nat.le_refl _)]
         exact hm'
        dsimp only;rcases L' with _|⟨z4,zs4⟩
        ·simp at hl'
        ·have e4:zs4.length+1=1:=by simpa using hl'
         exact (Cov.renO (fun k=>if k=8 then 10 else k) rfl rfl (bR rfl) zL (fun k hk=>by have:k<8:=hk;rw[if_neg (by omega)]) rfl nlz (.W rfl (cleanIl _) rfl (.C rfl (.cons (.sl _ _ _ _ _ _ _ (by decide) rfl rfl e4) .nil) (.W rfl (cleanIl _) rfl (blksO.row rfl rfl (cleanIC _) .nil)))) (.K rfl rfl rfl (.K rfl rfl rfl (.L rfl (cleanGL _) rfl (.L rfl (cleanGL _) rfl (.cons rfl (.S rfl rfl rfl) (.cons rfl (.P rfl) (.cons rfl (.ofRow (by decide) rfl rfl) (.L rfl (cleanIL _) rfl (.cons rfl .I (.L rfl (cleanI _) (congrArg (Value.int .i64) (h8w.symm)) .nil)))))))))))
       ·rcases Nat.lt_or_ge m (z3::zs3).length with hmm|hmm
        ·(repeat' ((conv=>whnf);first|refine goA ?_|(conv in (nth _ _)=>(change nth _ (0+k*1);rw[nk]))|(conv in (nth _ _)=>(change nth ((iL (wtM pre (o1::os) u p)).take (0+k*1)++[Value.int .i64 (IntKind.i64.wrap ((cntW pre (o1::os) k:Int)-1))]++(iL (wtM pre (o1::os) u p)).drop (0+k*1+[Value.int .i64 (IntKind.i64.wrap ((cntW pre (o1::os) k:Int)-1))].length)) (0+k*1);rw[nk2]))|refine U.storeC_p (hst _) ?_|refine goB ?_|refine U.lw_c ?_ ?_<;>intro hb))
         (conv=>whnf);refine SoundAt.cov (args1:=[hpV,.iface 3 (.int .i64 (k:Int))]) (s1:=stN 8 7 9 (wtM pre (o1::os) u (p++[(k:Int)])) (z3::zs3) m (z3::zs3).length ((o1::os)++[(u:Int)])) [(0,hpV),(1,.iface 3 (.int .i64 (k:Int)))] (by exact (Cov.renI rfl rfl rfl rfl (.W rfl (cleanIl _) (es) (.C rfl (.cons (.S rfl rfl rfl) .nil) (.W rfl (cleanIl _) rfl (blksO.row rfl rfl (cleanIC _) .nil)))) (.cons rfl (hpV_ren (by decide) rfl) (.cons rfl (.ifc _ _ _ .I) .nil)))) rfl (fun i u h=>?_) ?_
         ·rcases i with _|_|i
          ·exact h
          ·exact h
          ·simp at h
         refine (push_in (wtM pre (o1::os) u (p++[(k:Int)])) (z3::zs3) ((o1::os)++[(u:Int)]) m k hmm (by omega) hh).mono ?_
         rintro r s' _ ⟨rfl,L',r1,r2,r3,rfl⟩
         have hm':=hmp (L'.take (m+1)) r2 (by rw[List.length_take,show min (m+1) L'.length=m+1 by omega];exact (heap_take rL).2 r3)
         (repeat' ((conv=>whnf);first|refine goD ?_|refine U.lw_c ?_ ?_<;>intro hb))
         (conv=>whnf);refine ⟨(p++[(k:Int)],q,L',m+1),⟨hfin,by rw[r1];exact hmm,by rw[r1];exact h2,hm'⟩,by simp,?_⟩
         dsimp only;rcases L' with _|⟨z4,zs4⟩
         ·simp at r1
         ·have e4:zs4.length+1=(z3::zs3).length:=by simpa using r1
          exact (Cov.renI rfl rfl rfl rfl (.W rfl (cleanIl _) rfl (.C rfl (.cons (.sl _ _ _ _ _ _ _ (by decide) rfl rfl e4) .nil) (.W rfl (cleanIl _) rfl (blksO.row rfl rfl (cleanIC _) .nil)))) (.K rfl rfl rfl (.K rfl rfl rfl (.L rfl (cleanGL _) rfl (.L rfl (cleanGL _) rfl (.cons rfl (.S rfl rfl rfl) (.cons rfl (.P rfl) (.cons rfl (.ofRow (by decide) rfl rfl) (.L rfl (cleanIL _) rfl (.cons rfl .I (.L rfl (cleanI _) (congrArg (Value.int .i64) (h8w.symm)) .nil)))))))))))
        ·obtain rfl:m=(z3::zs3).length:=by omega
         (repeat' ((conv=>whnf);first|refine goA ?_|(conv in (nth _ _)=>(change nth _ (0+k*1);rw[nk]))|(conv in (nth _ _)=>(change nth ((iL (wtM pre (o1::os) u p)).take (0+k*1)++[Value.int .i64 (IntKind.i64.wrap ((cntW pre (o1::os) k:Int)-1))]++(iL (wtM pre (o1::os) u p)).drop (0+k*1+[Value.int .i64 (IntKind.i64.wrap ((cntW pre (o1::os) k:Int)-1))].length)) (0+k*1);rw[nk2]))|refine U.storeC_p (hst _) ?_|refine goB ?_|refine U.lw_c ?_ ?_<;>intro hb))
         (conv=>whnf);refine SoundAt.cov (args1:=[hpV,.iface 3 (.int .i64 (k:Int))]) (s1:=stN 8 7 9 (wtM pre (o1::os) u (p++[(k:Int)])) (z3::zs3) (z3::zs3).length (z3::zs3).length ((o1::os)++[(u:Int)])) [(0,hpV),(1,.iface 3 (.int .i64 (k:Int)))] (by exact (Cov.renI rfl rfl rfl rfl (.W rfl (cleanIl _) (es) (.C rfl (.cons (.S rfl rfl rfl) .nil) (.W rfl (cleanIl _) rfl (blksO.row rfl rfl (cleanIC _) .nil)))) (.cons rfl (hpV_ren (by decide) rfl) (.cons rfl (.ifc _ _ _ .I) .nil)))) rfl (fun i u h=>?_) ?_
         ·rcases i with _|_|i
          ·exact h
          ·exact h
          ·simp at h
         refine (push_out (wtM pre (o1::os) u (p++[(k:Int)])) (z3::zs3) ((o1::os)++[(u:Int)]) k (by simp) (by omega) hh).mono ?_
         rintro r s' _ ⟨rfl,L',r1,r3,rfl⟩
         have r2:L'.length=(z3::zs3).length+1:=by rw[r1.length_eq,List.length_append];rfl
         have hm':=hmp L' (by rw[List.take_length];exact r1) (by rw[r2];exact r3)
         have hL':L'.length≤pre.length:=nodup_le hm'.xd fun t ht=>by
          obtain ⟨v,e1,e2,_⟩:=(hm'.xm t).1 ht;exact ⟨v,e1,e2⟩
         (repeat' ((conv=>whnf);first|refine goD ?_|refine U.lw_c ?_ ?_<;>intro hb))
         (conv=>whnf);refine ⟨(p++[(k:Int)],q,L',(z3::zs3).length+1),⟨hfin,by rw[r2];exact Nat.le_refl _,hL',?_⟩,by simp,?_⟩
         ·show MidI pre (o1::os) u (p++[(k:Int)]) (L'.take ((z3::zs3).length+1))
          rw[List.take_of_length_le (by rw[r2];exact Nat.le_refl _)]
          exact hm'
         dsimp only;rcases L' with _|⟨z4,zs4⟩
         ·simp at r2
         ·have e4:zs4.length+1=(z3::zs3).length+1:=by simpa using r2
          exact (Cov.renO (fun k=>if k=8 then 10 else k) rfl rfl (bR rfl) zL (fun k hk=>by have:k<8:=hk;rw[if_neg (by omega)]) rfl nlz (.W rfl (cleanIl _) rfl (.C rfl (.cons (.sl _ _ _ _ _ _ _ (by decide) rfl rfl e4) .nil) (.W rfl (cleanIl _) rfl (blksO.row rfl rfl (cleanIC _) .nil)))) (.K rfl rfl rfl (.K rfl rfl rfl (.L rfl (cleanGL _) rfl (.L rfl (cleanGL _) rfl (.cons rfl (.S rfl rfl rfl) (.cons rfl (.P rfl) (.cons rfl (.ofRow (by decide) rfl rfl) (.L rfl (cleanIL _) rfl (.cons rfl .I (.L rfl (cleanI _) (congrArg (Value.int .i64) (h8w.symm)) .nil)))))))))))
      ·have g9:decide (IntKind.i64.wrap ((cntW pre (o1::os) k:Int)-1) > 0)=true:=by rw[ewr];exact decide_eq_true (by omega)
       have hms:=hmid.skip hz;rcases L with _|⟨z3,zs3⟩
       ·(repeat' ((conv=>whnf);first|refine goA ?_|(conv in (nth _ _)=>(change nth _ (0+k*1);rw[nk]))|(conv in (nth _ _)=>(change nth ((iL (wtM pre (o1::os) u p)).take (0+k*1)++[Value.int .i64 (IntKind.i64.wrap ((cntW pre (o1::os) k:Int)-1))]++(iL (wtM pre (o1::os) u p)).drop (0+k*1+[Value.int .i64 (IntKind.i64.wrap ((cntW pre (o1::os) k:Int)-1))].length)) (0+k*1);rw[nk2]))|refine U.storeC_p (hst _) ?_|refine goB ?_|refine U.lw_c ?_ ?_<;>intro hb))
        (conv=>whnf);exact ⟨(p++[(k:Int)],q,[],m),⟨hfin,h1,h2,hms⟩,by simp,(Cov.renI rfl rfl rfl rfl (.W rfl (cleanIl _) (es) (.C rfl (.K rfl rfl .nil) (.none (blksO.row rfl rfl (cleanIC _) .nil)))) (.K rfl rfl rfl (.K rfl rfl rfl (.L rfl (cleanGL _) rfl (.L rfl (cleanGL _) rfl (.cons rfl (.S rfl rfl rfl) (.cons rfl (.P rfl) (.cons rfl (.ofRow (by decide) rfl rfl) (.L rfl (cleanIL _) rfl (.cons rfl .I (.L rfl (cleanI _) (congrArg (Value.int .i64) (h8w.symm)) .nil)))))))))))⟩
       ·(repeat' ((conv=>whnf);first|refine goA ?_|(conv in (nth _ _)=>(change nth _ (0+k*1);rw[nk]))|(conv in (nth _ _)=>(change nth ((iL (wtM pre (o1::os) u p)).take (0+k*1)++[Value.int .i64 (IntKind.i64.wrap ((cntW pre (o1::os) k:Int)-1))]++(iL (wtM pre (o1::os) u p)).drop (0+k*1+[Value.int .i64 (IntKind.i64.wrap ((cntW pre (o1::os) k:Int)-1))].length)) (0+k*1);rw[nk2]))|refine U.storeC_p (hst _) ?_|refine goB ?_|refine U.lw_c ?_ ?_<;>intro hb))
        (conv=>whnf);exact ⟨(p++[(k:Int)],q,z3::zs3,m),⟨hfin,h1,h2,hms⟩,by simp,(Cov.renI rfl rfl rfl rfl (.W rfl (cleanIl _) (es) (.C rfl (.cons (.S rfl rfl rfl) .nil) (.W rfl (cleanIl _) rfl (blksO.row rfl rfl (cleanIC _) .nil)))) (.K rfl rfl rfl (.K rfl rfl rfl (.L rfl (cleanGL _) rfl (.L rfl (cleanGL _) rfl (.cons rfl (.S rfl rfl rfl) (.cons rfl (.P rfl) (.cons rfl (.ofRow (by decide) rfl rfl) (.L rfl (cleanIL _) rfl (.cons rfl .I (.L rfl (cleanI _) (congrArg (Value.int .i64) (h8w.symm)) .nil)))))))))))⟩
 ·have h3:=p1;rw[← h3] at g2;obtain ⟨h3b,h3c,h3n,h3w⟩:=U.at4 gL_map pre (x) rest (g2);rw[h3] at h3b h3c h3n;have hpl:pre.length<R.length:=by rw[← h3];simp
  have hwl:=waitF_len (n:=R.length) (pre:=pre) (by omega)
  have hst4:∀v:Value,0+pre.length*1+[v].length≤(iL (waitF R.length pre)).length:=fun v=>by rw[iL_len,hwl,List.length_singleton];omega
  have es:iL (waitF R.length (pre++[x]))=(iL (waitF R.length pre)).take (0+pre.length*1)++[Value.int .i64 ((iL x).length:Int)]++(iL (waitF R.length pre)).drop (0+pre.length*1+[Value.int .i64 ((iL x).length:Int)].length):=by
   rw[iL_store (by rw[hwl];exact hpl),waitF_snoc hpl,iL_len]
  have hfin:pre++[x]++rest=R:=by rw[← h3];simp
  by_cases hx:x=[]
  ·have ho:openF (pre++[x])=openF pre++[(pre.length:Int)]:=by rw[openF_snoc,if_pos hx]
   have g5:(((iL x).length:Int)==0)=true:=by rw[hx];rfl
   have hol:=openF_len pre;rcases hop:openF pre with _|⟨y,ys⟩
   ·rw[hop] at ho;(repeat' ((conv=>whnf);first|refine goA ?_|refine U.storeC_p (hst4 _) ?_|refine U.catC_p ?_|refine goB ?_|refine U.lw_c ?_ ?_<;>intro hb))
    (conv=>whnf);refine ⟨(pre++[x],rest),hfin,by simp,?_⟩
    dsimp only;rw[ho];exact (Cov.renO (fun k=>if k=3 then 5 else k) rfl rfl (bR rfl) zL (fun k hk=>by have:k<3:=hk;rw[if_neg (by omega)]) rfl nlz (.W rfl (cleanIl _) (es) (.C rfl (.cons (.S rfl rfl rfl) .nil) (.W rfl (cleanIl _) rfl (.none .nil)))) (.K rfl rfl rfl (.K rfl rfl rfl (.L rfl (cleanGL _) rfl (.L rfl (cleanGL _) rfl (.cons rfl (.S rfl rfl rfl) (.cons rfl (.P rfl) (.L rfl (cleanGL _) rfl (.cons rfl .I (.L rfl (cleanI _) (congrArg (Value.int .i64) (h3w.symm)) .nil))))))))))
   ·rw[hop] at ho hol;have hyl:(iL (y::ys)).length=((iL ys).length+1)*(0+1):=by rw[iL_len,iL_len];simp
    have hys:ys.length+1≤30000:=by simp at hol;omega
    have hb7:(Nat.ble (((iL ys).length+1+(0+1))*8) 140737488355328&&Nat.ble ((iL ys).length+1+(0+1)) 1000000)=true:=by
     rw[iL_len,bLe (by omega),bLe (by omega)];rfl
    (repeat' ((conv=>whnf);first|refine goA ?_|refine U.storeC_p (hst4 _) ?_|refine U.ob_c hb7 ?_|(rw[ble_f];dsimp only;refine growRow_p hyl rfl ?_)|refine goB ?_|refine U.lw_c ?_ ?_<;>intro hb))
    (conv=>whnf);refine ⟨(pre++[x],rest),hfin,by simp,?_⟩
    dsimp only;rw[ho];exact (Cov.renO (fun k=>if k=3 then 5 else k) rfl rfl (bR rfl) zL (fun k hk=>by have:k<3:=hk;rw[if_neg (by omega)]) rfl nlz (.W rfl (cleanIl _) (es) (.C rfl (.cons (.grown (by decide) rfl (by simp[iL]) (by simp[iL]) (by simp[iL])) .nil) (blkI_grown rfl (iL_app (y::ys) _) (.none .nil)))) (.K rfl rfl rfl (.K rfl rfl rfl (.L rfl (cleanGL _) rfl (.L rfl (cleanGL _) rfl (.cons rfl (.S rfl rfl rfl) (.cons rfl (.P rfl) (.L rfl (cleanGL _) rfl (.cons rfl .I (.L rfl (cleanI _) (congrArg (Value.int .i64) (h3w.symm)) .nil))))))))))
  ·have ho:openF (pre++[x])=openF pre:=by rw[openF_snoc,if_neg hx,List.append_nil]
   have g5:(((iL x).length:Int)==0)=false:=by
    rw[iL_len];cases x with
    |nil=>exact absurd rfl hx
    |cons a l=>simp;omega
   (repeat' ((conv=>whnf);first|refine goA ?_|refine U.storeC_p (hst4 _) ?_|refine goB ?_|refine U.lw_c ?_ ?_<;>intro hb))
   (conv=>whnf);refine ⟨(pre++[x],rest),hfin,by simp,?_⟩
   dsimp only;rw[ho];exact (Cov.renI rfl rfl rfl rfl (.W rfl (cleanIl _) (es) (.C rfl (.cons (.ofRow (by decide) rfl rfl) .nil) (blkI_row rfl rfl (.none .nil)))) (.K rfl rfl rfl (.K rfl rfl rfl (.L rfl (cleanGL _) rfl (.L rfl (cleanGL _) rfl (.cons rfl (.S rfl rfl rfl) (.cons rfl (.P rfl) (.L rfl (cleanGL _) rfl (.cons rfl .I (.L rfl (cleanI _) (congrArg (Value.int .i64) (h3w.symm)) .nil))))))))))
end Go.Proofs.YtnfppdblcmollaaGreatDoor
