
import Derived.Test.YtnfppdblcmollaaGreatDoorTS39
namespace Go.Proofs.YtnfppdblcmollaaGreatDoor
open Go Go.RowKit Go.Sort U
set_option linter.unusedVariables false
set_option linter.unusedSimpArgs false
set_option maxRecDepth 100000
set_option maxHeartbeats 40000000
theorem halfW {m:Nat}(h:m≤30000):IntKind.i64.wrap (IntKind.i64.wrap ((m:Int).tdiv 2)-1)=((m / 2:Nat):Int)-1:=by
 rw[IntKind.wrap_i64,IntKind.wrap_i64,Int.tdiv_eq_ediv_of_nonneg (by omega)];omega
theorem init_s (w L:List Int) (m c:Nat) (hm:m≤L.length) (hc:m≤c) (hm2:m≤30000):SoundAt Tryz.prog 116 [hpV] (stN 3 0 4 w L m c []) (fun u s'=>u=.tuple ⟨[]⟩∧∃L',L'.Perm L∧HeapFrom 0 L' m∧s'=stN 3 0 4 w L' m c []):=by
 refine SoundAt.body hmixU Tryz.func116 rfl rfl rfl 0 ?_;have hB:nmsOk 3 0 4:=.inl ⟨rfl,rfl,rfl⟩;(repeat' ((conv=>whnf);first|refine goA ?_|refine len_s hB _ _ _ _ _ hm hc ?_|refine goB ?_|refine U.lw_c ?_ ?_<;>intro hb))
 (conv=>whnf);refine loop_inv (α:=Nat×List Int) (fun x=>x.1≤m / 2∧HeapFrom x.1 x.2 m∧x.2.Perm L) (fun x=>(mkF [(0,hpV),(2,.int .i64 m),(3,.int .i64 ((x.1:Int)-1))],stN 3 0 4 w x.2 m c [])) (fun x=>x.1) (m / 2,L) ⟨Nat.le_refl _,fun k h1 h2 h3=>by omega,.refl _⟩ (Cov.slots (s:=stN 3 0 4 w L m c []) rL ⟨rfl,rfl,congrArg some (congrArg (Value.int .i64) (halfW hm2)),trivial⟩) ?_
 rintro ⟨k,M⟩ ⟨h1,h2,h3⟩
 dsimp only at h1 h2 h3;dsimp only;have hml:M.length=L.length:=h3.length_eq;rcases k with _|k
 ·have g:decide ((((0:Nat):Int)-1)≥0)=false:=by decide
  (repeat' ((conv=>whnf);first|refine goD ?_|refine U.lw_c ?_ ?_<;>intro hb))
  (conv=>whnf);exact ⟨rfl,M,h3,h2,rfl⟩
 ·have g:decide ((((k+1:Nat):Int)-1)≥0)=true:=by simp
  (repeat' ((conv=>whnf);first|refine goD ?_|refine U.lw_c ?_ ?_<;>intro hb))
  (conv=>whnf);refine (down_s hB w M [] m c m k _ _ (by omega) rfl (by omega) hc rL (by omega) hm2 h2).mono ?_
  rintro u s' _ ⟨M',q1,q2,q3,rfl⟩
  (repeat' ((conv=>whnf);first|refine goD ?_|refine U.lw_c ?_ ?_<;>intro hb))
  (conv=>whnf);refine ⟨(k,M'),⟨by omega,q2,q1.trans h3⟩,by simp,Cov.slots (s:=stN 3 0 4 w M' m c []) rL ⟨rfl,rfl,congrArg some (congrArg (Value.int .i64) ?_),trivial⟩⟩
  rw[IntKind.wrap_i64];omega
def stZ (b o nx:Nat) (w:List Int) (ord:List Int):AS:=⟨mkO [(1,some (.cells 3 (iL w) false)),(2,some (.cells 202 [.slice none 0 0] false)),(b,none),(o,rowO 3 (iL ord))],nx,0,0⟩
theorem len_z {s:AS}{K:Value->AS->Prop}(hK:K (.int .i64 0) s):SoundAt Tryz.prog 117 [.slice none 0 0] s K :=
 .c (SoundC.uF (len_d []) rfl (.cons .nil .nil) hK)
theorem init_z (w:List Int):SoundAt Tryz.prog 116 [hpV] (stZ 3 0 4 w []) (fun u s'=>u=.tuple ⟨[]⟩∧s'=stZ 3 0 4 w []):=by
 refine SoundAt.body hmixU Tryz.func116 rfl rfl rfl 0 ?_;(repeat' ((conv=>whnf);first|refine goA ?_|refine len_z ?_|refine goB ?_|refine U.lw_c ?_ ?_<;>intro hb))
 (conv=>whnf);refine loop_inv (α:=Unit) (fun x=>True) (fun x=>(mkF [(0,hpV),(2,.int .i64 0),(3,.int .i64 (-1))],stZ 3 0 4 w [])) (fun x=>0) () trivial (Cov.slots (s:=stZ 3 0 4 w []) rL ⟨rfl,rfl,rfl,trivial⟩) ?_
 rintro _ _
 dsimp only;have g:decide ((-1:Int)≥0)=false:=by decide
 (repeat' ((conv=>whnf);first|refine goD ?_|refine U.lw_c ?_ ?_<;>intro hb))
 (conv=>whnf);exact ⟨rfl,rfl⟩
theorem popM_s (w M ord:List Int) (m c:Nat) (h0:0<m) (hm:m≤M.length) (hc:m≤c) (hm2:m≤30000) {K:Value->AS->Prop}(hK:K (.iface 3 (.int .i64 (gt0 M (m-1)))) (stN 4 5 6 w M (m-1) c ord)):SoundAt Tryz.prog 306 [.pointer (some ⟨2,0,none⟩)] (stN 4 5 6 w M m c ord) K:=by
 refine SoundAt.body hmixU Tryz.func306 rfl rfl rfl 0 ?_;obtain ⟨n,rfl⟩:∃n,m=n+1:=⟨m-1,by omega⟩
 have e:IntKind.i64.wrap (((n+1:Nat):Int)-1)=(n:Int):=by rw[IntKind.wrap_i64];omega
 have bi:n.blt (n+1)=true:=bLe rL;have ni:=iL_nth (L:=M) (i:=n) (by omega)
 obtain ⟨d,rfl⟩:∃d,c=d+1:=⟨c-1,by omega⟩
 have hb:(Nat.ble 0 n&&n.ble (n+1)&&(n+1).ble (d+1))=true:=by
  rw[bLe zL,bLe (Nat.le_succ _),bLe hc];rfl
 (repeat' ((conv=>whnf);first|refine goA ?_|rw[e]|(conv in (nth _ _)=>(change nth _ (0+n*1);rw[ni]))|refine U.ob_c hb ?_|refine goB ?_|refine U.lw_c ?_ ?_<;>intro hb))
 (conv=>whnf);exact hK
theorem take_perm {A B:List Int}{m:Nat}(hp:A.Perm B) (h:∀k,m≤k->gt0 A k=gt0 B k):(A.take m).Perm (B.take m):=by
 have hl:=hp.length_eq;have hd:A.drop m=B.drop m:=by
  apply List.ext_getElem (by simp[hl])
  intro i h1 h2;have:=h (m+i) (by omega)
  simp only[List.length_drop] at h1 h2;simp only[gt0,List.getD_eq_getElem?_getD,List.getElem?_eq_getElem (show m+i<A.length by omega),List.getElem?_eq_getElem (show m+i<B.length by omega),Option.getD_some] at this
  simpa using this
 rw[← List.take_append_drop m A,← List.take_append_drop m B,hd] at hp;exact (List.perm_append_right_iff _).1 hp
theorem take_last {A:List Int}{m:Nat}(h0:0<m) (hm:m≤A.length):A.take m=A.take (m-1)++[gt0 A (m-1)]:=by
 obtain ⟨n,rfl⟩:∃n,m=n+1:=⟨m-1,by omega⟩
 rw[Nat.add_sub_cancel,List.take_add_one,List.getElem?_eq_getElem (by omega)];simp[gt0,show n<A.length by omega]
theorem popL {L M:List Int}{m:Nat}(h0:0<m) (hm:m≤L.length) (hp:M.Perm (swapL L 0 (m-1))) (ht:∀k,m-1≤k->gt0 M k=gt0 (swapL L 0 (m-1)) k):gt0 M (m-1)=gt0 L 0∧(gt0 L 0::M.take (m-1)).Perm (L.take m):=by
 have e:gt0 M (m-1)=gt0 L 0:=by
  rw[ht _ rL,swapL_at (by omega) (by omega),if_pos rfl]
 have hml:M.length=L.length:=by rw[hp.length_eq,swapL_len]
 refine ⟨e,?_⟩;have h1:(M.take m).Perm (L.take m):=take_perm (hp.trans (swapL_perm (by omega) (by omega))) fun k hk=>by
  rw[ht k (by omega),swapL_tail (m:=m) (by omega) (by omega) hm hk]
 rw[take_last h0 (by omega),e] at h1;exact (List.perm_append_comm (l₁:=[gt0 L 0])).trans h1
theorem pop_s (w L ord:List Int) (m c:Nat) (h0:0<m) (hm:m≤L.length) (hc:m≤c) (hm2:m≤30000) (hh:HeapFrom 0 L m):SoundAt Tryz.prog 118 [hpV] (stN 4 5 6 w L m c ord) (fun u s'=>u=.iface 3 (.int .i64 (gt0 L 0))∧∃L',L'.length=L.length∧(gt0 L 0::L'.take (m-1)).Perm (L.take m)∧HeapFrom 0 L' (m-1)∧s'=stN 4 5 6 w L' (m-1) c ord):=by
 refine SoundAt.body hmixU Tryz.func118 rfl rfl rfl 0 ?_;have hB:nmsOk 4 5 6:=.inr (.inl ⟨rfl,rfl,rfl⟩);have e:IntKind.i64.wrap ((m:Int)-1)=((m-1:Nat):Int):=by rw[IntKind.wrap_i64];omega
 (repeat' ((conv=>whnf);first|refine goA ?_|refine len_s hB _ _ _ _ _ hm hc ?_|refine swap_k hB _ _ _ _ _ 0 (m-1) _ _ rfl e hm h0 (by omega) ?_|refine goB ?_|refine U.lw_c ?_ ?_<;>intro hb))
 (conv=>whnf);refine (down_s hB w (swapL L 0 (m-1)) ord m c (m-1) 0 _ _ rfl e (by rw[swapL_len];exact hm) hc (by omega) (by omega) hm2 (fun k h1 h2 h3=>?_)).mono ?_
 ·rw[swapL_at (by omega) (by omega),swapL_at (by omega) (by omega),if_neg (by omega),if_neg (by omega),if_neg (by omega),if_neg (by omega)];exact hh k h1 (by omega) zL
 rintro u s' _ ⟨M,q1,q2,q3,rfl⟩
 obtain ⟨r1,r2⟩:=popL h0 hm q1 q3;have hml:M.length=L.length:=by rw[q1.length_eq,swapL_len]
 (repeat' ((conv=>whnf);first|refine goA ?_|refine popM_s _ _ _ _ _ h0 (by omega) hc hm2 ?_|refine goB ?_|refine U.lw_c ?_ ?_<;>intro hb))
 (conv=>whnf);exact ⟨by rw[← r1];rfl,M,hml,r2,q2,rfl⟩
theorem len_g {s:AS}{B m c:Nat}{L:List Int}{T:TypeId}{op:Bool}(hb:s.heap.get B=some (.cells T (iL L) op)) (hm:m≤L.length) (hc:m≤c) {K:Value->AS->Prop}(hK:K (.int .i64 m) s):SoundAt Tryz.prog 117 [.slice (some ⟨B,0,none⟩) m c] s K:=by
 have h:=len_d (L.take m);rw[List.length_take,show min m L.length=m by omega] at h;refine .c (SoundC.uF h rfl (.cons ?_ .nil) hK);refine .row B m c 1 T (iL L) (iL (L.take m)) op zL hb iL_1 (by rw[iL_len,List.length_take];omega) hc (by rw[cellsI,iL_len,iL_len,List.length_take];omega) fun i u v hu hv=>?_
 rw[cellsI,iL,List.map_take,List.getElem?_take] at hv;split at hv
 ·rw[iL] at hu;rw[hu] at hv;cases hv;obtain ⟨x,_,rfl⟩:=List.mem_map.1 (List.mem_of_getElem? hu);exact .clean _ (cleanI _)
 ·cases hv
theorem iL_store2 {L:List Int}{i:Nat}{x:Int}(h:i<L.length):(iL L).take (i*(0+1))++[Value.int .i64 x]++(iL L).drop (i*(0+1)+[Value.int .i64 x].length)=iL (L.set i x):=by
 have:=iL_store (L:=L) (i:=i) (x:=x) h;rw[Nat.zero_add,Nat.mul_one] at this;rw[Nat.zero_add,Nat.mul_one];exact this
theorem cleanIl (l:List Int):∀x,x∈iL l->NoNm x:=fun x hx=>cleanIC l x (by rw[cellsI];exact hx)
theorem gt0_set {L:List Int}{m k:Nat}{x:Int}(hk:k≠m):gt0 (L.set m x) k=gt0 L k:=by
 unfold gt0;simp only[List.getD_eq_getElem?_getD,List.getElem?_set];rw[if_neg (fun e=>hk e.symm)]
theorem up_in {L:List Int}{m:Nat}{x:Int}(hm:m<L.length) (hh:HeapFrom 0 L m):UpI m (L.set m x) (m+1):=by
 refine ⟨fun k h1 h2 h3=>?_,fun h0 k h1 h2 h3=>by omega⟩
 rw[gt0_set (by omega),gt0_set h3];exact hh k h1 (by omega) zL
theorem take_set {L:List Int}{m:Nat}{x:Int}(hm:m<L.length):(L.set m x).take (m+1)=L.take m++[x]:=by
 rw[List.take_add_one,List.take_set,List.set_eq_of_length_le (by rw[List.length_take];omega)]
 simp[hm]
theorem hpV_ren {n:Nat}{ρ:Ren}(h:2<n) (e:ρ 2=2):RenV n ρ hpV hpV:=.ifc _ _ _ (.ptr _ _ _ h e)
theorem push_in (w L ord:List Int) (m:Nat) (x:Int) (hm:m<L.length) (hm2:m+1≤30000) (hh:HeapFrom 0 L m):SoundAt Tryz.prog 119 [hpV,.iface 3 (.int .i64 x)] (stN 8 7 9 w L m L.length ord) (fun u s'=>u=.tuple ⟨[]⟩∧∃L',L'.length=L.length∧(L'.take (m+1)).Perm (L.take m++[x])∧HeapFrom 0 L' (m+1)∧s'=stN 8 7 10 w L' (m+1) L.length ord):=by
 refine SoundAt.body hmixU Tryz.func119 rfl rfl rfl 0 ?_;(repeat' ((conv=>whnf);first|refine goD ?_|refine U.lw_c ?_ ?_<;>intro hb))
 (conv=>whnf);refine SoundAt.body hmixU Tryz.func307 rfl rfl rfl 0 ?_;have hb1:(Nat.ble ((m+(0+1))*8) 140737488355328&&Nat.ble (m+(0+1)) 1000000)=true:=by
  rw[bLe (by omega),bLe (by omega)];rfl
 have hq:(m+(0+1)).ble L.length=true:=bLe (by omega)
 have hst:∀v:Value,m*(0+1)+[v].length≤(iL L).length:=fun v=>by rw[iL_len,List.length_singleton];omega
 have es:=iL_store2 (x:=x) hm;have hcs:∀T:TypeId,some (U.Blk.cells T ((iL L).take (m*(0+1))++[Value.int .i64 x]++(iL L).drop (m*(0+1)+[Value.int .i64 x].length)) true)=some (U.Blk.cells T (iL (L.set m x)) true):=fun T=>congrArg (fun l=>some (U.Blk.cells T l true)) es
 have e:IntKind.i64.wrap (((m+(0+1):Nat):Int)-1)=(m:Int):=by rw[IntKind.wrap_i64];omega
 (repeat' ((conv=>whnf);first|refine goA ?_|refine U.ob_c hb1 ?_|rw[hq]|refine U.storeC_p (hst _) ?_|refine goB ?_|refine U.lw_c ?_ ?_<;>intro hb))
 (conv=>whnf);refine len_g (L:=L.set m x) (by exact hcs 3) (by rw[List.length_set];show m+1≤_;omega) (by show m+1≤_;omega) ?_
 (repeat' ((conv=>whnf);first|refine goD ?_|refine U.lw_c ?_ ?_<;>intro hb))
 (conv=>whnf);refine SoundAt.cov (args1:=[hpV,.int .i64 m]) (s1:=stN 8 7 10 w (L.set m x) (m+1) L.length ord) [(0,hpV),(1,.int .i64 m)] (Cov.renI rfl rfl rfl rfl (.W rfl (cleanIl _) rfl (.C rfl (.cons (.S rfl rfl rfl) .nil) (.W rfl (cleanIl _) (es.symm) (blksO.row rfl rfl (cleanIC _) .nil)))) (.cons rfl (hpV_ren (by decide) rfl) (.L rfl (cleanI _) (congrArg (Value.int .i64) (e.symm)) .nil))) rfl (fun i u h=>?_) ?_
 ·rcases i with _|_|i
  ·exact h
  ·exact h
  ·simp at h
 refine (up_s (.inr (.inr (.inr ⟨rfl,rfl,rfl⟩))) w (L.set m x) ord (m+1) L.length m _ rfl (by rw[List.length_set];omega) (by omega) (by omega) (by omega) (up_in hm hh)).mono ?_
 rintro u s' _ ⟨rfl,M,q1,q2,q3,rfl⟩
 (repeat' ((conv=>whnf);first|refine goD ?_|refine U.lw_c ?_ ?_<;>intro hb))
 (conv=>whnf);refine ⟨rfl,M,by rw[q1.length_eq,List.length_set],?_,q2,rfl⟩
 have:=take_perm q1 q3;rwa [take_set hm] at this
theorem up_new {L:List Int}{x:Int}(hh:HeapFrom 0 L L.length):UpI L.length (L++[x]) (L.length+1):=.start hh x rfl
theorem push_out (w L ord:List Int) (x:Int) (h0:0<L.length) (hm2:L.length+1≤30000) (hh:HeapFrom 0 L L.length):SoundAt Tryz.prog 119 [hpV,.iface 3 (.int .i64 x)] (stN 8 7 9 w L L.length L.length ord) (fun u s'=>u=.tuple ⟨[]⟩∧∃L',L'.Perm (L++[x])∧HeapFrom 0 L' (L.length+1)∧s'=stN 10 7 11 w L' (L.length+1) (L.length+1) ord):=by
 refine SoundAt.body hmixU Tryz.func119 rfl rfl rfl 0 ?_;(repeat' ((conv=>whnf);first|refine goD ?_|refine U.lw_c ?_ ?_<;>intro hb))
 (conv=>whnf);refine SoundAt.body hmixU Tryz.func307 rfl rfl rfl 0 ?_;generalize hM:L.length=M at *
 obtain ⟨d,rfl⟩:∃d,M=d+1:=⟨M-1,by omega⟩
 have hb1:(Nat.ble ((d+1+(0+1))*8) 140737488355328&&Nat.ble (d+1+(0+1)) 1000000)=true:=by
  rw[bLe (by omega),bLe (by omega)];rfl
 have hyl:(iL L).length=(d+1)*(0+1):=by rw[iL_len,hM];simp
 have hcs:some (U.Blk.cells 3 (iL L++[Value.int .i64 x]) true)=some (U.Blk.cells 3 (iL (L++[x])) true):=congrArg (fun l=>some (U.Blk.cells 3 l true)) (iL_app L [x]).symm
 have e:IntKind.i64.wrap (((d+1+(0+1):Nat):Int)-1)=((d+1:Nat):Int):=by rw[IntKind.wrap_i64];omega
 have hl2:(L++[x]).length=d+2:=by rw[List.length_append,hM];rfl
 (repeat' ((conv=>whnf);first|refine goA ?_|refine U.ob_c hb1 ?_|(rw[ble_f];dsimp only;refine growRow_p hyl rfl ?_)|refine goB ?_|refine U.lw_c ?_ ?_<;>intro hb))
 (conv=>whnf);refine len_g (L:=L++[x]) (by exact hcs) (by rw[hl2];exact Nat.le_refl _) rL ?_
 (repeat' ((conv=>whnf);first|refine goD ?_|refine U.lw_c ?_ ?_<;>intro hb))
 (conv=>whnf);refine SoundAt.cov (args1:=[hpV,.int .i64 ((d+1:Nat):Int)]) (s1:=stN 10 7 11 w (L++[x]) (d+1+1) (d+1+1) ord) [(0,hpV),(1,.int .i64 ((d+1:Nat):Int))] (Cov.renI rfl rfl rfl rfl (.W rfl (cleanIl _) rfl (.C rfl (.cons (.S rfl rfl rfl) .nil) (.W rfl (cleanIl _) (iL_app L [x]) (blksO.row rfl rfl (cleanIC _) .nil)))) (.cons rfl (hpV_ren (by decide) rfl) (.L rfl (cleanI _) (congrArg (Value.int .i64) (e.symm)) .nil))) rfl (fun i u h=>?_) ?_
 ·rcases i with _|_|i
  ·exact h
  ·exact h
  ·simp at h
 refine (up_s (.inr (.inr (.inl ⟨rfl,rfl,rfl⟩))) w (L++[x]) ord (d+1+1) (d+1+1) (d+1) _ rfl (by omega) rL (by omega) (by omega) (by have:=up_new (x:=x) (by rw[hM];exact hh:HeapFrom 0 L L.length);rwa [hM] at this)).mono ?_
 rintro u s' _ ⟨rfl,M,q1,q2,q3,rfl⟩
 (repeat' ((conv=>whnf);first|refine goD ?_|refine U.lw_c ?_ ?_<;>intro hb))
 (conv=>whnf);exact ⟨rfl,M,q1,q2,rfl⟩
theorem push_z (w ord:List Int) (x:Int):SoundAt Tryz.prog 119 [hpV,.iface 3 (.int .i64 x)] (stZ 8 7 9 w ord) (fun u s'=>u=.tuple ⟨[]⟩∧∃L',L'.Perm [x]∧HeapFrom 0 L' 1∧s'=stN 10 7 11 w L' 1 1 ord):=by
 refine SoundAt.body hmixU Tryz.func119 rfl rfl rfl 0 ?_;(repeat' ((conv=>whnf);first|refine goD ?_|refine U.lw_c ?_ ?_<;>intro hb))
 (conv=>whnf);refine SoundAt.body hmixU Tryz.func307 rfl rfl rfl 0 ?_;(repeat' ((conv=>whnf);first|refine goA ?_|refine U.catC_p ?_|refine goB ?_|refine U.lw_c ?_ ?_<;>intro hb))
 (conv=>whnf);refine len_g (L:=[x]) (by rfl) rL rL ?_
 (repeat' ((conv=>whnf);first|refine goD ?_|refine U.lw_c ?_ ?_<;>intro hb))
 (conv=>whnf);refine SoundAt.cov (args1:=[hpV,.int .i64 ((0:Nat):Int)]) (s1:=stN 10 7 11 w [x] 1 1 ord) [(0,hpV),(1,.int .i64 ((0:Nat):Int))] (Cov.renI rfl rfl rfl rfl (.W rfl (cleanIl _) rfl (.C rfl (.cons (.S rfl rfl rfl) .nil) (.W rfl (cleanIl _) rfl (blksO.row rfl rfl (cleanIC _) .nil)))) (.cons rfl (hpV_ren (by decide) rfl) (.cons rfl .I .nil))) rfl (fun i u h=>?_) ?_
 ·rcases i with _|_|i
  ·exact h
  ·exact h
  ·simp at h
 refine (up_s (.inr (.inr (.inl ⟨rfl,rfl,rfl⟩))) w [x] ord 1 1 0 _ rfl rL rL (by omega) (by omega) (up_new (L:=[]) (x:=x) fun k h1 h2=>by simp at h2)).mono ?_
 rintro u s' _ ⟨rfl,M,q1,q2,q3,rfl⟩
 (repeat' ((conv=>whnf);first|refine goD ?_|refine U.lw_c ?_ ?_<;>intro hb))
 (conv=>whnf);exact ⟨rfl,M,q1,q2,rfl⟩
end Go.Proofs.YtnfppdblcmollaaGreatDoor
