import Derived.Shelf.SlSortCmp.NoneTotal
import Derived.Test.YtcihknonfcldeaaDoorKT23
import Derived.Test.YtcihknonfcldeaaDoorKT24
namespace Go.Proofs.YtcihknonfcldeaaDoor
open Go Go.RowKit Go.Sort U
set_option linter.unusedVariables false
set_option linter.unusedSimpArgs false
set_option maxRecDepth 100000
set_option maxHeartbeats 40000000
def eK (e:Int×Int):Value:=.agg ⟨[.int .i64 e.1,.int .i64 e.2]⟩
theorem eK_same (a:Int×Int):Instr.sameBits 10000 (eK a) (eK a)=true:=by
 obtain ⟨a1,a2⟩:=a;simp[eK,Instr.sameBits]
theorem pureRun_bind {α β:Type}{P:Program}(m:Sem α) (f:α->Sem β):pureRun P (m.bind f)=(pureRun P m).bind fun a=>pureRun P (f a):=by
 induction m with
 |pure a=>rfl
 |program k ih=>exact ih P
 |mark _ k ih=>exact ih
 |_=>rfl
theorem pureRun_bind' {α β:Type}{P:Program}(m:Sem α) (f:α->Sem β):pureRun P (m >>= f)=(pureRun P m).bind fun a=>pureRun P (f a):=pureRun_bind m f
theorem eK_eq (a b:Int×Int):pureRun Tryd.prog (Op.equal 107 (eK a) (eK b))=some (decide (a=b)):=by
 obtain ⟨a1,a2⟩:=a;obtain ⟨b1,b2⟩:=b;have hi:Tryd.prog.underlying 107=some (.array 2 3):=by kernel_rfl
 have hz:pureRun Tryd.prog (sizeOf 3)=some 1:=by kernel_rfl
 have he:∀x y:Int,pureRun Tryd.prog (Op.equalIn 9999 3 (.int .i64 x) (.int .i64 y))=some (x==y):=fun x y=>rfl
 have hp:∀x y:Int,pureRun Tryd.prog (part 3 #[.int .i64 x,.int .i64 y] 0)=some (.int .i64 x)∧pureRun Tryd.prog (part 3 #[.int .i64 x,.int .i64 y] 1)=some (.int .i64 y):=fun x y=>⟨rfl,rfl⟩
 have hu:pureRun Tryd.prog (underlying 107)=some (.array 2 3):=by kernel_rfl
 show pureRun _ (Op.equalIn (9999+1) 107 (.agg #[.int .i64 a1,.int .i64 a2]) (.agg #[.int .i64 b1,.int .i64 b2]))=_
 unfold Op.equalIn;rw[pureRun_bind',hu];dsimp only[Option.bind]
 rw[pureRun_bind',hz];dsimp only[Option.bind]
 rw[pureRun_bind'];simp only[Std.Legacy.Range.forIn_eq_forIn_range',Std.Legacy.Range.size];simp[pureRun_bind',he,hp,List.range',pureRun,pure,forIn];by_cases h1:a1=b1<;>by_cases h2:a2=b2<;>simp[h1,h2,pureRun_bind',he,hp,pureRun]
theorem eK_key (e:Int×Int):(keyC Tryd.prog 107 (.array 2 3) (eK e)&&flatV (eK e)&&flatV (.int .i64 0))=true:=by kernel_rfl
theorem eK_val (e:Int×Int):valB (eK e) (eK e)=true:=by simp[eK,valB,valsB,valB1]
theorem eK_ok:KeyOk Tryd.prog 107 (.array 2 3) eK:=keyOk_arr eK_eq eK_same
def edgeIn (rows:List (List Int)) (e:Int×Int):Prop:=∃(i:Nat) (r:List Int),rows[i]?=some r∧e.1=(i:Int)∧e.2∈r
def sumL (l:List (List Int)):Nat:=(l.map List.length).sum
abbrev mEd (m:List ((Int×Int)×Int)):U.Blk:=.map (mE eK (Value.int .i64) m) (List.range m.length) m.length
structure EdgesI (m:List ((Int×Int)×Int)) (rows:List (List Int)):Prop where
 nd:(m.map (·.1)).Nodup
 iff:∀e,e∈m.map (·.1)↔edgeIn rows e
 len:m.length≤sumL rows
theorem edgeIn_nil {rows:List (List Int)}{e:Int×Int}:edgeIn (rows++[[]]) e↔edgeIn rows e:=by
 constructor
 ·rintro ⟨i,r,h1,h2,h3⟩
  rw[List.getElem?_append] at h1;split at h1
  ·exact ⟨i,r,h1,h2,h3⟩
  ·rcases h:i-rows.length with _|n<;>rw[h] at h1<;>simp at h1
   subst h1;cases h3
 ·rintro ⟨i,r,h1,h2,h3⟩
  exact ⟨i,r,by rw[List.getElem?_append_left (List.getElem?_eq_some_iff.1 h1).1];exact h1,h2,h3⟩
theorem EdgesI.next {m:List ((Int×Int)×Int)}{rows:List (List Int)}(h:EdgesI m rows):EdgesI m (rows++[[]]):=⟨h.nd,fun e=>(h.iff e).trans edgeIn_nil.symm,by have:=h.len;simp[sumL] at *;omega⟩
theorem edgeIn_snoc {rows:List (List Int)}{p:List Int}{t:Int}{e:Int×Int}:edgeIn (rows++[p++[t]]) e↔edgeIn (rows++[p]) e∨e=((rows.length:Int),t):=by
 have key:∀(q:List Int) (e:Int×Int),edgeIn (rows++[q]) e↔edgeIn rows e∨(e.1=(rows.length:Int)∧e.2∈q):=fun q e=>by
  constructor
  ·rintro ⟨i,r,h1,h2,h3⟩
   by_cases hi:i<rows.length
   ·rw[List.getElem?_append_left hi] at h1;exact .inl ⟨i,r,h1,h2,h3⟩
   ·rw[List.getElem?_append_right (by omega)] at h1;rcases h:i-rows.length with _|n<;>rw[h] at h1<;>simp at h1
    subst h1;exact .inr ⟨by rw[h2];congr 1;omega,h3⟩
  ·rintro (⟨i,r,h1,h2,h3⟩|⟨h1,h2⟩)
   ·exact ⟨i,r,by rw[List.getElem?_append_left (List.getElem?_eq_some_iff.1 h1).1];exact h1,h2,h3⟩
   ·exact ⟨rows.length,q,by simp,h1,h2⟩
 rw[key,key,List.mem_append,List.mem_singleton,or_assoc];obtain ⟨e1,e2⟩:=e;simp only[Prod.mk.injEq];constructor
 ·rintro (h|⟨h1,h2|h2⟩)
  ·exact .inl h
  ·exact .inr (.inl ⟨h1,h2⟩)
  ·exact .inr (.inr ⟨h1,h2⟩)
 ·rintro (h|⟨h1,h2⟩|⟨h1,h2⟩)
  ·exact .inl h
  ·exact .inr ⟨h1,.inl h2⟩
  ·exact .inr ⟨h1,.inr h2⟩
theorem sumL_snoc (rows:List (List Int)) (p:List Int):sumL (rows++[p])=sumL rows+p.length:=by simp[sumL]
theorem EdgesI.new {m:List ((Int×Int)×Int)}{rows:List (List Int)}{p:List Int}{t n:Int}(h:EdgesI m (rows++[p])) (hz:((rows.length:Int),t)∉m.map (·.1)):EdgesI (m++[(((rows.length:Int),t),n)]) (rows++[p++[t]]):=by
 refine ⟨?_,fun e=>?_,?_⟩
 ·rw[List.map_append,List.nodup_append];refine ⟨h.nd,by simp,?_⟩
  rintro x hx y hy rfl
  simp at hy
  subst hy;exact hz hx
 ·rw[edgeIn_snoc,← h.iff e,List.map_append,List.mem_append];simp
 ·have:=h.len;rw[sumL_snoc] at *;simp at *;omega
theorem EdgesI.old {a b:List ((Int×Int)×Int)}{rows:List (List Int)}{p:List Int}{t u n:Int}(h:EdgesI (a++(((rows.length:Int),t),u)::b) (rows++[p])):EdgesI (a++(((rows.length:Int),t),n)::b) (rows++[p++[t]]):=by
 have hk:(a++(((rows.length:Int),t),n)::b).map (·.1)=(a++(((rows.length:Int),t),u)::b).map (·.1):=by simp
 refine ⟨by rw[hk];exact h.nd,fun e=>?_,?_⟩
 ·rw[hk,edgeIn_snoc,← h.iff e];constructor
  ·exact .inl
  ·rintro (h|rfl)
   ·exact h
   ·simp
 ·have:=h.len;rw[sumL_snoc] at *;simp at *;omega
def keyAt (m:List ((Int×Int)×Int)) (i:Nat):Int×Int:=(m.map (·.1)).getD i (0,0)
def row2 (l:List (Int×Int)) (k:Nat):List Value:=(l.flatMap fun e=>[Value.int .i64 e.1,Value.int .i64 e.2])++repX k [.int .i64 0,.int .i64 0]
theorem repX_mem {zs:List Value}{v:Value}:∀{k:Nat},v∈repX k zs->v∈zs
 |0,h=>by cases h
 |k+1,h=>by
  unfold repX at h;rcases List.mem_append.1 h with h|h
  ·exact h
  ·exact repX_mem h
theorem row2_clean (l:List (Int×Int)) (k:Nat):∀x∈row2 l k,NoNm x:=fun x hx=>by
 rcases List.mem_append.1 hx with h|h
 ·obtain ⟨e,_,he⟩:=List.mem_flatMap.1 h;simp only[List.mem_cons,List.not_mem_nil,or_false] at he;rcases he with rfl|rfl<;>exact cleanI _
 ·have:=repX_mem h;simp only[List.mem_cons,List.not_mem_nil,or_false] at this;rcases this with rfl|rfl<;>exact cleanI _
theorem row2_nil (m:List ((Int×Int)×Int)):row2 ([].map (keyAt m)) (m.length-0)=repX ((((mE eK (Value.int .i64) m).length:Nat):Int).toNat) [.int .i64 0,.int .i64 0]:=by
 rw[mE_len];rfl
theorem keyAt_at {m:List ((Int×Int)×Int)}{i:Nat}(h:i<m.length):∃c,m[i]?=some (keyAt m i,c):=by
 refine ⟨m[i].2,?_⟩;simp[keyAt,h]
theorem repX2_len {zs:List Value}:∀k,(repX k zs).length=k*zs.length
 |0=>by simp[repX]
 |k+1=>by rw[repX,List.length_append,repX2_len k,Nat.succ_mul,Nat.add_comm]
theorem row2_len (l:List (Int×Int)) (k:Nat):(row2 l k).length=l.length*2+k*2:=by
 rw[row2,List.length_append,repX2_len];have:∀l:List (Int×Int),(l.flatMap fun e=>[Value.int .i64 e.1,Value.int .i64 e.2]).length=l.length*2:=fun l=>by
  induction l with
  |nil=>rfl
  |cons e l ih=>rw[List.flatMap_cons,List.length_append,ih];simp;omega
 rw[this];simp
theorem row2_store (l:List (Int×Int)) (e:Int×Int) (k:Nat):row2 (l++[e]) k=(row2 l (k+1)).take (l.length*2)++[Value.int .i64 e.1,Value.int .i64 e.2]++(row2 l (k+1)).drop (l.length*2+[Value.int .i64 e.1,Value.int .i64 e.2].length):=by
 have hl:(l.flatMap fun e=>[Value.int .i64 e.1,Value.int .i64 e.2]).length=l.length*2:=by
  have:=row2_len l 0;rw[row2,List.length_append] at this;simp[repX] at this
  simpa using this
 simp only[row2,repX,List.flatMap_append,List.flatMap_cons,List.flatMap_nil,List.append_nil];rw[← hl,List.take_left,List.drop_append];simp
end Go.Proofs.YtcihknonfcldeaaDoor
namespace Go.Proofs.YtcihknonfcldeaaDoor.U
open Go Go.RowKit Go.Sort
set_option linter.unusedVariables false
set_option linter.unusedSimpArgs false
set_option maxRecDepth 100000
set_option maxHeartbeats 40000000
theorem fm_get {α:Type} [Inhabited α] {enc:α->List Value}{k:Nat}(hk:∀x,(enc x).length=k):∀(es:List α) (i c:Nat),c<k->i<es.length->(es.flatMap enc)[i*k+c]?=(enc es[i]!)[c]?
 |[],i,c,_,h=>absurd h (Nat.not_lt_zero _)
 |x::es,0,c,hc,_=>by
  rw[List.flatMap_cons,Nat.zero_mul,Nat.zero_add,List.getElem?_append_left (by rw[hk];exact hc)]
  rfl
 |x::es,i+1,c,hc,h=>by
  have e:(i+1)*k+c-(enc x).length=i*k+c:=by rw[hk,Nat.succ_mul];omega
  rw[List.flatMap_cons,List.getElem?_append_right (by rw[hk,Nat.succ_mul];omega),e,fm_get hk es i c hc (by simpa using h)]
  simp
theorem fm_len {α:Type}{enc:α->List Value}{k:Nat}(hk:∀x,(enc x).length=k):∀(es:List α),(es.flatMap enc).length=es.length*k
 |[]=>by simp
 |x::es=>by rw[List.flatMap_cons,List.length_append,fm_len hk es,hk,List.length_cons,Nat.succ_mul];omega
theorem flatK_get {α:Type} [Inhabited α] {enc:α->List Value}{k:Nat}(hk:∀x,(enc x).length=k) (es:List α) {j:Nat}(hj:j<es.length*k):(es.flatMap enc)[j]?=some ((flatK enc k es.toArray)[j]!):=by
 have h0:0<k:=by
  rcases Nat.eq_zero_or_pos k with h|h
  ·subst h;omega
  ·exact h
 have h1:j / k<es.length:=Nat.div_lt_of_lt_mul (by rw[Nat.mul_comm];exact hj)
 have h2:j % k<k:=Nat.mod_lt _ h0;rw[get_flatK _ _ _ _ (by simpa using hj)];have h3:=fm_get hk es (j / k) (j % k) h2 h1;rw[Nat.mul_comm,Nat.div_add_mod] at h3;refine h3.trans ?_;have h4:∀(l:List Value) (i:Nat),i<l.length->l[i]?=some l[i]!:=fun l i h=>by simp[h]
 rw[show es.toArray[j / k]! = es[j / k]! by simp]
 exact h4 (enc es[j / k]!) _ (by rw[hk];exact h2)
theorem sortAt {α:Type} [Inhabited α] {P:Program}{f g:FuncId}{T:TypeId}{enc:α->List Value}{k:Nat}(hk:∀x,(enc x).length=k) (hfl:∀x,∀v∈enc x,flat1 v=true) (h1:∀x,∀v∈enc x,v.oneCell'=true)
  {srt:List α->List α}(hlen:∀l,(srt l).length=l.length)
  (hC:∀(d:List α) (W:World) (r cap:Nat),HoldsK enc k W r 0 d.toArray->r<W.heap.size->d.length≤1000000->Calls P f #[.slice (some ⟨r,0,none⟩) d.length cap,.func (.func g) #[] #[]] W fun e w'=>e=.returned (.tuple #[])∧∃n os,w'=sortWorldK enc k W r 0 n (srt d).toArray os)
  {es:List α}{tl:List Value}{s:AS}{b n c:Nat}{op:Bool}(hb:s.heap.get b=some (.cells T (es.flatMap enc++tl) op)) (hlo:s.lo≤b) (hn:es.length=n) (hm:n≤1000000) {K:Value->AS->Prop}(hK:K (.tuple ⟨[]⟩) ⟨s.heap.set b (some (.cells T ((srt es).flatMap enc++tl) op)),s.next,s.lo,s.glb⟩) :
  SoundAt P f [.slice (some ⟨b,0,none⟩) n c,.func (.func g) ⟨[]⟩ ⟨[]⟩] s K:=by
 subst hn;refine ⟨fun hl W0 β W vs hR hfa hv=>?_⟩
 obtain ⟨v0,vs,rfl,hv0,hv⟩:=hv.inv_cons;obtain ⟨v1,vs,rfl,hv1,hv⟩:=hv.inv_cons;cases hv.inv_nil;obtain ⟨r,sp,hr,rfl⟩:=hv0.sl_inv;have hv1:v1=.func (.func g) #[] #[]:=by
  cases hv1 with
  |flat _ h=>rfl
  |func g a a' b b' ha hb h1 h2 =>
   have e1:=List.eq_nil_of_length_eq_zero ha.symm;have e2:=List.eq_nil_of_length_eq_zero hb.symm;subst e1;subst e2;rfl
 subst hv1;obtain ⟨cs,fz,g1,g2,g3,g4,g5⟩:=hR.blk b _ r sp hb hr;have g2:=g2 hlo;subst g2;have hsz:∀l:List α,l.length=es.length->(flatK enc k l.toArray).size=es.length*k:=fun l hl=>by simp[hl]
 have hcell:∀j,j<es.length*k->cs[j]?=some ((flatK enc k es.toArray)[j]!):=fun j hj=>by
  have e:=flatK_get hk es hj;obtain ⟨q1,v,q2,q3⟩:=g5 j _ (by rw[List.getElem?_append_left (by rw[fm_len hk];exact hj)];exact e)
  have hf:flat1 ((flatK enc k es.toArray)[j]!)=true:=by
   obtain ⟨x,_,hx⟩:=List.mem_flatMap.1 (List.mem_of_getElem? e);exact hfl x _ hx
  rw[q2,q3.flat1_eq hf]
 have hH:HoldsK enc k W r 0 es.toArray:=fun j hj=>by
  rw[hsz es rfl] at hj;refine ⟨?_,?_⟩
  ·simp only[World.cell?,g1,Nat.zero_add];exact hcell j hj
  ·simp[World.frozen?,g1]
 have hrl:r<W.heap.size:=hR.lt b r sp hr;refine (hC es W r (c+sp) hH hrl hm).mono fun e w' ⟨he,m,os,hw⟩=>?_
 have hW:w'=grow (Sort.ahead (putRow id W r 0 (flatK enc k (srt es).toArray)) m) os:=hw;generalize hW1:Sort.ahead (putRow id W r 0 (flatK enc k (srt es).toArray)) m=W1 at hW
 have z1:W1.heap.size=W.heap.size:=by rw[← hW1];exact size_putRow ..
 have o1:∀i,i≠r->W1.heap[i]?=W.heap[i]?:=fun i hi=>by
  rw[← hW1];show (W.heap.modify r _)[i]?=_
  rw[Array.getElem?_modify,if_neg (Ne.symm hi)]
 have r1:W1.heap[r]?=some (.cells (putCells id 0 (flatK enc k (srt es).toArray) cs) T (0,0)):=by
  rw[← hW1];show (W.heap.modify r _)[r]?=_
  rw[Array.getElem?_modify,if_pos rfl,g1];rfl
 have hB1:Below W0.heap.size W0 W1:=by
  have hge:=hR.ge b r sp (by rw[hb];simp) hr hlo
  refine hR.below.trans ⟨by rw[← hW1];rfl,by rw[← hW1];rfl,by rw[← hW1];rfl,Nat.le_of_eq z1.symm,fun i hi=>o1 i (by omega)⟩
 have hb1:BlkR P β W1 r sp True (.cells T ((srt es).flatMap enc++tl) op):=by
  refine ⟨_,_,r1,fun _=>rfl,g3,?_,fun i u hu=>?_⟩
  ·rw[List.length_append,fm_len hk,hlen,← fm_len hk,← List.length_append,← g4];simp[putCells]
  ·by_cases hi:i<es.length*k
   ·rw[List.getElem?_append_left (by rw[fm_len hk,hlen];exact hi)] at hu
    have hx:∃x,u∈enc x:=by
     obtain ⟨x,_,hx⟩:=List.mem_flatMap.1 (List.mem_of_getElem? hu);exact ⟨x,hx⟩
    obtain ⟨x,hx⟩:=hx;rw[flatK_get hk (srt es) (by rw[hlen];exact hi)] at hu
    cases hu;refine ⟨h1 x _ hx,_,?_,.flat _ (hfl x _ hx)⟩;simp only[putCells,Array.getElem?_mapIdx,hcell i hi,Option.map_some];rw[if_pos ⟨Nat.zero_le _,by rw[hsz _ (hlen es)];omega⟩]
    rfl
   ·rw[List.getElem?_append_right (by rw[fm_len hk,hlen];omega)] at hu
    have hu':(es.flatMap enc++tl)[i]?=some u:=by
     rw[List.getElem?_append_right (by rw[fm_len hk];omega)]
     rw[fm_len hk,hlen] at hu;rw[fm_len hk];exact hu
    obtain ⟨q1,v,q2,q3⟩:=g5 i u hu';refine ⟨q1,v,?_,q3⟩;simp only[putCells,Array.getElem?_mapIdx,q2,Option.map_some];rw[if_neg (fun h=>hi (by have:=h.2;rw[hsz _ (hlen es)] at this;omega))]
 have hR1:=hR.write (by rw[hb];simp) hr hlo z1 o1 hB1 hb1
 have hB2:Below W1.heap.size W1 w':=by
  rw[hW];exact ⟨rfl,rfl,rfl,by simp,fun i hi=>by simp[grow,Array.getElem?_append,hi]⟩
 have hkd:KD W w':=(KD.write g1 ⟨by simp,by simp⟩ o1 z1 (by rw[← hW1];exact Nat.le_add_right _ _) (fun _ _ _ h0=>by cases h0;exact ⟨_,_,r1,by simp[putCells],fun _=>rfl⟩)).trans (KD.below hB2 (by rw[hW];exact Nat.le_refl _))
 exact ⟨_,_,_,he,hK,(Stp.turn _ (by rw[hb];simp) hlo (by rw[hb];intro h;cases h)).x,β,.refl hfa,hR1.later hB2,.tup [] [] rfl (fun i u v h=>by simp at h),hkd⟩
theorem below_grow {W w':World}(h:Below W.heap.size W w') (hd:W.drawn≤w'.drawn):∃q os',w'=grow (W.drewN q) os':=by
 refine ⟨w'.drawn-W.drawn,w'.heap.extract W.heap.size w'.heap.size,?_⟩;have hh:w'.heap=W.heap++w'.heap.extract W.heap.size w'.heap.size:=by
  apply Array.ext_getElem?;intro i;have hs:=h.size;rcases Nat.lt_or_ge i W.heap.size with hi|hi
  ·rw[h.block i hi,Array.getElem?_append_left hi]
  ·rw[Array.getElem?_append_right hi,Array.getElem?_extract];by_cases hi2:i<w'.heap.size
   ·rw[if_pos (by omega)];congr 1;omega
   ·rw[if_neg (by omega),Array.getElem?_eq_none (by omega)]
 have e1:=h.os;have e2:=h.tape;have e3:=h.output;obtain ⟨H,T,D,O,U'⟩:=w';obtain ⟨H0,T0,D0,O0,U0⟩:=W;simp only at hh e1 e2 e3 hd
 subst e1;subst e2;subst e3;have e4:D0+(D-D0)=D:=by omega
 simp only[grow,World.drewN,e4];rw[← hh]
theorem cmpLays {α:Type} [Inhabited α] {P:Program}{g:FuncId}{enc:α->List Value}{k:Nat}{cf:α->α->Int}(h:∀x y,DenU P [] g [.agg ⟨enc x⟩,.agg ⟨enc y⟩] (.int .i64 (cf x y))) (hf:∀x,(enc x).all flat1=true) (blk off size:Nat) (w:World):CmpLays P g #[] enc k cf blk off size w:=fun m os dk hdk x y=>by
 have hv:∀x,VR ⟨fun _=>none,fun _ _=>none⟩ (.agg ⟨enc x⟩) (.agg ⟨enc x⟩):=fun x=>.agg _ _ rfl fun i u v h1 h2=>by
  rw[h1] at h2;cases h2
  exact .flat _ (List.all_eq_true.1 (hf x) _ (List.mem_of_getElem? h1))
 refine ((h x y).out (fun _ _=>none) _ [.agg ⟨enc x⟩,.agg ⟨enc y⟩] (fun x hx=>by cases hx) (fun _ _ _ h=>by cases h) (.cons (hv x) (.cons (hv y) (.nil _)))).mono fun e w' ⟨v,z',he,⟨hb,hd⟩,_,_,hv'⟩=>?_
 have:v=.int .i64 (cf x y):=hv'.flat1_eq rfl;subst this;exact ⟨he,below_grow hb hd⟩
end Go.Proofs.YtcihknonfcldeaaDoor.U
namespace Go.Proofs.YtcihknonfcldeaaDoor
open Go Go.RowKit Go.Sort U
set_option linter.unusedVariables false
set_option linter.unusedSimpArgs false
set_option maxRecDepth 100000
set_option maxHeartbeats 40000000
theorem isNaN_d (x:Int):DenU Tryd.prog [] 76 [.int .i64 x] (.bool false):=by
 refine denU_of_body hmixU rfl Tryd.func76 rfl rfl rfl 0 ?_;intro Ts;have hne:(x != x)=false:=by simp
 (repeat' ((conv=>whnf);first|refine goD ?_|refine U.lw_c ?_ ?_<;>intro hb))
 all_goals (conv=>whnf)
 exact .same (.flat _ rfl) (congrArg Value.bool hne)
def cmpI (x y:Int):Int:=if x<y then -1 else if y<x then 1 else 0
theorem compare_d (x y:Int):DenU Tryd.prog [] 60 [.int .i64 x,.int .i64 y] (.int .i64 (cmpI x y)):=by
 refine denU_of_body hmixU rfl Tryd.func60 rfl rfl rfl 0 ?_;intro Ts;(repeat' ((conv=>whnf);first|refine goD ?_|refine ⟨_,isNaN_d _,clN,tab0 _,?_⟩|refine U.lw_c ?_ ?_<;>intro hb))
 all_goals (conv=>whnf)
 all_goals refine .same (.flat _ rfl) (congrArg (Value.int .i64) ?_)
 all_goals simp at *
 all_goals unfold cmpI
 ·rw[if_pos (by omega)]
 ·rw[if_neg (by omega),if_pos (by omega)]
 ·rw[if_neg (by omega),if_neg (by omega)]
def orI (l:List Int):Int:=(l.find? (fun x=>x != 0)).getD 0
theorem or_d (l:List Int) (hl:l.length≤maxI):DenU Tryd.prog [] 59 [imS (iL l)] (.int .i64 (orI l)):=by
 refine denU_of_body hmixU rfl Tryd.func59 rfl rfl rfl 0 ?_;intro Ts;(repeat' ((conv=>whnf);first|refine goD ?_|refine U.lw_c ?_ ?_<;>intro hb))
 (conv=>whnf);refine loop_inv (α:=List Int×List Int) (fun x=>x.1++x.2=l∧∀n∈x.1,n=0) (fun x=>(mkF [(2,.int .i64 0),(3,.int .i64 0),(6,imS (iL l)),(7,.int .i64 (iL l).length),(8,.int .i64 x.1.length)],⟨.e,0,0,0⟩)) (fun x=>x.2.length) ([],l) ⟨rfl,fun n hn=>by cases hn⟩ (Cov.slots rL ⟨rfl,rfl,rfl,rfl,rfl,trivial⟩) ?_
 rintro ⟨pre,rest⟩ ⟨p1,p2⟩
 dsimp only at p1 p2;subst p1;dsimp only;rcases rest with _|⟨x,rest⟩
 ·rw[List.append_nil] at *;have h3b:=U.lt_no iL_map pre;(repeat' ((conv=>whnf);first|refine goD ?_|refine U.lw_c ?_ ?_<;>intro hb))
  (conv=>whnf);refine .same (.flat _ rfl) (congrArg (Value.int .i64) ?_);have:pre.find? (fun x=>x != 0)=none:=List.find?_eq_none.2 fun n hn=>by simp[p2 n hn]
  simp[orI,this]
 ·obtain ⟨h3b,h3c,h3n,h3w⟩:=U.at4 iL_map pre (x) rest (hl);(repeat' ((conv=>whnf);first|refine goD ?_|refine U.lw_c ?_ ?_<;>intro hb))
  all_goals (conv=>whnf)
  ·refine .same (.flat _ rfl) (congrArg (Value.int .i64) ?_);have:pre.find? (fun x=>x != 0)=none:=List.find?_eq_none.2 fun n hn=>by simp[p2 n hn]
   simp[orI,List.find?_append,this,hb]
  ·refine ⟨(pre++[x],rest),⟨by simp,fun n hn=>?_⟩,by simp,?_⟩
   ·rcases List.mem_append.1 hn with h|h
    ·exact p2 n h
    ·simp at h hb;omega
   ·refine Cov.slots (s:=⟨.e,0,0,0⟩) (Nat.le_refl 0) ⟨rfl,rfl,rfl,rfl,?_,trivial⟩;exact congrArg some (congrArg (Value.int .i64) h3w)
def cmpE (a b:Int×Int):Int:=if a=b then 0 else orI [cmpI a.1 b.1,cmpI a.2 b.2]
theorem byNodes_d (a b:Int×Int):DenU Tryd.prog [] 41 [eK a,eK b] (.int .i64 (cmpE a b)):=by
 refine denU_of_sound hmixU fun Ts=>SoundAt.body hmixU Tryd.func41 rfl rfl rfl 0 ?_
 obtain ⟨a1,a2⟩:=a;obtain ⟨b1,b2⟩:=b;(repeat' ((conv=>whnf);first|refine goA ?_|refine U.SoundC.uF (or_d [cmpI a1 b1,cmpI a2 b2] (by simp[maxI])) rfl (.cons (.rowL (z:=1) zL rfl rfl iL_1 rfl rL (cleanIC _)) .nil) ?_|refine goB ?_|refine U.SoundAt.u (compare_d _ _) clN ?_|refine U.SoundC.u (compare_d _ _) clN ?_|refine U.drawX_p (D:=U.propX) 13 [] (by decide +kernel) (by decide +kernel) ?_|refine U.lw_c ?_ ?_<;>intro hb))
 all_goals (conv=>whnf)
 ·refine .same (.flat _ rfl) (congrArg (Value.int .i64) ?_);simp at hb
  simp[cmpE,hb]
 ·refine .same (.flat _ rfl) (congrArg (Value.int .i64) ?_);have:¬((a1,a2)=(b1,b2)):=fun e=>by cases e;simp at hb
  rw[cmpE,if_neg this]
theorem cmpE_lt (a b:Int×Int):ltOf cmpE a b=decide (a.1<b.1∨(a.1=b.1∧a.2<b.2)):=by
 obtain ⟨a1,a2⟩:=a;obtain ⟨b1,b2⟩:=b;unfold ltOf cmpE;by_cases h:(a1,a2)=(b1,b2)
 ·cases h;simp
 ·rw[if_neg h];rcases Int.lt_trichotomy a1 b1 with h1|h1|h1
  ·simp[orI,cmpI,h1]
  ·subst h1;rcases Int.lt_trichotomy a2 b2 with h2|h2|h2
   ·simp[orI,cmpI,h2]
   ·subst h2;exact absurd rfl h
   ·have:¬a2<b2:=by omega
    simp[orI,cmpI,h2,this]
  ·have h2:¬a1<b1:=by omega
   have h3:¬a1=b1:=by omega
   simp[orI,cmpI,h1,h2,h3]
theorem cmpE_swo:SWO (ltOf cmpE) where
 irrefl x:=by rw[cmpE_lt];simp
 trans x y z h1 h2:=by rw[cmpE_lt] at *;simp at *;omega
 ntrans x y z h1 h2:=by rw[cmpE_lt] at *;simp at *;omega
theorem cmpE_total (x y:Int×Int) (h1:ltOf cmpE x y=false) (h2:ltOf cmpE y x=false):x=y:=by
 rw[cmpE_lt] at *;obtain ⟨x1,x2⟩:=x;obtain ⟨y1,y2⟩:=y;simp at h1 h2
 have e1:x1=y1:=by omega
 have e2:x2=y2:=by omega
 rw[e1,e2]
def e2L (e:Int×Int):List Value:=[.int .i64 e.1,.int .i64 e.2]
theorem edgeCmp (blk off size:Nat) (w:World):CmpLays Tryd.prog 41 #[] e2L 2 cmpE blk off size w:=cmpLays byNodes_d (fun x=>rfl) blk off size w
def sortE (l:List (Int×Int)):List (Int×Int):=l.mergeSort fun x y=>!(ltOf cmpE) y x
end Go.Proofs.YtcihknonfcldeaaDoor
