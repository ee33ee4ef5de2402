import Derived.Test.YtcihknonfcldeaaDoorRows
import Derived.Handed
import Derived.Test.YtcihknonfcldeaaDoorKT01
import Derived.Test.YtcihknonfcldeaaDoorKT24
import Derived.Test.YtcihknonfcldeaaDoorKT29
namespace Go.Proofs.YtcihknonfcldeaaDoor.U
open Go Go.RowKit Go.Sort Go.ChangeShapes
set_option linter.unusedVariables false
set_option linter.unusedSimpArgs false
set_option maxRecDepth 100000
set_option maxHeartbeats 40000000
def DatB (P:Program):Nat->TypeId->List Value->Nat->Prop
 |0,_,_,_=>False
 |n+1,t,us,b=>match P.underlying t with
  |some .bool=>∃x,us=[.bool x]
  |some (.int k)=>∃m,us=[.int k m]∧(Lit.int k m).wf=true
  |some .string=>∃s:ByteArray,us=[.string s]∧s.size≤maxLen
  |some (.slice e)=>∃rows:List (List Value×Nat),us=[imS ((rows.map (·.1)).map (packV P e))]∧rows.length≤maxLen∧(∀r∈rows,r.1.length=P.cellsOf e∧DatB P n e r.1 r.2)∧(rows.map (·.2)).sum≤b
  |some (.struct fs)=>us.length=P.cellsOf t∧∃L:List (Field×Nat),L.map (·.1)=fs.toList∧(∀q∈L,1≤q.2∧DatB P n q.1.type ((us.drop q.1.offset).take (P.cellsOf q.1.type)) q.2)∧1+(L.map (·.2)).sum≤b
  |_=>False
theorem cells_packB {P:Program}{n:Nat}{e:TypeId}{r:List Value}{b:Nat}(h:DatB P n e r b):cellsOf (packV P e r)=r:=by
 cases n with
 |zero=>exact h.elim
 |succ n =>
  unfold DatB at h;unfold packV;split at h
  ·rename_i ht;rw[ht];obtain ⟨b,rfl⟩:=h;rfl
  ·rename_i ht;rw[ht];obtain ⟨m,rfl,_⟩:=h;rfl
  ·rename_i ht;rw[ht];obtain ⟨m,rfl,_⟩:=h;rfl
  ·rename_i ht;rw[ht];obtain ⟨m,rfl,_⟩:=h;rfl
  ·rename_i ht;rw[ht];rfl
  ·exact h.elim
theorem bulkAll {H:Type}:∀l:List (DataW H),Rows.uptoBulkAll l=(l.map Rows.uptoBulk).sum
 |[]=>rfl
 |d::l=>by rw[Rows.uptoBulkAll,bulkAll l,List.map_cons,List.sum_cons]
theorem bulk_pos {H:Type}(d:DataW H):1≤Rows.uptoBulk d:=by
 cases d with
 |lit l=>cases l<;>simp[Rows.uptoBulk]
 |nil=>simp[Rows.uptoBulk]
 |ptr d=>simp[Rows.uptoBulk]
 |slice elems spare=>simp[Rows.uptoBulk]
 |agg parts=>simp[Rows.uptoBulk]
 |iface t d=>simp[Rows.uptoBulk]
 |map entries=>simp[Rows.uptoBulk]
 |held h=>simp[Rows.uptoBulk]
section
variable {H : Type} {enc : TypeId × Value → H} {P : Program} {w : World}
theorem open_fieldsB {n:Nat}{cs:List Value}:∀(fs:List (Field×Nat)) (off:Nat),layF P (fs.map (·.1)) off cs.length=true ->
  (∀f∈fs,∃us,DatB P n f.1.type us f.2∧VRs (bz w) us ((cs.drop f.1.offset).take (P.cellsOf f.1.type))∧∀c∈(cs.drop f.1.offset).take (P.cellsOf f.1.type),c.oneCell'=true) ->
  ∃us,VRs (bz w) us (cs.drop off)∧(∀c∈cs.drop off,c.oneCell'=true)∧∀f∈fs,off≤f.1.offset∧DatB P n f.1.type ((us.drop (f.1.offset-off)).take (P.cellsOf f.1.type)) f.2
 |[],off,h,_=>by
  have h:off=cs.length:=by simpa [layF] using h
  subst h;exact ⟨[],by simpa using VRs.nil _,by simp,fun f hf=>by cases hf⟩
 |f::fs,off,h,hf=>by
  simp only[List.map_cons,layF,Bool.and_eq_true,beq_iff_eq] at h;obtain ⟨h0,h1⟩:=h;obtain ⟨us1,d1,v1,c1⟩:=hf f (by simp)
  rw[h0] at v1 c1;obtain ⟨us2,v2,c2,h2⟩:=open_fieldsB fs (off+P.cellsOf f.1.type) h1 fun g hg=>hf g (List.mem_cons_of_mem _ hg)
  have hle:=layF_le h1;have e:cs.drop off=(cs.drop off).take (P.cellsOf f.1.type)++cs.drop (off+P.cellsOf f.1.type):=by
   rw[← List.drop_drop,List.take_append_drop]
  have hl:us1.length=P.cellsOf f.1.type:=by rw[v1.1];simp;omega
  refine ⟨us1++us2,by rw[e];exact v1.app v2,fun c hc=>?_,fun g hg=>?_⟩
  ·rw[e,List.mem_append] at hc;exact hc.elim (c1 c) (c2 c)
  ·rcases List.mem_cons.1 hg with rfl|hg
   ·rw[h0];refine ⟨Nat.le_refl _,?_⟩;rw[Nat.sub_self,List.drop_zero,← hl,List.take_left];exact d1
   ·obtain ⟨q1,q2⟩:=h2 g hg;refine ⟨by omega,?_⟩
    rw[List.drop_append,List.drop_eq_nil_of_le (by omega),List.nil_append,hl,show g.1.offset-off-P.cellsOf f.1.type=g.1.offset-(off+P.cellsOf f.1.type) by omega];exact q2
theorem open_dataB {ts:List TypeId}(hts:okTys P ts=true) {base:Nat}{held:Bool}:∀(fuel:Nat) (t:TypeId) (cs:List Value) (x:DataW H×List MemPlace),t∈ts->DataW.trod enc P w base (fun _=>true) held fuel t cs=some x ->
  ∃us,DatB P fuel t us (Rows.uptoBulk x.1)∧VRs (bz w) us cs∧∀c∈cs,c.oneCell'=true:=by
 intro fuel;induction fuel with
 |zero=>intro t cs x _ h;simp[DataW.trod] at h
 |succ fuel ih =>
  intro t cs x ht h;have hk:=List.all_eq_true.1 hts t ht;split at hk
  ·rename_i hu;obtain ⟨b,rfl,rfl⟩:=DataW.trod_bool hu h;exact ⟨[.bool b],by unfold DatB;rw[hu];exact ⟨b,rfl⟩,.cons (.of_flat _ rfl) (.nil _),fun c hc=>by rw[List.mem_singleton] at hc;subst hc;rfl⟩
  ·rename_i k hu;obtain ⟨m,rfl,rfl,hw⟩:=DataW.trod_int hu h;exact ⟨[.int k m],by unfold DatB;rw[hu];exact ⟨m,rfl,hw⟩,.cons (.of_flat _ rfl) (.nil _),fun c hc=>by rw[List.mem_singleton] at hc;subst hc;rfl⟩
  ·rename_i hu;obtain ⟨s,rfl,rfl,hw⟩:=DataW.trod_string hu h;exact ⟨[.string s],by unfold DatB;rw[hu];exact ⟨s,rfl,hw⟩,.cons (.of_flat _ rfl) (.nil _),fun c hc=>by rw[List.mem_singleton] at hc;subst hc;rfl⟩
  ·rename_i e hu;simp only[Bool.and_eq_true,List.contains_iff_mem,decide_eq_true_eq] at hk;obtain ⟨he,hz0⟩:=hk;rcases DataW.trod_slice hu h with ⟨rfl,rfl⟩|⟨a,len,cap,elems,rest,n,hn,rfl,rfl,hb,hlc,hcm,hel,hall,hsp,_⟩
   ·exact ⟨[imS []],by unfold DatB;rw[hu];exact ⟨[],rfl,Nat.zero_le _,(fun r hr=>by cases hr),Nat.zero_le _⟩,.cons .imn (.nil _),fun c hc=>by rw[List.mem_singleton] at hc;subst hc;rfl⟩
   ·obtain rfl:n=fuel:=by omega
    have hc1:∀c∈[Value.slice (some a) len cap],c.oneCell'=true:=fun c hc=>by rw[List.mem_singleton] at hc;subst hc;rfl
    by_cases hcap:cap=0
    ·subst hcap;obtain rfl:len=0:=by omega
     exact ⟨[imS []],by unfold DatB;rw[hu];exact ⟨[],rfl,Nat.zero_le _,(fun r hr=>by cases hr),Nat.zero_le _⟩,.cons (.imn _) (.nil _),hc1⟩
    ·have hspot:a.spot=none:=by
      have one:∀i,(∃y,(w.cells? base (a.add (i*P.cellsOf e)) (P.cellsOf e)).bind (DataW.trod enc P w base (fun _=>true) held n e)=some y)->i=0->a.spot=none:=by
       rintro i ⟨y,hy⟩ rfl
       obtain ⟨cs0,h1,_⟩:=Option.bind_eq_some_iff.1 hy;obtain ⟨h2,h3⟩:=cells_at h1;have h4:=h3 0 cs0[0] (List.getElem?_eq_getElem (by omega))
       have:=spotOf_cell h4;simpa [Addr.add] using this
      by_cases hl0:len=0
      ·obtain ⟨q1,q2⟩:=hsp rfl;have:=q2 0 (by omega)
       exact one 0 ⟨rest[0],by rw[hl0] at this;simpa [List.getElem?_eq_getElem (show 0<rest.length by omega)] using this⟩ rfl
      ·have:=hall 0 (by omega)
       exact one 0 ⟨elems[0],by simpa [List.getElem?_eq_getElem (show 0<elems.length by omega)] using this⟩ rfl
     obtain ⟨r,off,sp⟩:=a;simp only at hspot
     subst hspot;have ex:∀i:Nat,∃y:List Value×List Value,i<len->w.cells? base ((⟨r,off,none⟩:Addr).add (i*P.cellsOf e)) (P.cellsOf e)=some y.2∧DatB P n e y.1 ((elems[i]?.map fun d=>Rows.uptoBulk d.1).getD 0)∧VRs (bz w) y.1 y.2∧∀c∈y.2,c.oneCell'=true:=fun i=>by
      by_cases hi:i<len
      ·have:=hall i hi;rw[List.getElem?_eq_getElem (by omega)] at this;obtain ⟨cs',h1,h2⟩:=Option.bind_eq_some_iff.1 this;obtain ⟨us',d1,v1,c1⟩:=ih e cs' _ he h2;exact ⟨(us',cs'),fun _=>⟨h1,by rw[List.getElem?_eq_getElem (show i<elems.length by omega)];exact d1,v1,c1⟩⟩
      ·exact ⟨([],[]),fun h=>absurd h hi⟩
     obtain ⟨Y,hY⟩:=Classical.axiomOfChoice ex;have hY2:∀i∈List.range len,(Y i).2.length=P.cellsOf e:=fun i hi=>(cells_at (hY i (List.mem_range.1 hi)).1).1
     have hY1:∀i∈List.range len,(Y i).1.length=P.cellsOf e:=fun i hi=>by rw[(hY i (List.mem_range.1 hi)).2.2.1.1];exact hY2 i hi
     have hxs:cellsAll (((List.range len).map fun i=>(Y i).1).map (packV P e))=(List.range len).flatMap fun i=>(Y i).1:=by
      rw[cellsAll,List.map_map,List.flatMap_map];rw[List.flatMap_def,List.flatMap_def];congr 1
      refine List.map_congr_left fun i hi=>?_
      exact cells_packB (hY i (List.mem_range.1 hi)).2.1
     have hfl:∀(f:Nat->List Value),(∀i∈List.range len,(f i).length=P.cellsOf e)->((List.range len).flatMap f).length=len*P.cellsOf e:=fun f hf=>by
      rw[List.length_flatMap,List.map_congr_left hf,List.map_const',List.sum_replicate_nat,List.length_range]
     refine ⟨[imS (((List.range len).map fun i=>(Y i).1).map (packV P e))],by
      unfold DatB;rw[hu];refine ⟨(List.range len).map fun i=>((Y i).1,(elems[i]?.map fun d=>Rows.uptoBulk d.1).getD 0),by rw[List.map_map,List.map_map,List.map_map];rfl,by simp;omega,fun r hr=>?_,?_⟩
      ·obtain ⟨i,hi,rfl⟩:=List.mem_map.1 hr;exact ⟨hY1 i hi,(hY i (List.mem_range.1 hi)).2.1⟩
      ·have e1:(((List.range len).map fun i=>((Y i).1,(elems[i]?.map fun d=>Rows.uptoBulk d.1).getD 0)).map (·.2))=(elems.map (·.1)).map Rows.uptoBulk:=by
        rw[List.map_map,List.map_map];refine List.ext_getElem (by simp[hel]) fun i h1 h2=>?_
        have hi:i<elems.length:=by simpa using h2
        simp[List.getElem?_eq_getElem hi]
       rw[e1];show _≤Rows.uptoBulk (.slice (elems.map (·.1)) (rest.map (·.1)))
       rw[Rows.uptoBulk,bulkAll];omega,.cons ?_ (.nil _),hc1⟩
     have hlen:(((List.range len).map fun i=>(Y i).1).map (packV P e)).length=len:=by simp
     have hV:=VR.ims (β:=bz w) (((List.range len).map fun i=>(Y i).1).map (packV P e)) ((List.range len).flatMap fun i=>(Y i).2) (P.cellsOf e) r off cap (fun x hx=>by
      obtain ⟨y,hy,rfl⟩:=List.mem_map.1 hx;obtain ⟨i,hi,rfl⟩:=List.mem_map.1 hy;rw[cells_packB (hY i (List.mem_range.1 hi)).2.1];exact hY1 i hi) (by rw[hlen];exact hlc) (by rw[hxs,hfl _ hY1,hfl _ hY2]) (fun j v hj=>by
      obtain ⟨i,q,y,rfl,hq,hi,hv⟩:=flatMap_pos _ hY2 j v hj;have hil:=(List.getElem?_eq_some_iff.1 hi).1;simp only[List.length_range] at hil;rw[List.getElem?_range hil] at hi;cases hi;have:=(cells_at (hY i hil).1).2 q v hv
      rw[add_at,add_at] at this;refine cell_fzc ?_ ((hY i hil).2.2.2 v (List.mem_of_getElem? hv));rw[← Nat.add_assoc];exact this) (fun j u v hju hjv=>by
      rw[hxs] at hju;obtain ⟨i,q,y,rfl,hq,hi,hv⟩:=flatMap_pos _ hY1 j u hju;obtain ⟨i',q',y',e',hq',hi',hv'⟩:=flatMap_pos _ hY2 _ v hjv;have hil:=(List.getElem?_eq_some_iff.1 hi).1;have hil':=(List.getElem?_eq_some_iff.1 hi').1
      simp only[List.length_range] at hil hil'
      rw[List.getElem?_range hil] at hi;rw[List.getElem?_range hil'] at hi'
      cases hi;cases hi';have ei:i=i':=by
       have h1:(i*P.cellsOf e+q) / P.cellsOf e=i:=by rw[Nat.mul_comm,Nat.mul_add_div hz0,Nat.div_eq_of_lt hq];omega
       have h2:(i'*P.cellsOf e+q') / P.cellsOf e=i':=by rw[Nat.mul_comm,Nat.mul_add_div hz0,Nat.div_eq_of_lt hq'];omega
       rw[← h1,e',h2]
      subst ei;obtain rfl:q=q':=by omega
      exact (hY i hil).2.2.1.2 q u v hv hv') (fun v hv=>by
      obtain ⟨i,hi,hv⟩:=List.mem_flatMap.1 hv;exact (hY i (List.mem_range.1 hi)).2.2.2 v hv)
     rw[hlen] at hV;exact hV
  ·rename_i fs hu;simp only[Bool.and_eq_true] at hk;obtain ⟨hk1,hk2⟩:=hk;obtain ⟨xs,n,hn,rfl,hlen,hxl,hf⟩:=DataW.trod_struct hu h;obtain rfl:n=fuel:=by omega
   rw[← hlen] at hk2;have hzl:fs.toList.length=(xs.map fun y=>Rows.uptoBulk y.1).length:=by simp[hxl]
   have hz1:(fs.toList.zip (xs.map fun y=>Rows.uptoBulk y.1)).map (·.1)=fs.toList:=List.map_fst_zip (by omega)
   have hz2:(fs.toList.zip (xs.map fun y=>Rows.uptoBulk y.1)).map (·.2)=xs.map fun y=>Rows.uptoBulk y.1:=List.map_snd_zip (by omega)
   obtain ⟨us,v1,c1,d1⟩:=open_fieldsB (P:=P) (w:=w) (n:=n) (cs:=cs) (fs.toList.zip (xs.map fun y=>Rows.uptoBulk y.1)) 0 (by rw[hz1];exact hk2) fun q hm=>by
    obtain ⟨i,hi,hfi⟩:=List.mem_iff_getElem.1 hm;have hi0:i<fs.toList.length:=by simp at hi ⊢;omega
    have hi':i<fs.size:=by simpa using hi0
    have hix:i<xs.length:=by omega
    rw[List.getElem_zip] at hfi;subst hfi;have h1:=hf i fs.toList[i] (by rw[Array.getElem?_eq_getElem hi'];simp)
    rw[List.getElem?_eq_getElem hix] at h1;have hft:=List.all_eq_true.1 hk1 fs.toList[i] (List.getElem_mem hi0);simp only[List.contains_iff_mem] at hft;obtain ⟨us,e1,e2⟩:=ih fs.toList[i].type _ _ hft h1
    exact ⟨us,by simpa using e1,e2⟩
   rw[List.drop_zero] at v1 c1;refine ⟨us,?_,v1,c1⟩;unfold DatB;rw[hu];refine ⟨by rw[v1.1,hlen],_,hz1,fun f hm=>⟨?_,by simpa using (d1 f hm).2⟩,?_⟩
   ·obtain ⟨y,_,hy⟩:=List.mem_map.1 (hz2 ▸ List.mem_map_of_mem (f:=Prod.snd) hm);rw[← hy];exact bulk_pos _
   rw[hz2];show _≤Rows.uptoBulk (.agg (xs.map (·.1)))
   rw[Rows.uptoBulk,bulkAll,List.map_map];exact Nat.le_of_eq (Nat.add_comm _ _)
  ·cases hk
theorem all_mapB {α:Type}{p:α->Prop}{sz:α->Nat}{g:α->List Value}:∀(rows:List (List Value×Nat)),(∀r∈rows,∃y,(p y∧sz y≤r.2)∧r.1=g y)->∃l:List α,(∀y∈l,p y)∧rows.map (·.1)=l.map g∧(l.map sz).sum≤(rows.map (·.2)).sum
 |[],_=>⟨[],by simp,rfl,Nat.le_refl _⟩
 |r::rows,h=>by
  obtain ⟨y,⟨hy,h1⟩,h2⟩:=h r (by simp)
  obtain ⟨l,hl,h3,h4⟩:=all_mapB rows fun r hr=>h r (List.mem_cons_of_mem _ hr)
  refine ⟨y::l,fun z hz=>?_,by rw[List.map_cons,List.map_cons,h2,h3],by rw[List.map_cons,List.map_cons,List.sum_cons,List.sum_cons];omega⟩
  rcases List.mem_cons.1 hz with rfl|hz
  ·exact hy
  ·exact hl z hz
end
end Go.Proofs.YtcihknonfcldeaaDoor.U
namespace Go.Proofs.YtcihknonfcldeaaDoor
open Go Go.ChangeShapes Go.WideShapes Go.ChangeAt Go.RowKit Go.Joins U
set_option linter.unusedVariables false
set_option linter.unusedSimpArgs false
set_option maxRecDepth 100000
set_option maxHeartbeats 40000000
def tys6:List TypeId:=[25,40,22,56,60,23,54,3,2,9,38,57,53,37,58,30]
theorem tys6_ok:okTys Tryd.prog tys6=true:=by kernel_rfl
theorem cells_Expr:Tryd.prog.cellsOf 60=7:=by kernel_rfl
theorem cells_Stmt:Tryd.prog.cellsOf 56=7:=by kernel_rfl
theorem cells_Decl:Tryd.prog.cellsOf 40=9:=by kernel_rfl
theorem cells_Program:Tryd.prog.cellsOf 25=2:=by kernel_rfl
theorem cells_Pos:Tryd.prog.cellsOf 30=2:=by kernel_rfl
theorem mapf_cons {L:List (Field×Nat)}{f:Field}{l:List Field}(h:L.map (·.1)=f::l):∃b L',L=(f,b)::L'∧L'.map (·.1)=l:=by
 cases L with
 |nil=>cases h
 |cons q L =>
  obtain ⟨g,b⟩:=q;rw[List.map_cons] at h;cases h;exact ⟨b,L,rfl,rfl⟩
theorem mapf_nil {L:List (Field×Nat)}(h:L.map (·.1)=[]):L=[]:=List.map_eq_nil_iff.1 h
theorem datB_int {t:TypeId}{k:IntKind}(ht:Tryd.prog.underlying t=some (.int k)) {n b:Nat}{us:List Value}(h:DatB Tryd.prog n t us b):∃m,us=[.int k m]:=by
 cases n with
 |zero=>exact h.elim
 |succ n =>
  unfold DatB at h;rw[ht] at h;obtain ⟨m,h,_⟩:=h;exact ⟨m,h⟩
theorem datB_str {t:TypeId}(ht:Tryd.prog.underlying t=some .string) {n b:Nat}{us:List Value}(h:DatB Tryd.prog n t us b):∃s:ByteArray,us=[.string s]:=by
 cases n with
 |zero=>exact h.elim
 |succ n =>
  unfold DatB at h;rw[ht] at h;obtain ⟨s,h,_⟩:=h;exact ⟨s,h⟩
theorem datB_row {t e:TypeId}(ht:Tryd.prog.underlying t=some (.slice e)) {n b:Nat}{us:List Value}(h:DatB Tryd.prog n t us b):∃(k:Nat) (rows:List (List Value×Nat)),n=k+1∧us=[imS ((rows.map (·.1)).map (packV Tryd.prog e))]∧(∀r∈rows,r.1.length=Tryd.prog.cellsOf e∧DatB Tryd.prog k e r.1 r.2)∧(rows.map (·.2)).sum≤b:=by
 cases n with
 |zero=>exact h.elim
 |succ n =>
  unfold DatB at h;rw[ht] at h;obtain ⟨rows,h1,_,h2,h3⟩:=h;exact ⟨n,rows,rfl,h1,h2,h3⟩
theorem sum_two {α:Type}(g:α->Nat):∀l:List α,(l.map fun e=>2*g e).sum=2*(l.map g).sum
 |[]=>rfl
 |e::l=>by rw[List.map_cons,List.sum_cons,sum_two g l,List.map_cons,List.sum_cons];omega
theorem szAs_sum:∀l:List AE,szAs l=(l.map szA).sum
 |[]=>rfl
 |e::l=>by rw[szAs,szAs_sum l,List.map_cons,List.sum_cons]
theorem szTs_sum:∀l:List AS6,szTs l=(l.map szT).sum
 |[]=>rfl
 |e::l=>by rw[szTs,szTs_sum l,List.map_cons,List.sum_cons]
theorem pack_E (e:AE):packV Tryd.prog 60 (cellsOf (encA e))=encA e:=by
 unfold packV;rw[Tryd.underlying60];cases e;rfl
theorem pack_S (e:AS6):packV Tryd.prog 56 (cellsOf (encT e))=encT e:=by
 unfold packV;rw[Tryd.underlying56];cases e;rfl
theorem pos_dataB {n b:Nat}{us:List Value}(h:DatB Tryd.prog n 30 us b):∃x y,us=[.int .i64 x,.int .i64 y]:=by
 cases n with
 |zero=>exact h.elim
 |succ n =>
  unfold DatB at h;rw[Tryd.underlying30] at h;obtain ⟨hl,L0,hL0,h,hb⟩:=h;rw[cells_Pos] at hl;obtain ⟨c0,c1,rfl⟩:∃c0 c1,us=[c0,c1]:=by match us,hl with|[c0,c1],_=>exact ⟨c0,c1,rfl⟩
  obtain ⟨b0,L1,rfl,hL1⟩:=mapf_cons hL0;obtain ⟨b1,L2,rfl,hL2⟩:=mapf_cons hL1;obtain rfl:=mapf_nil hL2;obtain ⟨g0,h0⟩:=h _ (List.mem_cons_self ..);obtain ⟨g1,h1⟩:=h _ (List.mem_cons_of_mem _ (List.mem_cons_self ..))
  simp only[List.map_cons,List.map_nil,List.sum_cons,List.sum_nil] at hb;obtain ⟨x,e0⟩:=datB_int Tryd.underlying3 h0;obtain ⟨y,e1⟩:=datB_int Tryd.underlying3 h1;replace e0:[c0]=_:=e0;replace e1:[c1]=_:=e1
  simp only[List.cons.injEq,and_true] at e0 e1;subst e0 e1;exact ⟨x,y,rfl⟩
theorem exprs_dataB {n b:Nat}(ih:∀k<n,∀us b,DatB Tryd.prog k 60 us b->∃e:AE,2*szA e≤b∧us=cellsOf (encA e)) {us:List Value}(h:DatB Tryd.prog n 54 us b):∃l:List AE,2*szAs l≤b∧us=[imS (encAs l)]:=by
 obtain ⟨k,rows,rfl,rfl,hr,hs⟩:=datB_row Tryd.underlying54 h;obtain ⟨l,_,h2,h3⟩:=all_mapB (p:=fun _=>True) (sz:=fun e=>2*szA e) (g:=fun e=>cellsOf (encA e)) rows fun r hr'=>by
  obtain ⟨e,h1,h2⟩:=ih k (by omega) r.1 r.2 (hr r hr').2
  exact ⟨e,⟨trivial,h1⟩,h2⟩
 refine ⟨l,by rw[szAs_sum,← sum_two];omega,?_⟩
 rw[h2,List.map_map,encAs_map];congr 2
 exact List.map_congr_left fun e _=>pack_E e
theorem expr_dataB:∀(n:Nat) (us:List Value) (b:Nat),DatB Tryd.prog n 60 us b->∃e:AE,2*szA e≤b∧us=cellsOf (encA e):=by
 intro n;induction n using Nat.strongRecOn with
 |ind n ih =>
  intro us b h;cases n with
  |zero=>exact h.elim
  |succ n =>
   unfold DatB at h;rw[Tryd.underlying60] at h;obtain ⟨hl,L0,hL0,h,hb⟩:=h;rw[cells_Expr] at hl;obtain ⟨c0,c1,c2,c3,c4,c5,c6,rfl⟩:∃c0 c1 c2 c3 c4 c5 c6,us=[c0,c1,c2,c3,c4,c5,c6]:=by match us,hl with|[c0,c1,c2,c3,c4,c5,c6],_=>exact ⟨c0,c1,c2,c3,c4,c5,c6,rfl⟩
   obtain ⟨b0,L1,rfl,hL1⟩:=mapf_cons hL0;obtain ⟨b1,L2,rfl,hL2⟩:=mapf_cons hL1;obtain ⟨b2,L3,rfl,hL3⟩:=mapf_cons hL2;obtain ⟨b3,L4,rfl,hL4⟩:=mapf_cons hL3;obtain ⟨b4,L5,rfl,hL5⟩:=mapf_cons hL4;obtain ⟨b5,L6,rfl,hL6⟩:=mapf_cons hL5
   obtain rfl:=mapf_nil hL6;obtain ⟨g0,h0⟩:=h _ (List.mem_cons_self ..);obtain ⟨g1,h1⟩:=h _ (List.mem_cons_of_mem _ (List.mem_cons_self ..));obtain ⟨g2,h2⟩:=h _ (List.mem_cons_of_mem _ (List.mem_cons_of_mem _ (List.mem_cons_self ..)))
   obtain ⟨g3,h3⟩:=h _ (List.mem_cons_of_mem _ (List.mem_cons_of_mem _ (List.mem_cons_of_mem _ (List.mem_cons_self ..))));obtain ⟨g4,h4⟩:=h _ (List.mem_cons_of_mem _ (List.mem_cons_of_mem _ (List.mem_cons_of_mem _ (List.mem_cons_of_mem _ (List.mem_cons_self ..)))))
   obtain ⟨g5,h5⟩:=h _ (List.mem_cons_of_mem _ (List.mem_cons_of_mem _ (List.mem_cons_of_mem _ (List.mem_cons_of_mem _ (List.mem_cons_of_mem _ (List.mem_cons_self ..))))));simp only[List.map_cons,List.map_nil,List.sum_cons,List.sum_nil] at hb
   obtain ⟨m0,e0⟩:=datB_int Tryd.underlying57 h0;obtain ⟨m1,e1⟩:=datB_int Tryd.underlying2 h1;obtain ⟨m2,e2⟩:=datB_str Tryd.underlying9 h2;obtain ⟨m3,e3⟩:=datB_int Tryd.underlying58 h3;obtain ⟨l,k4,e4⟩:=exprs_dataB (fun k hk=>ih k (by omega)) h4
   obtain ⟨m5,m6,e5⟩:=pos_dataB h5;replace e0:[c0]=_:=e0;replace e1:[c1]=_:=e1;replace e2:[c2]=_:=e2;replace e3:[c3]=_:=e3;replace e4:[c4]=_:=e4;replace e5:[c5,c6]=_:=e5;simp only[List.cons.injEq,and_true] at e0 e1 e2 e3 e4 e5
   obtain ⟨e5,e6⟩:=e5;subst e0 e1 e2 e3 e4 e5 e6;exact ⟨.mk m0 m1 m2 m3 l m5 m6,by rw[szA];omega,rfl⟩
theorem stmts_dataB {n b:Nat}(ih:∀k<n,∀us b,DatB Tryd.prog k 56 us b->∃e:AS6,2*szT e≤b∧us=cellsOf (encT e)) {us:List Value}(h:DatB Tryd.prog n 23 us b):∃l:List AS6,2*szTs l≤b∧us=[imS (encTs l)]:=by
 obtain ⟨k,rows,rfl,rfl,hr,hs⟩:=datB_row Tryd.underlying23 h;obtain ⟨l,_,h2,h3⟩:=all_mapB (p:=fun _=>True) (sz:=fun e=>2*szT e) (g:=fun e=>cellsOf (encT e)) rows fun r hr'=>by
  obtain ⟨e,h1,h2⟩:=ih k (by omega) r.1 r.2 (hr r hr').2
  exact ⟨e,⟨trivial,h1⟩,h2⟩
 refine ⟨l,by rw[szTs_sum,← sum_two];omega,?_⟩
 rw[h2,List.map_map,encTs_map];congr 2
 exact List.map_congr_left fun e _=>pack_S e
theorem stmt_dataB:∀(n:Nat) (us:List Value) (b:Nat),DatB Tryd.prog n 56 us b->∃e:AS6,2*szT e≤b∧us=cellsOf (encT e):=by
 intro n;induction n using Nat.strongRecOn with
 |ind n ih =>
  intro us b h;cases n with
  |zero=>exact h.elim
  |succ n =>
   unfold DatB at h;rw[Tryd.underlying56] at h;obtain ⟨hl,L0,hL0,h,hb⟩:=h;rw[cells_Stmt] at hl;obtain ⟨c0,c1,c2,c3,c4,c5,c6,rfl⟩:∃c0 c1 c2 c3 c4 c5 c6,us=[c0,c1,c2,c3,c4,c5,c6]:=by match us,hl with|[c0,c1,c2,c3,c4,c5,c6],_=>exact ⟨c0,c1,c2,c3,c4,c5,c6,rfl⟩
   obtain ⟨b0,L1,rfl,hL1⟩:=mapf_cons hL0;obtain ⟨b1,L2,rfl,hL2⟩:=mapf_cons hL1;obtain ⟨b2,L3,rfl,hL3⟩:=mapf_cons hL2;obtain ⟨b3,L4,rfl,hL4⟩:=mapf_cons hL3;obtain ⟨b4,L5,rfl,hL5⟩:=mapf_cons hL4;obtain ⟨b5,L6,rfl,hL6⟩:=mapf_cons hL5
   obtain rfl:=mapf_nil hL6;obtain ⟨g0,h0⟩:=h _ (List.mem_cons_self ..);obtain ⟨g1,h1⟩:=h _ (List.mem_cons_of_mem _ (List.mem_cons_self ..));obtain ⟨g2,h2⟩:=h _ (List.mem_cons_of_mem _ (List.mem_cons_of_mem _ (List.mem_cons_self ..)))
   obtain ⟨g3,h3⟩:=h _ (List.mem_cons_of_mem _ (List.mem_cons_of_mem _ (List.mem_cons_of_mem _ (List.mem_cons_self ..))));obtain ⟨g4,h4⟩:=h _ (List.mem_cons_of_mem _ (List.mem_cons_of_mem _ (List.mem_cons_of_mem _ (List.mem_cons_of_mem _ (List.mem_cons_self ..)))))
   obtain ⟨g5,h5⟩:=h _ (List.mem_cons_of_mem _ (List.mem_cons_of_mem _ (List.mem_cons_of_mem _ (List.mem_cons_of_mem _ (List.mem_cons_of_mem _ (List.mem_cons_self ..))))));simp only[List.map_cons,List.map_nil,List.sum_cons,List.sum_nil] at hb
   obtain ⟨m0,e0⟩:=datB_int Tryd.underlying53 h0;obtain ⟨m1,e1⟩:=datB_str Tryd.underlying9 h1;obtain ⟨m2,k2,e2⟩:=exprs_dataB (fun k _=>expr_dataB k) h2
   obtain ⟨m3,k3,e3⟩:=stmts_dataB (fun k hk=>ih k (by omega)) h3
   obtain ⟨m4,k4,e4⟩:=stmts_dataB (fun k hk=>ih k (by omega)) h4
   obtain ⟨m5,m6,e5⟩:=pos_dataB h5;replace e0:[c0]=_:=e0;replace e1:[c1]=_:=e1;replace e2:[c2]=_:=e2;replace e3:[c3]=_:=e3;replace e4:[c4]=_:=e4;replace e5:[c5,c6]=_:=e5;simp only[List.cons.injEq,and_true] at e0 e1 e2 e3 e4 e5
   obtain ⟨e5,e6⟩:=e5;subst e0 e1 e2 e3 e4 e5 e6;exact ⟨.mk m0 m1 m2 m3 m4 m5 m6,by rw[szT];omega,rfl⟩
theorem strs_dataB {n b:Nat}{us:List Value}(h:DatB Tryd.prog n 38 us b):∃l:List ByteArray,us=[imS (sL l)]:=by
 obtain ⟨k,rows,rfl,rfl,hr,hs⟩:=datB_row Tryd.underlying38 h;obtain ⟨l,_,h2,_⟩:=all_mapB (p:=fun _=>True) (sz:=fun _=>0) (g:=fun s:ByteArray=>[Value.string s]) rows fun r hr'=>by
  obtain ⟨s,h1⟩:=datB_str Tryd.underlying9 (hr r hr').2;exact ⟨s,⟨trivial,Nat.zero_le _⟩,h1⟩
 refine ⟨l,?_⟩;rw[h2,List.map_map];rfl
theorem decl_dataB {n b:Nat}{us:List Value}(h:DatB Tryd.prog n 40 us b):∃d:ADc,2*(1+szTs d.body)≤b∧us=cellsOf (encDc d):=by
 cases n with
 |zero=>exact h.elim
 |succ n =>
  unfold DatB at h;rw[Tryd.underlying40] at h;obtain ⟨hl,L0,hL0,h,hb⟩:=h;rw[cells_Decl] at hl;obtain ⟨c0,c1,c2,c3,c4,c5,c6,c7,c8,rfl⟩:∃c0 c1 c2 c3 c4 c5 c6 c7 c8,us=[c0,c1,c2,c3,c4,c5,c6,c7,c8]:=by match us,hl with|[c0,c1,c2,c3,c4,c5,c6,c7,c8],_=>exact ⟨c0,c1,c2,c3,c4,c5,c6,c7,c8,rfl⟩
  obtain ⟨b0,L1,rfl,hL1⟩:=mapf_cons hL0;obtain ⟨b1,L2,rfl,hL2⟩:=mapf_cons hL1;obtain ⟨b2,L3,rfl,hL3⟩:=mapf_cons hL2;obtain ⟨b3,L4,rfl,hL4⟩:=mapf_cons hL3;obtain ⟨b4,L5,rfl,hL5⟩:=mapf_cons hL4;obtain ⟨b5,L6,rfl,hL6⟩:=mapf_cons hL5
  obtain ⟨b6,L7,rfl,hL7⟩:=mapf_cons hL6;obtain ⟨b7,L8,rfl,hL8⟩:=mapf_cons hL7;obtain rfl:=mapf_nil hL8;obtain ⟨g0,h0⟩:=h _ (List.mem_cons_self ..);obtain ⟨g1,h1⟩:=h _ (List.mem_cons_of_mem _ (List.mem_cons_self ..))
  obtain ⟨g2,h2⟩:=h _ (List.mem_cons_of_mem _ (List.mem_cons_of_mem _ (List.mem_cons_self ..)));obtain ⟨g3,h3⟩:=h _ (List.mem_cons_of_mem _ (List.mem_cons_of_mem _ (List.mem_cons_of_mem _ (List.mem_cons_self ..))))
  obtain ⟨g4,h4⟩:=h _ (List.mem_cons_of_mem _ (List.mem_cons_of_mem _ (List.mem_cons_of_mem _ (List.mem_cons_of_mem _ (List.mem_cons_self ..)))));obtain ⟨g5,h5⟩:=h _ (List.mem_cons_of_mem _ (List.mem_cons_of_mem _ (List.mem_cons_of_mem _ (List.mem_cons_of_mem _ (List.mem_cons_of_mem _ (List.mem_cons_self ..))))))
  obtain ⟨g6,h6⟩:=h _ (List.mem_cons_of_mem _ (List.mem_cons_of_mem _ (List.mem_cons_of_mem _ (List.mem_cons_of_mem _ (List.mem_cons_of_mem _ (List.mem_cons_of_mem _ (List.mem_cons_self ..)))))));obtain ⟨g7,h7⟩:=h _ (List.mem_cons_of_mem _ (List.mem_cons_of_mem _ (List.mem_cons_of_mem _ (List.mem_cons_of_mem _ (List.mem_cons_of_mem _ (List.mem_cons_of_mem _ (List.mem_cons_of_mem _ (List.mem_cons_self ..))))))))
  simp only[List.map_cons,List.map_nil,List.sum_cons,List.sum_nil] at hb;obtain ⟨m0,e0⟩:=datB_int Tryd.underlying37 h0;obtain ⟨m1,e1⟩:=datB_str Tryd.underlying9 h1;obtain ⟨m2,e2⟩:=datB_int Tryd.underlying2 h2
  obtain ⟨m3,e3⟩:=datB_int Tryd.underlying2 h3;obtain ⟨m4,e4⟩:=datB_int Tryd.underlying2 h4;obtain ⟨m5,e5⟩:=strs_dataB h5;obtain ⟨m6,k6,e6⟩:=stmts_dataB (fun k _=>stmt_dataB k) h6
  obtain ⟨m7,m8,e7⟩:=pos_dataB h7;replace e0:[c0]=_:=e0;replace e1:[c1]=_:=e1;replace e2:[c2]=_:=e2;replace e3:[c3]=_:=e3;replace e4:[c4]=_:=e4;replace e5:[c5]=_:=e5;replace e6:[c6]=_:=e6;replace e7:[c7,c8]=_:=e7
  simp only[List.cons.injEq,and_true] at e0 e1 e2 e3 e4 e5 e6 e7;obtain ⟨e7,e8⟩:=e7;subst e0 e1 e2 e3 e4 e5 e6 e7 e8;exact ⟨⟨m0,m1,m2,m3,m4,m5,m6,m7,m8⟩,by dsimp only;omega,rfl⟩
theorem decls_dataB {n b:Nat}{us:List Value}(h:DatB Tryd.prog n 22 us b):∃l:List ADc,2*szDs l≤b∧us=[imS (encDcs l)]:=by
 obtain ⟨k,rows,rfl,rfl,hr,hs⟩:=datB_row Tryd.underlying22 h;obtain ⟨l,_,h2,h3⟩:=all_mapB (p:=fun _=>True) (sz:=fun d:ADc=>2*(1+szTs d.body)) (g:=fun e=>cellsOf (encDc e)) rows fun r hr'=>by
  obtain ⟨e,h1,h2⟩:=decl_dataB (hr r hr').2;exact ⟨e,⟨trivial,h1⟩,h2⟩
 refine ⟨l,by rw[szDs,← sum_two];omega,?_⟩
 rw[h2,List.map_map,encDcs_map];congr 2
theorem program_dataB {n b:Nat}{us:List Value}(h:DatB Tryd.prog n 25 us b):∃p:APr,2*szPr p≤b∧us=cellsOf (encPr p):=by
 cases n with
 |zero=>exact h.elim
 |succ n =>
  unfold DatB at h;rw[Tryd.underlying25] at h;obtain ⟨hl,L0,hL0,h,hb⟩:=h;rw[cells_Program] at hl;obtain ⟨c0,c1,rfl⟩:∃c0 c1,us=[c0,c1]:=by match us,hl with|[c0,c1],_=>exact ⟨c0,c1,rfl⟩
  obtain ⟨b0,L1,rfl,hL1⟩:=mapf_cons hL0;obtain ⟨b1,L2,rfl,hL2⟩:=mapf_cons hL1;obtain rfl:=mapf_nil hL2;obtain ⟨g0,h0⟩:=h _ (List.mem_cons_self ..);obtain ⟨g1,h1⟩:=h _ (List.mem_cons_of_mem _ (List.mem_cons_self ..))
  simp only[List.map_cons,List.map_nil,List.sum_cons,List.sum_nil] at hb;obtain ⟨m0,k0,e0⟩:=decls_dataB h0;obtain ⟨m1,k1,e1⟩:=stmts_dataB (fun k _=>stmt_dataB k) h1
  replace e0:[c0]=_:=e0;replace e1:[c1]=_:=e1;simp only[List.cons.injEq,and_true] at e0 e1;subst e0 e1;exact ⟨⟨m0,m1⟩,by rw[szPr];dsimp only;omega,rfl⟩
theorem open_program {H:Type}{enc:TypeId×Value->H}{W:World}{v:Value}{d:DataW H}{p:List MemPlace}{b0 base:Nat}{r:Reach}{held:Bool}(hv:Value.okWide Tryd.prog W r b0 25 v) (h:DataW.Trod enc Tryd.prog W base (fun _=>true) held 25 v d p):∃s:APr,2*szPr s≤Rows.uptoBulk d∧VR (bz W) (encPr s) v:=by
 obtain ⟨cs,rfl,_⟩:=okWide_struct Tryd.underlying25 hv;obtain ⟨fuel,hf⟩:=h;obtain ⟨us,h1,h2,_⟩:=open_dataB tys6_ok fuel _ _ _ (by decide) hf
 obtain ⟨s,h3,rfl⟩:=program_dataB h1;refine ⟨s,h3,?_⟩;obtain ⟨l⟩:=cs;exact .agg _ _ h2.1 h2.2
end Go.Proofs.YtcihknonfcldeaaDoor
