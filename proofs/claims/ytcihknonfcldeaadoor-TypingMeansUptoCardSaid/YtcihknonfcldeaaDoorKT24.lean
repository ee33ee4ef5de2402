import Derived.Deep.Slices
import Derived.Lib.LaidTab
import Derived.Test.YtcihknonfcldeaaDoorKT18
import Derived.Test.YtcihknonfcldeaaDoorKT22
namespace Go.Proofs.YtcihknonfcldeaaDoor.U
open Go Go.RowKit Go.Sort Go.ChangeShapes
set_option linter.unusedVariables false
set_option linter.unusedSimpArgs false
set_option maxRecDepth 100000
set_option maxHeartbeats 40000000
def packV (P:Program) (e:TypeId) (r:List Value):Value :=
 match P.underlying e with
 |some (.struct _)=>.agg ⟨r⟩
 |_=>r.headD (.bool false)
def layF (P:Program):List Field->Nat->Nat->Bool
 |[],off,tot=>off==tot
 |f::fs,off,tot=>f.offset==off&&layF P fs (off+P.cellsOf f.type) tot
def okTys (P:Program) (ts:List TypeId):Bool:=ts.all fun t=>match P.underlying t with
 |some .bool|some (.int _)|some .string=>true
 |some (.slice e)=>ts.contains e&&decide (0<P.cellsOf e)
 |some (.struct fs)=>fs.toList.all (fun f=>ts.contains f.type)&&layF P fs.toList 0 (P.cellsOf t)
 |_=>false
def zW (w:World):Nat->Nat->Option Value:=fun r o=>fzc w ⟨r,o,none⟩
theorem spotOf_cell {w:World}{a:Addr}{v:Value}(h:w.cell? a=some v):a.spot=none:=by
 cases hsp:a.spot with
 |none=>rfl
 |some s =>
  simp only[World.cell?] at h;split at h
  ·simp[hsp] at h
  ·cases h
theorem cells_at {w:World}{base z:Nat}{a:Addr}{cs:List Value}(h:w.cells? base a z=some cs):cs.length=z∧∀q v,cs[q]?=some v->w.cell? (a.add q)=some v:=by
 unfold World.cells? at h
 split at h
 ·have hl:cs.length=z:=by simpa using Lib.mapM_length h
  refine ⟨hl,fun q v hq=>?_⟩
  have hlq:=(List.getElem?_eq_some_iff.1 hq).1;rw[hl] at hlq;obtain ⟨v',h2,h3⟩:=Lib.mapM_at h q q (by simp[hlq])
  rw[hq] at h2;cases h2;exact h3
 ·cases h
theorem flatMap_pos {α:Type}{c:α->List Value}{z:Nat}:∀(L:List α) (hz:∀y∈L,(c y).length=z) (j:Nat) (v:Value),(L.flatMap c)[j]?=some v->∃i q y,j=i*z+q∧q<z∧L[i]?=some y∧(c y)[q]?=some v
 |[],hz,j,v,h=>by simp at h
 |y::L,hz,j,v,h=>by
  rw[List.flatMap_cons] at h;have hy:=hz y (by simp)
  by_cases hj:j<z
  ·rw[List.getElem?_append_left (by rw[hy];exact hj)] at h
   exact ⟨0,j,y,by omega,hj,by simp,h⟩
  ·rw[List.getElem?_append_right (by rw[hy];omega),hy] at h
   obtain ⟨i,q,y',h1,h2,h3,h4⟩:=flatMap_pos L (fun y h=>hz y (List.mem_cons_of_mem _ h)) (j-z) v h
   exact ⟨i+1,q,y',by rw[Nat.add_mul];omega,h2,by simpa using h3,h4⟩
section
variable {H : Type} {enc : TypeId × Value → H} {P : Program} {w : World}
abbrev bz (w:World):Bt:=⟨fun _=>none,zW w⟩
theorem layF_le {P:Program}:∀{fs:List Field}{off tot:Nat},layF P fs off tot=true->off≤tot
 |[],off,tot,h=>by simp[layF] at h;omega
 |f::fs,off,tot,h=>by
  simp only[layF,Bool.and_eq_true] at h;have:=layF_le h.2;omega
end
end Go.Proofs.YtcihknonfcldeaaDoor.U
namespace Go.Proofs.YtcihknonfcldeaaDoor
open Go Go.RowKit Go.Sort U
set_option linter.unusedVariables false
set_option linter.unusedSimpArgs false
set_option maxRecDepth 100000
set_option maxHeartbeats 40000000
theorem hmixU:Tryd.prog.follows .mixedOrders=true:=by kernel_rfl
def maxI:Nat:=9223372036854775807
theorem cleanI (n:Int):NoNm (.int .i64 n):=.flat _ rfl
theorem wadd1 {i:Nat}(h:i<9223372036854775807):IntKind.i64.wrap ((i:Int)+1)=((i+1:Nat):Int):=by
 rw[IntKind.wrap_i64];omega
def iL (l:List Int):List Value:=l.map (Value.int .i64)
theorem iL_map (l:List Int):iL l=l.map (Value.int .i64):=rfl
theorem iL_len (l:List Int):(iL l).length=l.length:=List.length_map ..
theorem cellsI:∀l:List Int,cellsAll (iL l)=iL l
 |[]=>rfl
 |x::l=>by rw[iL,List.map_cons,cellsAll,List.flatMap_cons];exact congrArg _ (cellsI l)
theorem cleanIC (l:List Int):∀x,x∈cellsAll (iL l)->NoNm x:=fun c hc=>by
 rw[cellsI] at hc;obtain ⟨n,_,rfl⟩:=List.mem_map.1 hc;exact cleanI n
theorem cleanIL (l:List Int):NoNm (imS (iL l)):=.ims _ (cleanIC l)
theorem clN {P:Prop}(h:P:=by (repeat (first|exact trivial|((conv=>whnf);first|exact trivial|refine And.intro (by first|assumption|exact cleanI _|exact cleanIL _|exact NoNm.flat _ rfl) ?_)))):P:=h
theorem iL_1 {l:List Int}:∀y,y∈iL l->(cellsOf y).length=1:=fun y hy=>by
 obtain ⟨n,_,rfl⟩:=List.mem_map.1 hy;rfl
theorem iL_app (l m:List Int):iL (l++m)=iL l++iL m:=List.map_append
def gL (l:List (List Int)):List Value:=l.map fun r=>imS (iL r)
theorem gL_map (l:List (List Int)):gL l=l.map fun r=>imS (iL r):=rfl
theorem gL_len (l:List (List Int)):(gL l).length=l.length:=List.length_map ..
theorem cellsG:∀l:List (List Int),cellsAll (gL l)=gL l
 |[]=>rfl
 |x::l=>by rw[gL,List.map_cons,cellsAll,List.flatMap_cons];exact congrArg _ (cellsG l)
theorem cleanGC (l:List (List Int)):∀x,x∈cellsAll (gL l)->NoNm x:=fun c hc=>by
 rw[cellsG] at hc;obtain ⟨n,_,rfl⟩:=List.mem_map.1 hc;exact cleanIL n
theorem cleanGL (l:List (List Int)):NoNm (imS (gL l)):=.ims _ (cleanGC l)
theorem gL_1 {l:List (List Int)}:∀y,y∈gL l->(cellsOf y).length=1:=fun y hy=>by
 obtain ⟨n,_,rfl⟩:=List.mem_map.1 hy;rfl
def sL (l:List ByteArray):List Value:=l.map Value.string
theorem sL_map (l:List ByteArray):sL l=l.map Value.string:=rfl
theorem sL_len (l:List ByteArray):(sL l).length=l.length:=List.length_map ..
theorem cellsS:∀l:List ByteArray,cellsAll (sL l)=sL l
 |[]=>rfl
 |x::l=>by rw[sL,List.map_cons,cellsAll,List.flatMap_cons];exact congrArg _ (cellsS l)
theorem cleanSC (l:List ByteArray):∀x,x∈cellsAll (sL l)->NoNm x:=fun c hc=>by
 rw[cellsS] at hc;obtain ⟨n,_,rfl⟩:=List.mem_map.1 hc;exact .flat _ rfl
theorem cleanSL (l:List ByteArray):NoNm (imS (sL l)):=.ims _ (cleanSC l)
structure Gz where
 nm:List ByteArray
 st:List (List Int)
def encG (g:Gz):Value:=.agg ⟨[imS (sL g.nm),imS (gL g.st)]⟩
def okG (g:Gz):Prop:=g.nm.length≤1000000∧g.st.length≤maxI∧∀r∈g.st,r.length≤maxI
theorem cleanG_cells (g:Gz):∀c∈[imS (sL g.nm),imS (gL g.st)],NoNm c:=fun c hc=>by
 simp only[List.mem_cons,List.not_mem_nil,or_false] at hc;rcases hc with rfl|rfl
 ·exact cleanSL _
 ·exact cleanGL _
theorem cleanG (g:Gz):NoNm (encG g):=.agg _ (cleanG_cells g)
def okT (n:Nat) (t:Int):Bool:=decide (0≤t)&&decide (t<n)
def rightG (g:Gz):Bool:=decide (g.st.length=g.nm.length+1)&&g.st.all fun r=>r.all (okT g.nm.length)
theorem cright_d (g:Gz) (hg:okG g):DenU Tryd.prog [] 24 [encG g] (.bool (rightG g)):=by
 refine denU_of_body hmixU rfl Tryd.func24 rfl rfl rfl 0 ?_;intro Ts;obtain ⟨nm,st⟩:=g;obtain ⟨g1,g2,g3⟩:=hg;dsimp only at g1 g2 g3;have hw:IntKind.i64.wrap (((sL nm).length:Int)+1)=((nm.length+1:Nat):Int):=by rw[sL_len];exact wadd1 (by omega)
 by_cases hl:st.length=nm.length+1
 ·have hne:(((gL st).length:Int) != IntKind.i64.wrap (((sL nm).length:Int)+1))=false:=by rw[hw,gL_len,hl];simp
  (repeat' ((conv=>whnf);first|refine goD ?_|refine U.lw_c ?_ ?_<;>intro hb))
  (conv=>whnf);refine loop_inv (α:=List (List Int)×List (List Int)) (fun x=>x.1++x.2=st∧(x.1.all fun r=>r.all (okT nm.length))=true) (fun x=>(mkF [(1,.pointer (some ⟨0,0,none⟩)),(2,.bool false),(16,imS (gL st)),(17,.int .i64 (gL st).length),(18,.int .i64 x.1.length)],⟨mkO [(0,some (.cells 48 [imS (sL nm),imS (gL st)] false))],1,0,0⟩)) (fun x=>x.2.length) ([],st) ⟨rfl,rfl⟩ (Cov.renO (fun k=>k) rfl rfl (Nat.le_refl 1) zL (fun _ _=>rfl) rfl nlz (.W rfl (cleanG_cells ⟨nm,st⟩) rfl .nil) (.cons rfl (.P rfl) (.K rfl rfl rfl (.L rfl (cleanGL _) rfl (.cons rfl .I (.cons rfl .I .nil)))))) ?_
  rintro ⟨pre,rest⟩ ⟨p1,p2⟩
  dsimp only at p1 p2;subst p1;dsimp only;rcases rest with _|⟨x,rest⟩
  ·rw[List.append_nil] at *;have h3b:=U.lt_no gL_map pre;(repeat' ((conv=>whnf);first|refine goD ?_|refine U.lw_c ?_ ?_<;>intro hb))
   (conv=>whnf);exact .same (.flat _ rfl) (congrArg Value.bool (by simp[rightG,hl,p2]))
  ·obtain ⟨h3b,h3c,h3n,h3w⟩:=U.at4 gL_map pre (x) rest (g2);have hx:=g3 x (by simp)
   (repeat' ((conv=>whnf);first|refine goD ?_|refine U.lw_c ?_ ?_<;>intro hb))
   (conv=>whnf);refine loop_inv (α:=List Int×List Int) (fun y=>y.1++y.2=x∧y.1.all (okT nm.length)=true) (fun y=>(mkF [(1,.pointer (some ⟨0,0,none⟩)),(2,.bool false),(16,imS (gL (pre++x::rest))),(17,.int .i64 (gL (pre++x::rest)).length),(18,.int .i64 pre.length),(22,imS (iL x)),(23,.int .i64 (iL x).length),(24,.int .i64 y.1.length)],⟨mkO [(0,some (.cells 48 [imS (sL nm),imS (gL (pre++x::rest))] false))],1,0,0⟩)) (fun y=>y.2.length) ([],x) ⟨rfl,rfl⟩ (Cov.slots rL ⟨rfl,rfl,rfl,rfl,rfl,rfl,rfl,rfl,trivial⟩) ?_
   rintro ⟨p,q⟩ ⟨p3,p4⟩
   dsimp only at p3 p4;subst p3;dsimp only;rcases q with _|⟨t,q⟩
   ·rw[List.append_nil] at *;have h4b:=U.lt_no iL_map p;(repeat' ((conv=>whnf);first|refine goD ?_|refine U.lw_c ?_ ?_<;>intro hb))
    (conv=>whnf);refine ⟨(pre++[p],rest),⟨by simp,by rw[List.all_append,p2];simp[p4]⟩,by simp,?_⟩
    refine Cov.slots (s:=⟨mkO [(0,some (.cells 48 [imS (sL nm),imS (gL (pre++p::rest))] false))],1,0,0⟩) (Nat.le_refl 1) ⟨rfl,rfl,rfl,rfl,?_,trivial⟩;exact congrArg some (congrArg (Value.int .i64) h3w)
   ·obtain ⟨h4b,h4c,h4n,h4w⟩:=U.at4 iL_map p (t) q (hx);(repeat' ((conv=>whnf);first|refine goD ?_|refine U.lw_c ?_ ?_<;>intro hb))
    all_goals (conv=>whnf)
    ·have h5:¬okT nm.length t=true:=by simp at hb;simp[okT];omega
     exact .same (.flat _ rfl) (congrArg Value.bool (by simp[rightG,h5]))
    ·have h5:¬okT nm.length t=true:=by rw[sL_len] at hb;simp at hb;simp[okT];omega
     exact .same (.flat _ rfl) (congrArg Value.bool (by simp[rightG,h5]))
    ·have h5:okT nm.length t=true:=by rename_i hb0;rw[sL_len] at hb;simp at hb hb0;simp[okT];omega
     refine ⟨(p++[t],q),⟨by simp,by rw[List.all_append,p4];simp[h5]⟩,by simp,?_⟩
     refine Cov.slots (s:=⟨mkO [(0,some (.cells 48 [imS (sL nm),imS (gL (pre++(p++t::q)::rest))] false))],1,0,0⟩) (Nat.le_refl 1) ⟨rfl,rfl,rfl,rfl,rfl,rfl,rfl,?_,trivial⟩;exact congrArg some (congrArg (Value.int .i64) h4w)
 ·have hne:(((gL st).length:Int) != IntKind.i64.wrap (((sL nm).length:Int)+1))=true:=by rw[hw,gL_len];simp;omega
  (repeat' ((conv=>whnf);first|refine goD ?_|refine U.lw_c ?_ ?_<;>intro hb))
  (conv=>whnf);exact .same (.flat _ rfl) (congrArg Value.bool (by simp[rightG,hl]))
end Go.Proofs.YtcihknonfcldeaaDoor
