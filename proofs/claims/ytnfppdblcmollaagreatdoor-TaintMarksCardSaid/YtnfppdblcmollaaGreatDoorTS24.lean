
import Derived.Test.YtnfppdblcmollaaGreatDoorTS22
import Derived.Test.YtnfppdblcmollaaGreatDoorTS23
namespace Go.Proofs.YtnfppdblcmollaaGreatDoor
open Go Go.RowKit Go.Sort U
set_option linter.unusedVariables false
set_option linter.unusedSimpArgs false
set_option maxRecDepth 100000
set_option maxHeartbeats 40000000
structure VZ where
 lo:Int
 hi:Int
 m:Int
 r:Int
def encV (v:VZ):Value:=.agg ⟨[.int .i64 v.lo,.int .i64 v.hi,.int .u64 v.m,.int .u64 v.r]⟩
def botZ:VZ:=⟨1,0,1,0⟩
def oneZ (n:Int):VZ:=⟨n,n,0,IntKind.u64.wrap n⟩
def rangeZ (lo hi:Int):VZ:=if lo > hi then botZ else if lo=hi then oneZ lo else ⟨lo,hi,1,0⟩
theorem one0_d:DenU Tryz.prog [] 68 [.int .i64 0] (encV ⟨0,0,0,0⟩):=by
 refine denU_of_run hmixU rfl 100 20 20 fun Ts=>?_
 (repeat' ((conv=>whnf);first|refine goD ?_|refine U.lw_c ?_ ?_<;>intro hb))
 (conv=>whnf);exact .same (.flat _ rfl) rfl
theorem bottom_d:DenU Tryz.prog [] 146 [] (encV botZ):=by
 refine denU_of_run hmixU rfl 100 20 20 fun Ts=>?_
 (repeat' ((conv=>whnf);first|refine goD ?_|refine U.lw_c ?_ ?_<;>intro hb))
 (conv=>whnf);exact .same (.flat _ rfl) rfl
theorem minus0_d:DenU Tryz.prog [] 249 [.int .u64 0,.int .u64 0,.int .u64 1] (.int .u64 0):=by
 refine denU_of_run hmixU rfl 100 20 20 fun Ts=>?_
 (repeat' ((conv=>whnf);first|refine goD ?_|refine U.lw_c ?_ ?_<;>intro hb))
 (conv=>whnf);exact .same (.flat _ rfl) rfl
theorem wu_nn (x:Int):0≤IntKind.u64.wrap x:=by rw[IntKind.wrap_u64];omega
theorem rest1_d (n:Int):DenU Tryz.prog [] 250 [.int .i64 n,.int .u64 1] (.int .u64 0):=by
 refine denU_of_body hmixU rfl Tryz.func250 rfl rfl rfl 0 ?_;intro Ts;have h1:DenU Tryz.prog [] 249 [.int .u64 0,.int .u64 ((IntKind.u64.wrap (0-IntKind.u64.wrap n)).tmod 1),.int .u64 1] (.int .u64 0):=by rw[Int.tmod_one];exact minus0_d
 (repeat' ((conv=>whnf);first|refine goD ?_|refine ⟨_,h1,clM,tab0 _,?_⟩|refine U.lw_c ?_ ?_<;>intro hb))
 all_goals (conv=>whnf)
 ·exact .same (.flat _ rfl) (congrArg (Value.int .u64) (Int.tmod_one _))
 ·exact .same (.flat _ rfl) rfl
theorem least1_d (n:Int) (h:-9223372036854775808≤n∧n≤9223372036854775807):DenU Tryz.prog [] 205 [.agg ⟨[.int .u64 1,.int .u64 0]⟩,.int .i64 n] (.tuple ⟨[.int .i64 n,.bool true]⟩):=by
 refine denU_of_body hmixU rfl Tryz.func205 rfl rfl rfl 0 ?_;intro Ts;have h1:=minus0_d;have h2:=rest1_d n;(repeat' ((conv=>whnf);first|refine goD ?_|refine ⟨_,h1,clM,tab0 _,?_⟩|refine ⟨_,h2,clM,tab0 _,?_⟩|refine U.drawX_p (D:=U.propX) 13 [] (by decide +kernel) (by decide +kernel) ?_|refine U.lw_c ?_ ?_<;>intro hb))
 all_goals (conv=>whnf)
 ·have hb:=of_decide_eq_true hb;have:=wu_nn (9223372036854775807-IntKind.u64.wrap n);omega
 ·exact .same (.flat _ rfl) (congrArg (fun z=>Value.tuple ⟨[.int .i64 z,.bool true]⟩) (by rw[IntKind.wrap_i64,IntKind.wrap_u64,IntKind.wrap_u64];omega))
theorem greatest1_d (n:Int) (h:-9223372036854775808≤n∧n≤9223372036854775807):DenU Tryz.prog [] 206 [.agg ⟨[.int .u64 1,.int .u64 0]⟩,.int .i64 n] (.tuple ⟨[.int .i64 n,.bool true]⟩):=by
 refine denU_of_body hmixU rfl Tryz.func206 rfl rfl rfl 0 ?_;intro Ts;have h1:=minus0_d;have h2:=rest1_d n;(repeat' ((conv=>whnf);first|refine goD ?_|refine ⟨_,h1,clM,tab0 _,?_⟩|refine ⟨_,h2,clM,tab0 _,?_⟩|refine U.drawX_p (D:=U.propX) 13 [] (by decide +kernel) (by decide +kernel) ?_|refine U.lw_c ?_ ?_<;>intro hb))
 all_goals (conv=>whnf)
 ·have hb:=of_decide_eq_true hb;have:=wu_nn (IntKind.u64.wrap n-9223372036854775808);omega
 ·exact .same (.flat _ rfl) (congrArg (fun z=>Value.tuple ⟨[.int .i64 z,.bool true]⟩) (by rw[IntKind.wrap_i64,IntKind.wrap_u64,IntKind.wrap_u64];omega))
theorem iof_d (lo hi:Int):DenU Tryz.prog [] 152 [.int .i64 lo,.int .i64 hi] (if lo > hi then .agg ⟨[.int .i64 1,.int .i64 0]⟩ else .agg ⟨[.int .i64 lo,.int .i64 hi]⟩):=by
 refine denU_of_run hmixU rfl 100 20 20 fun Ts=>?_
 (repeat' ((conv=>whnf);first|refine goD ?_|refine U.lw_c ?_ ?_<;>intro hb))
 all_goals (conv=>whnf)
 ·rw[if_pos (of_decide_eq_true hb)];exact .same (.flat _ rfl) rfl
 ·rw[if_neg (of_decide_eq_false hb)];exact .same (.flat _ rfl) rfl
theorem cright1_d:DenU Tryz.prog [] 203 [.agg ⟨[.int .u64 1,.int .u64 0]⟩] (.bool true):=by
 refine denU_of_run hmixU rfl 100 20 20 fun Ts=>?_
 (repeat' ((conv=>whnf);first|refine goD ?_|refine U.lw_c ?_ ?_<;>intro hb))
 (conv=>whnf);exact .same (.flat _ rfl) rfl
theorem one_v (n:Int):DenU Tryz.prog [] 68 [.int .i64 n] (encV (oneZ n)):=by
 refine denU_of_run hmixU rfl 100 20 20 fun Ts=>?_
 (repeat' ((conv=>whnf);first|refine goD ?_|refine U.lw_c ?_ ?_<;>intro hb))
 (conv=>whnf);exact .same (.flat _ rfl) rfl
theorem ctop_d:DenU Tryz.prog [] 153 [] (.agg ⟨[.int .u64 1,.int .u64 0]⟩):=by
 refine denU_of_run hmixU rfl 100 20 20 fun Ts=>?_
 (repeat' ((conv=>whnf);first|refine goD ?_|refine U.lw_c ?_ ?_<;>intro hb))
 (conv=>whnf);exact .same (.flat _ rfl) rfl
theorem iempty_d (lo hi:Int):DenU Tryz.prog [] 204 [.agg ⟨[.int .i64 lo,.int .i64 hi]⟩] (.bool (decide (lo > hi))):=by
 refine denU_of_run hmixU rfl 100 20 20 fun Ts=>?_
 (repeat' ((conv=>whnf);first|refine goD ?_|refine U.lw_c ?_ ?_<;>intro hb))
 (conv=>whnf);exact .same (.flat _ rfl) rfl
theorem imake_d (lo hi:Int) (hl:-9223372036854775808≤lo∧lo≤9223372036854775807) (hh:-9223372036854775808≤hi∧hi≤9223372036854775807):DenU Tryz.prog [] 151 [.agg ⟨[.int .i64 lo,.int .i64 hi]⟩,.agg ⟨[.int .u64 1,.int .u64 0]⟩] (encV (rangeZ lo hi)):=by
 refine denU_of_body hmixU rfl Tryz.func151 rfl rfl rfl 0 ?_;intro Ts;have h1:=least1_d lo hl;have h2:=greatest1_d hi hh;have h3:=cright1_d;have h4:=iof_d lo hi;have h5:=bottom_d;have h6:=one_v lo
 have h7:=iempty_d lo hi;by_cases h:lo > hi
 ·rw[decide_eq_true h] at h7;rw[rangeZ,if_pos h];(repeat' ((conv=>whnf);first|refine goD ?_|refine ⟨_,h1,clM,tab0 _,?_⟩|refine ⟨_,h2,clM,tab0 _,?_⟩|refine ⟨_,h3,clM,tab0 _,?_⟩|refine ⟨_,h5,clM,tab0 _,?_⟩|refine ⟨_,h7,clM,tab0 _,?_⟩|refine U.lw_c ?_ ?_<;>intro hb))
  (conv=>whnf);exact .same (.flat _ rfl) rfl
 ·rw[decide_eq_false h] at h7;rw[if_neg h] at h4;rw[rangeZ,if_neg h];have g1:decide (lo > hi)=false:=decide_eq_false h;by_cases he:lo=hi
  ·have g2:(lo==hi)=true:=by simpa using he
   rw[if_pos he];(repeat' ((conv=>whnf);first|refine goD ?_|refine ⟨_,h1,clM,tab0 _,?_⟩|refine ⟨_,h2,clM,tab0 _,?_⟩|refine ⟨_,h3,clM,tab0 _,?_⟩|refine ⟨_,h6,clM,tab0 _,?_⟩|refine ⟨_,h7,clM,tab0 _,?_⟩|refine U.drawX_p (D:=U.propX) 5 [] (by decide +kernel) (by decide +kernel) ?_|refine U.lw_c ?_ ?_<;>intro hb))
   (conv=>whnf);exact .same (.flat _ rfl) rfl
  ·have g2:(lo==hi)=false:=by simpa using he
   rw[if_neg he];(repeat' ((conv=>whnf);first|refine goD ?_|refine ⟨_,h1,clM,tab0 _,?_⟩|refine ⟨_,h2,clM,tab0 _,?_⟩|refine ⟨_,h3,clM,tab0 _,?_⟩|refine ⟨_,h4,clM,tab0 _,?_⟩|refine ⟨_,h7,clM,tab0 _,?_⟩|refine U.drawX_p (D:=U.propX) 5 [] (by decide +kernel) (by decide +kernel) ?_|refine U.lw_c ?_ ?_<;>intro hb))
   (conv=>whnf);exact .same (.flat _ rfl) rfl
theorem range_d (lo hi:Int) (hl:-9223372036854775808≤lo∧lo≤9223372036854775807) (hh:-9223372036854775808≤hi∧hi≤9223372036854775807):DenU Tryz.prog [] 72 [.int .i64 lo,.int .i64 hi] (encV (rangeZ lo hi)):=by
 refine denU_of_body hmixU rfl Tryz.func72 rfl rfl rfl 0 ?_;intro Ts;have h3:=ctop_d;have h4:=iof_d lo hi;have h5:=imake_d lo hi hl hh;by_cases h:lo > hi
 ·rw[if_pos h] at h4;have h6:=imake_d 1 0 (by decide) (by decide)
  rw[show rangeZ 1 0=rangeZ lo hi by rw[rangeZ,rangeZ,if_pos h];rfl] at h6
  generalize rangeZ lo hi=z at *
  (repeat' ((conv=>whnf);first|refine goD ?_|refine ⟨_,h3,clM,tab0 _,?_⟩|refine ⟨_,h4,clM,tab0 _,?_⟩|refine ⟨_,h6,clM,tab0 _,?_⟩|refine U.lw_c ?_ ?_<;>intro hb))
  (conv=>whnf);exact .same (.flat _ rfl) rfl
 ·rw[if_neg h] at h4;generalize rangeZ lo hi=z at *
  (repeat' ((conv=>whnf);first|refine goD ?_|refine ⟨_,h3,clM,tab0 _,?_⟩|refine ⟨_,h4,clM,tab0 _,?_⟩|refine ⟨_,h5,clM,tab0 _,?_⟩|refine U.lw_c ?_ ?_<;>intro hb))
  (conv=>whnf);exact .same (.flat _ rfl) rfl
structure CZ where
 v:VZ
 k:Bool
def encC (c:CZ):Value:=.agg ⟨[.int .i64 c.v.lo,.int .i64 c.v.hi,.int .u64 c.v.m,.int .u64 c.v.r,.bool c.k]⟩
def cL (l:List CZ):List Value:=l.map encC
theorem cL_map (l:List CZ):cL l=l.map encC:=rfl
theorem cL_len (l:List CZ):(cL l).length=l.length:=List.length_map ..
theorem cleanC (c:CZ):NoNm (encC c):=.flat _ rfl
theorem cleanC_cells (c:CZ):∀x∈cellsOf (encC c),NoNm x:=fun x hx=>by
 simp only[encC,cellsOf,List.mem_cons,List.not_mem_nil,or_false] at hx;rcases hx with rfl|rfl|rfl|rfl|rfl<;>exact .flat _ rfl
theorem cleanCC (l:List CZ):∀x,x∈cellsAll (cL l)->NoNm x:=fun c hc=>by
 obtain ⟨v,hv,hc⟩:=List.mem_flatMap.1 hc;obtain ⟨e,he,rfl⟩:=List.mem_map.1 hv;exact cleanC_cells e c hc
theorem cleanCL (l:List CZ):NoNm (imS (cL l)):=.ims _ (cleanCC l)
theorem cL_5 (l:List CZ):∀y,y∈cL l->(cellsOf y).length=5:=fun y hy=>by
 obtain ⟨x,_,rfl⟩:=List.mem_map.1 hy;rfl
theorem cellsC_len:∀l:List CZ,(cellsAll (cL l)).length=l.length*5
 |[]=>rfl
 |x::l=>by
  rw[cL,List.map_cons,cellsAll,List.flatMap_cons,List.length_append,← cellsAll,← cL,cellsC_len l,List.length_cons];show 5+_=_
  omega
theorem cellsC_app (a b:List CZ):cellsAll (cL (a++b))=cellsAll (cL a)++cellsAll (cL b):=by
 rw[cL,List.map_append,cellsAll,List.flatMap_append];rfl
theorem cells_put {l:List CZ}{j:Nat}(hj:j<l.length) (c:CZ):(cellsAll (cL l)).take (j*5)++cellsOf (encC c)++(cellsAll (cL l)).drop (j*5+(cellsOf (encC c)).length)=cellsAll (cL (l.set j c)):=by
 have e:l=l.take j++l[j]::l.drop (j+1):=by rw[List.getElem_cons_drop,List.take_append_drop]
 have e2:l.set j c=l.take j++c::l.drop (j+1):=List.set_eq_take_append_cons_drop.trans (by rw[if_pos hj])
 have hlen:(cellsAll (cL (l.take j))).length=j*5:=by rw[cellsC_len,List.length_take];congr 1;omega
 rw[e2];conv=>lhs;rw[e]
 rw[cellsC_app,show l[j]::l.drop (j+1)=[l[j]]++l.drop (j+1) from rfl,cellsC_app,List.take_left' hlen,List.drop_append,hlen,cellsC_app,show c::l.drop (j+1)=[c]++l.drop (j+1) from rfl,cellsC_app]
 have h5:(cellsOf (encC c)).length=5:=rfl;rw[h5,List.drop_of_length_le (by rw[hlen];omega),show j*5+5-j*5=5 by omega,List.nil_append,List.append_assoc]
 congr 1
structure SZ where
 slots:List CZ
 arrs:List CZ
 none:Bool
def encSt (s:SZ):Value:=.agg ⟨[imS (cL s.slots),imS (cL s.arrs),.bool s.none]⟩
theorem cleanSt_cells (s:SZ):∀x∈cellsOf (encSt s),NoNm x:=fun x hx=>by
 simp only[encSt,cellsOf,List.mem_cons,List.not_mem_nil,or_false] at hx;rcases hx with rfl|rfl|rfl
 ·exact cleanCL _
 ·exact cleanCL _
 ·exact .flat _ rfl
def stV (s:SZ):Value:=imP (encSt s) 0
theorem cleanStV (s:SZ):NoNm (stV s):=.imp _ _ (cleanSt_cells s)
def zeroC:CZ:=⟨⟨0,0,0,0⟩,false⟩
theorem rep_zero:∀n:Nat,cellsAll (cL (List.replicate n zeroC))=repX n [.int .i64 0,.int .i64 0,.int .u64 0,.int .u64 0,.bool false]
 |0=>rfl
 |n+1=>by
  rw[List.replicate_succ,show zeroC::List.replicate n zeroC=[zeroC]++List.replicate n zeroC from rfl,cellsC_app,rep_zero n,repX];rfl
def putIn (cs:List CZ) (x:In13):List CZ:=cs.set x.slot.toNat ⟨rangeZ x.lo x.hi,x.sec⟩
def st0 (p:Pg):SZ:=⟨p.ins.foldl putIn (List.replicate p.slots.toNat zeroC),List.replicate p.arrs.length zeroC,false⟩
def inI (n:Int):Prop:=-9223372036854775808≤n∧n≤9223372036854775807
theorem rep_put {n j:Nat}(hj:j<n):(cellsAll (cL (List.replicate n zeroC))).take (j*5)++cellsOf (encC zeroC)++(cellsAll (cL (List.replicate n zeroC))).drop (j*5+(cellsOf (encC zeroC)).length)=cellsAll (cL (List.replicate n zeroC)):=by
 rw[cells_put (by rw[List.length_replicate];exact hj)]
 congr 2
 apply List.ext_getElem
 ·simp
 ·intro k h1 h2;simp[List.getElem_set]
abbrev rowC (l:List CZ):Option U.Blk:=some (.cells 144 (cellsAll (cL l)) false)
abbrev slC (b n:Nat):Value:=.slice (some ⟨b,0,none⟩) n n
theorem FrzV.boxL {s:AS}{k:Nat}{T:TypeId}{x:Value}{xs:List Value}{op:Bool}(hlo:s.lo≤k) (hk:Tr.at (pt k) s.heap=some (.cells T xs op)) (h:FrzL Tryz.prog s xs (cellsOf x)):FrzV Tryz.prog s (.pointer (some ⟨k,0,none⟩)) (imP x 0):=.box k T x xs op hlo hk h.at_.1.symm h.at_.2
theorem putIn_len (cs:List CZ) (x:In13):(putIn cs x).length=cs.length:=by rw[putIn,List.length_set]
theorem foldIn_len:∀(l:List In13) (cs:List CZ),(l.foldl putIn cs).length=cs.length
 |[],cs=>rfl
 |x::l,cs=>by rw[List.foldl_cons,foldIn_len l,putIn_len]
def botC:CZ:=⟨botZ,false⟩
def atC (none:Bool) (l:List CZ) (i:Int):CZ:=if none=true∨i<0∨(l.length:Int)≤i then botC else l.getD i.toNat botC
def slotC (s:SZ) (i:Int):CZ:=atC s.none s.slots i
def arrC (s:SZ) (i:Int):CZ:=atC s.none s.arrs i
mutual
def exM (s:SZ):Ex->Bool
 |.mk k n a o l=>(decide (k=1)&&(slotC s a).k) || (decide (k=2)&&(arrC s a).k) || exMs s l
def exMs (s:SZ):List Ex->Bool
 |[]=>false
 |e::l=>exM s e || exMs s l
end
def anyS (s:SZ) (x y:List Int):Bool:=(x.any fun i=>(slotC s i).k) || (y.any fun i=>(arrC s i).k)
def topZ:VZ:=⟨-9223372036854775808,9223372036854775807,1,0⟩
def topC (m:Bool) (c:CZ):CZ:=⟨topZ,c.k || m⟩
def hav1 (m:Bool) (l:List CZ) (i:Int):List CZ:=if 0≤i∧i<(l.length:Int) then l.set i.toNat (topC m (l.getD i.toNat botC)) else l
def havL (m:Bool) (l:List CZ) (w:List Int):List CZ:=w.foldl (hav1 m) l
theorem hav1_len (m:Bool) (l:List CZ) (i:Int):(hav1 m l i).length=l.length:=by
 unfold hav1;split<;>simp
theorem havL_len (m:Bool):∀(w:List Int) (l:List CZ),(havL m l w).length=l.length
 |[],l=>rfl
 |i::w,l=>by rw[havL,List.foldl_cons,← havL,havL_len m w,hav1_len]
theorem hav1_get (m:Bool) (l:List CZ) (i:Int) (j:Nat) (hj:j<l.length):(hav1 m l i)[j]?=some (if i=(j:Int) then topC m l[j] else l[j]):=by
 unfold hav1;by_cases h:0≤i∧i<(l.length:Int)
 ·rw[if_pos h];obtain ⟨k,rfl⟩:=Int.eq_ofNat_of_zero_le h.1;by_cases e:k=j
  ·subst e;simp[hj]
  ·rw[if_neg (by omega),List.getElem?_set_ne (by simpa using e)];exact List.getElem?_eq_getElem hj
 ·rw[if_neg h,if_neg (by omega)];exact List.getElem?_eq_getElem hj
theorem topC_top (m:Bool) (c:CZ):topC m (topC m c)=topC m c:=by simp[topC]
theorem havL_get (m:Bool):∀(w:List Int) (l:List CZ) (j:Nat) (hj:j<l.length),(havL m l w)[j]?=some (if w.any (fun i=>decide (i=(j:Int)))=true then topC m l[j] else l[j])
 |[],l,j,hj=>List.getElem?_eq_getElem hj
 |i::w,l,j,hj=>by
  rw[havL,List.foldl_cons,← havL];have hl:=hav1_len m l i;have h1:=hav1_get m l i j hj;have h2:=havL_get m w (hav1 m l i) j (by omega)
  rw[List.getElem?_eq_getElem (by omega)] at h1;rw[h2,Option.some.inj h1,List.any_cons];by_cases e:i=(j:Int)
  ·rw[if_pos e,decide_eq_true e,Bool.true_or,if_pos rfl];split
   ·rw[topC_top]
   ·rfl
  ·rw[if_neg e,decide_eq_false e,Bool.false_or]
def hasB (w:List Int) (n:Int):Bool:=w.any fun i=>decide (i=n)
def refC (m:Bool) (w:List Int) (c:CZ) (j:Nat):CZ:=if hasB w (j:Int)=true then topC m c else c
def refL (m:Bool) (w:List Int):List CZ->Nat->List CZ
 |[],_=>[]
 |c::l,j=>refC m w c j::refL m w l (j+1)
theorem refL_get (m:Bool) (w:List Int):∀(l:List CZ) (j i:Nat),(refL m w l j)[i]?=(l[i]?).map fun c=>refC m w c (j+i)
 |[],j,i=>by simp[refL]
 |c::l,j,0=>by simp[refL]
 |c::l,j,i+1=>by
  rw[refL,List.getElem?_cons_succ,List.getElem?_cons_succ,refL_get m w l (j+1) i,show j+1+i=j+(i+1) by omega]
theorem refL_eq (m:Bool) (w:List Int) (l:List CZ):refL m w l 0=havL m l w:=by
 apply List.ext_getElem?;intro j;rw[refL_get];by_cases hj:j<l.length
 ·rw[havL_get m w l j hj,List.getElem?_eq_getElem hj,Nat.zero_add];rfl
 ·rw[List.getElem?_eq_none (by omega),List.getElem?_eq_none (by rw[havL_len];omega)]
  rfl
theorem refL_snoc (m:Bool) (w:List Int):∀(l:List CZ) (j:Nat) (c:CZ),refL m w (l++[c]) j=refL m w l j++[refC m w c (j+l.length)]
 |[],j,c=>rfl
 |d::l,j,c=>by
  rw[List.cons_append,refL,refL_snoc m w l (j+1) c,refL,List.cons_append,List.length_cons,show j+1+l.length=j+(l.length+1) by omega]
theorem refL_len (m:Bool) (w:List Int):∀(l:List CZ) (j:Nat),(refL m w l j).length=l.length
 |[],j=>rfl
 |d::l,j=>by rw[refL,List.length_cons,refL_len m w l,List.length_cons]
def havS (s:SZ) (x y:List Int) (m:Bool):SZ:=if s.none=true then s else ⟨havL m s.slots x,havL m s.arrs y,false⟩
def refIn (i:Int):List In13->CZ->CZ
 |[],c=>c
 |x::l,c=>refIn i l (if x.slot=i then ⟨rangeZ x.lo x.hi,x.sec⟩ else c)
theorem refIn_snoc (i:Int):∀(l:List In13) (x:In13) (c:CZ),refIn i (l++[x]) c=if x.slot=i then ⟨rangeZ x.lo x.hi,x.sec⟩ else refIn i l c
 |[],x,c=>rfl
 |y::l,x,c=>by rw[List.cons_append,refIn,refIn_snoc i l x];rfl
theorem fold_get (ins:List In13) (n:Nat) (j:Nat) (hj:j<n):∀cs:List CZ,cs.length=n->(∀x∈ins,0≤x.slot)->(h:j<cs.length)->(ins.foldl putIn cs)[j]?=some (refIn (j:Int) ins cs[j]):=by
 induction ins with
 |nil=>intro cs _ _ h;exact List.getElem?_eq_getElem h
 |cons x l ih =>
  intro cs hc hx h;have hx0:=hx x (by simp)
  rw[List.foldl_cons,ih (putIn cs x) (by rw[putIn_len,hc]) (fun y hy=>hx y (by simp[hy])) (by rw[putIn_len];exact h),refIn]
  congr 2
  obtain ⟨k,hk⟩:=Int.eq_ofNat_of_zero_le hx0;by_cases e:k=j
  ·rw[if_pos (by omega)];simp[putIn,hk,e]
  ·rw[if_neg (by omega)];simp only[putIn,hk,Int.toNat_natCast];exact List.getElem_set_ne e _
def ref0 (ins:List In13) (n:Nat):List CZ:=(List.range n).map fun j:Nat=>refIn (j:Int) ins zeroC
theorem ref0_eq (p:Pg) (n:Nat) (hn:p.slots.toNat=n) (h:∀x∈p.ins,0≤x.slot):p.ins.foldl putIn (List.replicate n zeroC)=ref0 p.ins n:=by
 apply List.ext_getElem?;intro j;by_cases hj:j<n
 ·rw[fold_get p.ins n j hj _ (by simp) h (by simpa using hj)];simp[ref0,hj]
 ·rw[List.getElem?_eq_none (by rw[foldIn_len];simp;omega),List.getElem?_eq_none (by simp[ref0];omega)]
end Go.Proofs.YtnfppdblcmollaaGreatDoor
