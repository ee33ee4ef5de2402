
import Derived.Test.YtnfppdblcmollaaGreatDoorTS23
import Derived.Test.YtnfppdblcmollaaGreatDoorTS25
import Derived.Test.YtnfppdblcmollaaGreatDoorTS30
import Derived.Test.YtnfppdblcmollaaGreatDoorTS36
import Derived.Test.YtnfppdblcmollaaGreatDoorTS43
namespace Go.Proofs.YtnfppdblcmollaaGreatDoor
open Go Go.RowKit Go.Sort U
set_option linter.unusedVariables false
set_option linter.unusedSimpArgs false
set_option maxRecDepth 100000
set_option maxHeartbeats 40000000
def Ris (l:List Int):Prop:=l.Pairwise (·<·)
theorem ris_ext:∀{a b:List Int},Ris a->Ris b->(∀z,z∈a↔z∈b)->a=b
 |[],[],_,_,_=>rfl
 |[],y::b,_,_,h=>absurd ((h y).2 (by simp)) (by simp)
 |x::a,[],_,_,h=>absurd ((h x).1 (by simp)) (by simp)
 |x::a,y::b,ha,hb,h=>by
  have ha':=List.pairwise_cons.1 ha;have hb':=List.pairwise_cons.1 hb;have hxy:x=y:=by
   have h1:=(h x).1 (by simp)
   have h2:=(h y).2 (by simp)
   rcases List.mem_cons.1 h1 with h1|h1
   ·exact h1
   ·rcases List.mem_cons.1 h2 with h2|h2
    ·exact h2.symm
    ·have:=hb'.1 x h1;have:=ha'.1 y h2;omega
  subst hxy;rw[ris_ext ha'.2 hb'.2 fun z=>⟨fun hz=>?_,fun hz=>?_⟩]
  ·rcases List.mem_cons.1 ((h z).1 (by simp[hz])) with h1|h1
   ·subst h1;exact absurd (ha'.1 z hz) (by omega)
   ·exact h1
  ·rcases List.mem_cons.1 ((h z).2 (by simp[hz])) with h1|h1
   ·subst h1;exact absurd (hb'.1 z hz) (by omega)
   ·exact h1
structure Nt where
 sl:St->List Int
 ar:St->List Int
def srtI (l:List Int):List Int:=l.mergeSort fun x y=>decide (x≤y)
theorem sortI_s {es:List Int}{s:AS}{b n c:Nat}{op:Bool}(hb:s.heap.get b=some (.cells 3 (iL es) op)) (hlo:s.lo≤b) (hn:es.length=n) (hnc:n≤c) (hm:n≤1000000) {K:Value->AS->Prop}(hK:K (.tuple ⟨[]⟩) ⟨s.heap.set b (some (.cells 3 (iL (srtI es)) op)),s.next,s.lo,s.glb⟩):SoundAt Tryz.prog 124 [.slice (some ⟨b,0,none⟩) n c] s K :=
 intsAt (g:=srtI) (fun l=>by simp[srtI]) (vr:=fun _ _ _=>.tuple #[]) (fun d W r cap hH hr hcap hd=>(Tryz.slices_Sort_int r 0 cap d W hH hr (by omega)).mono fun e w' h=>h) hb hlo hn hnc hm (fun β r sp _=>.tup [] [] rfl (fun i u v h=>by simp at h)) hK
theorem srtN:DenU Tryz.prog [] 124 [.slice none 0 0] (.tuple ⟨[]⟩):=by
 refine denU_of_sound hmixU fun Ts=>SoundAt.body hmixU Tryz.func124 rfl rfl rfl 0 ?_
 (repeat' ((conv=>whnf);first|refine goD ?_|refine U.lw_c ?_ ?_<;>intro hb))
 (conv=>whnf);refine SoundAt.body hmixU Tryz.func192 rfl rfl rfl 0 ?_;(repeat' ((conv=>whnf);first|refine goD ?_|refine U.lw_c ?_ ?_<;>intro hb))
 (conv=>whnf);refine SoundAt.body hmixU Tryz.func240 rfl rfl rfl 0 ?_;(repeat' ((conv=>whnf);first|refine goD ?_|refine U.lw_c ?_ ?_<;>intro hb))
 (conv=>whnf);refine ⟨_,rfl,?_⟩;(repeat' ((conv=>whnf);first|refine goD ?_|refine U.lw_c ?_ ?_<;>intro hb))
 (conv=>whnf);refine SoundAt.body hmixU Tryz.func191 rfl rfl rfl 0 ?_;(repeat' ((conv=>whnf);first|refine goD ?_|refine U.lw_c ?_ ?_<;>intro hb))
 (conv=>whnf);refine loop_inv (α:=Unit) (fun _=>True) (fun _=>(mkF [(0,.slice none 0 0),(1,.int .i64 0),(2,.int .i64 0)],⟨.e,0,0,0⟩)) (fun _=>0) () trivial (Cov.renI rfl rfl rfl rfl .nil (.K rfl rfl rfl (.K rfl rfl rfl (.K rfl rfl rfl .nil)))) ?_
 rintro ⟨⟩ _
 dsimp only;(repeat' ((conv=>whnf);first|refine goD ?_|refine U.lw_c ?_ ?_<;>intro hb))
 (conv=>whnf);refine SoundAt.body hmixU Tryz.func230 rfl rfl rfl 0 ?_;(repeat' ((conv=>whnf);first|refine goD ?_|refine U.lw_c ?_ ?_<;>intro hb))
 (conv=>whnf);refine loop_inv (α:=Unit) (fun _=>True) (fun _=>(mkF [(0,.slice none 0 0),(1,.int .i64 0),(2,.int .i64 0),(6,.int .i64 1)],⟨.e,0,0,0⟩)) (fun _=>0) () trivial (Cov.renI rfl rfl rfl rfl .nil (.K rfl rfl rfl (.K rfl rfl rfl (.K rfl rfl rfl (.K rfl rfl rfl .nil))))) ?_
 rintro ⟨⟩ _
 dsimp only;(repeat' ((conv=>whnf);first|refine goD ?_|refine U.lw_c ?_ ?_<;>intro hb))
 (conv=>whnf);exact .same (.flat _ rfl) rfl
theorem srtI_perm (l:List Int):(srtI l).Perm l:=List.mergeSort_perm ..
theorem srtI_sorted (l:List Int):(srtI l).Pairwise (·≤·):=by
 have:=List.pairwise_mergeSort (le:=fun x y:Int=>decide (x≤y)) (fun a b c h1 h2=>by simp at *;omega) (fun a b=>by simp;omega) l
 exact this.imp fun h=>by simpa using h
theorem srtI_ris {l:List Int}(h:l.Nodup):Ris (srtI l):=by
 have hn:(srtI l).Nodup:=(srtI_perm l).nodup_iff.2 h;have hs:=srtI_sorted l;exact (List.pairwise_and_iff.2 ⟨hs,hn⟩).imp fun h=>by omega
theorem srtI_of {l m:List Int}(hl:l.Nodup) (h:l.Perm m):srtI l=srtI m :=
 ris_ext (srtI_ris hl) (srtI_ris (h.nodup_iff.1 hl)) fun z=>by rw[(srtI_perm l).mem_iff,(srtI_perm m).mem_iff,h.mem_iff]
theorem srtI_len (l:List Int):(srtI l).length=l.length:=(srtI_perm l).length_eq
abbrev mB (m:List (Int×Int)):U.Blk:=.map (mE (Value.int .i64) (Value.int .i64) m) (List.range m.length) m.length
def keyN (m:List (Int×Int)) (i:Nat):Int:=(m.map (·.1)).getD i 0
end Go.Proofs.YtnfppdblcmollaaGreatDoor
