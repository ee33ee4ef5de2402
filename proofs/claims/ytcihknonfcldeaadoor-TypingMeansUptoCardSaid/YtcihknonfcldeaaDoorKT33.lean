
import Derived.Test.YtcihknonfcldeaaDoorKT21
import Derived.Test.YtcihknonfcldeaaDoorKT28
import Derived.Test.YtcihknonfcldeaaDoorKT31
import Derived.Test.YtcihknonfcldeaaDoorKT32
namespace Go.Proofs.YtcihknonfcldeaaDoor
open Go Go.RowKit Go.Sort U
set_option linter.unusedVariables false
set_option linter.unusedSimpArgs false
set_option maxRecDepth 100000
set_option maxHeartbeats 40000000
def procDs (ds:List ADc):List ADc:=ds.filter fun d=>d.k==4
def namesD (ds:List ADc):List ByteArray:=(procDs ds).map (·.nm)
def bodsD (ds:List ADc):List (List AS6):=(procDs ds).map (·.body)
def mOfF:Nat->List ByteArray->MSI
 |_,[]=>[]
 |n,a::l=>(a,(n:Int))::mOfF (n+1) l
def mOf (l:List ByteArray):MSI:=mOfF 0 l
theorem mOfF_snoc (a:ByteArray):∀(n:Nat) (l:List ByteArray),mOfF n (l++[a])=mOfF n l++[(a,((n+l.length:Nat):Int))]
 |n,[]=>rfl
 |n,b::l=>by rw[List.cons_append,mOfF,mOfF,mOfF_snoc a (n+1) l,List.cons_append,List.length_cons,show n+1+l.length=n+(l.length+1) by omega]
theorem mOf_snoc (l:List ByteArray) (a:ByteArray):mOf (l++[a])=mOf l++[(a,(l.length:Int))]:=by rw[mOf,mOfF_snoc,Nat.zero_add];rfl
theorem getM_app (s:ByteArray) (b:MSI):∀a:MSI,getM (a++b) s=match getM a s with|some i=>some i|none=>getM b s
 |[]=>rfl
 |(x,i)::a=>by
  rw[List.cons_append,getM,getM];split
  ·rfl
  ·exact getM_app s b a
theorem siteL_cg {m m':MSI}(h:∀s,getM m s=getM m' s):∀l,siteL m l=siteL m' l
 |[]=>rfl
 |.mk k nm xs th el ln cl::l=>by rw[siteL,siteL,h,siteL_cg h l]
def rowsL (m:MSI):List (List AS6)->List (List Int) ⊕ (Int×Int)
 |[]=>.inl []
 |b::l=>match siteL m (callsTs b) with
  |.inr f=>.inr f
  |.inl r=>match rowsL m l with
   |.inl q=>.inl (r::q)
   |.inr f=>.inr f
theorem rowsL_app (m:MSI) (l:List (List AS6)):∀a:List (List AS6),rowsL m (a++l)=match rowsL m a with
  |.inr f=>.inr f
  |.inl q=>match rowsL m l with
   |.inl q'=>.inl (q++q')
   |.inr f=>.inr f
 |[]=>by
  rw[List.nil_append,rowsL];cases rowsL m l<;>rfl
 |b::a=>by
  rw[List.cons_append,rowsL,rowsL];cases siteL m (callsTs b) with
  |inr f=>rfl
  |inl r =>
   dsimp only;rw[rowsL_app m l a];cases rowsL m a with
   |inr f=>rfl
   |inl q =>
    dsimp only;cases rowsL m l<;>rfl
theorem rowsL_cg {m m':MSI}(h:∀s,getM m s=getM m' s):∀l,rowsL m l=rowsL m' l
 |[]=>rfl
 |b::l=>by rw[rowsL,rowsL,siteL_cg h,rowsL_cg h l]
theorem rowsL_len {m:MSI}:∀{l:List (List AS6)}{q:List (List Int)},rowsL m l=.inl q->q.length=l.length
 |[],q,h=>by rw[rowsL] at h;cases h;rfl
 |b::l,q,h=>by
  rw[rowsL] at h;cases h1:siteL m (callsTs b) with
  |inr f=>rw[h1] at h;cases h
  |inl r =>
   rw[h1] at h;dsimp only at h;cases h2:rowsL m l with
   |inr f=>rw[h2] at h;cases h
   |inl q'=>rw[h2] at h;cases h;rw[List.length_cons,List.length_cons,rowsL_len h2]
def ofG (p:APr):List (List Int) ⊕ (Int×Int):=rowsL (mOf (namesD p.ds)) (bodsD p.ds++[p.mn])
theorem procDs_snoc (ds:List ADc) (d:ADc):procDs (ds++[d])=procDs ds++(if d.k=4 then [d] else []):=by
 rw[procDs,List.filter_append,← procDs];congr 1
 by_cases h:d.k=4
 ·rw[if_pos h,List.filter_cons,if_pos (by simpa using h)];rfl
 ·rw[if_neg h,List.filter_cons,if_neg (by simpa using h)];rfl
def Rf (rows:List (List Int)) (k:Nat):List Int:=rows.getD k []
theorem Rf_app {a b:List (List Int)}{k:Nat}(h:k<a.length):Rf (a++b) k=Rf a k:=by
 unfold Rf;rw[List.getD_eq_getElem?_getD,List.getD_eq_getElem?_getD,List.getElem?_append_left h]
theorem Rf_mid {a b:List (List Int)}{r:List Int}:Rf (a++r::b) a.length=r:=by
 unfold Rf;rw[List.getD_eq_getElem?_getD,List.getElem?_append_right rL,Nat.sub_self];rfl
theorem cellsN_cg {n:Nat}{R R':Nat->List Int}{nm nm':Nat->Nat}(h:∀k,k<n->R k=R' k∧nm k=nm' k):cellsN n R nm=cellsN n R' nm':=by
 unfold cellsN;refine List.map_congr_left fun k hk=>?_
 obtain ⟨h1,h2⟩:=h k (List.mem_range.1 hk);rw[h1,h2]
theorem cellsN_succ (n:Nat) (R:Nat->List Int) (nm:Nat->Nat):cellsN (n+1) R nm=cellsN n R nm++[rowS (nm n) (iL (R n))]:=by
 unfold cellsN;rw[List.range_succ,List.map_append];rfl
theorem cellsN_len (n:Nat) (R:Nat->List Int) (nm:Nat->Nat):(cellsN n R nm).length=n:=by simp[cellsN]
structure RowsX (sh:Tr U.Blk) (c n:Nat) (R:Nat->List Int) (nm:Nat->Nat):Prop where
 cells:n≠0->sh.get c=some (.cells 36 (cellsN n R nm) true)
 at_:∀k,k<n->R k≠[]->sh.get (nm k)=some (.cells 3 (iL (R k)) true)
 inj:∀k k',k<n->k'<n->R k≠[]->R k'≠[]->nm k=nm k'->k=k'
 nz:∀k,k<n->R k≠[]->nm k≠c
theorem cov_RX {P:Program}{N n0:Nat}{fr:Tr Value}{sh:Tr U.Blk}{nx n c c0:Nat}{l:List (Nat×Value)}{R:Nat->List Int}{nm:Nat->Nat}(h:RowsX sh c0 n R nm) (X:List (Nat×Option U.Blk)) (bs ρ:Nat->Nat) (h1:Tr U.Blk) (nx1:Nat) (hn:n0≤nx1) (hρ:∀k,k<n0->ρ k=k) (hc:c<nx1∧ρ c=c0) (hbs:∀j,j<n->bs j<nx1∧ρ (bs j)=nm j)
  (hX:∀k∈X.map (·.1),k<n0∧k≠c0∧∀j,j<n->R j≠[]->nm j≠k) (hb:blksO sh nx1 ⟨ρ,fun _ _=>False⟩ X)
  (hnew:∀k b,h1.get k=some b->(k=c∧n≠0∧b=.cells 36 (cellsN n R bs) true)∨(∃j,j<n∧k=bs j∧R j≠[]∧b=.cells 3 (iL (R j)) true)∨(k,some b)∈X) (hf:slotsRen fr nx1 ⟨ρ,fun _ _=>False⟩ l):Cov P N n0 fr ⟨sh,nx,0,0⟩ (mkF l) ⟨h1,nx1,0,0⟩:=by
 refine Cov.gen ρ 0 (fun _ _=>False) (T:=0) (op:=false) (xs:=[]) rfl rfl hn zL hρ (fun k b hk=>?_) (fun k k' hk hk' e=>?_) nlz zL (fun hx=>absurd rfl hx) (fun u1 u hu=>absurd hu id) fun t u hu=>hf.all _ (mkF_mem hu)
 ·rcases hnew k b hk with ⟨rfl,h0,rfl⟩|⟨j,hj,rfl,hr,rfl⟩|hm
  ·refine ⟨hc.1,fun _=>Nat.zero_le _,fun hx=>absurd rfl hx,_,by rw[hc.2];exact h.cells h0,.cells _ _ _ _ (RenL.maps _ fun j hj=>?_)⟩
   obtain ⟨q1,q2⟩:=hbs j (List.mem_range.1 hj);exact .ofRow q1 q2 rfl
  ·obtain ⟨q1,q2⟩:=hbs j hj;refine ⟨q1,fun _=>Nat.zero_le _,fun hx=>absurd rfl hx,_,by rw[q2];exact h.at_ j hj hr,.row _ _ _ _ ?_ rfl⟩
   have:=cleanIC (R j);rwa [cellsI] at this
  ·obtain ⟨q1,_⟩:=hX k (List.mem_map.2 ⟨_,hm,rfl⟩);exact ⟨Nat.lt_of_lt_of_le q1 hn,fun _=>Nat.zero_le _,fun hx=>absurd rfl hx,hb.all _ hm b rfl⟩
 ·obtain ⟨b,hb1⟩:=Option.ne_none_iff_exists'.1 hk;obtain ⟨b',hb2⟩:=Option.ne_none_iff_exists'.1 hk';have hXk:∀{k:Nat}{b:U.Blk},(k,some b)∈X->ρ k=k∧k≠c0∧∀j,j<n->R j≠[]->nm j≠k:=fun {k b} hm=>by
   obtain ⟨q1,q2⟩:=hX k (List.mem_map.2 ⟨_,hm,rfl⟩);exact ⟨hρ k q1,q2⟩
  rcases hnew k b hb1 with ⟨rfl,_⟩|⟨j,hj,rfl,hr,_⟩|hm<;>rcases hnew k' b' hb2 with ⟨rfl,_⟩|⟨j',hj',rfl,hr',_⟩|hm'
  ·rfl
  ·rw[hc.2,(hbs j' hj').2] at e;exact absurd e.symm (h.nz j' hj' hr')
  ·rw[hc.2,(hXk hm').1] at e;exact absurd e.symm (hXk hm').2.1
  ·rw[hc.2,(hbs j hj).2] at e;exact absurd e (h.nz j hj hr)
  ·rw[(hbs j hj).2,(hbs j' hj').2] at e;rw[h.inj j j' hj hj' hr hr' e]
  ·rw[(hbs j hj).2,(hXk hm').1] at e;exact absurd e ((hXk hm').2.2 j hj hr)
  ·rw[hc.2,(hXk hm).1] at e;exact absurd e (hXk hm).2.1
  ·rw[(hbs j' hj').2,(hXk hm).1] at e;exact absurd e.symm ((hXk hm).2.2 j' hj' hr')
  ·rw[(hXk hm).1,(hXk hm').1] at e;exact e
def sV (c:Nat):List (List Int)->Value
 |[]=>.slice none 0 0
 |r::l=>.slice (some ⟨c,0,none⟩) (l.length+1) (l.length+1)
def sB (nm:Nat->Nat):List (List Int)->Option U.Blk
 |[]=>none
 |r::l=>some (.cells 36 (cellsN (r::l).length (Rf (r::l)) nm) true)
theorem sB_some {nm:Nat->Nat}{rows:List (List Int)}{b:U.Blk}(h:sB nm rows=some b):rows.length≠0∧b=.cells 36 (cellsN rows.length (Rf rows) nm) true:=by
 cases rows with
 |nil=>cases h
 |cons r l=>cases h;exact ⟨by simp,rfl⟩
theorem sB_get {nm:Nat->Nat}{rows:List (List Int)}(h:rows.length≠0):sB nm rows=some (.cells 36 (cellsN rows.length (Rf rows) nm) true):=by
 cases rows with
 |nil=>exact absurd rfl h
 |cons r l=>rfl
theorem sV_ren {n:Nat}{ρ:U.Ren}{a b:Nat}(rows:List (List Int)) (h:a<n) (e:ρ.f a=b):U.RenV n ρ (sV a rows) (sV b rows):=by
 cases rows with
 |nil=>exact .F rfl rfl
 |cons r l=>exact .sl _ _ _ _ _ _ _ h e rfl rfl
structure EnD where
 k:Int
 nm:ByteArray
 no:Int
 lo:Int
 hi:Int
 size:Int
 ps:List ByteArray
 ln:Int
 cl:Int
def encEn (e:EnD):Value:=.agg ⟨[.int .i64 e.k,.string e.nm,.int .i64 e.no,.int .i64 e.lo,.int .i64 e.hi,.int .i64 e.size,imS (sL e.ps),.int .i64 e.ln,.int .i64 e.cl]⟩
def encEns (l:List EnD):List Value:=l.map encEn
theorem encEns_map (l:List EnD):encEns l=l.map encEn:=rfl
def cntEn (l:List EnD) (g:Int):Nat:=(l.filter fun e=>grpB e.k==g).length
def celEn (l:List EnD):Int:=((l.filter fun e=>e.k==3).map (·.size)).sum
def mkEn (l:List EnD) (d:ADc):EnD:=⟨d.k,d.nm,cntEn l (grpB d.k),d.lo,d.hi,d.size,d.ps,d.ln,d.cl⟩
def errEn (l:List EnD) (d:ADc):Int :=
 if (l.any fun e=>decide (e.nm=d.nm))=true∨(d.k=4∧¬d.ps.Nodup) then 100
 else if d.hi<d.lo then 101
 else if d.k≠3 then 0
 else if d.size<1∨1024<d.size then 102
 else if 4096<celEn l+d.size then 103
 else 0
def entsD:List EnD->List ADc->List EnD ⊕ (Int×Int×Int)
 |l,[]=>.inl l
 |l,d::ds=>if errEn l d=0 then entsD (l++[mkEn l d]) ds else .inr (d.ln,d.cl,errEn l d)
theorem cleanEn_cells (d:EnD):∀c∈cellsOf (encEn d),NoNm c:=fun c hc=>by
 simp only[encEn,cellsOf,List.mem_cons,List.not_mem_nil,or_false] at hc;rcases hc with rfl|rfl|rfl|rfl|rfl|rfl|rfl|rfl|rfl
 ·exact .flat _ rfl
 ·exact .flat _ rfl
 ·exact .flat _ rfl
 ·exact .flat _ rfl
 ·exact .flat _ rfl
 ·exact .flat _ rfl
 ·exact cleanSL _
 ·exact .flat _ rfl
 ·exact .flat _ rfl
theorem cleanEnCells (l:List EnD):∀c,c∈cellsAll (encEns l)->NoNm c:=fun c hc=>by
 obtain ⟨v,hv,hc⟩:=List.mem_flatMap.1 hc;obtain ⟨e,_,rfl⟩:=List.mem_map.1 hv;exact cleanEn_cells e c hc
theorem cleanEns (l:List EnD):NoNm (imS (encEns l)):=.ims _ (cleanEnCells l)
theorem cellsEn_9 (l:List EnD):∀y,y∈encEns l->(cellsOf y).length=9:=fun y hy=>by
 obtain ⟨e,_,rfl⟩:=List.mem_map.1 hy;rfl
theorem cellsEn_len:∀l:List EnD,(cellsAll (encEns l)).length=l.length*9
 |[]=>rfl
 |e::l=>by
  rw[encEns,List.map_cons,cellsAll,List.flatMap_cons,List.length_append];have:=cellsEn_len l;rw[encEns,cellsAll] at this;rw[this,List.length_cons];show 9+_=_
  omega
theorem cellsEn_snoc (l:List EnD) (e:EnD):cellsAll (encEns (l++[e]))=cellsAll (encEns l)++cellsOf (encEn e):=by
 rw[encEns,List.map_append,cellsAll,List.flatMap_append];simp[cellsAll,encEns]
structure OkEs (l:List EnD):Prop where
 nd:(l.map (·.nm)).Nodup
 c0:0≤celEn l
 c1:celEn l≤4096
theorem OkEs.nil:OkEs []:=⟨.nil,Int.le_refl _,by decide⟩
theorem celEn_snoc (l:List EnD) (e:EnD):celEn (l++[e])=celEn l+if e.k=3 then e.size else 0:=by
 unfold celEn;rw[List.filter_append];by_cases h:e.k=3
 ·simp[h]
 ·simp[h]
theorem cntEn_snoc (l:List EnD) (e:EnD) (g:Int):cntEn (l++[e]) g=cntEn l g+if grpB e.k=g then 1 else 0:=by
 unfold cntEn;rw[List.filter_append];by_cases h:grpB e.k=g
 ·simp[h]
 ·simp[h]
theorem OkEs.snoc {l:List EnD}{d:ADc}(h:OkEs l) (he:errEn l d=0):OkEs (l++[mkEn l d]):=by
 unfold errEn at he;split at he
 ·cases he
 rename_i h1;split at he
 ·cases he
 refine ⟨?_,?_,?_⟩
 ·rw[List.map_append,List.nodup_append];refine ⟨h.nd,by simp,fun a ha b hb=>?_⟩
  simp only[List.map_cons,List.map_nil,List.mem_singleton] at hb;subst hb;intro e;subst e;obtain ⟨e,he1,he2⟩:=List.mem_map.1 ha;exact h1 (.inl (List.any_eq_true.2 ⟨e,he1,decide_eq_true he2⟩))
 all_goals
  rw[celEn_snoc];have:=h.c0;have:=h.c1;show _≤_
  split
  ·rename_i hk;have hk:d.k=3:=hk;rw[if_neg (fun hn=>hn hk)] at he;split at he
   ·cases he
   ·split at he
    ·cases he
    ·show _≤_
     have:(mkEn l d).size=d.size:=rfl;omega
  ·omega
abbrev bPr (p:APr):U.Blk:=.cells 25 [imS (encDcs p.ds),imS (encTs p.mn)] false
abbrev bGr (u v:Value):U.Blk:=.cells 48 [u,v] false
abbrev XO (p:APr) (ns:List ByteArray) (m:MSI) (sv:Value):List (Nat×Option U.Blk):=[(0,some (bPr p)),(1,some (bGr (.slice none 0 0) (.slice none 0 0))),(2,some bF),(3,some (bGr (rowS 5 (sL ns)) sv)),(4,some (mS m)),(5,rowO 9 (sL ns))]
noncomputable abbrev stOf (p:APr) (ns:List ByteArray) (m:MSI) (rows:List (List Int)):AS:=⟨mkOB (base1 (famR rows.length (Rf rows) rows.length)) [(0,some (bPr p)),(1,some (bGr (.slice none 0 0) (.slice none 0 0))),(2,some bF),(3,some (bGr (rowS 5 (sL ns)) (sV 250 rows))),(4,some (mS m)),(5,rowO 9 (sL ns)),(250,sB nmO rows)],65537,0,0⟩
noncomputable abbrev stOg (p:APr) (ns:List ByteArray) (m:MSI) (rows:List (List Int)) (r:List Int):AS:=⟨mkOB (base1 (famR rows.length (Rf rows) rows.length)) [(65537,bI r),(0,some (bPr p)),(1,some (bGr (.slice none 0 0) (.slice none 0 0))),(2,some bF),(3,some (bGr (rowS 5 (sL ns)) (sV 250 rows))),(4,some (mS m)),(5,rowO 9 (sL ns)),(250,sB nmO rows)],65538,0,0⟩
theorem rowO_ne {T:TypeId}{ys:List Value}{b:U.Blk}(h:rowO T ys=some b) (hc:∀y∈ys,cellsOf y≠[]):∃T xs op,b=.cells T xs op∧xs≠[]:=by
 cases ys with
 |nil=>cases h
 |cons y ys =>
  cases h;refine ⟨_,_,_,rfl,?_⟩;have:=hc y (by simp)
  rw[cellsAll,List.flatMap_cons];intro e;exact this (List.append_eq_nil_iff.1 e).1
theorem sL_cells {l:List ByteArray}:∀y∈sL l,cellsOf y≠[]:=fun y hy=>by
 obtain ⟨s,_,rfl⟩:=List.mem_map.1 hy;simp[cellsOf]
theorem getO {p:APr}{ns:List ByteArray}{m:MSI}{rows:List (List Int)}{r:List Int}(hn:rows.length≤65000) {k:Nat}{b:U.Blk}(h:(stOg p ns m rows r).heap.get k=some b):(k=65537∧bI r=some b)∨(k<65537∧(stOf p ns m rows).heap.get k=some b∧((k=4∧b=mS m)∨∃T xs op,b=.cells T xs op∧xs≠[])):=by
 have hb1:∀{k:Nat}{b:U.Blk},(base1 (famR rows.length (Rf rows) rows.length)).get k=some b->∃j,k=257+j∧j<rows.length∧Rf rows j≠[]∧b=.cells 3 (iL (Rf rows j)) true:=fun {k b} h=>by
  obtain ⟨j,rfl,h1,h2⟩:=base1_get (by rw[famR_len];omega) h
  obtain ⟨q1,_,q3,q4⟩:=famR_at h2;exact ⟨j,rfl,q1,q3,q4⟩
 rcases mkOB_get h with h'|h'
 ·simp only[List.mem_cons,Prod.mk.injEq,List.not_mem_nil,or_false,Option.some.injEq] at h'
  rcases h' with ⟨rfl,h'⟩|⟨rfl,rfl⟩|⟨rfl,rfl⟩|⟨rfl,rfl⟩|⟨rfl,rfl⟩|⟨rfl,rfl⟩|⟨rfl,h'⟩|⟨rfl,h'⟩
  ·exact .inl ⟨rfl,h'.symm⟩
  ·exact .inr ⟨by omega,rfl,.inr ⟨_,_,_,rfl,by simp⟩⟩
  ·exact .inr ⟨by omega,rfl,.inr ⟨_,_,_,rfl,by simp⟩⟩
  ·exact .inr ⟨by omega,rfl,.inr ⟨_,_,_,rfl,by simp⟩⟩
  ·exact .inr ⟨by omega,rfl,.inr ⟨_,_,_,rfl,by simp⟩⟩
  ·exact .inr ⟨by omega,rfl,.inl ⟨rfl,rfl⟩⟩
  ·exact .inr ⟨by omega,h'.symm,.inr (rowO_ne h'.symm sL_cells)⟩
  ·obtain ⟨h1,h2⟩:=sB_some h'.symm;refine .inr ⟨by omega,h'.symm,.inr ⟨_,_,_,h2,fun e=>?_⟩⟩
   have:=congrArg List.length e;rw[cellsN_len] at this;exact h1 this
 ·obtain ⟨j,rfl,h1,h2,h3⟩:=hb1 h';refine .inr ⟨by omega,?_,.inr ⟨_,_,_,h3,?_⟩⟩
  ·have:=src1 (sh:=(stOf p ns m rows).heap) (l:=famR rows.length (Rf rows) rows.length) (fun p=>rfl) (by rw[famR_len];omega) (j:=j) (by rw[famR_len];exact h1)
   rw[this,famR_to h1 (by omega) h2,h3]
  ·intro e;have:=congrArg List.length e;rw[iL_len] at this;exact h2 (List.eq_nil_of_length_eq_zero this)
theorem getO' {p:APr}{ns:List ByteArray}{m:MSI}{rows:List (List Int)}(hn:rows.length≤65000) {k:Nat}{b:U.Blk}(h:(stOf p ns m rows).heap.get k=some b):(k=4∧b=mS m)∨∃T xs op,b=.cells T xs op∧xs≠[]:=by
 have h2:(stOg p ns m rows []).heap.get k=some b:=by
  have e:(stOg p ns m rows []).heap.get k=if k=65537 then none else (stOf p ns m rows).heap.get k:=Tr.get_set _ _ _ _
  rw[e];split
  ·rename_i hk;subst hk;have:(stOf p ns m rows).heap.get 65537=none:=rfl;rw[this] at h;cases h
  ·exact h
 rcases getO hn h2 with ⟨_,h3⟩|⟨_,_,h3⟩
 ·cases h3
 ·exact h3
theorem gatherO {p:APr}{ns:List ByteArray}{m:MSI}{rows:List (List Int)}{l:List AS6}{res:List Int ⊕ (Int×Int)}(hn:rows.length≤65000) (h:SoundAt Tryd.prog 23 (argsG 1 [] l) (stG m []) (GatQ [] res)) {K:Value->AS->Prop}
  (hl:∀r,res=.inl r->K (.tuple ⟨[rowS 65537 (iL r),fltV 0 0 0]⟩) (stOg p ns m rows r))
  (hr:∀f,res=.inr f->K (.tuple ⟨[.slice none 0 0,fltV f.1 f.2 120]⟩) (stOg p ns m rows [])):SoundAt Tryd.prog 23 [.slice none 0 0,imS (encTs l),.map (some 4)] (stOf p ns m rows) K:=by
 have hmv:∀k,¬U.Mvd (stG m []) (fun _=>4) k:=by
  rintro k ⟨j,h1,h2,_⟩
  obtain ⟨b,hb⟩:=Option.ne_none_iff_exists'.1 h2;have h1:1≤j:=h1;rcases getG hb with ⟨rfl,_⟩|⟨rfl,hb⟩
  ·omega
  ·cases hb
 refine SoundAt.frame h (fun _=>4) (show 1≤2 by decide) rfl zL (fun j b hj=>?_) (fun j j' hj hj' e=>?_) (fun k b hk hm=>?_) (.K rfl rfl (.L (cleanT6s l) rfl (.cons (.mp _ _ (show 0<2 by decide) rfl) .nil))) fun u0 t0 hq hst=>?_
 ·rcases getG hj with ⟨rfl,rfl⟩|⟨rfl,hb⟩
  ·exact ⟨show 0<2 by decide,fun h=>absurd h (show ¬1≤0 by decide),_,rfl,.map _ _ _ (mS_noNm _)⟩
  ·cases hb
 ·obtain ⟨b,hb⟩:=Option.ne_none_iff_exists'.1 hj;obtain ⟨b',hb'⟩:=Option.ne_none_iff_exists'.1 hj';rcases getG hb with ⟨rfl,_⟩|⟨rfl,hb⟩
  ·rcases getG hb' with ⟨rfl,_⟩|⟨rfl,hb'⟩
   ·rfl
   ·cases hb'
  ·cases hb
 ·rcases getO' hn hk with ⟨rfl,rfl⟩|h3
  ·exact .inr ⟨_,_,_,0,rfl,mS_flat m,show 0<1 by decide,rfl,rfl⟩
  ·exact .inl h3
 ·have tell:∀(r:List Int) (u1:Value),(∀b,bI r=some b->t0.heap.get 3=some b)->U.RenQ (U.okF (stOf p ns m rows) (stOg p ns m rows r) (stG m []) (fun _=>4) (fun k=>if k=65537 then 3 else 0)) (fun k=>if k=65537 then 3 else 0) u1 u0->U.TellF (stOf p ns m rows) (stOg p ns m rows r) (stG m []) t0 (fun _=>4) (fun k=>if k=65537 then 3 else 0) u1 u0:=fun r u1 hr hu=>by
   refine ⟨rfl,rfl,show 65537≤65538 by decide,fun k hk=>absurd hk (Nat.not_lt_zero k),fun k b hk hb=>?_,fun k b hk hb=>?_,fun k k' hk hk' hb hb' _=>?_,hu⟩
   ·have hk:k<65537:=hk;rcases getO hn hb with ⟨rfl,_⟩|⟨_,h2,_⟩
    ·omega
    ·exact .inl ⟨h2,hmv k⟩
   ·have hk:65537≤k:=hk;rcases getO hn hb with ⟨rfl,h2⟩|⟨h2,_⟩
    ·exact ⟨show 65537<65538 by decide,show 2≤3 by decide,b,hr b h2,bI_q h2⟩
    ·omega
   ·have hk:65537≤k:=hk;have hk':65537≤k':=hk';obtain ⟨b,hb⟩:=Option.ne_none_iff_exists'.1 hb;obtain ⟨b',hb'⟩:=Option.ne_none_iff_exists'.1 hb';rcases getO hn hb with ⟨rfl,_⟩|⟨h2,_⟩<;>rcases getO hn hb' with ⟨rfl,_⟩|⟨h3,_⟩<;>omega
  cases res with
  |inl r =>
   obtain ⟨e0,q1⟩:=hq;subst e0;refine ⟨_,_,_,tell r _ q1 ?_,hl r rfl⟩;refine .tup _ _ rfl fun i a b ha hb=>?_
   rcases i with _|_|i
   ·cases ha;cases hb;exact rowS_q (fun _=>.inr ⟨show 65537≤65537 by decide,show 65537<65538 by decide,show 2≤3 by decide⟩) rfl
   ·cases ha;cases hb;exact .flat _ rfl
   ·simp at ha
  |inr f =>
   have e0:u0=_:=hq;subst e0;exact ⟨_,_,_,tell [] _ (fun b hb=>by cases hb) (.flat _ rfl),hr f rfl⟩
end Go.Proofs.YtcihknonfcldeaaDoor
namespace Go.Proofs.YtcihknonfcldeaaDoor.U
open Go Go.RowKit Go.Sort
set_option linter.unusedVariables false
set_option linter.unusedSimpArgs false
set_option maxRecDepth 100000
set_option maxHeartbeats 40000000
variable {P : Program} {N : Nat} {fr : Tr Value} {ts : Option (List Value)}
end Go.Proofs.YtcihknonfcldeaaDoor.U
