
import Derived.Test.YthekpmpcbidjiaaGreatT28
import Derived.Test.YthekpmpcbidjiaaGreatT31
namespace Go.Proofs.YthekpmpcbidjiaaGreat
open Go Go.RowKit Go.Sort U
set_option linter.unusedVariables false
set_option linter.unusedSimpArgs false
def okB (back : List (List Int)) : Prop := ∀ r ∈ back, ∀ x ∈ r, ∃ u : Nat, x = u ∧ u < back.length
def ES (back : List (List Int)) (v u : Nat) : Prop := (u : Int) ∈ back.getD v []
inductive Way (back : List (List Int)) (node : Nat) : Nat → Nat → Prop
  | here : Way back node 0 node
  | step {k v u : Nat} (h : Way back node k v) (e : ES back v u) : Way back node (k + 1) u
structure Bfs (back : List (List Int)) (node : Nat) (way : List Int) (L : List Nat) (i : Nat) (p : List Int) : Prop where
  wl : way.length = back.length
  lt : ∀ u ∈ L, u < back.length
  nd : L.Nodup
  seen : ∀ u, u < back.length → (0 ≤ gt0 way u ↔ u ∈ L)
  neg : ∀ u, u < back.length → u ∉ L → gt0 way u = -1
  wy : ∀ u ∈ L, Way back node (gt0 way u).toNat u
  hd : node ∈ L ∧ gt0 way node = 0
  srt : L.Pairwise fun a b => gt0 way a ≤ gt0 way b
  near : ∀ v, L[i]? = some v → ∀ u ∈ L, gt0 way u ≤ gt0 way v + 1
  dn : ∀ j v, j < i → L[j]? = some v → ∀ u, ES back v u → u ∈ L ∧ gt0 way u ≤ gt0 way v + 1
  part : ∀ v, L[i]? = some v → ∀ u : Nat, (u : Int) ∈ p → u ∈ L ∧ gt0 way u ≤ gt0 way v + 1
  il : i ≤ L.length
  bd : ∀ u ∈ L, gt0 way u + 1 ≤ L.length
theorem es_lt {back : List (List Int)} (hb : okB back) {v u : Nat} (h : ES back v u) : u < back.length := by
  unfold ES at h
  rw [List.getD_eq_getElem?_getD] at h
  cases hv : back[v]? with
  | none => rw [hv] at h; simp at h
  | some r =>
    rw [hv] at h
    obtain ⟨w, e, hw⟩ := hb r (List.mem_of_getElem? hv) u h
    have : u = w := by omega
    subst this; exact hw
theorem Bfs.skip {back : List (List Int)} {node : Nat} {way : List Int} {L : List Nat} {i : Nat} {p : List Int} (h : Bfs back node way L i p) {w : Nat} (hw : w < back.length) (h0 : 0 ≤ gt0 way w) : Bfs back node way L i (p ++ [(w : Int)]) := by
  refine { h with part := fun v hv u hu => ?_ }
  rcases List.mem_append.1 hu with hu | hu
  · exact h.part v hv u hu
  · have : u = w := Int.ofNat_inj.1 (by simpa using hu)
    subst this
    have hm := (h.seen u hw).1 h0
    exact ⟨hm, h.near v hv u hm⟩
theorem Bfs.add {back : List (List Int)} {node : Nat} {way : List Int} {L : List Nat} {i : Nat} {p : List Int} (h : Bfs back node way L i p) {v w : Nat} (hv : L[i]? = some v) (hw : w < back.length) (h0 : gt0 way w < 0) (he : ES back v w) : Bfs back node (way.set w (gt0 way v + 1)) (L ++ [w]) i (p ++ [(w : Int)]) := by
  have hvm : v ∈ L := List.mem_of_getElem? hv
  have hv0 : 0 ≤ gt0 way v := (h.seen v (h.lt v hvm)).2 hvm
  have hwn : w ∉ L := fun hm => by have := (h.seen w hw).2 hm; omega
  have hs : gt0 (way.set w (gt0 way v + 1)) w = gt0 way v + 1 := gt0_set_same (by rw [h.wl]; exact hw)
  have ho : ∀ u, u ≠ w → gt0 (way.set w (gt0 way v + 1)) u = gt0 way u := fun u hu => gt0_set_ne hu
  have hne : ∀ u ∈ L, u ≠ w := fun u hu e => hwn (e ▸ hu)
  have hvi : ∀ v', (L ++ [w])[i]? = some v' → v' = v := fun v' hv' => by
    have hi := (List.getElem?_eq_some_iff.1 hv).1
    rw [List.getElem?_append_left hi, hv] at hv'
    exact (Option.some.inj hv').symm
  refine ⟨by rw [List.length_set]; exact h.wl, ?_, ?_, ?_, ?_, ?_, ?_, ?_, ?_, ?_, ?_, ?_, ?_⟩
  · intro u hu
    rcases List.mem_append.1 hu with hu | hu
    · exact h.lt u hu
    · have : u = w := by simpa using hu
      omega
  · rw [List.nodup_append]
    exact ⟨h.nd, by simp, fun a ha b hb e => by simp at hb; subst hb; subst e; exact hwn ha⟩
  · intro u hu
    by_cases huw : u = w
    · subst huw; exact ⟨fun _ => by simp, fun _ => by rw [hs]; omega⟩
    · rw [ho u huw, h.seen u hu]; simp [huw]
  · intro u hu hm
    have huw : u ≠ w := fun e => hm (by simp [e])
    rw [ho u huw]
    exact h.neg u hu fun hm' => hm (by simp [hm'])
  · intro u hu
    rcases List.mem_append.1 hu with hu | hu
    · rw [ho u (hne u hu)]; exact h.wy u hu
    · have : u = w := by simpa using hu
      subst this
      rw [hs, show (gt0 way v + 1).toNat = (gt0 way v).toNat + 1 by omega]
      exact .step (h.wy v hvm) he
  · exact ⟨by simp [h.hd.1], by rw [ho _ (hne _ h.hd.1)]; exact h.hd.2⟩
  · rw [List.pairwise_append]
    refine ⟨h.srt.imp_of_mem fun {a b} ha hb hab => by rw [ho a (hne a ha), ho b (hne b hb)]; exact hab, by simp, fun a ha b hb => ?_⟩
    have : b = w := by simpa using hb
    subst this
    rw [hs, ho a (hne a ha)]
    exact h.near v hv a ha
  · intro v' hv' u hu
    rw [hvi v' hv', ho v (hne v hvm)]
    rcases List.mem_append.1 hu with hu | hu
    · rw [ho u (hne u hu)]; exact h.near v hv u hu
    · have : u = w := by simpa using hu
      subst this; rw [hs]; omega
  · intro j v' hj hv' u hu
    have hil := h.il
    have hv2 : L[j]? = some v' := by rwa [List.getElem?_append_left (by omega)] at hv'
    obtain ⟨h1, h2⟩ := h.dn j v' hj hv2 u hu
    exact ⟨by simp [h1], by rw [ho u (hne u h1), ho v' (hne v' (List.mem_of_getElem? hv2))]; exact h2⟩
  · intro v' hv' u hu
    rw [hvi v' hv', ho v (hne v hvm)]
    rcases List.mem_append.1 hu with hu | hu
    · obtain ⟨h1, h2⟩ := h.part v hv u hu
      exact ⟨by simp [h1], by rw [ho u (hne u h1)]; exact h2⟩
    · have : u = w := Int.ofNat_inj.1 (by simpa using hu)
      subst this
      exact ⟨by simp, by rw [hs]; omega⟩
  · have := h.il; simp; omega
  · intro u hu
    rw [List.length_append, List.length_singleton]
    rcases List.mem_append.1 hu with hu | hu
    · rw [ho u (hne u hu)]; have := h.bd u hu; omega
    · have : u = w := by simpa using hu
      subst this
      rw [hs]; have := h.bd v hvm; omega
theorem Bfs.next {back : List (List Int)} {node : Nat} {way : List Int} {L : List Nat} {i : Nat} {v : Nat} (hv : L[i]? = some v) (h : Bfs back node way L i (back.getD v [])) : Bfs back node way L (i + 1) [] := by
  have hi := (List.getElem?_eq_some_iff.1 hv).1
  refine { h with near := fun v' hv' u hu => ?_, dn := fun j w hj hw u hu => ?_, part := fun _ _ u hu => (by cases hu), il := hi }
  · have hi' := (List.getElem?_eq_some_iff.1 hv').1
    have h1 := h.near v hv u hu
    have h2 : gt0 way v ≤ gt0 way v' := by
      have e1 : L[i] = v := (List.getElem?_eq_some_iff.1 hv).2
      have e2 : L[i + 1] = v' := (List.getElem?_eq_some_iff.1 hv').2
      rw [← e1, ← e2]
      exact List.pairwise_iff_getElem.1 h.srt i (i + 1) hi hi' (by omega)
    omega
  · by_cases hji : j = i
    · subst hji
      rw [hv] at hw
      cases hw
      exact h.part v hv u hu
    · exact h.dn j w (by omega) hw u hu
theorem bfs_init {back : List (List Int)} {node : Nat} (hn : node < back.length) : Bfs back node ((List.replicate back.length (-1)).set node 0) [node] 0 [] := by
  have hs : gt0 ((List.replicate back.length (-1 : Int)).set node 0) node = 0 := gt0_set_same (by simpa using hn)
  have ho : ∀ u, u < back.length → u ≠ node → gt0 ((List.replicate back.length (-1 : Int)).set node 0) u = -1 := fun u hu hne => by
    rw [gt0_set_ne hne]
    simp [gt0, List.getElem?_replicate, hu]
  refine ⟨by simp, by simpa using hn, by simp, fun u hu => ?_, fun u hu hm => ho u hu (by simpa using hm), fun u hu => ?_, ⟨by simp, hs⟩, by simp, fun v hv u hu => ?_, fun j v hj => (by omega), fun v hv u hu => (by cases hu), by simp, fun u hu => ?_⟩
  · by_cases hun : u = node
    · subst hun; rw [hs]; simp
    · rw [ho u hu hun]; simp [hun]
  · have : u = node := by simpa using hu
    subst this; rw [hs]; exact .here
  · have h1 : v = node := by simpa using hv.symm
    have h2 : u = node := by simpa using hu
    subst h1; subst h2; omega
  · have : u = node := by simpa using hu
    subst this; rw [hs]; simp
def farOk (back : List (List Int)) (node : Nat) (way : List Int) : Prop := way.length = back.length ∧ ∀ u, u < back.length → (gt0 way u = -1 ∧ ∀ k, ¬ Way back node k u) ∨ ∃ d : Nat, gt0 way u = d ∧ Way back node d u ∧ ∀ k, Way back node k u → d ≤ k
theorem Bfs.fin {back : List (List Int)} {node : Nat} {way : List Int} {L : List Nat} {p : List Int} (h : Bfs back node way L L.length p) : farOk back node way := by
  have key : ∀ k u, Way back node k u → u ∈ L ∧ gt0 way u ≤ k := fun k u hk => by
    induction hk with
    | here => exact ⟨h.hd.1, by rw [h.hd.2]; simp⟩
    | @step k v u _ e ih =>
      obtain ⟨j, hj, hjv⟩ := List.mem_iff_getElem.1 ih.1
      obtain ⟨h1, h2⟩ := h.dn j v hj (by rw [List.getElem?_eq_getElem hj, hjv]) u e
      exact ⟨h1, by have := ih.2; omega⟩
  refine ⟨h.wl, fun u hu => ?_⟩
  by_cases hm : u ∈ L
  · have h0 := (h.seen u hu).2 hm
    refine .inr ⟨(gt0 way u).toNat, by omega, h.wy u hm, fun k hk => ?_⟩
    have := (key k u hk).2
    omega
  · exact .inl ⟨h.neg u hu hm, fun k hk => hm (key k u hk).1⟩
end Go.Proofs.YthekpmpcbidjiaaGreat
namespace Go.Proofs.YthekpmpcbidjiaaGreat.U
open Go Go.RowKit Go.Sort
set_option linter.unusedVariables false
set_option linter.unusedSimpArgs false
structure DenN (P : Program) (f : FuncId) (args : List Value) (u : Value) : Prop where
  out : ∀ (z : Nat → Nat → Option Value) (W : World) (vs : List Value), (∀ r o v, z r o = some v → W.cell? ⟨r, o, none⟩ = some v) → VRs ⟨fun _ => none, z⟩ args vs →
    Calls P f ⟨vs⟩ W fun e w' => ∃ v z', e = .returned v ∧ (Below W.heap.size W w' ∧ W.drawn ≤ w'.drawn) ∧ (∀ r o x, z' r o = some x → w'.cell? ⟨r, o, none⟩ = some x ∧ W.heap.size ≤ r) ∧ VR ⟨fun _ => none, z'⟩ u v
inductive FrzN (P : Program) (s : AS) : Value → Value → Prop where
  | flat (u : Value) (h : flatV u = true) : FrzN P s u u
  | nil : FrzN P s (.slice none 0 0) (imS [])
  | agg (l m : List Value) (hl : l.length = m.length) (h : ∀ (i : Nat) (u v : Value), l[i]? = some u → m[i]? = some v → FrzN P s u v) : FrzN P s (.agg ⟨l⟩) (.agg ⟨m⟩)
  | tup (l m : List Value) (hl : l.length = m.length) (h : ∀ (i : Nat) (u v : Value), l[i]? = some u → m[i]? = some v → FrzN P s u v) : FrzN P s (.tuple ⟨l⟩) (.tuple ⟨m⟩)
  | row (k n c z : Nat) (T : TypeId) (xs ys : List Value) (op : Bool) (hlo : s.lo ≤ k) (hk : s.heap.get k = some (.cells T xs op)) (hz : ∀ y, y ∈ ys → (cellsOf y).length = z) (hn : n = ys.length) (hc : n ≤ c) (hl : (cellsAll ys).length ≤ xs.length) (h : ∀ (i : Nat) (u v : Value), xs[i]? = some u → (cellsAll ys)[i]? = some v → FrzN P s u v) :
      FrzN P s (.slice (some ⟨k, 0, none⟩) n c) (imS ys)
theorem FrzN.rel {P : Program} {s : AS} {W0 W : World} {β : Bt} {z' : Nat → Nat → Option Value} (hR : Rel P W0 β s W) (h2 : ∀ r o x, W0.heap.size ≤ r → W.cell? ⟨r, o, none⟩ = some x → z' r o = some x) {u y : Value} (h : FrzN P s u y) : ∀ {v : Value}, VR β u v → VR ⟨fun _ => none, z'⟩ y v := by
  induction h with
  | flat u h => intro v hv; rw [hv.flat_eq h]; exact .of_flat _ h
  | nil => intro v hv; rw [hv.flat1_eq rfl]; exact .imn
  | agg l m hl _ ih =>
    intro v hv
    obtain ⟨l', e1, rfl⟩ := hv.agg_inv
    refine .agg m l' (hl.symm.trans e1.1) fun i u v hu hv => ?_
    have hi : i < l.length := by rw [hl]; exact (List.getElem?_eq_some_iff.1 hu).1
    exact ih i l[i] u (List.getElem?_eq_getElem hi) hu (e1.2 i _ v (List.getElem?_eq_getElem hi) hv)
  | tup l m hl _ ih =>
    intro v hv
    obtain ⟨l', e1, rfl⟩ := hv.tup_inv
    refine .tup m l' (hl.symm.trans e1.1) fun i u v hu hv => ?_
    have hi : i < l.length := by rw [hl]; exact (List.getElem?_eq_some_iff.1 hu).1
    exact ih i l[i] u (List.getElem?_eq_getElem hi) hu (e1.2 i _ v (List.getElem?_eq_getElem hi) hv)
  | row k n c z T xs ys op hlo hk hz hn hc hl _ ih =>
    intro v hv
    obtain ⟨r, sp, e1, rfl⟩ := hv.sl_inv
    obtain ⟨cs, fz, g1, _, _, g4, g5, g6, g7, g8⟩ := (hR.blk k _ r sp hk e1).real
    subst hn
    have hge := hR.ge k r sp (by rw [hk]; simp) e1 hlo
    have hlen : ((cs.toList.take xs.length).take (cellsAll ys).length).length = (cellsAll ys).length := by
      have := g5.1
      rw [List.length_take, ← this]
      omega
    have hat : ∀ (i : Nat) (w : Value), ((cs.toList.take xs.length).take (cellsAll ys).length)[i]? = some w → (cs.toList.take xs.length)[i]? = some w := fun i w hw => by
      have hil := (List.getElem?_eq_some_iff.1 hw).1
      rwa [List.getElem?_take_of_lt (by rw [List.length_take] at hil; omega)] at hw
    refine .ims ys ((cs.toList.take xs.length).take (cellsAll ys).length) z r 0 (c + sp) hz (by omega) hlen (fun i w hw => ?_) (fun i y w hy hw => ?_) fun w hw => g7 w (List.mem_of_mem_take hw)
    · rw [Nat.zero_add]
      exact h2 r i w hge (g8 i w (hat i w hw))
    · have hw' := hat i w hw
      have hi : i < xs.length := by
        have := (List.getElem?_eq_some_iff.1 hw').1
        rw [g5.1]; exact this
      exact ih i xs[i] y (List.getElem?_eq_getElem hi) hy (g5.2 i _ w (List.getElem?_eq_getElem hi) hw')
theorem denN_of_sound {P : Program} (hm : P.follows .mixedOrders = true) {f : FuncId} {args : List Value} {u : Value} (h : ∀ Ts, SoundAt P f args (start [] Ts) fun u' s' => FrzN P s' u' u) : DenN P f args u := by
  refine ⟨fun z W vs hz hv => (run_out hm h z W vs hz hv).mono fun e w' ⟨v, u', s', β', he, h1, hlo, hR, hv', z1, z2, hdn⟩ => ?_⟩
  refine ⟨v, fun r o => if r < W.heap.size then none else w'.cell? ⟨r, o, none⟩, he, ⟨hR.below, hdn⟩, fun r o x hx => ?_, ?_⟩
  · have hx : (if r < W.heap.size then none else w'.cell? ⟨r, o, none⟩) = some x := hx
    split at hx
    · cases hx
    · exact ⟨hx, by omega⟩
  · refine FrzN.rel hR (fun r o x hr hx => ?_) h1 hv'
    show (if r < W.heap.size then none else w'.cell? ⟨r, o, none⟩) = _
    rw [if_neg (by omega)]; exact hx
theorem SoundAt.nF {P : Program} {f : FuncId} {args args' : List Value} {u : Value} {s : AS} {k : Value → AS → Prop} (h : DenN P f args' u) (hf : FrzL P (seen s) args args') (hk : k u s) : SoundAt P f args s k := by
  refine ⟨fun hl W0 β W vs hR hfr hv => ?_⟩
  have hall : VRs ⟨fun _ => none, fun r o => W.cell? ⟨r, o, none⟩⟩ args' vs := ⟨hf.at_.1.symm.trans hv.1, fun i y v hy hv' => by
    have hi : i < args.length := by rw [hf.at_.1]; exact (List.getElem?_eq_some_iff.1 hy).1
    exact (hf.at_.2 i args[i] y (List.getElem?_eq_getElem hi) hy).relAll (s0 := seen s) (s := s) rfl hR (fun r o x hx => (hR.frz r o x hx).1) (fun _ _ _ h => h) (hv.2 i _ v (List.getElem?_eq_getElem hi) hv')⟩
  refine (h.out (fun r o => W.cell? ⟨r, o, none⟩) W vs (fun _ _ _ h => h) hall).mono fun e w' ⟨v, z', he, ⟨hb, hdn⟩, h2, hv'⟩ => ?_
  have hR' := hR.later hb
  let zf : Nat → Nat → Option Value := fun r o => if r < W.heap.size then β.z r o else z' r o
  have hzlt : ∀ r o x, β.z r o = some x → r < W.heap.size := fun r o x h => cell_lt (hR.frz r o x h).1
  have hz1 : ∀ r o x, β.z r o = some x → zf r o = some x := fun r o x hx => by
    show (if r < W.heap.size then _ else _) = _
    rw [if_pos (hzlt r o x hx)]; exact hx
  have hz2 : ∀ r o x, zf r o = some x → (r < W.heap.size ∧ β.z r o = some x) ∨ (W.heap.size ≤ r ∧ z' r o = some x) := fun r o x hx => by
    have hx : (if r < W.heap.size then β.z r o else z' r o) = some x := hx
    split at hx
    · rename_i h; exact .inl ⟨h, hx⟩
    · rename_i h; exact .inr ⟨by omega, hx⟩
  have hz3 : ∀ r o x, z' r o = some x → zf r o = some x := fun r o x hx => by
    show (if r < W.heap.size then _ else _) = _
    rw [if_neg (by have := (h2 r o x hx).2; omega)]; exact hx
  refine ⟨v, u, s, he, hk, .refl _, ⟨β.m, zf⟩, ⟨fun _ _ => rfl, hfr, ⟨hz1, fun r o x hx => ?_⟩⟩, ⟨fun k b r sp hk hr => (hR'.blk k b r sp hk hr).sameX ⟨fun _ _ h => h, hz1⟩ id rfl, hR'.inj, hR'.dom, hR'.lt, hR'.ge, hR'.below, hR'.glob, fun r o x hx => ?_⟩, ?_, KD.below hb⟩
  · rcases hz2 r o x hx with ⟨_, h⟩ | ⟨h, _⟩
    · exact .inl h
    · exact .inr (Nat.le_trans hR.below.size h)
  · rcases hz2 r o x hx with ⟨_, h⟩ | ⟨h, h'⟩
    · exact hR'.frz r o x h
    · refine ⟨(h2 r o x h').1, fun k sp hlo hk hr => ?_⟩
      have := hR.lt k r sp hr
      omega
  · exact VR.growX (β := ⟨fun _ => none, z'⟩) (β' := ⟨β.m, zf⟩) ⟨fun k x hk => (by cases hk), hz3⟩ hv'
theorem DenN.u {P : Program} {f : FuncId} {args : List Value} {u : Value} (h : DenN P f args u) : DenU P [] f args u := by
  refine ⟨fun z W vs _ hz hv => (h.out z W vs hz hv).mono fun e w' ⟨v, z', he, hb, h2, hv'⟩ => ?_⟩
  have hzlt : ∀ r o x, z r o = some x → r < W.heap.size := fun r o x h => cell_lt (hz r o x h)
  refine ⟨v, fun r o => if r < W.heap.size then z r o else z' r o, he, hb, fun r o x hx => ?_, fun r o x hx => ?_, VR.growX (β := ⟨fun _ => none, z'⟩) ⟨fun k x hk => (by cases hk), fun r o x hx => ?_⟩ hv'⟩
  · show (if r < W.heap.size then _ else _) = _
    rw [if_pos (hzlt r o x hx)]; exact hx
  · have hx : (if r < W.heap.size then z r o else z' r o) = some x := hx
    split at hx
    · rename_i h
      exact ⟨by rw [cell_same (hb.1.block r h)]; exact hz r o x hx, .inl hx⟩
    · exact ⟨(h2 r o x hx).1, .inr (h2 r o x hx).2⟩
  · show (if r < W.heap.size then _ else _) = _
    rw [if_neg (by have := (h2 r o x hx).2; omega)]; exact hx
def chkV : Value → Value → Bool
  | .int k n, .int k' n' => decide (k = k') && decide (n = n')
  | .bool a, .bool b => a == b
  | _, _ => false
theorem chkV_eq : ∀ {a b : Value}, chkV a b = true → a = b ∧ flat1 a = true
  | .int k n, .int k' n', h => by
    simp only [chkV, Bool.and_eq_true, decide_eq_true_eq] at h
    rw [h.1, h.2]; exact ⟨rfl, rfl⟩
  | .bool a, .bool b, h => by
    have : a = b := by simpa [chkV] using h
    rw [this]; exact ⟨rfl, rfl⟩
def chkL : List Value → List Value → Bool
  | [], [] => true
  | a :: l, b :: m => chkV a b && chkL l m
  | _, _ => false
theorem chkL_eq : ∀ {l m : List Value}, chkL l m = true → l = m ∧ ∀ x ∈ l, flat1 x = true
  | [], [], _ => ⟨rfl, fun x h => by cases h⟩
  | a :: l, b :: m, h => by
    simp only [chkL, Bool.and_eq_true] at h
    obtain ⟨h1, h2⟩ := chkV_eq h.1
    obtain ⟨h3, h4⟩ := chkL_eq h.2
    refine ⟨by rw [h1, h3], fun x hx => ?_⟩
    rcases List.mem_cons.1 hx with rfl | hx
    · exact h2
    · exact h4 x hx
def chkRow (ys : List Value) (u : Value) (s : AS) : Bool := match u with
  | .slice none 0 0 => match ys with
    | [] => true
    | _ => false
  | .slice (some ⟨k, 0, none⟩) n c => match Tr.at (pt k) s.heap with
    | some (.cells _ xs _) => decide (s.lo ≤ k) && decide (n = ys.length) && decide (n ≤ c) && chkL (xs.take ys.length) ys
    | _ => false
  | _ => false
theorem chkRow_frz {P : Program} {ys : List Value} {u : Value} {s : AS} (h : chkRow ys u s = true) : FrzN P s u (imS ys) := by
  unfold chkRow at h
  split at h
  · split at h
    · exact .nil
    · cases h
  · rename_i k n c
    split at h
    · rename_i T xs op hk
      simp only [Bool.and_eq_true, decide_eq_true_eq] at h
      obtain ⟨⟨⟨h1, h2⟩, h3⟩, h4⟩ := h
      obtain ⟨e, hfl⟩ := chkL_eq h4
      have hy : ∀ y ∈ ys, flat1 y = true := fun y hy => hfl y (by rw [e]; exact hy)
      have hc1 : ∀ y ∈ ys, cellsOf y = [y] := fun y hyy => by
        have := hy y hyy
        cases y <;> first | rfl | (simp [flat1] at this)
      have hca : cellsAll ys = ys := by
        clear h2 h3 h4 e hfl hy
        induction ys with
        | nil => rfl
        | cons y l ih => rw [cellsAll, List.flatMap_cons, hc1 y (by simp)]; exact congrArg _ (ih fun z hz => hc1 z (by simp [hz]))
      refine .row k n c 1 T xs ys op h1 hk (fun y hyy => by rw [hc1 y hyy]; rfl) h2 h3 (by rw [hca, ← e, List.length_take]; omega) fun i a b ha hb => ?_
      rw [hca] at hb
      have hi : i < ys.length := (List.getElem?_eq_some_iff.1 hb).1
      have ha2 : (xs.take ys.length)[i]? = some a := by rw [List.getElem?_take_of_lt hi]; exact ha
      rw [e, hb] at ha2
      cases ha2
      have hfb := hy _ (List.mem_of_getElem? hb)
      exact .flat _ (by cases a <;> first | exact hfb | (simp [flat1] at hfb))
    · cases h
  · cases h
theorem denN_closed {P : Program} (hm : P.follows .mixedOrders = true) {f : FuncId} {args : List Value} {u : Value} {chk : Value → AS → Bool} (hk : ∀ u' s', chk u' s' = true → FrzN P s' u' u) (fuel n m : Nat) (h : ∀ Ts, ((callX boolX P fuel (callN boolD P fuel (badF boolD) m) (badX boolX) n).call f args (start [] Ts) (noX Bool boolX) chk) = true) : DenN P f args u :=
  denN_of_sound hm fun Ts => ⟨fun hl W0 β W vs hR hf hv => ((callX_ok (D := boolX) hm (callN_ok (D := boolD) hm badF_ok fuel m) badX_ok fuel n).call f args (start [] Ts) (noX Bool boolX) chk hl (h Ts) W0 β W vs hR hf hv).mono fun e w' h => (by
    rcases h with ⟨v, u, s', e1, e2, e3, e4⟩ | ⟨_, _, _, h, _⟩
    · exact ⟨v, u, s', e1, hk _ _ e2, e3, e4⟩
    · exact absurd h boolX.nb)⟩
structure DenE (P : Program) (f : FuncId) (args : List Value) (Q : Value → Prop) : Prop where
  out : ∀ (z : Nat → Nat → Option Value) (W : World) (vs : List Value), (∀ r o v, z r o = some v → W.cell? ⟨r, o, none⟩ = some v) → VRs ⟨fun _ => none, z⟩ args vs →
    Calls P f ⟨vs⟩ W fun e w' => ∃ u v z', Q u ∧ e = .returned v ∧ (Below W.heap.size W w' ∧ W.drawn ≤ w'.drawn) ∧ (∀ r o x, z r o = some x → z' r o = some x) ∧ (∀ r o x, z' r o = some x → w'.cell? ⟨r, o, none⟩ = some x ∧ (z r o = some x ∨ W.heap.size ≤ r)) ∧ VR ⟨fun _ => none, z'⟩ u v
theorem denE_of_sound {P : Program} (hm : P.follows .mixedOrders = true) {f : FuncId} {args : List Value} {Q : Value → Prop} (h : ∀ Ts, SoundAt P f args (start [] Ts) fun u' s' => ∃ u, Q u ∧ FrzV P s' u' u) : DenE P f args Q := by
  refine ⟨fun z W vs hz hv => (run_out hm h z W vs hz hv).mono fun e w' ⟨v, u', s', β', he, ⟨u, hq, h1⟩, hlo, hR, hv', z1, z2, hdn⟩ => ?_⟩
  have hzlt : ∀ r o x, z r o = some x → r < W.heap.size := fun r o x h => cell_lt (hz r o x h)
  have e1 : ∀ r o, r < W.heap.size → w'.cell? ⟨r, o, none⟩ = W.cell? ⟨r, o, none⟩ := fun r o h => cell_same (hR.below.block r h)
  refine ⟨u, v, fun r o => if r < W.heap.size then z r o else w'.cell? ⟨r, o, none⟩, hq, he, ⟨hR.below, hdn⟩, fun r o x hx' => ?_, fun r o x hx' => ?_, ?_⟩
  · show (if r < W.heap.size then z r o else _) = _
    rw [if_pos (hzlt r o x hx')]; exact hx'
  · have hx' : (if r < W.heap.size then z r o else w'.cell? ⟨r, o, none⟩) = some x := hx'
    split at hx'
    · rename_i hr
      exact ⟨by rw [e1 r o hr]; exact hz r o x hx', .inl hx'⟩
    · rename_i hr
      exact ⟨hx', .inr (by omega)⟩
  · refine FrzV.rel hR (fun r o x hx' => ?_) (fun r o x hr hx' => ?_) h1 hv'
    · show (if r < W.heap.size then z r o else w'.cell? ⟨r, o, none⟩) = _
      split
      · rename_i hr
        rcases z2 r o x hx' with h | h
        · exact h
        · omega
      · exact (hR.frz r o x hx').1
    · show (if r < W.heap.size then z r o else w'.cell? ⟨r, o, none⟩) = _
      rw [if_neg (by omega)]; exact hx'
theorem SoundAt.e {P : Program} {f : FuncId} {args : List Value} {Q : Value → Prop} {s : AS} {k : Value → AS → Prop} (h : DenE P f args Q) (hc : NoNms args) (hk : ∀ u, Q u → k u s) : SoundAt P f args s k := by
  refine ⟨fun hlo W0 β W vs hR hf hv => ?_⟩
  refine (h.out β.z W vs (fun r o v hz => (hR.frz r o v hz).1) (NoNm.rels hc.all hv)).mono fun e w' ⟨u, v, z', hq, he, ⟨hb, hdn⟩, h1, h2, h3⟩ => ?_
  have hR' := hR.later hb
  refine ⟨v, u, s, he, hk u hq, .refl _, ⟨β.m, z'⟩, ⟨fun _ _ => rfl, hf, h1, fun r o x hx => ((h2 r o x hx).2).imp id fun hle => Nat.le_trans hR.below.size hle⟩, hR'.frozen hR.lt h1 h2, ?_, KD.below hb⟩
  exact VR.growX (β := ⟨fun _ => none, z'⟩) (β' := ⟨β.m, z'⟩) ⟨fun k x hk => (by cases hk), fun _ _ _ h => h⟩ h3
theorem SoundAt.eF {P : Program} {f : FuncId} {args args' : List Value} {Q : Value → Prop} {s : AS} {k : Value → AS → Prop} (h : DenE P f args' Q) (hu : ∀ u, Q u → flatV u = true) (hf : FrzL P (seen s) args args') (hk : ∀ u, Q u → k u s) : SoundAt P f args s k := by
  refine ⟨fun hl W0 β W vs hR hfr hv => ?_⟩
  have hall : VRs ⟨fun _ => none, fun r o => W.cell? ⟨r, o, none⟩⟩ args' vs := ⟨hf.at_.1.symm.trans hv.1, fun i y v hy hv' => by
    have hi : i < args.length := by rw [hf.at_.1]; exact (List.getElem?_eq_some_iff.1 hy).1
    exact (hf.at_.2 i args[i] y (List.getElem?_eq_getElem hi) hy).relAll (s0 := seen s) (s := s) rfl hR (fun r o x hx => (hR.frz r o x hx).1) (fun _ _ _ h => h) (hv.2 i _ v (List.getElem?_eq_getElem hi) hv')⟩
  refine (h.out (fun r o => W.cell? ⟨r, o, none⟩) W vs (fun _ _ _ h => h) hall).mono fun e w' ⟨u, v, z', hq, he, ⟨hb, hdn⟩, _, _, hv'⟩ => ?_
  have : v = u := hv'.flat_eq (hu u hq)
  subst this
  exact ⟨v, v, s, he, hk v hq, .refl _, β, ⟨fun _ _ => rfl, hfr, fun _ _ _ h => h, fun r o x hx => .inl hx⟩, hR.later hb, .of_flat _ (hu v hq), KD.below hb⟩
end Go.Proofs.YthekpmpcbidjiaaGreat.U
namespace Go.Proofs.YthekpmpcbidjiaaGreat
open Go Go.RowKit Go.Sort U
set_option linter.unusedVariables false
set_option linter.unusedSimpArgs false
set_option maxRecDepth 100000
set_option maxHeartbeats 4000000
def nL (L : List Nat) : List Int := L.map fun (u : Nat) => (u : Int)
theorem nL_len (L : List Nat) : (nL L).length = L.length := List.length_map ..
theorem gt0_nL {L : List Nat} {i v : Nat} (h : L[i]? = some v) : gt0 (nL L) i = v := by simp [gt0, nL, h]
def fillW (n k : Nat) : List Int := List.replicate k (-1) ++ List.replicate (n - k) 0
theorem fillW_len {n k : Nat} (h : k ≤ n) : (fillW n k).length = n := by simp [fillW]; omega
theorem fillW_step {n k : Nat} (h : k < n) : (fillW n k).set k (-1) = fillW n (k + 1) := by
  unfold fillW
  rw [List.set_append_right _ _ (by simp), List.length_replicate, Nat.sub_self, show n - k = (n - (k + 1)) + 1 by omega, List.replicate_succ, List.set_cons_zero, List.replicate_succ', List.append_assoc]
  rfl
theorem fillW_full (n : Nat) : fillW n n = List.replicate n (-1) := by simp [fillW]
theorem far_e (back : List (List Int)) (node : Nat) (hb : okB back) (hn : node < back.length) (hl : back.length ≤ 29000) (hr : ∀ r ∈ back, r.length ≤ maxI) : DenE Tryz.prog 38 [imS (gL back), .int .i64 node] (fun u => ∃ w, u = imS (iL w) ∧ farOk back node w) := by
  refine denE_of_sound hmixU fun Ts => SoundAt.body hmixU Tryz.func38 rfl rfl rfl 0 ?_
  have hmf := mk_full (zs := [.int .i64 0]) (n := (gL back).length) (b := 8) rfl rfl (by decide) (by rw [gL_len]; omega)
  have cg := cleanGL back
  (repeat' ((conv => whnf); first | refine U.ob_c hmf ?_ | refine goA ?_ | refine U.spineC_p ?_ | refine goB ?_ | refine U.lw_c (fun hb => ?_) (fun hb => ?_)))
  (conv => whnf)
  refine loop_inv (α := Nat) (fun k => k ≤ back.length) (fun k => (mkF [(0, imS (gL back)), (1, .int .i64 node), (4, .slice none 0 0), (5, .slice (some ⟨0, 0, none⟩) (gL back).length (gL back).length), (15, .int .i64 (gL back).length), (16, .int .i64 k)], ⟨mkO [(0, some (.cells 3 (iL (fillW back.length k)) false))], 1, 0, 0⟩)) (fun k => back.length - k) 0 (Nat.zero_le _) (Cov.renI rfl rfl rfl rfl (.cons rfl (.row _ _ _ _ (cleanIl0 _) ((by rw [fillW, List.replicate_zero, List.nil_append, Nat.sub_zero, iL_zero, gL_len]; rfl))) .nil) (.cons rfl (.clean _ _ (cleanGL _) rfl) (.cons rfl .I (.cons rfl (.F rfl rfl) (.cons rfl (.S rfl rfl rfl) (.cons rfl .I (.cons rfl .I .nil))))))) ?_
  rintro k hk
  dsimp only
  have hfl := fillW_len hk
  rcases Nat.lt_or_ge k back.length with hlt | hge
  · have g0 : decide ((k : Int) < ((gL back).length : Int)) = true := by rw [gL_len]; simp; omega
    have hkb : k.blt (gL back).length = true := by rw [gL_len]; exact bLe hlt
    have hst : ∀ v : Value, 0 + k * 1 + [v].length ≤ (iL (fillW back.length k)).length := fun v => by rw [iL_len, hfl, List.length_singleton]; omega
    have es := iL_store0 (L := fillW back.length k) (i := k) (x := -1) (by omega)
    rw [fillW_step hlt] at es
    have kw := wadd1 (i := k) (by omega)
    (repeat' ((conv => whnf); first | refine goA ?_ | refine U.storeC_p (hst _) ?_ | refine goB ?_ | refine U.lw_c (fun hb => ?_) (fun hb => ?_)))
    (conv => whnf)
    refine ⟨k + 1, hlt, by omega, ?_⟩
    exact (Cov.renI rfl rfl rfl rfl (.cons rfl (.row _ _ _ _ (cleanIl0 _) (es.symm)) .nil) (.cons rfl (.clean _ _ (cleanGL _) rfl) (.cons rfl .I (.cons rfl (.F rfl rfl) (.cons rfl (.S rfl rfl rfl) (.cons rfl .I (.cons rfl (.clean _ _ (cleanI _) (congrArg (Value.int .i64) (kw.symm))) .nil)))))))
  · have hkn : k = back.length := by omega
    subst hkn
    have g0 : decide ((back.length : Int) < ((gL back).length : Int)) = false := by rw [gL_len]; simp
    have hnb : node.blt (gL back).length = true := by rw [gL_len]; exact bLe hn
    have hst : ∀ v : Value, 0 + node * 1 + [v].length ≤ (iL (fillW back.length back.length)).length := fun v => by rw [iL_len, hfl, List.length_singleton]; omega
    have es := iL_store0 (L := fillW back.length back.length) (i := node) (x := 0) (by omega)
    replace es := (congrArg (fun w => iL (w.set node 0)) (fillW_full back.length).symm).trans es.symm
    (repeat' ((conv => whnf); first | refine goA ?_ | refine U.storeC_p (hst _) ?_ | refine goB ?_ | refine U.lw_c (fun hb => ?_) (fun hb => ?_)))
    (conv => whnf)
    refine loop_inv (α := List Nat × List Int × Nat × Bool) (fun x => Bfs back node x.2.1 x.1 x.2.2.1 []) (fun x => (mkF [(0, imS (gL back)), (4, .slice none 0 0), (5, .slice (some ⟨0, 0, none⟩) (gL back).length (gL back).length), (7, .slice (some ⟨2, 0, none⟩) x.1.length x.1.length), (8, .int .i64 x.2.2.1)], ⟨mkO [(0, some (.cells 3 (iL x.2.1) false)), (2, some (.cells 3 (iL (nL x.1)) x.2.2.2))], 3, 0, 0⟩)) (fun x => back.length - x.2.2.1) ([node], (List.replicate back.length (-1)).set node 0, 0, false) (bfs_init hn) (Cov.renO (fun k => if k = 2 then 1 else k) rfl rfl (Nat.le_of_ble_eq_true rfl) (Nat.zero_le _) (fun k hk => by have : k < 2 := hk; rw [if_neg (by omega)]) rfl (fun k hk => absurd hk (Nat.not_lt_zero k)) (.cons rfl (.row _ _ _ _ (cleanIl0 _) (es)) (.cons rfl (.row _ _ _ _ (cleanIl0 _) rfl) .nil)) (.cons rfl (.clean _ _ (cleanGL _) rfl) (.cons rfl (.F rfl rfl) (.cons rfl (.S rfl rfl rfl) (.cons rfl (.S rfl rfl rfl) (.cons rfl .I .nil)))))) ?_
    rintro ⟨L, way, i, op⟩ hB
    dsimp only at hB
    dsimp only
    have hLn : L.length ≤ back.length := nodup_len hB.nd hB.lt
    have hLk : (nL L).length = L.length := nL_len L
    rcases Nat.lt_or_ge i L.length with hil | hil
    · have g1 : decide ((i : Int) < ((L.length : Nat) : Int)) = true := by simp; omega
      have hib : i.blt L.length = true := bLe hil
      obtain ⟨v, hv⟩ : ∃ v, L[i]? = some v := ⟨L[i], by simp [hil]⟩
      have hvn := hB.lt v (List.mem_of_getElem? hv)
      have hn1 := iL_nth0 (L := nL L) (i := i) (by omega)
      rw [gt0_nL hv] at hn1
      obtain ⟨row, hrw⟩ : ∃ row, back[v]? = some row := ⟨back[v], by simp [hvn]⟩
      have hrd : back.getD v [] = row := by simp [hrw]
      have hrm := List.mem_of_getElem? hrw
      have hrl := hr row hrm
      have hvb : v.blt (gL back).length = true := by rw [gL_len]; exact bLe hvn
      have hvx : nth (gL back) v = some (imS (iL row)) := by rw [nth_eq, gL]; simp [hrw]
      have iw := wadd1 (i := i) (by omega)
      (repeat' ((conv => whnf); first | refine goA ?_ | (conv in (nth _ _) => (change nth _ (0 + i * 1); rw [hn1])) | refine goB ?_ | refine U.lw_c (fun hb => ?_) (fun hb => ?_)))
      (conv => whnf)
      refine loop_inv (α := List Nat × List Int × List Int × List Int × Bool) (fun y => y.2.2.1 ++ y.2.2.2.1 = row ∧ Bfs back node y.2.1 y.1 i y.2.2.1 ∧ y.1[i]? = some v) (fun y => (mkF [(0, imS (gL back)), (4, .slice none 0 0), (5, .slice (some ⟨0, 0, none⟩) (gL back).length (gL back).length), (7, .slice (some ⟨3, 0, none⟩) y.1.length y.1.length), (8, .int .i64 i), (40, imS (iL row)), (41, .int .i64 (iL row).length), (42, .int .i64 y.2.2.1.length)], ⟨mkO [(0, some (.cells 3 (iL y.2.1) false)), (3, some (.cells 3 (iL (nL y.1)) y.2.2.2.2))], 4, 0, 0⟩)) (fun y => y.2.2.2.1.length) (L, way, [], row, op) ⟨rfl, hB, hv⟩ (Cov.renO (fun k => if k = 3 then 2 else k) rfl rfl (Nat.le_of_ble_eq_true rfl) (Nat.zero_le _) (fun k hk => by have : k < 3 := hk; rw [if_neg (by omega)]) rfl (fun k hk => absurd hk (Nat.not_lt_zero k)) (.cons rfl (.row _ _ _ _ (cleanIl0 _) rfl) (.cons rfl (.row _ _ _ _ (cleanIl0 _) rfl) .nil)) (.cons rfl (.clean _ _ (cleanGL _) rfl) (.cons rfl (.F rfl rfl) (.cons rfl (.S rfl rfl rfl) (.cons rfl (.S rfl rfl rfl) (.cons rfl .I (.cons rfl (.clean _ _ (cleanIL _) rfl) (.cons rfl .I (.cons rfl .I .nil))))))))) ?_
      rintro ⟨L2, way2, p, q, op2⟩ ⟨p1, hB2, hv2⟩
      dsimp only at p1 hB2 hv2
      dsimp only
      rcases q with _ | ⟨t, q⟩
      · rw [List.append_nil] at p1
        subst p1
        have h4b := U.lt_no iL_map p
        (repeat' ((conv => whnf); first | refine goD ?_ | refine U.lw_c (fun hb => ?_) (fun hb => ?_)))
        (conv => whnf)
        rw [← hrd] at hB2
        refine ⟨(L2, way2, i + 1, op2), hB2.next hv2, by dsimp only; omega, ?_⟩
        exact (Cov.renO (fun k => if k = 2 then 3 else k) rfl rfl (Nat.le_of_ble_eq_true rfl) (Nat.zero_le _) (fun k hk => by have : k < 2 := hk; rw [if_neg (by omega)]) rfl (fun k hk => absurd hk (Nat.not_lt_zero k)) (.cons rfl (.row _ _ _ _ (cleanIl0 _) rfl) (.cons rfl (.row _ _ _ _ (cleanIl0 _) rfl) .nil)) (.cons rfl (.clean _ _ (cleanGL _) rfl) (.cons rfl (.F rfl rfl) (.cons rfl (.S rfl rfl rfl) (.cons rfl (.S rfl rfl rfl) (.cons rfl (.clean _ _ (cleanI _) (congrArg (Value.int .i64) (iw.symm))) .nil))))))
      · have hrl2 := hrl
        rw [← p1] at hrl2
        obtain ⟨h4b, h4c, h4n, h4w⟩ := U.at4 iL_map p (t) q (hrl2)
        rw [p1] at h4b h4c h4n
        obtain ⟨w, rfl, hw⟩ := hb row hrm t (by rw [← p1]; simp)
        have hwb : w.blt (gL back).length = true := by rw [gL_len]; exact bLe hw
        have hn2 := iL_nth0 (L := way2) (i := w) (by rw [hB2.wl]; exact hw)
        have hes : ES back v w := by unfold ES; rw [hrd, ← p1]; simp
        rcases Int.lt_or_le (gt0 way2 w) 0 with hneg | hpos
        · have g2 : decide (gt0 way2 w < 0) = true := by simpa using hneg
          have hil2 := (List.getElem?_eq_some_iff.1 hv2).1
          have hib2 : i.blt L2.length = true := bLe hil2
          have hn3 := iL_nth0 (L := nL L2) (i := i) (by rw [nL_len]; exact hil2)
          rw [gt0_nL hv2] at hn3
          have hn4 := iL_nth0 (L := way2) (i := v) (by rw [hB2.wl]; exact hvn)
          have hst : ∀ x : Value, 0 + w * 1 + [x].length ≤ (iL way2).length := fun x => by rw [iL_len, hB2.wl, List.length_singleton]; omega
          have hL2n : L2.length ≤ back.length := nodup_len hB2.nd hB2.lt
          have hB3 := hB2.add hv2 hw hneg hes
          have es := iL_store0 (L := way2) (i := w) (x := gt0 way2 v + 1) (by rw [hB2.wl]; exact hw)
          have hwv : IntKind.i64.wrap (gt0 way2 v + 1) = gt0 way2 v + 1 := by
            have h1 := hB2.bd v (List.mem_of_getElem? hv2)
            have h2 := (hB2.seen v hvn).2 (List.mem_of_getElem? hv2)
            rw [IntKind.wrap_i64]
            omega
          have hne : L2 ≠ [] := fun e => by rw [e] at hil2; simp at hil2
          rcases L2 with _ | ⟨y, ys⟩
          · exact absurd rfl hne
          have hyl : (iL (nL (y :: ys))).length = (y :: ys).length * (0 + 1) := by rw [iL_len, nL_len]; simp
          have hys : ys.length + 1 ≤ 29000 := by simp at hL2n; omega
          have hb7 : (Nat.ble ((ys.length + 1 + (0 + 1)) * 8) 140737488355328 && Nat.ble (ys.length + 1 + (0 + 1)) 1000000) = true := by
            rw [bLe (by omega), bLe (by omega)]
            rfl
          have hgr : iL (nL (y :: ys ++ [w])) = iL (nL (y :: ys)) ++ [Value.int .i64 (w : Int)] := by simp [iL, nL]
          (repeat' ((conv => whnf); first | refine goA ?_ | (conv in (nth _ _) => (change nth _ (0 + w * 1); rw [hn2])) | (conv in (nth _ _) => (change nth _ (0 + i * 1); rw [hn3])) | (conv in (nth _ _) => (change nth _ (0 + v * 1); rw [hn4])) | refine U.storeC_p (hst _) ?_ | refine U.ob_c hb7 ?_ | (rw [ble_f]; dsimp only; refine growRow_p hyl rfl ?_) | refine goB ?_ | refine U.lw_c (fun hb => ?_) (fun hb => ?_)))
          rw [ble_f]
          dsimp only
          cases op2
          · dsimp only
            rw [dropL_eq]
            refine takeA_p hyl ?_
            refine U.catC_p ?_
            (repeat' ((conv => whnf); first | refine goD ?_ | refine U.lw_c (fun hb => ?_) (fun hb => ?_)))
            (conv => whnf)
            refine ⟨(y :: ys ++ [w], way2.set w (gt0 way2 v + 1), p ++ [(w : Int)], q, true), ⟨by rw [← p1]; simp, hB3, by dsimp only; rw [List.getElem?_append_left hil2]; exact hv2⟩, by simp, ?_⟩
            exact (Cov.renO (fun k => if k = 3 then 5 else k) rfl rfl (Nat.le_of_ble_eq_true rfl) (Nat.zero_le _) (fun k hk => by have : k < 3 := hk; rw [if_neg (by omega)]) rfl (fun k hk => absurd hk (Nat.not_lt_zero k)) (.cons rfl (.row _ _ _ _ (cleanIl0 _) ((by dsimp only; rw [hwv]; exact es.symm))) (.cons rfl (.row _ _ _ _ (cleanIl0 _) (hgr)) .nil)) (.cons rfl (.clean _ _ (cleanGL _) rfl) (.cons rfl (.F rfl rfl) (.cons rfl (.S rfl rfl rfl) (.cons rfl (.sl _ _ _ _ _ _ _ (by decide) rfl ((by simp)) ((by simp))) (.cons rfl .I (.cons rfl (.clean _ _ (cleanIL _) rfl) (.cons rfl .I (.cons rfl (.clean _ _ (cleanI _) (congrArg (Value.int .i64) (h4w.symm))) .nil)))))))))
          · dsimp only
            refine growRow_p hyl (lo := 0) (b := 3) rfl ?_
            (repeat' ((conv => whnf); first | refine goD ?_ | refine U.lw_c (fun hb => ?_) (fun hb => ?_)))
            (conv => whnf)
            refine ⟨(y :: ys ++ [w], way2.set w (gt0 way2 v + 1), p ++ [(w : Int)], q, true), ⟨by rw [← p1]; simp, hB3, by dsimp only; rw [List.getElem?_append_left hil2]; exact hv2⟩, by simp, ?_⟩
            exact (Cov.renO (fun k => if k = 3 then 5 else k) rfl rfl (Nat.le_of_ble_eq_true rfl) (Nat.zero_le _) (fun k hk => by have : k < 3 := hk; rw [if_neg (by omega)]) rfl (fun k hk => absurd hk (Nat.not_lt_zero k)) (.cons rfl (.row _ _ _ _ (cleanIl0 _) ((by dsimp only; rw [hwv]; exact es.symm))) (.cons rfl (.row _ _ _ _ (cleanIl0 _) (hgr)) .nil)) (.cons rfl (.clean _ _ (cleanGL _) rfl) (.cons rfl (.F rfl rfl) (.cons rfl (.S rfl rfl rfl) (.cons rfl (.sl _ _ _ _ _ _ _ (by decide) rfl ((by simp)) ((by simp))) (.cons rfl .I (.cons rfl (.clean _ _ (cleanIL _) rfl) (.cons rfl .I (.cons rfl (.clean _ _ (cleanI _) (congrArg (Value.int .i64) (h4w.symm))) .nil)))))))))
        · have g2 : decide (gt0 way2 w < 0) = false := by simpa using hpos
          (repeat' ((conv => whnf); first | refine goA ?_ | (conv in (nth _ _) => (change nth _ (0 + w * 1); rw [hn2])) | refine goB ?_ | refine U.lw_c (fun hb => ?_) (fun hb => ?_)))
          (conv => whnf)
          refine ⟨(L2, way2, p ++ [(w : Int)], q, op2), ⟨by rw [← p1]; simp, hB2.skip hw hpos, hv2⟩, by simp, ?_⟩
          exact (Cov.renI rfl rfl rfl rfl (.cons rfl (.row _ _ _ _ (cleanIl0 _) rfl) (.cons rfl (.row _ _ _ _ (cleanIl0 _) rfl) .nil)) (.cons rfl (.clean _ _ (cleanGL _) rfl) (.cons rfl (.F rfl rfl) (.cons rfl (.S rfl rfl rfl) (.cons rfl (.S rfl rfl rfl) (.cons rfl .I (.cons rfl (.clean _ _ (cleanIL _) rfl) (.cons rfl .I (.cons rfl (.clean _ _ (cleanI _) (congrArg (Value.int .i64) (h4w.symm))) .nil)))))))))
    · have hie : i = L.length := Nat.le_antisymm hB.il hil
      subst hie
      have g1 : decide ((L.length : Int) < (L.length : Int)) = false := by simp
      (repeat' ((conv => whnf); first | refine goD ?_ | refine U.lw_c (fun hb => ?_) (fun hb => ?_)))
      (conv => whnf)
      exact ⟨imS (iL way), ⟨way, rfl, hB.fin⟩, .rowL (k := 0) (ys := iL way) (Nat.zero_le _) rfl (by rw [cellsI]) iL_1 (by rw [iL_len, hB.wl, gL_len]) (Nat.le_refl _) (cleanIC _)⟩
end Go.Proofs.YthekpmpcbidjiaaGreat
