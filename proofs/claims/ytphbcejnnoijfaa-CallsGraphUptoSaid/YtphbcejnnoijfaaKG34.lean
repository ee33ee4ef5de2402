
import Derived.Test.YtphbcejnnoijfaaKG30
namespace Go.Proofs.Ytphbcejnnoijfaa.U
open Go Go.RowKit Go.Sort
set_option linter.unusedVariables false
set_option linter.unusedSimpArgs false
structure DenN (P : Program) (f : FuncId) (args : List Value) (u : Value) : Prop where
  out : ∀ (z : Nat → Nat → Option Value) (W : World) (vs : List Value), (∀ r o v, z r o = some v → W.cell? ⟨r, o, none⟩ = some v) → VRs ⟨fun _ => none, z⟩ args vs →
    Calls P f ⟨vs⟩ W fun e w' => ∃ v z', e = .returned v ∧ (Below W.heap.size W w' ∧ W.drawn ≤ w'.drawn) ∧ (∀ r o x, z' r o = some x → w'.cell? ⟨r, o, none⟩ = some x ∧ W.heap.size ≤ r) ∧ VR ⟨fun _ => none, z'⟩ u v
inductive FrzN (P : Program) (s : AS) : Value → Value → Prop where
  | flat (u : Value) (h : flatV u = true) : FrzN P s u u
  | nil : FrzN P s (.slice none 0 0) (imS [])
  | agg (l m : List Value) (hl : l.length = m.length) (h : ∀ (i : Nat) (u v : Value), l[i]? = some u → m[i]? = some v → FrzN P s u v) : FrzN P s (.agg ⟨l⟩) (.agg ⟨m⟩)
  | tup (l m : List Value) (hl : l.length = m.length) (h : ∀ (i : Nat) (u v : Value), l[i]? = some u → m[i]? = some v → FrzN P s u v) : FrzN P s (.tuple ⟨l⟩) (.tuple ⟨m⟩)
  | row (k n c z : Nat) (T : TypeId) (xs ys : List Value) (op : Bool) (hlo : s.lo ≤ k) (hk : s.heap.get k = some (.cells T xs op)) (hz : ∀ y, y ∈ ys → (cellsOf y).length = z) (hn : n = ys.length) (hc : n ≤ c) (hl : (cellsAll ys).length ≤ xs.length) (h : ∀ (i : Nat) (u v : Value), xs[i]? = some u → (cellsAll ys)[i]? = some v → FrzN P s u v) :
      FrzN P s (.slice (some ⟨k, 0, none⟩) n c) (imS ys)
theorem FrzN.rel {P : Program} {s : AS} {W0 W : World} {β : Bt} {z' : Nat → Nat → Option Value} (hR : Rel P W0 β s W) (h2 : ∀ r o x, W0.heap.size ≤ r → W.cell? ⟨r, o, none⟩ = some x → z' r o = some x) {u y : Value} (h : FrzN P s u y) : ∀ {v : Value}, VR β u v → VR ⟨fun _ => none, z'⟩ y v := by
  induction h with
  | flat u h => intro v hv; rw [hv.flat_eq h]; exact .of_flat _ h
  | nil => intro v hv; rw [hv.flat1_eq rfl]; exact .imn
  | agg l m hl _ ih =>
    intro v hv
    obtain ⟨l', e1, rfl⟩ := hv.agg_inv
    refine .agg m l' (hl.symm.trans e1.1) fun i u v hu hv => ?_
    have hi : i < l.length := by rw [hl]; exact (List.getElem?_eq_some_iff.1 hu).1
    exact ih i l[i] u (List.getElem?_eq_getElem hi) hu (e1.2 i _ v (List.getElem?_eq_getElem hi) hv)
  | tup l m hl _ ih =>
    intro v hv
    obtain ⟨l', e1, rfl⟩ := hv.tup_inv
    refine .tup m l' (hl.symm.trans e1.1) fun i u v hu hv => ?_
    have hi : i < l.length := by rw [hl]; exact (List.getElem?_eq_some_iff.1 hu).1
    exact ih i l[i] u (List.getElem?_eq_getElem hi) hu (e1.2 i _ v (List.getElem?_eq_getElem hi) hv)
  | row k n c z T xs ys op hlo hk hz hn hc hl _ ih =>
    intro v hv
    obtain ⟨r, sp, e1, rfl⟩ := hv.sl_inv
    obtain ⟨cs, fz, g1, _, _, g4, g5, g6, g7, g8⟩ := (hR.blk k _ r sp hk e1).real
    subst hn
    have hge := hR.ge k r sp (by rw [hk]; simp) e1 hlo
    have hlen : ((cs.toList.take xs.length).take (cellsAll ys).length).length = (cellsAll ys).length := by
      have := g5.1
      rw [List.length_take, ← this]
      omega
    have hat : ∀ (i : Nat) (w : Value), ((cs.toList.take xs.length).take (cellsAll ys).length)[i]? = some w → (cs.toList.take xs.length)[i]? = some w := fun i w hw => by
      have hil := (List.getElem?_eq_some_iff.1 hw).1
      rwa [List.getElem?_take_of_lt (by rw [List.length_take] at hil; omega)] at hw
    refine .ims ys ((cs.toList.take xs.length).take (cellsAll ys).length) z r 0 (c + sp) hz (by omega) hlen (fun i w hw => ?_) (fun i y w hy hw => ?_) fun w hw => g7 w (List.mem_of_mem_take hw)
    · rw [Nat.zero_add]
      exact h2 r i w hge (g8 i w (hat i w hw))
    · have hw' := hat i w hw
      have hi : i < xs.length := by
        have := (List.getElem?_eq_some_iff.1 hw').1
        rw [g5.1]; exact this
      exact ih i xs[i] y (List.getElem?_eq_getElem hi) hy (g5.2 i _ w (List.getElem?_eq_getElem hi) hw')
theorem denN_of_sound {P : Program} (hm : P.follows .mixedOrders = true) {f : FuncId} {args : List Value} {u : Value} (h : ∀ Ts, SoundAt P f args (start [] Ts) fun u' s' => FrzN P s' u' u) : DenN P f args u := by
  refine ⟨fun z W vs hz hv => (run_out hm h z W vs hz hv).mono fun e w' ⟨v, u', s', β', he, h1, hlo, hR, hv', z1, z2, hdn⟩ => ?_⟩
  refine ⟨v, fun r o => if r < W.heap.size then none else w'.cell? ⟨r, o, none⟩, he, ⟨hR.below, hdn⟩, fun r o x hx => ?_, ?_⟩
  · have hx : (if r < W.heap.size then none else w'.cell? ⟨r, o, none⟩) = some x := hx
    split at hx
    · cases hx
    · exact ⟨hx, by omega⟩
  · refine FrzN.rel hR (fun r o x hr hx => ?_) h1 hv'
    show (if r < W.heap.size then none else w'.cell? ⟨r, o, none⟩) = _
    rw [if_neg (by omega)]; exact hx
theorem SoundAt.nF {P : Program} {f : FuncId} {args args' : List Value} {u : Value} {s : AS} {k : Value → AS → Prop} (h : DenN P f args' u) (hf : FrzL P (seen s) args args') (hk : k u s) : SoundAt P f args s k := by
  refine ⟨fun hl W0 β W vs hR hfr hv => ?_⟩
  have hall : VRs ⟨fun _ => none, fun r o => W.cell? ⟨r, o, none⟩⟩ args' vs := ⟨hf.at_.1.symm.trans hv.1, fun i y v hy hv' => by
    have hi : i < args.length := by rw [hf.at_.1]; exact (List.getElem?_eq_some_iff.1 hy).1
    exact (hf.at_.2 i args[i] y (List.getElem?_eq_getElem hi) hy).relAll (s0 := seen s) (s := s) rfl hR (fun r o x hx => (hR.frz r o x hx).1) (fun _ _ _ h => h) (hv.2 i _ v (List.getElem?_eq_getElem hi) hv')⟩
  refine (h.out (fun r o => W.cell? ⟨r, o, none⟩) W vs (fun _ _ _ h => h) hall).mono fun e w' ⟨v, z', he, ⟨hb, hdn⟩, h2, hv'⟩ => ?_
  have hR' := hR.later hb
  let zf : Nat → Nat → Option Value := fun r o => if r < W.heap.size then β.z r o else z' r o
  have hzlt : ∀ r o x, β.z r o = some x → r < W.heap.size := fun r o x h => cell_lt (hR.frz r o x h).1
  have hz1 : ∀ r o x, β.z r o = some x → zf r o = some x := fun r o x hx => by
    show (if r < W.heap.size then _ else _) = _
    rw [if_pos (hzlt r o x hx)]; exact hx
  have hz2 : ∀ r o x, zf r o = some x → (r < W.heap.size ∧ β.z r o = some x) ∨ (W.heap.size ≤ r ∧ z' r o = some x) := fun r o x hx => by
    have hx : (if r < W.heap.size then β.z r o else z' r o) = some x := hx
    split at hx
    · rename_i h; exact .inl ⟨h, hx⟩
    · rename_i h; exact .inr ⟨by omega, hx⟩
  have hz3 : ∀ r o x, z' r o = some x → zf r o = some x := fun r o x hx => by
    show (if r < W.heap.size then _ else _) = _
    rw [if_neg (by have := (h2 r o x hx).2; omega)]; exact hx
  refine ⟨v, u, s, he, hk, .refl _, ⟨β.m, zf⟩, ⟨fun _ _ => rfl, hfr, ⟨hz1, fun r o x hx => ?_⟩⟩, ⟨fun k b r sp hk hr => (hR'.blk k b r sp hk hr).sameX ⟨fun _ _ h => h, hz1⟩ id rfl, hR'.inj, hR'.dom, hR'.lt, hR'.ge, hR'.below, hR'.glob, fun r o x hx => ?_⟩, ?_, KD.below hb⟩
  · rcases hz2 r o x hx with ⟨_, h⟩ | ⟨h, _⟩
    · exact .inl h
    · exact .inr (Nat.le_trans hR.below.size h)
  · rcases hz2 r o x hx with ⟨_, h⟩ | ⟨h, h'⟩
    · exact hR'.frz r o x h
    · refine ⟨(h2 r o x h').1, fun k sp hlo hk hr => ?_⟩
      have := hR.lt k r sp hr
      omega
  · exact VR.growX (β := ⟨fun _ => none, z'⟩) (β' := ⟨β.m, zf⟩) ⟨fun k x hk => (by cases hk), hz3⟩ hv'
theorem DenN.u {P : Program} {f : FuncId} {args : List Value} {u : Value} (h : DenN P f args u) : DenU P [] f args u := by
  refine ⟨fun z W vs _ hz hv => (h.out z W vs hz hv).mono fun e w' ⟨v, z', he, hb, h2, hv'⟩ => ?_⟩
  have hzlt : ∀ r o x, z r o = some x → r < W.heap.size := fun r o x h => cell_lt (hz r o x h)
  refine ⟨v, fun r o => if r < W.heap.size then z r o else z' r o, he, hb, fun r o x hx => ?_, fun r o x hx => ?_, VR.growX (β := ⟨fun _ => none, z'⟩) ⟨fun k x hk => (by cases hk), fun r o x hx => ?_⟩ hv'⟩
  · show (if r < W.heap.size then _ else _) = _
    rw [if_pos (hzlt r o x hx)]; exact hx
  · have hx : (if r < W.heap.size then z r o else z' r o) = some x := hx
    split at hx
    · rename_i h
      exact ⟨by rw [cell_same (hb.1.block r h)]; exact hz r o x hx, .inl hx⟩
    · exact ⟨(h2 r o x hx).1, .inr (h2 r o x hx).2⟩
  · show (if r < W.heap.size then _ else _) = _
    rw [if_neg (by have := (h2 r o x hx).2; omega)]; exact hx
def chkV : Value → Value → Bool
  | .int k n, .int k' n' => decide (k = k') && decide (n = n')
  | .bool a, .bool b => a == b
  | _, _ => false
theorem chkV_eq : ∀ {a b : Value}, chkV a b = true → a = b ∧ flat1 a = true
  | .int k n, .int k' n', h => by
    simp only [chkV, Bool.and_eq_true, decide_eq_true_eq] at h
    rw [h.1, h.2]; exact ⟨rfl, rfl⟩
  | .bool a, .bool b, h => by
    have : a = b := by simpa [chkV] using h
    rw [this]; exact ⟨rfl, rfl⟩
def chkL : List Value → List Value → Bool
  | [], [] => true
  | a :: l, b :: m => chkV a b && chkL l m
  | _, _ => false
theorem chkL_eq : ∀ {l m : List Value}, chkL l m = true → l = m ∧ ∀ x ∈ l, flat1 x = true
  | [], [], _ => ⟨rfl, fun x h => by cases h⟩
  | a :: l, b :: m, h => by
    simp only [chkL, Bool.and_eq_true] at h
    obtain ⟨h1, h2⟩ := chkV_eq h.1
    obtain ⟨h3, h4⟩ := chkL_eq h.2
    refine ⟨by rw [h1, h3], fun x hx => ?_⟩
    rcases List.mem_cons.1 hx with rfl | hx
    · exact h2
    · exact h4 x hx
def chkRow (ys : List Value) (u : Value) (s : AS) : Bool := match u with
  | .slice none 0 0 => match ys with
    | [] => true
    | _ => false
  | .slice (some ⟨k, 0, none⟩) n c => match Tr.at (pt k) s.heap with
    | some (.cells _ xs _) => decide (s.lo ≤ k) && decide (n = ys.length) && decide (n ≤ c) && chkL (xs.take ys.length) ys
    | _ => false
  | _ => false
theorem chkRow_frz {P : Program} {ys : List Value} {u : Value} {s : AS} (h : chkRow ys u s = true) : FrzN P s u (imS ys) := by
  unfold chkRow at h
  split at h
  · split at h
    · exact .nil
    · cases h
  · rename_i k n c
    split at h
    · rename_i T xs op hk
      simp only [Bool.and_eq_true, decide_eq_true_eq] at h
      obtain ⟨⟨⟨h1, h2⟩, h3⟩, h4⟩ := h
      obtain ⟨e, hfl⟩ := chkL_eq h4
      have hy : ∀ y ∈ ys, flat1 y = true := fun y hy => hfl y (by rw [e]; exact hy)
      have hc1 : ∀ y ∈ ys, cellsOf y = [y] := fun y hyy => by
        have := hy y hyy
        cases y <;> first | rfl | (simp [flat1] at this)
      have hca : cellsAll ys = ys := by
        clear h2 h3 h4 e hfl hy
        induction ys with
        | nil => rfl
        | cons y l ih => rw [cellsAll, List.flatMap_cons, hc1 y (by simp)]; exact congrArg _ (ih fun z hz => hc1 z (by simp [hz]))
      refine .row k n c 1 T xs ys op h1 hk (fun y hyy => by rw [hc1 y hyy]; rfl) h2 h3 (by rw [hca, ← e, List.length_take]; omega) fun i a b ha hb => ?_
      rw [hca] at hb
      have hi : i < ys.length := (List.getElem?_eq_some_iff.1 hb).1
      have ha2 : (xs.take ys.length)[i]? = some a := by rw [List.getElem?_take_of_lt hi]; exact ha
      rw [e, hb] at ha2
      cases ha2
      have hfb := hy _ (List.mem_of_getElem? hb)
      exact .flat _ (by cases a <;> first | exact hfb | (simp [flat1] at hfb))
    · cases h
  · cases h
theorem denN_closed {P : Program} (hm : P.follows .mixedOrders = true) {f : FuncId} {args : List Value} {u : Value} {chk : Value → AS → Bool} (hk : ∀ u' s', chk u' s' = true → FrzN P s' u' u) (fuel n m : Nat) (h : ∀ Ts, ((callX boolX P fuel (callN boolD P fuel (badF boolD) m) (badX boolX) n).call f args (start [] Ts) (noX Bool boolX) chk) = true) : DenN P f args u :=
  denN_of_sound hm fun Ts => ⟨fun hl W0 β W vs hR hf hv => ((callX_ok (D := boolX) hm (callN_ok (D := boolD) hm badF_ok fuel m) badX_ok fuel n).call f args (start [] Ts) (noX Bool boolX) chk hl (h Ts) W0 β W vs hR hf hv).mono fun e w' h => (by
    rcases h with ⟨v, u, s', e1, e2, e3, e4⟩ | ⟨_, _, _, h, _⟩
    · exact ⟨v, u, s', e1, hk _ _ e2, e3, e4⟩
    · exact absurd h boolX.nb)⟩
structure DenE (P : Program) (f : FuncId) (args : List Value) (Q : Value → Prop) : Prop where
  out : ∀ (z : Nat → Nat → Option Value) (W : World) (vs : List Value), (∀ r o v, z r o = some v → W.cell? ⟨r, o, none⟩ = some v) → VRs ⟨fun _ => none, z⟩ args vs →
    Calls P f ⟨vs⟩ W fun e w' => ∃ u v z', Q u ∧ e = .returned v ∧ (Below W.heap.size W w' ∧ W.drawn ≤ w'.drawn) ∧ (∀ r o x, z r o = some x → z' r o = some x) ∧ (∀ r o x, z' r o = some x → w'.cell? ⟨r, o, none⟩ = some x ∧ (z r o = some x ∨ W.heap.size ≤ r)) ∧ VR ⟨fun _ => none, z'⟩ u v
theorem denE_of_sound {P : Program} (hm : P.follows .mixedOrders = true) {f : FuncId} {args : List Value} {Q : Value → Prop} (h : ∀ Ts, SoundAt P f args (start [] Ts) fun u' s' => ∃ u, Q u ∧ FrzV P s' u' u) : DenE P f args Q := by
  refine ⟨fun z W vs hz hv => (run_out hm h z W vs hz hv).mono fun e w' ⟨v, u', s', β', he, ⟨u, hq, h1⟩, hlo, hR, hv', z1, z2, hdn⟩ => ?_⟩
  have hzlt : ∀ r o x, z r o = some x → r < W.heap.size := fun r o x h => cell_lt (hz r o x h)
  have e1 : ∀ r o, r < W.heap.size → w'.cell? ⟨r, o, none⟩ = W.cell? ⟨r, o, none⟩ := fun r o h => cell_same (hR.below.block r h)
  refine ⟨u, v, fun r o => if r < W.heap.size then z r o else w'.cell? ⟨r, o, none⟩, hq, he, ⟨hR.below, hdn⟩, fun r o x hx' => ?_, fun r o x hx' => ?_, ?_⟩
  · show (if r < W.heap.size then z r o else _) = _
    rw [if_pos (hzlt r o x hx')]; exact hx'
  · have hx' : (if r < W.heap.size then z r o else w'.cell? ⟨r, o, none⟩) = some x := hx'
    split at hx'
    · rename_i hr
      exact ⟨by rw [e1 r o hr]; exact hz r o x hx', .inl hx'⟩
    · rename_i hr
      exact ⟨hx', .inr (by omega)⟩
  · refine FrzV.rel hR (fun r o x hx' => ?_) (fun r o x hr hx' => ?_) h1 hv'
    · show (if r < W.heap.size then z r o else w'.cell? ⟨r, o, none⟩) = _
      split
      · rename_i hr
        rcases z2 r o x hx' with h | h
        · exact h
        · omega
      · exact (hR.frz r o x hx').1
    · show (if r < W.heap.size then z r o else w'.cell? ⟨r, o, none⟩) = _
      rw [if_neg (by omega)]; exact hx'
theorem SoundAt.e {P : Program} {f : FuncId} {args : List Value} {Q : Value → Prop} {s : AS} {k : Value → AS → Prop} (h : DenE P f args Q) (hc : NoNms args) (hk : ∀ u, Q u → k u s) : SoundAt P f args s k := by
  refine ⟨fun hlo W0 β W vs hR hf hv => ?_⟩
  refine (h.out β.z W vs (fun r o v hz => (hR.frz r o v hz).1) (NoNm.rels hc.all hv)).mono fun e w' ⟨u, v, z', hq, he, ⟨hb, hdn⟩, h1, h2, h3⟩ => ?_
  have hR' := hR.later hb
  refine ⟨v, u, s, he, hk u hq, .refl _, ⟨β.m, z'⟩, ⟨fun _ _ => rfl, hf, h1, fun r o x hx => ((h2 r o x hx).2).imp id fun hle => Nat.le_trans hR.below.size hle⟩, hR'.frozen hR.lt h1 h2, ?_, KD.below hb⟩
  exact VR.growX (β := ⟨fun _ => none, z'⟩) (β' := ⟨β.m, z'⟩) ⟨fun k x hk => (by cases hk), fun _ _ _ h => h⟩ h3
end Go.Proofs.Ytphbcejnnoijfaa.U
