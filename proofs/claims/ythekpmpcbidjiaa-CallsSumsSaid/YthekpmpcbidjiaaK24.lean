
import Derived.Test.YthekpmpcbidjiaaK23
/- Code from a state told anew. No condition. -/
namespace Go.Proofs.Ythekpmpcbidjiaa.U
open Go Go.RowKit Go.Sort
set_option linter.unusedVariables false
set_option linter.unusedSimpArgs false
theorem SoundAt.c {P : Program} {f : FuncId} {args : List Value} {s : AS} {k : Value → AS → Prop} (h : SoundC P f args s k) : SoundAt P f args s k := by
  refine ⟨fun hl W0 β W vs hR hf hv => ?_⟩
  obtain ⟨u, s', hk, hst, hc⟩ := h.out hl
  refine (hc W0 β W vs hR hf.free hv).mono fun e w' ⟨v, he, β1, h1, h2, h3, h4⟩ => ?_
  exact ⟨v, u, s', he, hk, hst.x, β1, .of h1 hf hst.next, h2, h3, h4⟩
/-- A function value with what it has captured. -/
theorem RenV.fnL {n : Nat} {ρ : Ren} {g : FuncId} {a a' b b' : List Value} (h1 : RenL n ρ a a') (h2 : RenL n ρ b b') : RenV n ρ (.func (.func g) ⟨a⟩ ⟨b⟩) (.func (.func g) ⟨a'⟩ ⟨b'⟩) := by
  obtain ⟨e1, e2⟩ := h1.at_
  obtain ⟨e3, e4⟩ := h2.at_
  refine .fn g a a' b b' e1 e3 (fun i u v hu hv => ?_) fun i u v hu hv => ?_
  · obtain ⟨w, q1, q2⟩ := e2 i u hu
    rw [hv] at q1; cases q1; exact q2
  · obtain ⟨w, q1, q2⟩ := e4 i u hu
    rw [hv] at q1; cases q1; exact q2
/-- The names in what is told lie below. -/
theorem told_of {l : List (Nat × Option Blk)} {n : Nat} (h : blksO (mkO l) n ⟨fun k => k, fun _ _ => False⟩ l) : ∀ k b, (mkO l).get k = some b → RenB n ⟨fun k => k, fun _ _ => False⟩ b b := fun k b hk => by
  obtain ⟨b', e1, e2⟩ := h.all _ (mkO_get hk) b rfl
  have e1 : (mkO l).get k = some b' := e1
  rw [hk] at e1
  cases e1
  exact e2
/-- A call in a head that leaves the state as it is. -/
theorem SoundC.ofAt {P : Program} {f : FuncId} {args : List Value} {u : Value} {s : AS} {k : Value → AS → Prop} (ha : RenL s.next ⟨fun k => k, fun _ _ => False⟩ args args) (hB : ∀ k b, s.heap.get k = some b → RenB s.next ⟨fun k => k, fun _ _ => False⟩ b b) (hg : s.glb ≤ s.next) (h : SoundAt P f args s fun u' s' => u' = u ∧ s' = s) (hk : k u s) : SoundC P f args s k := by
  refine ⟨fun hl => ⟨u, s, hk, .refl _, fun W0 β W vs hR hf hv => ?_⟩⟩
  let β1 : Bt := ⟨fun k => if k < s.next then β k else none, β.z⟩
  have hm : ∀ k, k < s.next → β1 k = β k := fun k hk => if_pos hk
  have hm' : ∀ k x, β1 k = some x → k < s.next ∧ β k = some x := fun k x hx => by
    have hx : (if k < s.next then β k else none) = some x := hx
    split at hx
    · rename_i h; exact ⟨h, hx⟩
    · cases hx
  have hfr : FreeA β1 s.next := fun k hk => if_neg (by omega)
  have hR1 : Rel P W0 β1 s W := ⟨fun k b r sp hk hr => (hB k b hk).rel (β := β) (β1 := β1) (fun _ _ _ h => h) (fun _ _ _ h => absurd h id) (fun _ _ h => absurd h id) hm id (hR.blk k b r sp hk (hm' k _ hr).2),
    fun k k' r sp sp' hlo hk hk' hr hr' => hR.inj k k' r sp sp' hlo hk hk' (hm' k _ hr).2 (hm' k' _ hr').2, hR.dom, fun k r sp hr => hR.lt k r sp (hm' k _ hr).2, fun k r sp hk hr => hR.ge k r sp hk (hm' k _ hr).2, hR.below, fun g hgl => by rw [hm g (by omega)]; exact hR.glob g hgl, fun r o v hv => ⟨(hR.frz r o v hv).1, fun k sp hlo hk hr => (hR.frz r o v hv).2 k sp hlo hk (hm' k _ hr).2⟩⟩
  have hv1 : VRs β1 args vs := by
    obtain ⟨q1, q2⟩ := ha.at_
    refine ⟨hv.1, fun i x v hx hv' => ?_⟩
    obtain ⟨y, q3, q4⟩ := q2 i x hx
    rw [hx] at q3
    cases q3
    exact q4.rel (β := β) (β1 := β1) (fun _ _ _ h => h) (fun _ _ _ h => absurd h id) hm (hv.2 i x v hx hv')
  refine (h.out hl W0 β1 W vs hR1 hfr hv1).mono fun e w' ⟨v, u', s', he, ⟨hu, hs⟩, hst, β2, x1, x2, x3, x4⟩ => ?_
  subst hu; subst hs
  have hb2 : ∀ k x, β2 k = some x → k < s'.next ∧ β k = some x := fun k x hx => by
    rcases Nat.lt_or_ge k s'.next with h1 | h1
    · rw [x1.keep k h1, hm k h1] at hx
      exact ⟨h1, hx⟩
    · rw [x1.free k h1] at hx; cases hx
  have hb3 : ∀ k, k < s'.next → β2 k = β k := fun k hk => by rw [x1.keep k hk, hm k hk]
  have hle : BLx β2 ⟨β.m, β2.z⟩ := ⟨fun k x hx => (hb2 k x hx).2, fun _ _ _ h => h⟩
  have htr : ∀ k r sp, s'.heap.get k ≠ none → β k = some (r, sp) → β2 k = some (r, sp) := fun k r sp hk hr => by rw [hb3 k (x2.dom k hk)]; exact hr
  refine ⟨v, he, ⟨β.m, β2.z⟩, ⟨⟨fun _ _ h => h, x1.z⟩, fun _ _ => rfl⟩, ⟨fun k b r sp hk hr => ?_, fun k k' r sp sp' hlo hk hk' hr hr' => x2.inj k k' r sp sp' hlo hk hk' (htr k r sp hk hr) (htr k' r sp' hk' hr'), x2.dom, fun k r sp hr => Nat.lt_of_lt_of_le (hR.lt k r sp hr) x4.z, fun k r sp hk hr => x2.ge k r sp hk (htr k r sp hk hr), x2.below, hR.glob, fun r o v hv => ⟨(x2.frz r o v hv).1, fun k sp hlo hk hr => (x2.frz r o v hv).2 k sp hlo hk (htr k r sp hk hr)⟩⟩, x3.growX hle, x4⟩
  exact (x2.blk k b r sp hk (htr k r sp (by rw [hk]; simp) hr)).sameX hle id rfl
end Go.Proofs.Ythekpmpcbidjiaa.U
/- The abstract machine: functions that hand back what is new: they may be called with rows of the caller's own. No condition. -/
namespace Go.Proofs.Ythekpmpcbidjiaa.U
open Go Go.RowKit Go.Sort
set_option linter.unusedVariables false
set_option linter.unusedSimpArgs false
/-- A function of values that stay as they are; what it hands back lies in new memory. -/
structure DenN (P : Program) (f : FuncId) (args : List Value) (u : Value) : Prop where
  out : ∀ (z : Nat → Nat → Option Value) (W : World) (vs : List Value), (∀ r o v, z r o = some v → W.cell? ⟨r, o, none⟩ = some v) → VRs ⟨fun _ => none, z⟩ args vs →
    Calls P f ⟨vs⟩ W fun e w' => ∃ v z', e = .returned v ∧ (Below W.heap.size W w' ∧ W.drawn ≤ w'.drawn) ∧ (∀ r o x, z' r o = some x → w'.cell? ⟨r, o, none⟩ = some x ∧ W.heap.size ≤ r) ∧ VR ⟨fun _ => none, z'⟩ u v
inductive FrzN (P : Program) (s : AS) : Value → Value → Prop where
  | flat (u : Value) (h : flatV u = true) : FrzN P s u u
  | nil : FrzN P s (.slice none 0 0) (imS [])
  | agg (l m : List Value) (hl : l.length = m.length) (h : ∀ (i : Nat) (u v : Value), l[i]? = some u → m[i]? = some v → FrzN P s u v) : FrzN P s (.agg ⟨l⟩) (.agg ⟨m⟩)
  | tup (l m : List Value) (hl : l.length = m.length) (h : ∀ (i : Nat) (u v : Value), l[i]? = some u → m[i]? = some v → FrzN P s u v) : FrzN P s (.tuple ⟨l⟩) (.tuple ⟨m⟩)
  | row (k n c z : Nat) (T : TypeId) (xs ys : List Value) (op : Bool) (hlo : s.lo ≤ k) (hk : s.heap.get k = some (.cells T xs op)) (hz : ∀ y, y ∈ ys → (cellsOf y).length = z) (hn : n = ys.length) (hc : n ≤ c) (hl : (cellsAll ys).length ≤ xs.length) (h : ∀ (i : Nat) (u v : Value), xs[i]? = some u → (cellsAll ys)[i]? = some v → FrzN P s u v) :
      FrzN P s (.slice (some ⟨k, 0, none⟩) n c) (imS ys)
theorem FrzN.rel {P : Program} {s : AS} {W0 W : World} {β : Bt} {z' : Nat → Nat → Option Value} (hR : Rel P W0 β s W) (h2 : ∀ r o x, W0.heap.size ≤ r → W.cell? ⟨r, o, none⟩ = some x → z' r o = some x) {u y : Value} (h : FrzN P s u y) : ∀ {v : Value}, VR β u v → VR ⟨fun _ => none, z'⟩ y v := by
  induction h with
  | flat u h => intro v hv; rw [hv.flat_eq h]; exact .of_flat _ h
  | nil => intro v hv; rw [hv.flat1_eq rfl]; exact .imn
  | agg l m hl _ ih =>
    intro v hv
    obtain ⟨l', e1, rfl⟩ := hv.agg_inv
    refine .agg m l' (hl.symm.trans e1.1) fun i u v hu hv => ?_
    have hi : i < l.length := by rw [hl]; exact (List.getElem?_eq_some_iff.1 hu).1
    exact ih i l[i] u (List.getElem?_eq_getElem hi) hu (e1.2 i _ v (List.getElem?_eq_getElem hi) hv)
  | tup l m hl _ ih =>
    intro v hv
    obtain ⟨l', e1, rfl⟩ := hv.tup_inv
    refine .tup m l' (hl.symm.trans e1.1) fun i u v hu hv => ?_
    have hi : i < l.length := by rw [hl]; exact (List.getElem?_eq_some_iff.1 hu).1
    exact ih i l[i] u (List.getElem?_eq_getElem hi) hu (e1.2 i _ v (List.getElem?_eq_getElem hi) hv)
  | row k n c z T xs ys op hlo hk hz hn hc hl _ ih =>
    intro v hv
    obtain ⟨r, sp, e1, rfl⟩ := hv.sl_inv
    obtain ⟨cs, fz, g1, _, _, g4, g5, g6, g7, g8⟩ := (hR.blk k _ r sp hk e1).real
    subst hn
    have hge := hR.ge k r sp (by rw [hk]; simp) e1 hlo
    have hlen : ((cs.toList.take xs.length).take (cellsAll ys).length).length = (cellsAll ys).length := by
      have := g5.1
      rw [List.length_take, ← this]
      omega
    have hat : ∀ (i : Nat) (w : Value), ((cs.toList.take xs.length).take (cellsAll ys).length)[i]? = some w → (cs.toList.take xs.length)[i]? = some w := fun i w hw => by
      have hil := (List.getElem?_eq_some_iff.1 hw).1
      rwa [List.getElem?_take_of_lt (by rw [List.length_take] at hil; omega)] at hw
    refine .ims ys ((cs.toList.take xs.length).take (cellsAll ys).length) z r 0 (c + sp) hz (by omega) hlen (fun i w hw => ?_) (fun i y w hy hw => ?_) fun w hw => g7 w (List.mem_of_mem_take hw)
    · rw [Nat.zero_add]
      exact h2 r i w hge (g8 i w (hat i w hw))
    · have hw' := hat i w hw
      have hi : i < xs.length := by
        have := (List.getElem?_eq_some_iff.1 hw').1
        rw [g5.1]; exact this
      exact ih i xs[i] y (List.getElem?_eq_getElem hi) hy (g5.2 i _ w (List.getElem?_eq_getElem hi) hw')
theorem denN_of_sound {P : Program} (hm : P.follows .mixedOrders = true) {f : FuncId} {args : List Value} {u : Value} (h : ∀ Ts, SoundAt P f args (start [] Ts) fun u' s' => FrzN P s' u' u) : DenN P f args u := by
  refine ⟨fun z W vs hz hv => (run_out hm h z W vs hz hv).mono fun e w' ⟨v, u', s', β', he, h1, hlo, hR, hv', z1, z2, hdn⟩ => ?_⟩
  refine ⟨v, fun r o => if r < W.heap.size then none else w'.cell? ⟨r, o, none⟩, he, ⟨hR.below, hdn⟩, fun r o x hx => ?_, ?_⟩
  · have hx : (if r < W.heap.size then none else w'.cell? ⟨r, o, none⟩) = some x := hx
    split at hx
    · cases hx
    · exact ⟨hx, by omega⟩
  · refine FrzN.rel hR (fun r o x hr hx => ?_) h1 hv'
    show (if r < W.heap.size then none else w'.cell? ⟨r, o, none⟩) = _
    rw [if_neg (by omega)]; exact hx
/-- A call with rows of the caller's own: all is frozen for the call's time. -/
theorem SoundAt.nF {P : Program} {f : FuncId} {args args' : List Value} {u : Value} {s : AS} {k : Value → AS → Prop} (h : DenN P f args' u) (hf : FrzL P (seen s) args args') (hk : k u s) : SoundAt P f args s k := by
  refine ⟨fun hl W0 β W vs hR hfr hv => ?_⟩
  have hall : VRs ⟨fun _ => none, fun r o => W.cell? ⟨r, o, none⟩⟩ args' vs := ⟨hf.at_.1.symm.trans hv.1, fun i y v hy hv' => by
    have hi : i < args.length := by rw [hf.at_.1]; exact (List.getElem?_eq_some_iff.1 hy).1
    exact (hf.at_.2 i args[i] y (List.getElem?_eq_getElem hi) hy).relAll (s0 := seen s) (s := s) rfl hR (fun r o x hx => (hR.frz r o x hx).1) (fun _ _ _ h => h) (hv.2 i _ v (List.getElem?_eq_getElem hi) hv')⟩
  refine (h.out (fun r o => W.cell? ⟨r, o, none⟩) W vs (fun _ _ _ h => h) hall).mono fun e w' ⟨v, z', he, ⟨hb, hdn⟩, h2, hv'⟩ => ?_
  have hR' := hR.later hb
  let zf : Nat → Nat → Option Value := fun r o => if r < W.heap.size then β.z r o else z' r o
  have hzlt : ∀ r o x, β.z r o = some x → r < W.heap.size := fun r o x h => cell_lt (hR.frz r o x h).1
  have hz1 : ∀ r o x, β.z r o = some x → zf r o = some x := fun r o x hx => by
    show (if r < W.heap.size then _ else _) = _
    rw [if_pos (hzlt r o x hx)]; exact hx
  have hz2 : ∀ r o x, zf r o = some x → (r < W.heap.size ∧ β.z r o = some x) ∨ (W.heap.size ≤ r ∧ z' r o = some x) := fun r o x hx => by
    have hx : (if r < W.heap.size then β.z r o else z' r o) = some x := hx
    split at hx
    · rename_i h; exact .inl ⟨h, hx⟩
    · rename_i h; exact .inr ⟨by omega, hx⟩
  have hz3 : ∀ r o x, z' r o = some x → zf r o = some x := fun r o x hx => by
    show (if r < W.heap.size then _ else _) = _
    rw [if_neg (by have := (h2 r o x hx).2; omega)]; exact hx
  refine ⟨v, u, s, he, hk, .refl _, ⟨β.m, zf⟩, ⟨fun _ _ => rfl, hfr, ⟨hz1, fun r o x hx => ?_⟩⟩, ⟨fun k b r sp hk hr => (hR'.blk k b r sp hk hr).sameX ⟨fun _ _ h => h, hz1⟩ id rfl, hR'.inj, hR'.dom, hR'.lt, hR'.ge, hR'.below, hR'.glob, fun r o x hx => ?_⟩, ?_, KD.below hb⟩
  · rcases hz2 r o x hx with ⟨_, h⟩ | ⟨h, _⟩
    · exact .inl h
    · exact .inr (Nat.le_trans hR.below.size h)
  · rcases hz2 r o x hx with ⟨_, h⟩ | ⟨h, h'⟩
    · exact hR'.frz r o x h
    · refine ⟨(h2 r o x h').1, fun k sp hlo hk hr => ?_⟩
      have := hR.lt k r sp hr
      omega
  · exact VR.growX (β := ⟨fun _ => none, z'⟩) (β' := ⟨β.m, zf⟩) ⟨fun k x hk => (by cases hk), hz3⟩ hv'
/-- Such contracts at values that stay as they are. -/
theorem DenN.u {P : Program} {f : FuncId} {args : List Value} {u : Value} (h : DenN P f args u) : DenU P [] f args u := by
  refine ⟨fun z W vs _ hz hv => (h.out z W vs hz hv).mono fun e w' ⟨v, z', he, hb, h2, hv'⟩ => ?_⟩
  have hzlt : ∀ r o x, z r o = some x → r < W.heap.size := fun r o x h => cell_lt (hz r o x h)
  refine ⟨v, fun r o => if r < W.heap.size then z r o else z' r o, he, hb, fun r o x hx => ?_, fun r o x hx => ?_, VR.growX (β := ⟨fun _ => none, z'⟩) ⟨fun k x hk => (by cases hk), fun r o x hx => ?_⟩ hv'⟩
  · show (if r < W.heap.size then _ else _) = _
    rw [if_pos (hzlt r o x hx)]; exact hx
  · have hx : (if r < W.heap.size then z r o else z' r o) = some x := hx
    split at hx
    · rename_i h
      exact ⟨by rw [cell_same (hb.1.block r h)]; exact hz r o x hx, .inl hx⟩
    · exact ⟨(h2 r o x hx).1, .inr (h2 r o x hx).2⟩
  · show (if r < W.heap.size then _ else _) = _
    rw [if_neg (by have := (h2 r o x hx).2; omega)]; exact hx
/-! Closed runs that hand back rows of numbers. -/
def chkV : Value → Value → Bool
  | .int k n, .int k' n' => decide (k = k') && decide (n = n')
  | .bool a, .bool b => a == b
  | _, _ => false
theorem chkV_eq : ∀ {a b : Value}, chkV a b = true → a = b ∧ flat1 a = true
  | .int k n, .int k' n', h => by
    simp only [chkV, Bool.and_eq_true, decide_eq_true_eq] at h
    rw [h.1, h.2]; exact ⟨rfl, rfl⟩
  | .bool a, .bool b, h => by
    have : a = b := by simpa [chkV] using h
    rw [this]; exact ⟨rfl, rfl⟩
def chkL : List Value → List Value → Bool
  | [], [] => true
  | a :: l, b :: m => chkV a b && chkL l m
  | _, _ => false
theorem chkL_eq : ∀ {l m : List Value}, chkL l m = true → l = m ∧ ∀ x ∈ l, flat1 x = true
  | [], [], _ => ⟨rfl, fun x h => by cases h⟩
  | a :: l, b :: m, h => by
    simp only [chkL, Bool.and_eq_true] at h
    obtain ⟨h1, h2⟩ := chkV_eq h.1
    obtain ⟨h3, h4⟩ := chkL_eq h.2
    refine ⟨by rw [h1, h3], fun x hx => ?_⟩
    rcases List.mem_cons.1 hx with rfl | hx
    · exact h2
    · exact h4 x hx
/-- The row 'ys' of numbers is handed back. -/
def chkRow (ys : List Value) (u : Value) (s : AS) : Bool := match u with
  | .slice none 0 0 => match ys with
    | [] => true
    | _ => false
  | .slice (some ⟨k, 0, none⟩) n c => match Tr.at (pt k) s.heap with
    | some (.cells _ xs _) => decide (s.lo ≤ k) && decide (n = ys.length) && decide (n ≤ c) && chkL (xs.take ys.length) ys
    | _ => false
  | _ => false
theorem chkRow_frz {P : Program} {ys : List Value} {u : Value} {s : AS} (h : chkRow ys u s = true) : FrzN P s u (imS ys) := by
  unfold chkRow at h
  split at h
  · split at h
    · exact .nil
    · cases h
  · rename_i k n c
    split at h
    · rename_i T xs op hk
      simp only [Bool.and_eq_true, decide_eq_true_eq] at h
      obtain ⟨⟨⟨h1, h2⟩, h3⟩, h4⟩ := h
      obtain ⟨e, hfl⟩ := chkL_eq h4
      have hy : ∀ y ∈ ys, flat1 y = true := fun y hy => hfl y (by rw [e]; exact hy)
      have hc1 : ∀ y ∈ ys, cellsOf y = [y] := fun y hyy => by
        have := hy y hyy
        cases y <;> first | rfl | (simp [flat1] at this)
      have hca : cellsAll ys = ys := by
        clear h2 h3 h4 e hfl hy
        induction ys with
        | nil => rfl
        | cons y l ih => rw [cellsAll, List.flatMap_cons, hc1 y (by simp)]; exact congrArg _ (ih fun z hz => hc1 z (by simp [hz]))
      refine .row k n c 1 T xs ys op h1 hk (fun y hyy => by rw [hc1 y hyy]; rfl) h2 h3 (by rw [hca, ← e, List.length_take]; omega) fun i a b ha hb => ?_
      rw [hca] at hb
      have hi : i < ys.length := (List.getElem?_eq_some_iff.1 hb).1
      have ha2 : (xs.take ys.length)[i]? = some a := by rw [List.getElem?_take_of_lt hi]; exact ha
      rw [e, hb] at ha2
      cases ha2
      have hfb := hy _ (List.mem_of_getElem? hb)
      exact .flat _ (by cases a <;> first | exact hfb | (simp [flat1] at hfb))
    · cases h
  · cases h
theorem denN_closed {P : Program} (hm : P.follows .mixedOrders = true) {f : FuncId} {args : List Value} {u : Value} {chk : Value → AS → Bool} (hk : ∀ u' s', chk u' s' = true → FrzN P s' u' u) (fuel n m : Nat) (h : ∀ Ts, ((callX boolX P fuel (callN boolD P fuel (badF boolD) m) (badX boolX) n).call f args (start [] Ts) (noX Bool boolX) chk) = true) : DenN P f args u :=
  denN_of_sound hm fun Ts => ⟨fun hl W0 β W vs hR hf hv => ((callX_ok (D := boolX) hm (callN_ok (D := boolD) hm badF_ok fuel m) badX_ok fuel n).call f args (start [] Ts) (noX Bool boolX) chk hl (h Ts) W0 β W vs hR hf hv).mono fun e w' h => (by
    rcases h with ⟨v, u, s', e1, e2, e3, e4⟩ | ⟨_, _, _, h, _⟩
    · exact ⟨v, u, s', e1, hk _ _ e2, e3, e4⟩
    · exact absurd h boolX.nb)⟩
end Go.Proofs.Ythekpmpcbidjiaa.U
/- The abstract machine: closed runs with contracts of closed calls. No condition. -/
namespace Go.Proofs.Ythekpmpcbidjiaa.U
open Go Go.RowKit Go.Sort
set_option linter.unusedVariables false
set_option linter.unusedSimpArgs false
def leafB (u y : Value) : Bool := match u, y with
  | .slice none 0 0, .slice none 0 0 => true
  | u, y => valB1 u y
theorem valB1_flat {u v : Value} (h : valB1 u v = true) : flat1 u = true := by
  unfold valB1 at h
  split at h
  · rfl
  · rfl
  · rfl
  · cases h
theorem leafB_eq {u y : Value} (h : leafB u y = true) : u = y ∧ flat1 u = true := by
  unfold leafB at h
  split at h
  · exact ⟨rfl, rfl⟩
  · exact ⟨valB1_eq h, valB1_flat h⟩
theorem flat1_V {u : Value} (h : flat1 u = true) : flatV u = true := by
  cases u <;> first | exact h | (simp [flat1] at h)
def allV (f : Value → Value → Bool) : List Value → List Value → Bool
  | [], [] => true
  | a :: l, b :: m => f a b && allV f l m
  | _, _ => false
theorem allV_at {f : Value → Value → Bool} : ∀ {l m : List Value}, allV f l m = true → l.length = m.length ∧ ∀ (i : Nat) (u v : Value), l[i]? = some u → m[i]? = some v → f u v = true
  | [], [], _ => ⟨rfl, fun i u v h => by simp at h⟩
  | a :: l, b :: m, h => by
    simp only [allV, Bool.and_eq_true] at h
    obtain ⟨h1, h2⟩ := allV_at h.2
    refine ⟨by simp [h1], fun i u v hu hv => ?_⟩
    cases i with
    | zero => simp at hu hv; subst hu; subst hv; exact h.1
    | succ i => simp at hu hv; exact h2 i u v hu hv
  | [], _ :: _, h => by cases h
  | _ :: _, [], h => by cases h
theorem NoNm.cells {x : Value} (h : NoNm x) : ∀ c ∈ cellsOf x, NoNm c := by
  intro c hc
  cases h with
  | flat _ h =>
    cases x with
    | agg l =>
      obtain ⟨l⟩ := l
      exact .flat c (flat1_V (List.all_eq_true.1 h c hc))
    | _ => simp [cellsOf] at hc; subst hc; exact .flat _ h
  | agg l h => exact h c hc
  | ims xs h => simp [cellsOf, imS] at hc; subst hc; exact .ims xs h
  | imp x o h => simp [cellsOf, imP] at hc; subst hc; exact .imp x o h
  | ime => simp [cellsOf, imE] at hc; subst hc; exact .ime
/-- The same, and of values that stay as they are. -/
def eqS (f : Value → Value → Bool) (u y : Value) : Bool := match u with
  | .agg ⟨l⟩ => match y with
    | .agg ⟨m⟩ => allV f l m
    | _ => false
  | .func (.yield 0) ⟨l⟩ ⟨[.bool true]⟩ => match y with
    | .func (.yield 0) ⟨m⟩ ⟨[.bool true]⟩ => allV f l m
    | _ => false
  | u => leafB u y
def eqV : Nat → Value → Value → Bool
  | 0 => fun _ _ => false
  | n + 1 => eqS (eqV n)
theorem allV_eq {f : Value → Value → Bool} (hf : ∀ u y, f u y = true → u = y ∧ NoNm u) : ∀ {l m : List Value}, allV f l m = true → l = m ∧ ∀ x ∈ l, NoNm x
  | [], [], _ => ⟨rfl, fun x h => by cases h⟩
  | a :: l, b :: m, h => by
    simp only [allV, Bool.and_eq_true] at h
    obtain ⟨h1, h2⟩ := hf _ _ h.1
    obtain ⟨h3, h4⟩ := allV_eq hf h.2
    refine ⟨by rw [h1, h3], fun x hx => ?_⟩
    rcases List.mem_cons.1 hx with rfl | hx
    · exact h2
    · exact h4 x hx
  | [], _ :: _, h => by cases h
  | _ :: _, [], h => by cases h
theorem eqV_eq : ∀ (n : Nat) (u y : Value), eqV n u y = true → u = y ∧ NoNm u
  | 0, u, y, h => by cases h
  | n + 1, u, y, h => by
    have h : eqS (eqV n) u y = true := h
    unfold eqS at h
    split at h
    · split at h
      · obtain ⟨e, h2⟩ := allV_eq (eqV_eq n) h
        exact ⟨by rw [e], .agg _ h2⟩
      · cases h
    · split at h
      · obtain ⟨e, h2⟩ := allV_eq (eqV_eq n) h
        refine ⟨by rw [e], .ims _ fun c hc => ?_⟩
        obtain ⟨x, hx, hc⟩ := List.mem_flatMap.1 hc
        exact (h2 x hx).cells c hc
      · cases h
    · obtain ⟨e, h2⟩ := leafB_eq h
      exact ⟨e, .flat _ (flat1_V h2)⟩
/-- What a state tells, as a value that stays as it is. -/
def sameS (f : Value → Value → Bool) (s : AS) (u y : Value) : Bool := match y with
  | .agg ⟨m⟩ => match u with
    | .agg ⟨l⟩ => allV f l m
    | _ => false
  | .tuple ⟨m⟩ => match u with
    | .tuple ⟨l⟩ => allV f l m
    | _ => false
  | .func (.yield 0) ⟨ys⟩ ⟨[.bool true]⟩ => match u with
    | .slice none 0 0 => ys.isEmpty
    | .slice (some ⟨k, 0, none⟩) i c => match Tr.at (pt k) s.heap with
      | some (.cells _ xs _) => decide (s.lo ≤ k) && (decide (i = ys.length) && (decide (i ≤ c) && ((ys.all fun y => decide ((cellsOf y).length = (cellsOf (ys.headD y)).length)) && allV f (xs.take (cellsAll ys).length) (cellsAll ys))))
      | _ => false
    | _ => false
  | _ => false
def sameR : Nat → AS → Value → Value → Bool
  | 0, _ => fun _ _ => false
  | n + 1, s => fun u y => eqV (n + 1) u y || sameS (sameR n s) s u y
theorem szB_eq {ys : List Value} (h : (ys.all fun y => decide ((cellsOf y).length = (cellsOf (ys.headD y)).length)) = true) : ∀ y ∈ ys, (cellsOf y).length = (cellsOf (ys.headD (.bool true))).length := by
  intro y hy
  have := of_decide_eq_true (List.all_eq_true.1 h y hy)
  cases ys with
  | nil => cases hy
  | cons a l => exact this
theorem sameR_frz {P : Program} {s : AS} : ∀ (n : Nat) (u y : Value), sameR n s u y = true → FrzV P s u y
  | 0, u, y, h => by cases h
  | n + 1, u, y, h => by
    replace h := Bool.or_eq_true_iff.1 (show (eqV (n + 1) u y || sameS (sameR n s) s u y) = true from h)
    rcases h with h | h
    · obtain ⟨e, h2⟩ := eqV_eq _ _ _ h
      exact .same h2 e
    unfold sameS at h
    split at h
    · split at h
      · obtain ⟨h1, h2⟩ := allV_at h
        exact .agg _ _ h1 fun i u v hu hv => sameR_frz n u v (h2 i u v hu hv)
      · cases h
    · split at h
      · obtain ⟨h1, h2⟩ := allV_at h
        exact .tup _ _ h1 fun i u v hu hv => sameR_frz n u v (h2 i u v hu hv)
      · cases h
    · rename_i ys
      split at h
      · have : ys = [] := by simpa using h
        subst this
        exact .nil
      · split at h
        · rename_i k i c _ T xs op hk
          simp only [Bool.and_eq_true] at h
          obtain ⟨h1, h2, h3, h4, h5⟩ := h
          obtain ⟨h6, h7⟩ := allV_at h5
          have hle : (cellsAll ys).length ≤ xs.length := by rw [List.length_take] at h6; omega
          refine .row k i c _ T xs ys op (of_decide_eq_true h1) hk (szB_eq h4) (of_decide_eq_true h2) (of_decide_eq_true h3) hle fun j u v hu hv => sameR_frz n u v (h7 j u v ?_ hv)
          have hj : j < (cellsAll ys).length := (List.getElem?_eq_some_iff.1 hv).1
          rw [List.getElem?_take_of_lt hj]; exact hu
        · cases h
      · cases h
    · cases h
theorem sameR_L {P : Program} {s : AS} {n : Nat} : ∀ {l m : List Value}, allV (sameR n s) l m = true → FrzL P s l m
  | [], [], _ => trivial
  | a :: l, b :: m, h => by
    simp only [allV, Bool.and_eq_true] at h
    exact .cons (sameR_frz n a b h.1) (sameR_L h.2)
  | [], _ :: _, h => by cases h
  | _ :: _, [], h => by cases h
/-- A contract of a closed call: which function, its arguments, its answer; true: of rows of the caller's own, too. -/
structure Con where
  own : Bool
  f : FuncId
  args : List Value
  u : Value
def Con.ok (P : Program) (c : Con) : Prop := if c.own then DenN P c.f c.args c.u else DenU P [] c.f c.args c.u
def Con.fits (c : Con) (f : FuncId) (args : List Value) (s : AS) : Bool := Nat.beq c.f f && (if c.own then allV (sameR 8 (seen s)) args c.args else allV (eqV 8) args c.args)
theorem NoNms.of : ∀ {l : List Value}, (∀ x ∈ l, NoNm x) → NoNms l
  | [], _ => trivial
  | a :: l, h => ⟨h a (by simp), NoNms.of fun x hx => h x (by simp [hx])⟩
theorem Con.at {P : Program} {c : Con} (h : c.ok P) {f : FuncId} {args : List Value} {s : AS} (hf : c.fits f args s = true) {k : Value → AS → Prop} (hk : k c.u s) : SoundAt P f args s k := by
  obtain ⟨own, g, al, u⟩ := c
  simp only [Con.fits, Bool.and_eq_true] at hf
  obtain ⟨h1, h2⟩ := hf
  have h1 : g = f := Nat.eq_of_beq_eq_true h1
  subst h1
  cases own
  · simp [Con.ok] at h
    simp at h2
    obtain ⟨e, h3⟩ := allV_eq (eqV_eq 8) h2
    subst e
    exact SoundAt.u h (.of h3) hk
  · simp [Con.ok] at h
    simp at h2
    exact SoundAt.nF h (sameR_L h2) hk
noncomputable def conX (cs : List Con) (cx : CallFX Bool) : CallFX Bool := ⟨fun f args s kp k => cs.rec (cx.call f args s kp k) fun c _ ih => cond (c.fits f args s) (k c.u s) ih, cx.round⟩
theorem conX_ok {P : Program} {cs : List Con} (hc : ∀ c ∈ cs, c.ok P) {cx : CallFX Bool} (hx : CallX P boolX cx) : CallX P boolX (conX cs cx) := by
  refine ⟨fun f args s kp k hl h W0 β W vs hR hfr hv => ?_, hx.round⟩
  replace h : (cs.rec (cx.call f args s kp k) fun c _ ih => cond (c.fits f args s) (k c.u s) ih : Bool) = true := h
  induction cs with
  | nil => exact hx.call f args s kp k hl h W0 β W vs hR hfr hv
  | cons c cs ih =>
    by_cases hf : c.fits f args s = true
    · replace h : cond (c.fits f args s) (k c.u s) (cs.rec (cx.call f args s kp k) fun c _ ih => cond (c.fits f args s) (k c.u s) ih : Bool) = true := h
      rw [hf] at h
      exact ((Con.at (hc c (by simp)) hf (k := fun u s' => k u s' = true) h).out hl W0 β W vs hR hfr hv).mono fun e w' h => .inl h
    · replace h : cond (c.fits f args s) (k c.u s) (cs.rec (cx.call f args s kp k) fun c _ ih => cond (c.fits f args s) (k c.u s) ih : Bool) = true := h
      rw [Bool.eq_false_iff.2 hf] at h
      exact ih (fun c hc' => hc c (by simp [hc'])) h
noncomputable def callT (P : Program) (cs : List Con) (fuel : Nat) (cf : CallF Bool) : Nat → CallFX Bool
  | 0 => badX boolX
  | n + 1 => conX cs ⟨bodyX boolX P cf (callT P cs fuel cf n) fuel, roundX boolX P cf (callT P cs fuel cf n) fuel⟩
theorem callT_ok {P : Program} (hm : P.follows .mixedOrders = true) {cs : List Con} (hc : ∀ c ∈ cs, c.ok P) {cf : CallF Bool} (hcf : CallOk P boolD cf) (fuel : Nat) : ∀ n, CallX P boolX (callT P cs fuel cf n)
  | 0 => badX_ok
  | n + 1 => conX_ok hc ⟨bodyX_sound (D := boolX) hm hcf (callT_ok hm hc hcf fuel n) fuel, roundX_sound (D := boolX) hm hcf (callT_ok hm hc hcf fuel n) fuel⟩
/-- A closed run, with contracts of closed calls. -/
theorem denN_closedC {P : Program} (hm : P.follows .mixedOrders = true) (cs : List Con) (hc : ∀ c ∈ cs, c.ok P) {f : FuncId} {args : List Value} {u : Value} {chk : Value → AS → Bool} (hk : ∀ u' s', chk u' s' = true → FrzN P s' u' u) (fuel n m : Nat) (h : ∀ Ts, ((callT P cs fuel (callN boolD P fuel (badF boolD) m) n).call f args (start [] Ts) (noX Bool boolX) chk) = true) : DenN P f args u :=
  denN_of_sound hm fun Ts => ⟨fun hl W0 β W vs hR hf hv => ((callT_ok hm hc (callN_ok (D := boolD) hm badF_ok fuel m) fuel n).call f args (start [] Ts) (noX Bool boolX) chk hl (h Ts) W0 β W vs hR hf hv).mono fun e w' h => (by
    rcases h with ⟨v, u, s', e1, e2, e3, e4⟩ | ⟨_, _, _, h, _⟩
    · exact ⟨v, u, s', e1, hk _ _ e2, e3, e4⟩
    · exact absurd h boolX.nb)⟩
end Go.Proofs.Ythekpmpcbidjiaa.U
