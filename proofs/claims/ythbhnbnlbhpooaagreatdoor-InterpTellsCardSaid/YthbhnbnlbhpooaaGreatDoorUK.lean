/- The abstract machine with unknowns: contracts at arguments that hold rows of the caller's own. No condition. -/
import Derived.Test.YthbhnbnlbhpooaaGreatDoorUJ
namespace Go.Proofs.YthbhnbnlbhpooaaGreatDoor.U
open Go Go.RowKit Go.Sort
set_option linter.unusedVariables false
set_option linter.unusedSimpArgs false

/-! Results without memory: all is frozen for the call's time. -/
theorem FrzV.relAll {P : Program} {s0 s : AS} (e : s0.heap = s.heap) {W0 W : World} {β : Bt} {z' : Nat → Nat → Option Value} (hR : Rel P W0 β s W) (h1 : ∀ r o x, β.z r o = some x → z' r o = some x) (h2 : ∀ r o x, W.cell? ⟨r, o, none⟩ = some x → z' r o = some x) {u y : Value} (h : FrzV P s0 u y) : ∀ {v : Value}, VR β u v → VR ⟨fun _ => none, z'⟩ y v := by
  induction h with
  | clean u h => intro v hv; exact (h.rel hv).growX ⟨fun k x hk => (by cases hk), h1⟩
  | nil => intro v hv; rw [hv.flat1_eq rfl]; exact .imn
  | agg l m hl _ ih =>
    intro v hv
    obtain ⟨l', e1, rfl⟩ := hv.agg_inv
    refine .agg m l' (hl.symm.trans e1.1) fun i u v hu hv => ?_
    have hi : i < l.length := by rw [hl]; exact (List.getElem?_eq_some_iff.1 hu).1
    exact ih i l[i] u (List.getElem?_eq_getElem hi) hu (e1.2 i _ v (List.getElem?_eq_getElem hi) hv)
  | tup l m hl _ ih =>
    intro v hv
    obtain ⟨l', e1, rfl⟩ := hv.tup_inv
    refine .tup m l' (hl.symm.trans e1.1) fun i u v hu hv => ?_
    have hi : i < l.length := by rw [hl]; exact (List.getElem?_eq_some_iff.1 hu).1
    exact ih i l[i] u (List.getElem?_eq_getElem hi) hu (e1.2 i _ v (List.getElem?_eq_getElem hi) hv)
  | row k n c z T xs ys op hlo hk hz hn hc hl _ ih =>
    intro v hv
    obtain ⟨r, sp, e1, rfl⟩ := hv.sl_inv
    rw [e] at hk
    obtain ⟨cs, fz, g1, _, _, g4, g5, g6, g7, g8⟩ := (hR.blk k _ r sp hk e1).real
    subst hn
    have hlen : ((cs.toList.take xs.length).take (cellsAll ys).length).length = (cellsAll ys).length := by
      have := g5.1
      rw [List.length_take, ← this]
      omega
    have hat : ∀ (i : Nat) (w : Value), ((cs.toList.take xs.length).take (cellsAll ys).length)[i]? = some w → (cs.toList.take xs.length)[i]? = some w := fun i w hw => by
      have hil := (List.getElem?_eq_some_iff.1 hw).1
      rwa [List.getElem?_take_of_lt (by rw [List.length_take] at hil; omega)] at hw
    refine .ims ys ((cs.toList.take xs.length).take (cellsAll ys).length) z r 0 (c + sp) hz (by omega) hlen (fun i w hw => ?_) (fun i y w hy hw => ?_) fun w hw => g7 w (List.mem_of_mem_take hw)
    · rw [Nat.zero_add]
      exact h2 r i w (g8 i w (hat i w hw))
    · have hw' := hat i w hw
      have hi : i < xs.length := by
        have := (List.getElem?_eq_some_iff.1 hw').1
        rw [g5.1]; exact this
      exact ih i xs[i] y (List.getElem?_eq_getElem hi) hy (g5.2 i _ w (List.getElem?_eq_getElem hi) hw')
/-- All of a state's blocks may be looked at. -/
def seen (s : AS) : AS := ⟨s.heap, s.next, 0, s.glb⟩
theorem SoundC.uF {P : Program} {f : FuncId} {args args' : List Value} {u : Value} {s : AS} {k : Value → AS → Prop} (h : DenU P [] f args' u) (hu : flatV u = true) (hf : FrzL P (seen s) args args') (hk : k u s) : SoundC P f args s k := by
  refine ⟨fun hl => ⟨u, s, hk, .refl _, fun W0 β W vs hR hfr hv => ?_⟩⟩
  have hall : VRs ⟨fun _ => none, fun r o => W.cell? ⟨r, o, none⟩⟩ args' vs := ⟨hf.at_.1.symm.trans hv.1, fun i y v hy hv' => by
    have hi : i < args.length := by rw [hf.at_.1]; exact (List.getElem?_eq_some_iff.1 hy).1
    exact (hf.at_.2 i args[i] y (List.getElem?_eq_getElem hi) hy).relAll (s0 := seen s) (s := s) rfl hR (fun r o x hx => (hR.frz r o x hx).1) (fun _ _ _ h => h) (hv.2 i _ v (List.getElem?_eq_getElem hi) hv')⟩
  refine (h.out (fun r o => W.cell? ⟨r, o, none⟩) W vs (fun x hx => by cases hx) (fun _ _ _ h => h) hall).mono fun e w' ⟨v, z', he, hb, _, _, hv'⟩ => ?_
  have : v = u := hv'.flat_eq hu
  subst this
  exact ⟨v, he, β, .refl _ _, hR.later hb, .of_flat _ hu, KD.below hb⟩

/-! Rows that are only read. -/
/-- The names 0, 1, .. are rows that are only read; what is handed back is a row of its own. -/
structure DenI (P : Program) (f : FuncId) (args : List Value) (Hi : List Blk) (u : Value) (H : List (Option Blk)) : Prop where
  out : ∀ (z : Nat → Nat → Option Value) (W : World) (vs : List Value) (μ : Nat → Option (Nat × Nat)), (∀ r o v, z r o = some v → W.cell? ⟨r, o, none⟩ = some v) → (∀ (k : Nat) (b : Blk) (r sp : Nat), Hi[k]? = some b → μ k = some (r, sp) → BlkR P ⟨μ, z⟩ W r sp False b) → (∀ k x, μ k = some x → k < Hi.length ∧ x.1 < W.heap.size) → VRs ⟨μ, z⟩ args vs →
    Calls P f ⟨vs⟩ W fun e w' => ∃ v, e = .returned v ∧ OutR P z W u H v w'
def stI (i : Nat) (h : Tr Blk) : AS := ⟨h, i, i, 0⟩
def RetI (i : Nat) (s : AS) (u' u : Value) (H : List (Option Blk)) : Prop :=
  ∃ ρ : Nat → Nat, (∀ k, k < H.length → i ≤ ρ k) ∧ RenV H.length ⟨ρ, fun _ _ => False⟩ u u' ∧ (∀ k b, H[k]? = some (some b) → ∃ b', s.heap.get (ρ k) = some b' ∧ RenB H.length ⟨ρ, fun _ _ => False⟩ b b') ∧ ∀ (k k' : Nat) (b b' : Blk), H[k]? = some (some b) → H[k']? = some (some b') → ρ k = ρ k' → k = k'
theorem denI_of_sound {P : Program} {f : FuncId} {args : List Value} {Hi : List Blk} {h : Tr Blk} {u : Value} {H : List (Option Blk)} (i : Nat) (hi : Hi.length = i) (hh : ∀ k b, h.get k = some b → Hi[k]? = some b) (hs : SoundAt P f args (stI i h) fun u' s' => RetI i s' u' u H) : DenI P f args Hi u H := by
  subst hi
  refine ⟨fun z W vs μ hz hB hμ hv => ?_⟩
  have hlt : ∀ k, h.get k ≠ none → k < Hi.length := fun k hk => by
    obtain ⟨b, hb⟩ := Option.ne_none_iff_exists'.1 hk
    exact (List.getElem?_eq_some_iff.1 (hh k b hb)).1
  have hR : Rel P W ⟨μ, z⟩ (stI Hi.length h) W := ⟨fun k b r sp hk hr => (hB k b r sp (hh k b hk) hr).sameX ⟨fun _ _ h => h, fun _ _ _ h => h⟩ (fun hle => by have := hlt k (by rw [show h.get k = some b from hk]; simp); exact absurd hle (Nat.not_le.2 this)) rfl, fun k k' r sp sp' hlo hk => absurd hlo (Nat.not_le.2 (hlt k hk)), hlt, fun k r sp hr => (hμ k (r, sp) hr).2, fun k r sp hk _ hlo => absurd hlo (Nat.not_le.2 (hlt k hk)), .refl _ _, fun g hg => absurd hg (Nat.not_lt_zero g), fun r o v hv => ⟨hz r o v hv, fun k sp hlo hk => absurd hlo (Nat.not_le.2 (hlt k hk))⟩⟩
  refine (hs.out (Nat.le_refl _) W ⟨μ, z⟩ W vs hR (fun k hk => by
    cases hm : μ k with
    | none => exact hm
    | some x => exact absurd hk (Nat.not_le.2 (hμ k x hm).1)) hv).mono fun e w' ⟨v, u', s', he, ⟨ρ, h0, h1, h2, h3⟩, hst, β', hx, hR', hv', _⟩ => ⟨v, he, ?_⟩
  have hlo : s'.lo = Hi.length := hst.lo
  let ν : Nat → Option (Nat × Nat) := fun k => if k < H.length then β' (ρ k) else none
  have hm' : ∀ k, k < H.length → ν k = β' (ρ k) := fun k hk => if_pos hk
  have hν : ∀ k x, ν k = some x → k < H.length ∧ β' (ρ k) = some x := fun k x hx => by
    have hx : (if k < H.length then β' (ρ k) else none) = some x := hx
    split at hx
    · rename_i h; exact ⟨h, hx⟩
    · cases hx
  have ht : ∀ k b, H[k]? = some (some b) → s'.heap.get (ρ k) ≠ none := fun k b hk => by
    obtain ⟨b', e1, _⟩ := h2 k b hk
    rw [e1]; simp
  have hl0 : ∀ k b, H[k]? = some (some b) → s'.lo ≤ ρ k := fun k b hk => by
    rw [hlo]; exact h0 k (List.getElem?_eq_some_iff.1 hk).1
  refine ⟨ν, β'.z, hR'.below, hx.z.1, fun r o x hx' => ⟨(hR'.frz r o x hx').1, hx.z.2 r o x hx', fun k sp b hk hr => (hR'.frz r o x hx').2 (ρ k) sp (hl0 k b hk) (ht k b hk) (hν k _ hr).2⟩, ?_, fun k b r sp hk hr => ?_, fun k x hx' => ?_, fun k k' r sp sp' b b' hk hk' hr hr' => ?_⟩
  · exact h1.rel (β := β') (β1 := ⟨ν, β'.z⟩) (fun _ _ _ h => h) (fun _ _ _ h => absurd h id) hm' hv'
  · obtain ⟨b', e1, e2⟩ := h2 k b hk
    have hr := (hν k _ hr).2
    exact ⟨e2.rel (β := β') (β1 := ⟨ν, β'.z⟩) (fun _ _ _ h => h) (fun _ _ _ h => absurd h id) (fun _ _ h => absurd h id) hm' (fun _ => hl0 k b hk) (hR'.blk (ρ k) b' r sp e1 hr), hR'.ge (ρ k) r sp (ht k b hk) hr (hl0 k b hk)⟩
  · exact ⟨(hν k x hx').1, hR'.lt (ρ k) x.1 x.2 (hν k x hx').2⟩
  · exact h3 k k' b b' hk hk' (hR'.inj (ρ k) (ρ k') r sp sp' (hl0 k b hk) (ht k b hk) (ht k' b' hk') (hν k _ hr).2 (hν k' _ hr').2)
theorem SoundC.tellI {P : Program} {f : FuncId} {args a : List Value} {Hi : List Blk} {u u1 : Value} {H : List (Option Blk)} {σ : Nat → Nat} {s s1 : AS} {k : Value → AS → Prop} (hD : DenI P f args Hi u H) (τ : Nat → Nat) (ha : RenL Hi.length ⟨τ, fun _ _ => False⟩ args a) (hi : ∀ k b, Hi[k]? = some b → ∃ b', s.heap.get (τ k) = some b' ∧ RenB Hi.length ⟨τ, fun _ _ => False⟩ b b')
    (hg : s.glb ≤ s.next) (hst : s.lo ≤ s.next → Stp s s1) (ht : (∀ k, s.next ≤ k → s.heap.get k = none) → TellR s s1 u u1 H σ) (hk : k u1 s1) : SoundC P f a s k := by
  refine ⟨fun hl => ⟨u1, s1, hk, hst hl, fun W0 β W vs hR hf hv => ?_⟩⟩
  let μ : Nat → Option (Nat × Nat) := fun k => if k < Hi.length then β (τ k) else none
  have hm : ∀ k, k < Hi.length → (⟨μ, β.z⟩ : Bt) k = β (τ k) := fun k hk => if_pos hk
  have hμ : ∀ k x, μ k = some x → k < Hi.length ∧ β (τ k) = some x := fun k x hx => by
    have hx : (if k < Hi.length then β (τ k) else none) = some x := hx
    split at hx
    · rename_i h; exact ⟨h, hx⟩
    · cases hx
  refine (hD.out β.z W vs μ (fun r o v hz => (hR.frz r o v hz).1) (fun k b r sp hk hr => ?_) (fun k x hx => ⟨(hμ k x hx).1, hR.lt _ x.1 x.2 (hμ k x hx).2⟩) ?_).mono fun e w' ⟨v, he, ho⟩ => ⟨v, he, (ht hR.free_).lays hl hR hf ho hg⟩
  · obtain ⟨b', e1, e2⟩ := hi k b hk
    exact e2.rel (β := β) (β1 := ⟨μ, β.z⟩) (fun _ _ _ h => h) (fun _ _ _ h => absurd h id) (fun _ _ h => absurd h id) hm (fun h => absurd h id) (hR.blk (τ k) b' r sp e1 (hμ k _ hr).2)
  · obtain ⟨q1, q2⟩ := ha.at_
    refine ⟨q1.trans hv.1, fun i x v hx hv' => ?_⟩
    obtain ⟨y, q3, q4⟩ := q2 i x hx
    exact q4.rel (β := β) (β1 := ⟨μ, β.z⟩) (fun _ _ _ h => h) (fun _ _ _ h => absurd h id) hm (hv.2 i y v q3 hv')
/-- A part of a row at an unknown place. -/
theorem takeRow_p {n z : Nat} {xs vs : List Value} {K : List Value → Prop} (hl : n + z ≤ xs.length) (h : (xs.drop n).take z = vs) (hk : K vs) : takeC propD z (dropL xs n) K := by
  rw [dropL_eq, takeC_eq _ _ _ _ (by rw [List.length_drop]; omega), h]; exact hk
theorem takeRowX_p {n z : Nat} {xs vs : List Value} {K : List Value → Prop} (hl : n + z ≤ xs.length) (h : (xs.drop n).take z = vs) (hk : K vs) : takeC propX.toDom z (dropL xs n) K := takeRow_p hl h hk
theorem yesK_frz {P : Program} {u : Value} {s : AS} (h : yesK u s = true) : FrzV P s u (.bool true) := by
  unfold yesK at h
  split at h
  · subst h; exact .clean _ (.flat _ rfl)
  · cases h
/-- A closed run that comes to 'true'. -/
theorem denU_closed {P : Program} (hm : P.follows .mixedOrders = true) {f : FuncId} (fuel n m : Nat) (h : ∀ Ts, ((callX boolX P fuel (callN boolD P fuel (badF boolD) m) (badX boolX) n).call f [] (start [] Ts) (noX Bool boolX) yesK) = true) : DenU P [] f [] (.bool true) :=
  denU_of_sound hm fun Ts => ⟨fun hl W0 β W vs hR hf hv => ((callX_ok (D := boolX) hm (callN_ok (D := boolD) hm badF_ok fuel m) badX_ok fuel n).call f [] (start [] Ts) (noX Bool boolX) yesK hl (h Ts) W0 β W vs hR hf hv).mono fun e w' h => (by
    rcases h with ⟨v, u, s', e1, e2, e3, e4⟩ | ⟨_, _, _, h, _⟩
    · exact ⟨v, u, s', e1, yesK_frz e2, e3, e4⟩
    · exact absurd h boolX.nb)⟩
/-- A closed run over tables that comes to 'true'. -/
theorem denU_closedT {P : Program} (hm : P.follows .mixedOrders = true) {l : List (Nat × List Value)} (hl : gOk l = true) {f : FuncId} (fuel n m : Nat) (h : ∀ Ts, ((callX boolX P fuel (callN boolD P fuel (badF boolD) m) (badX boolX) n).call f [] (start l Ts) (noX Bool boolX) yesK) = true) : DenU P l f [] (.bool true) :=
  denU_of_callX (D := boolX) (callX_ok (D := boolX) hm (callN_ok (D := boolD) hm badF_ok fuel m) badX_ok fuel n) hl (fun _ _ h => yesK_frz h) h
theorem SoundAt.uT {P : Program} {l : List (Nat × List Value)} (hl : gOk l = true) {f : FuncId} {args : List Value} {u : Value} {s : AS} {k : Value → AS → Prop} (h : DenU P l f args u) (hc : NoNms args) (ht : Tabled l s) (hk : k u s) : SoundAt P f args s k := ⟨fun hlo => (extU_ok hl).call0 f args s k hlo ⟨u, h, hc, ht, hk⟩⟩
theorem SoundC.uT {P : Program} {l : List (Nat × List Value)} (hl : gOk l = true) {f : FuncId} {args : List Value} {u : Value} {s : AS} {k : Value → AS → Prop} (h : DenU P l f args u) (hc : NoNms args) (ht : Tabled l s) (hk : k u s) : SoundC P f args s k := ⟨fun hlo => (extU_c hl).call f args s k hlo ⟨u, h, hc, ht, hk⟩⟩
/-- From the meaning of a call, over tables, to a contract. -/
theorem denU_of_soundT {P : Program} {l : List (Nat × List Value)} (hl : gOk l = true) {f : FuncId} {args : List Value} {u : Value} (h : ∀ Ts, SoundAt P f args (start l Ts) fun u' s' => FrzV P s' u' u) : DenU P l f args u :=
  denU_of_callX (D := propX) (cx := extS P) extS_ok hl (fun _ _ h => h) h
/-- A call, from the state told anew (its arguments as a frame): rows may be frozen ahead of it. -/
theorem SoundAt.cov {P : Program} {f : FuncId} {args args1 : List Value} {s s1 : AS} {k : Value → AS → Prop} (sl : List (Nat × Value)) (hc : Cov P (args.length + (0 - args.length)) s.next (argsF args 0 .e) s (mkF sl) s1) (hlen : args1.length = args.length) (hsl : ∀ i u, args1[i]? = some u → Tr.at (pt i) (mkF sl) = some u) (h : SoundAt P f args1 s1 k) : SoundAt P f args s k := by
  refine ⟨fun hlo W0 β W vs hR hf hv => ?_⟩
  obtain ⟨β1, g1, g2, g3, g4, g5⟩ := hc.rel W0 β W _ hR hf (frR_start hv 0)
  have hv1 : VRs β1 args1 vs := ⟨hlen.trans hv.1, fun i u v hu hv' => by
    have := g5.at_ i u (hsl i u hu)
    have e : (((⟨vs⟩ : Array Value) ++ Array.replicate (0 - (⟨vs⟩ : Array Value).size) undef : Array Value)[i]?) = some v := by simp [hv']
    rw [Array.getD_eq_getD_getElem?, e] at this
    exact this⟩
  have hst : StpX s s1 := ⟨hc.next, hc.lo, hc.glb, hc.keep⟩
  refine (h.out (hst.le hlo) W0 β1 W vs g4 g2 hv1).mono fun e w' ⟨v, u, s', e1, e2, e3, β2, q1, q2, q3, q4⟩ => ⟨v, u, s', e1, e2, hst.trans e3, β2, ⟨fun k hk => (q1.keep k (Nat.lt_of_lt_of_le hk hc.next)).trans (g1 k hk), q1.free, g3.trans q1.z⟩, q2, q3, q4⟩
/-- The same; not all of the family need be told. -/
theorem Cov.fam2 {P : Program} {N n0 : Nat} {fr : Tr Value} {s : AS} (ρ : Nat → Nat) (kf : Nat) (F : Value → Value → Prop) {T : TypeId} {op : Bool} {xs : List Value} (c : Nat) (t : Tr Blk) (fam : List (Option Blk)) {l : List (Nat × Value)} {hl : List (Nat × Option Blk)} {n lo glb : Nat} (e1 : lo = s.lo) (e2 : glb = s.glb) (hn : n0 ≤ n) (hg : glb ≤ n0) (hρ : ∀ k, k < n0 → ρ k = k)
    (hlo : lo = 0) (ht : ∀ k b, t.get k = some b → ∃ j, k = c + j ∧ j < fam.length ∧ fam[j]? = some (some b)) (hc : c + fam.length ≤ n)
    (hfam : ∀ j b, fam[j]? = some (some b) → ∃ b', s.heap.get (ρ (c + j)) = some b' ∧ RenB n ⟨ρ, F⟩ b b')
    (hkeys : keysB ρ lo n (hl.map (·.1)) = true) (hkf : xs ≠ [] → ((hl.map (·.1)).all fun k => decide (ρ k ≠ kf)) = true) (hkf2 : xs ≠ [] → ∀ j b, fam[j]? = some (some b) → ρ (c + j) ≠ kf)
    (hfi : ∀ j j' b b', fam[j]? = some (some b) → fam[j']? = some (some b') → ρ (c + j) = ρ (c + j') → j = j') (hfk : ∀ k ∈ hl.map (·.1), ∀ j b, fam[j]? = some (some b) → ρ k ≠ ρ (c + j))
    (hb : blksO s.heap n ⟨ρ, F⟩ hl) (hk : xs ≠ [] → s.heap.get kf = some (.cells T xs op)) (hF : ∀ u1 u, F u1 u → FrzOne kf xs u1 u) (hf : slotsRen fr n ⟨ρ, F⟩ l) : Cov P N n0 fr s (mkF l) ⟨mkOB t hl, n, lo, glb⟩ := by
  subst e1
  have hkeys := keysB.all hkeys
  have hg' : ∀ k b, (mkOB t hl).get k = some b → (k ∈ hl.map (·.1) ∧ ∃ b', s.heap.get (ρ k) = some b' ∧ RenB n ⟨ρ, F⟩ b b') ∨ ∃ j, k = c + j ∧ j < fam.length ∧ fam[j]? = some (some b) := fun k b h => by
    rcases mkOB_get h with h | h
    · exact .inl ⟨List.mem_map.2 ⟨_, h, rfl⟩, hb.all _ h b rfl⟩
    · exact .inr (ht k b h)
  refine Cov.gen ρ kf F (T := T) (op := op) (xs := xs) rfl e2 hn hg hρ (fun k b h => ?_) (fun k k' h h' e => ?_) (fun k hk => absurd hk (by rw [hlo]; exact Nat.not_lt_zero k)) (by rw [hlo]; exact Nat.zero_le _) hk hF fun t u hu => hf.all _ (mkF_mem hu)
  · rcases hg' k b h with ⟨h1, h2⟩ | ⟨j, rfl, h1, h2⟩
    · exact ⟨(hkeys k h1).1, (hkeys k h1).2.1, fun hx => of_decide_eq_true (List.all_eq_true.1 (hkf hx) k h1), h2⟩
    · exact ⟨by omega, fun _ => by rw [hlo]; exact Nat.zero_le _, fun hx => hkf2 hx j b h2, hfam j b h2⟩
  · obtain ⟨b, hbk⟩ := Option.ne_none_iff_exists'.1 h
    obtain ⟨b', hbk'⟩ := Option.ne_none_iff_exists'.1 h'
    rcases hg' k b hbk with ⟨h1, _⟩ | ⟨j, rfl, _, h1⟩ <;> rcases hg' k' b' hbk' with ⟨h3, _⟩ | ⟨j', rfl, _, h3⟩
    · exact (hkeys k h1).2.2 k' h3 e
    · exact absurd e (hfk k h1 j' b' h3)
    · exact absurd e.symm (hfk k' h3 j b h1)
    · rw [hfi j j' b b' h1 h3 e]
end Go.Proofs.YthbhnbnlbhpooaaGreatDoor.U
