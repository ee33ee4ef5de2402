/- The iterator of a value's numbers: they come rising, one by one. -/
import Derived.RangeFuncNested
import Derived.RangeFuncBound
import Derived.RangeFuncCalls
import Derived.RangeFuncLeaves
import Derived.Shelf.Abstract
import Derived.Shelf.RegionOpen
import Derived.WalkKit
import Derived.OwnWalkIn
import Derived.TacticsInMore
import Derived.LoopNIn
import Derived.LoopIn
import Derived.Test.YtljhbdgoknfkcaaGreatDoorPL
import Derived.RangeFuncBox
import Derived.Maps.AppendAt
namespace Go.Proofs.YtljhbdgoknfkcaaGreatDoor
open Go Go.RowKit Go.Sort Go.Shelf
set_option linter.unusedVariables false
set_option linter.unusedSimpArgs false
attribute [local go_sem] Oper.semAt_some

/-- Blocks that hold a value's variable stay as they are. -/
def KpV (W W' : World) : Prop := ∀ (b : Nat) (xs : Array Value), W.heap[b]? = some (.cells xs 31 (0, 0)) → W'.heap[b]? = some (.cells xs 31 (0, 0))
theorem KpV.trans {A B C : World} (h : KpV A B) (k : KpV B C) : KpV A C := fun b xs e => k b xs (h b xs e)
def vnums (v : VV) (k : Nat) : List Int := (List.range k).map (vnum v)
theorem vnums_succ (v : VV) (k : Nat) : vnums v (k + 1) = vnums v k ++ [vnum v k] := by unfold vnums; rw [List.range_succ]; simp
theorem vnums_len (v : VV) (k : Nat) : (vnums v k).length = k := by unfold vnums; simp
theorem vin_is' {x : VV} (h : RV x) {n : Int} (v : vin x n) : IS n := by
  have h1 := h.inn.lo; have h2 := h.inn.hi; have h3 := v.1; have h4 := v.2.1
  exact ⟨by omega, by omega⟩
theorem step64 {n m : Int} (h : IS n) (k : IS (n + m)) : wrap64 (IntKind.u64.wrap (IntKind.u64.wrap n + m)) = n + m := by
  have h1 := h.1; have h2 := h.2; have k1 := k.1; have k2 := k.2
  rw [sg_eq', us_eq, us_eq]
  unfold us sg
  omega
theorem own_after {W w1 w2 : World} {o : Obj} (h1 : Below W.heap.size W w1) (h2 : Below (w1.alloc o).heap.size (w1.alloc o) w2) : W.grownBy w2 none ∧ w2.heap[w1.heap.size]? = some o := by
  have h := (h1.alloc h1.size o).trans (h2.mono (by have := h1.size; simp; omega))
  exact ⟨⟨h.os, h.tape, h.output, h.size, fun k hk _ => h.block k hk⟩, (h2.block _ (by simp)).trans (World.alloc_heap_new w1 o)⟩
set_option maxRecDepth 100000 in
set_option maxHeartbeats 2000000 in
theorem num_in (n : Nat) (hn : 1 ≤ n) (l Bv : Nat) (x : VV) (hx : InV x) (J Jx : List Int → World → Prop)
    (hY : ∀ pre k W, J pre W → pre.length < vcnt (vmake x) → YieldAt Fence.wide (n - 1) Tryz.prog l #[.int .i64 k] W fun e W' => (e = .returned (.bool true) ∧ J (pre ++ [k]) W' ∧ KpV W W') ∨ (e = .returned (.bool false) ∧ Jx (pre ++ [k]) W'))
    (W : World) (hJ : AbidesFrom W.heap.size J) (hBv : W.heap[Bv]? = some (.cells (VC x).toArray 31 (0, 0))) (h0 : J [] W) :
    CallsIn Fence.wide n Tryz.prog 212 #[.func (.yield l) #[] #[], .pointer (some ⟨Bv, 0, none⟩)] W fun e W' => (∃ v, e = .returned v) ∧
      ((∃ ys, ys = vnums (vmake x) (vcnt (vmake x)) ∧ J ys W') ∨ (∃ pre, (∃ k, k < vcnt (vmake x) ∧ pre = vnums (vmake x) (k + 1)) ∧ Jx pre W')) := by
  have hv := vmake_rv hx
  have R := vReduced_d x hx
  have E := iIsEmpty_d (vmake x).lo (vmake x).hi
  have hro : Fence.wide.round = none := rfl
  refine callsIn_of_wp Tryz.func212 rfl trivial ?_ hro
  simp only [Tryz.ntmps212, List.size_toArray, List.length_cons, List.length_nil, Nat.reduceAdd, Nat.reduceSub, Array.replicate_succ, Array.replicate_zero, List.push_toArray, List.append_toArray, List.nil_append, List.cons_append]
  have c0 : W.cell? ⟨Bv, 0, none⟩ = some (.int .i64 x.lo) := cell_of hBv rfl
  have c1 : W.cell? ⟨Bv, 1, none⟩ = some (.int .i64 x.hi) := cell_of hBv rfl
  have c2 : W.cell? ⟨Bv, 2, none⟩ = some (.int .u64 x.m) := cell_of hBv rfl
  have c3 : W.cell? ⟨Bv, 3, none⟩ = some (.int .u64 x.r) := cell_of hBv rfl
  generalize vmake x = v at *
  by_cases nb : v = vbot
  · rw [nb] at E R hY ⊢
    rw [show decide (vbot.lo > vbot.hi) = true from rfl] at E
    gi_wp2_with (first
      | (refine ⟨trivial, ?_⟩; gi_at_call 99; refine (callsIn_wide.2 (R.out _ ⟨fun _ _ _ h => h.elim, fun _ _ h => h.elim⟩)).mono ?_; rintro e w1 ⟨rfl, hB1⟩)
      | (refine ⟨trivial, ?_⟩; gi_at_call 124; refine (callsIn_wide.2 (E.out _ ⟨fun _ _ _ h => h.elim, fun _ _ h => h.elim⟩)).mono ?_; rintro e w2 ⟨rfl, hB2⟩
         obtain ⟨hg2, hb2⟩ := own_after hB1 hB2
         have hJ2 : J [] w2 := hJ [] W w2 none h0 hg2 (fun r e => by cases e)))
    refine bodyPost_ret (results_none rfl _ _ _) rfl ?_
    exact ⟨⟨_, rfl⟩, .inl ⟨[], by rw [vcnt_bot]; rfl, hJ2⟩⟩
  rw [decide_eq_false (show ¬ v.lo > v.hi by have := hv.le nb; omega)] at E
  gi_wp2_with (first
    | (refine ⟨trivial, ?_⟩; gi_at_call 99; refine (callsIn_wide.2 (R.out _ ⟨fun _ _ _ h => h.elim, fun _ _ h => h.elim⟩)).mono ?_; rintro e w1 ⟨rfl, hB1⟩)
    | (refine ⟨trivial, ?_⟩; gi_at_call 124; refine (callsIn_wide.2 (E.out _ ⟨fun _ _ _ h => h.elim, fun _ _ h => h.elim⟩)).mono ?_; rintro e w2 ⟨rfl, hB2⟩
       obtain ⟨hg2, hb2⟩ := own_after hB1 hB2
       have d0 : w2.cell? ⟨w1.heap.size, 0, none⟩ = some (.int .i64 v.lo) := cell_of hb2 rfl
       have hJ2 : J [] w2 := hJ [] W w2 none h0 hg2 (fun r e => by cases e)))
  gi_loopw [4] (fun p wr => ∃ k, p = .int .i64 (vnum v k) ∧ k < vcnt v ∧ J (vnums v k) wr ∧ wr.heap[w1.heap.size]? = some (.cells (VC v).toArray 31 (0, 0)))
    (fun p wr => (v.hi - intOf p).toNat)
  case atStart =>
    exact ⟨0, by unfold vnum; simp, vcnt_pos hv nb, hJ2, hb2⟩
  case round =>
    obtain ⟨k, rfl, hk, hJs, hb⟩ := hrel
    obtain ⟨fn, tmps, assign, body, hy, hR⟩ := hY (vnums v k) (vnum v k) wr hJs (by rw [vnums_len]; exact hk)
    gi_wp2
    refine hR.mono ?_
    rintro e W3 (⟨rfl, hJ3, hk3⟩ | ⟨rfl, hJx3⟩)
    · have hb3 := hk3 _ _ hb
      rw [← vnums_succ] at hJ3
      have q1 : W3.cell? ⟨w1.heap.size, 1, none⟩ = some (.int .i64 v.hi) := cell_of hb3 rfl
      have q2 : W3.cell? ⟨w1.heap.size, 2, none⟩ = some (.int .u64 v.m) := cell_of hb3 rfl
      gi_wp2
      · have hne : vnum v k ≠ v.hi := by simpa using ‹(vnum v k != v.hi) = true›
        have hk1 : k + 1 < vcnt v := by
          have : ¬ (k + 1 = vcnt v) := fun e => hne ((vnum_last hv hk).2 e)
          omega
        have st := vnum_succ hv hk1
        have i0 := vin_is' hv (vnum_in hv hk)
        have i1 := vin_is' hv (vnum_in hv hk1)
        have e : wrap64 (IntKind.u64.wrap (IntKind.u64.wrap (vnum v k) + v.m)) = vnum v (k + 1) := by
          rw [st.1] at i1 ⊢
          exact step64 i0 i1
        rw [e]
        refine ⟨⟨k + 1, rfl, hk1, hJ3, hb3⟩, ?_⟩
        show (v.hi - vnum v (k + 1)).toNat < (v.hi - vnum v k).toNat
        have := (vnum_in hv hk1).2.1
        omega
      · have he : vnum v k = v.hi := by simpa using ‹(vnum v k != v.hi) = false›
        have hk1 := (vnum_last hv hk).1 he
        go_end0
        exact ⟨⟨_, rfl⟩, .inl ⟨_, rfl, by rw [← hk1]; exact hJ3⟩⟩
    · gi_wp2
      go_end0
      exact ⟨⟨_, rfl⟩, .inr ⟨_, ⟨k, hk, rfl⟩, by rw [vnums_succ]; exact hJx3⟩⟩
/-! value.Some: a value's least numbers, in a row of its own. -/
attribute [local go_sem] Oper.semAt_some

theorem num_stops (n : Nat) (hn : 1 ≤ n) (Bv : Nat) (x : VV) (hx : InV x) (w : World) (hlt : Bv < w.heap.size) (hBv : w.heap[Bv]? = some (.cells (VC x).toArray 31 (0, 0))) :
    SeqStopsK Fence.wide n Tryz.prog 212 #[.pointer (some ⟨Bv, 0, none⟩)] (fun k => #[.int .i64 k]) KpV (fun ys => ys = vnums (vmake x) (vcnt (vmake x))) (fun pre => ∃ k, k < vcnt (vmake x) ∧ pre = vnums (vmake x) (k + 1)) (vcnt (vmake x)) w := by
  intro l J Jx W hW hJ hJx hY h0
  exact num_in n hn l Bv x hx J Jx hY W hJ ((hW.block Bv hlt).trans hBv) h0
set_option maxRecDepth 100000 in
theorem numbers_in (n : Nat) (x : VV) (W : World) : CallsIn Fence.wide n Tryz.prog 128 #[VVal x] W fun e w' => e = .returned (.func (.func 212) #[] #[.pointer (some ⟨W.heap.size, 0, none⟩)]) ∧ w' = W.alloc (.cells (VC x).toArray 31) := by
  refine callsIn_of_wp Tryz.func128 rfl trivial ?_ rfl
  simp only [Tryz.ntmps128, List.size_toArray, List.length_cons, List.length_nil, Nat.reduceAdd, Nat.reduceSub, Array.replicate_succ, Array.replicate_zero, List.push_toArray, List.append_toArray, List.nil_append, List.cons_append]
  gi_wp2
  go_ret
  exact ⟨rfl, rfl⟩
theorem info_i64 : (Tryz.prog.info? 2).map (fun i => (i.zero, i.size, i.bytes)) = some (some (.int .i64 0), 1, 8) := by kernel_rfl
def IVl (l : List Int) : List Value := l.map fun i => Value.int .i64 i
/-- Between two rounds: the row has what has come. -/
def SomeI (w : World) (most : Int) (pre : List Int) (W : World) : Prop := (∃ u, Boxed W (w.heap.size + 1 + 1) 22 u ∧ W.ownsRow w.heap.size 2 1 u pre.length (IVl pre) ∧ True) ∧ Boxed W (w.heap.size + 1) 3 (.int .i64 most) ∧ Below w.heap.size w W
theorem someI_own {w : World} {most : Int} {B : Nat} (hB : w.heap.size ≤ B) : OwnFrom B (SomeI w most) :=
  OwnFrom.and ((holdsRow_own w.heap.size _ _ _ 1 (fun pre : List Int => pre.length) (fun pre => IVl pre) (fun _ _ => True)).from B) (OwnFrom.and ((boxed_own _ _ (fun _ => Value.int .i64 most)).from B) (ownFrom_below (Nat.le_refl _) hB))
theorem kpv_append {W w1 : World} {n₀ B k : Nat} {u v' : Value} {xs : List Value} {tmp : Obj} (hu : Boxed W B 22 u) (hrow : W.ownsRow n₀ 2 1 u k xs) (hg : (W.alloc tmp).grownBy w1 u.ownBlock) : KpV W (w1.setCell ⟨B, 0, none⟩ v') := by
  intro b ys hb
  have hlt := (Array.getElem?_eq_some_iff.1 hb).1
  have e1 : (W.alloc tmp).heap[b]? = W.heap[b]? := Below.heap_alloc W tmp b hlt
  have e2 : w1.heap[b]? = (W.alloc tmp).heap[b]? := hg.block b (by simp; omega) (by
    rcases hrow.2 with ⟨rfl, _⟩ | ⟨g, cap, cur, rfl, _, hgb, _⟩
    · simp [Value.ownBlock]
    · intro e
      obtain rfl : b = g := by simpa [Value.ownBlock] using e
      rw [hb] at hgb
      cases hgb)
  have ne : b ≠ B := by
    intro e
    subst e
    have := hb.symm.trans (show W.heap[b]? = some (.cells #[u] 22 (0, 0)) from hu)
    cases this
  rw [Below.heap_setCell _ _ _ b ne, e2, e1, hb]
set_option maxRecDepth 100000 in
set_option maxHeartbeats 4000000 in
theorem some_in (n : Nat) (hn : 4 ≤ n) (x : VV) (most : Int) (hx : InV x) (h1 : 0 < most) (h2 : most ≤ 1000) (w : World) :
    CallsIn Fence.wide n Tryz.prog 49 #[VVal x, .int .i64 most] w fun e w' => ∃ u k, e = .returned u ∧ k = min most.toNat (vcnt (vmake x)) ∧ w'.ownsRow w.heap.size 2 1 u k (IVl (vnums (vmake x) k)) ∧ Below w.heap.size w w' := by
  have hn1 : 1 ≤ n := by omega
  refine callsIn_of_wp_marks Tryz.func49 rfl trivial ?_ rfl
  simp only [Tryz.ntmps49, List.size_toArray, List.length_cons, List.length_nil, Nat.reduceAdd, Nat.reduceSub, Array.replicate_succ, Array.replicate_zero, List.push_toArray, List.append_toArray, List.nil_append, List.cons_append]
  gi_wp2_with (refine ⟨trivial, ?_⟩; gi_at_call 128; refine (numbers_in _ _ _).mono ?_; rintro e w1 ⟨rfl, rfl⟩)
  obtain ⟨W0, hW0⟩ : ∃ W0, (((w.alloc (.cells (VC x).toArray 31)).alloc (.cells #[.int .i64 most] 3)).alloc (.cells #[.slice none 0 0] 22)) = W0 := ⟨_, rfl⟩
  have hs : W0.heap.size = w.heap.size + 1 + 1 + 1 := by rw [← hW0]; simp
  have hbB : Below w.heap.size w W0 := by rw [← hW0]; exact (((Below.refl _ w).alloc (Nat.le_refl _) _).alloc (by simp) _).alloc (by simp; omega) _
  have hm0 : Boxed W0 (w.heap.size + 1) 3 (.int .i64 most) := by
    rw [← hW0]
    have := Boxed.new (w.alloc (.cells (VC x).toArray 31)) 3 (.int .i64 most)
    rw [World.size_alloc] at this
    exact this.alloc _
  have hu0 : Boxed W0 (w.heap.size + 1 + 1) 22 (.slice none 0 0) := by
    rw [← hW0]
    have := Boxed.new ((w.alloc (.cells (VC x).toArray 31)).alloc (.cells #[.int .i64 most] 3)) 22 (.slice none 0 0)
    rwa [World.size_alloc, World.size_alloc] at this
  refine wpIn_rangeFunc_ownF rfl hn1 (gf := 212) (lb := #[.pointer (some ⟨w.heap.size + 1 + 1 + 1, 0, none⟩)]) rfl trivial (enters_of Tryz.func212 (by kernel_rfl) rfl)
    (num_stops (n - 1) (by omega) (w.heap.size + 1 + 1 + 1) x hx _ (by simp) (by have := World.alloc_heap_new W0 (.cells (VC x).toArray 31); rw [hs, ← hW0] at this; exact this)) KpV.trans
    (fun W l o o' _ h hc _ b xs hb => (World.putObj_heap_other (fun e => by subst e; rw [hb] at h; cases h; cases hc)).trans hb) (Below.refl _ _) (fun _ => rfl)
    (fun pre W => SomeI w most pre W ∧ (pre.length : Int) < most) (fun c pre W => c = .exit 0 ∧ SomeI w most pre W ∧ (pre.length : Int) = most)
    (OwnFrom.and (someI_own (by simp; omega)) (ownFrom_pure _ (fun pre : List Int => (pre.length : Int) < most)))
    (fun c => OwnFrom.and (ownFrom_pure _ (fun _ => c = .exit 0)) (OwnFrom.and (someI_own (by simp; omega)) (ownFrom_pure _ (fun pre : List Int => (pre.length : Int) = most))))
    ?h0
    (fun k => { tmps := #[VVal x, .int .i64 most, .pointer (some ⟨w.heap.size, 0, none⟩), .pointer (some ⟨w.heap.size + 1, 0, none⟩), .slice none 0 0, .pointer (some ⟨w.heap.size + 1 + 1, 0, none⟩), .int .i64 k, .int .i64 most, .bool (decide (most ≤ 0)), VVal x, .func (.func 212) #[] #[.pointer (some ⟨w.heap.size + 1 + 1 + 1, 0, none⟩)], .int .i64 k, undef, undef, undef, undef, undef, undef, undef, undef, undef], defers := [] }) ?assign ?body ?done ?stop
  case h0 =>
    refine ⟨⟨⟨_, ?_, ⟨rfl, .inl ⟨rfl, rfl⟩⟩, trivial⟩, ?_, ?_⟩, by simpa using h1⟩
    · have := hu0.alloc (.cells (VC x).toArray 31); rwa [← hW0] at this
    · have := hm0.alloc (.cells (VC x).toArray 31); rwa [← hW0] at this
    · have := hbB.alloc hbB.size (.cells (VC x).toArray 31); rwa [← hW0] at this
  case assign =>
    intro l k W K hK
    gi_wp2
    exact hK
  case body =>
    rintro l pre k W ⟨⟨⟨u, hu, hrow, _⟩, hm, hB⟩, hlt⟩ _
    obtain ⟨i0, hi, hz0, hz1, hz2⟩ := info_parts info_i64
    have hc := hu.cell
    have hmc := hm.cell
    have hBl := hB.size
    gi_wp2_with (gi_at_builtin; refine wpListIn_append_own _ rfl _ _ 22 rfl w.heap.size 2 i0 (.int .i64 0) 1 8 Tryz.underlying22 hi hz0 hz1 hz2 rfl (by decide) _ _ _ rfl (hrow.alloc _) ⟨W.heap.size, 0, none⟩ 1 1 [.int .i64 k] rfl rfl (cell_one_new _ _ _) (by simp [Value.oneCell']) (Nat.le_trans (show pre.length + 1 ≤ 1001 by omega) (by decide)) (by omega) (by simp; omega) ?_; intro v' w1 hown' hgrow _; obtain ⟨g', cap', rfl⟩ := ownsRow_succ hown'; obtain ⟨hv1, hv2, hr2, hk2, hb2⟩ := hu.appended (by decide) hrow hB.size (by omega) hown' hgrow; have hkp := kpv_append (v' := .slice (some ⟨g', 0, none⟩) (pre.length + 1) cap') hu hrow hgrow; have hc1 := hv1.cell; have hf1 := hv1.frozen; have hm1 := (hm.alloc _).kept hgrow (hm.not_row (by decide) hrow); have hm2 := hm1.other (show w.heap.size + 1 ≠ w.heap.size + 1 + 1 by omega) (.slice (some ⟨g', 0, none⟩) (pre.length + 1) cap'); have hc2 := hv2.cell; have hmc2 := hm2.cell)
    · rename_i he
      have he : ((pre.length : Int) + 1) = most := by simpa using he
      refine ⟨hk2, rfl, ⟨⟨_, hv2, ?_, trivial⟩, hm2, hB.trans hb2⟩, by simp; omega⟩
      have := hr2
      unfold IVl at *
      simpa using this
    · rename_i he
      have he : ¬ ((pre.length : Int) + 1) = most := by simpa using he
      refine ⟨hk2, hkp, ⟨⟨_, hv2, ?_, trivial⟩, hm2, hB.trans hb2⟩, by simp; omega⟩
      have := hr2
      unfold IVl at *
      simpa using this
  case done =>
    rintro D ys W hD rfl ⟨⟨⟨u, hu, hrow, _⟩, hm, hB⟩, hlt⟩ hK
    have hc := hu.cell
    gi_wp2
    all_goals trace_state
    refine ⟨by simp, .inl ⟨_, _, rfl, run_takeDeferred hK, ?_⟩⟩
    rw [vnums_len] at hlt hrow
    exact ⟨_, results_tmp rfl _ _ _, u, _, rfl, by omega, ownsRow_putObj hrow _ hK rfl, hB.trans (belowK_b (w := w) (Nat.le_refl _) W D _ _ (by simp at hD; omega) hK rfl rfl)⟩
  case stop =>
    rintro D c pre W hD ⟨k, hk, rfl⟩ ⟨rfl, ⟨⟨u, hu, hrow, _⟩, hm, hB⟩, hlt⟩ hK
    have hc := hu.cell
    gi_wp2
    refine ⟨by simp, .inl ⟨_, _, rfl, run_takeDeferred hK, ?_⟩⟩
    rw [vnums_len] at hlt hrow
    exact ⟨_, results_tmp rfl _ _ _, u, _, rfl, by omega, ownsRow_putObj hrow _ hK rfl, hB.trans (belowK_b (w := w) (Nat.le_refl _) W D _ _ (by simp at hD; omega) hK rfl rfl)⟩
/-! value.Some as a contract: a fresh row. -/
set_option maxRecDepth 100000
/-- A row of the call's own, as what is new. -/
theorem reg_row {F : Facts} {W w' : World} {T : TypeId} {z n : Nat} {u : Value} {xs : List Value} (hF : Sat F W) (hrow : w'.ownsRow W.heap.size T z u n xs) (h1 : ∀ v ∈ xs, v.oneCell' = true) (hB : Below W.heap.size W w') :
    ∃ σ : Sg, Reg W F σ [.row T z n xs] w' ∧ (∀ k, k < 1 → σ k ≠ none) ∧ FrIs σ [.s 0] #[u] := by
  refine ⟨fun k => if k = 0 then some ⟨u, fun g => u.ownBlock = some g⟩ else none, ⟨⟨fun k b m hk hm => ?_, fun k m b hm hb => ?_, hF.stay fun b hb => hB.block b (hF.lt hb)⟩, fun k m hm => ?_, fun k k' m m' b hm hm' hb hb' => ?_, fun k m b hm hb => ?_, fun b hb => hF.lt hb, hB⟩, fun k hk => ?_, ⟨rfl, fun i x hx => ?_⟩⟩
  · have hk0 : k = 0 := by
      have := (List.getElem?_eq_some_iff.1 hk).1
      simpa using this
    subst hk0
    simp only [List.getElem?_cons_zero, Option.some.injEq] at hk
    simp only [if_true, Option.some.injEq] at hm
    subst hk hm
    exact ⟨⟨hrow, h1⟩, fun g => Iff.rfl⟩
  · by_cases hk0 : k = 0
    · subst hk0
      simp only [if_true, Option.some.injEq] at hm
      subst hm
      exact (hrow.lt b hb).2
    · simp [hk0] at hm
  · by_cases hk0 : k = 0
    · subst hk0; simp
    · simp [hk0] at hm
  · by_cases hk0 : k = 0
    · by_cases hk1 : k' = 0
      · rw [hk0, hk1]
      · simp [hk1] at hm'
    · simp [hk0] at hm
  · by_cases hk0 : k = 0
    · subst hk0
      simp only [if_true, Option.some.injEq] at hm
      subst hm
      exact (hrow.lt b hb).1
    · simp [hk0] at hm
  · have hk0 : k = 0 := by omega
    simp [hk0]
  · have hi0 : i = 0 := by
      have := (List.getElem?_eq_some_iff.1 hx).1
      simpa using this
    subst hi0
    simp only [List.getElem?_cons_zero, Option.some.injEq] at hx
    subst hx
    refine ⟨u, rfl, _, rfl, rfl, ?_⟩
    rcases hrow.2 with ⟨rfl, _⟩ | ⟨g, cap, cur, rfl, _⟩
    · exact ⟨_, _, _, rfl⟩
    · exact ⟨_, _, _, rfl⟩
theorem IVl_one (l : List Int) : ∀ v ∈ IVl l, v.oneCell' = true := by
  intro v hv
  unfold IVl at hv
  obtain ⟨i, _, rfl⟩ := List.mem_map.1 hv
  rfl
theorem some_v (x : VV) (most : Int) (hx : InV x) (h1 : 0 < most) (h2 : most ≤ 1000) : DenV Tryz.prog 49 noFacts [VVal x, .int .i64 most] [.s 0] [.row 2 1 (min most.toNat (vcnt (vmake x))) (IVl (vnums (vmake x) (min most.toNat (vcnt (vmake x)))))] := by
  constructor
  intro W hF
  refine (callsIn_wide.1 (some_in 4 (Nat.le_refl _) x most hx h1 h2 W)).mono ?_
  rintro e w' ⟨u, k, rfl, rfl, hrow, hB⟩
  obtain ⟨σ, q1, q2, q3⟩ := reg_row hF hrow (IVl_one _) hB
  exact ⟨σ, [u], rfl, q1, q2, q3⟩
theorem some_f (x : VV) (most : Int) (hx : InV x) (h1 : 0 < most) (h2 : most ≤ 1000) : DenF Tryz.prog 49 noFacts [.v (VVal x), .v (.int .i64 most)] [.s 0] [.row 2 1 (min most.toNat (vcnt (vmake x))) (IVl (vnums (vmake x) (min most.toNat (vcnt (vmake x)))))] := DenF.fam rfl (some_v x most hx h1 h2)
theorem some_no (x : VV) (most : Int) (h1 : most ≤ 0) : Den Tryz.prog 49 #[VVal x, .int .i64 most] noFacts (.slice none 0 0) := by
  refine den_of_body (args := [VVal x, .int .i64 most]) hmix Tryz.func49 ?_
  (repeat' ((conv => whnf); first | refine AdN.mk _ _ rfl ?_ | refine DrawN.a (Ob.mk (by decide +kernel) ?_) | refine DrawN.c (Ob.mk (by decide +kernel) ?_) | refine DrawN.b (Ob.mk (by decide +kernel) ?_) | refine Ob.mk (by kernel_rfl) ?_ | (refine Br.mk (fun h => ?_) (fun h => ?_) <;> (first | (exfalso; exact Bool.false_ne_true h) | (exfalso; exact Bool.false_ne_true h.symm) | (exfalso; have := of_decide_eq_false ‹decide (most ≤ 0) = false›; omega) | skip)) | refine SeqN.go ?_)); all_goals (conv => whnf)
  all_goals rfl
end Go.Proofs.YtljhbdgoknfkcaaGreatDoor
