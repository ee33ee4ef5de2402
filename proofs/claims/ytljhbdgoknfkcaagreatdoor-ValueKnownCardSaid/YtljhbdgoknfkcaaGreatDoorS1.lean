/- The iterator of a value's numbers: they come rising, one by one. -/
import Derived.RangeFuncNested
import Derived.RangeFuncBound
import Derived.RangeFuncCalls
import Derived.RangeFuncLeaves
import Derived.Shelf.Abstract
import Derived.Shelf.RegionOpen
import Derived.WalkKit
import Derived.OwnWalkIn
import Derived.TacticsInMore
import Derived.LoopNIn
import Derived.LoopIn
import Derived.Test.YtljhbdgoknfkcaaGreatDoorPL
namespace Go.Proofs.YtljhbdgoknfkcaaGreatDoor
open Go Go.RowKit Go.Sort Go.Shelf
set_option linter.unusedVariables false
set_option linter.unusedSimpArgs false
attribute [local go_sem] Oper.semAt_some

/-- Blocks that hold a value's variable stay as they are. -/
def KpV (W W' : World) : Prop := ∀ (b : Nat) (xs : Array Value), W.heap[b]? = some (.cells xs 31 (0, 0)) → W'.heap[b]? = some (.cells xs 31 (0, 0))
theorem KpV.trans {A B C : World} (h : KpV A B) (k : KpV B C) : KpV A C := fun b xs e => k b xs (h b xs e)
def vnums (v : VV) (k : Nat) : List Int := (List.range k).map (vnum v)
theorem vnums_succ (v : VV) (k : Nat) : vnums v (k + 1) = vnums v k ++ [vnum v k] := by unfold vnums; rw [List.range_succ]; simp
theorem vnums_len (v : VV) (k : Nat) : (vnums v k).length = k := by unfold vnums; simp
theorem vin_is' {x : VV} (h : RV x) {n : Int} (v : vin x n) : IS n := by
  have h1 := h.inn.lo; have h2 := h.inn.hi; have h3 := v.1; have h4 := v.2.1
  exact ⟨by omega, by omega⟩
theorem step64 {n m : Int} (h : IS n) (k : IS (n + m)) : wrap64 (IntKind.u64.wrap (IntKind.u64.wrap n + m)) = n + m := by
  have h1 := h.1; have h2 := h.2; have k1 := k.1; have k2 := k.2
  rw [sg_eq', us_eq, us_eq]
  unfold us sg
  omega
theorem own_after {W w1 w2 : World} {o : Obj} (h1 : Below W.heap.size W w1) (h2 : Below (w1.alloc o).heap.size (w1.alloc o) w2) : W.grownBy w2 none ∧ w2.heap[w1.heap.size]? = some o := by
  have h := (h1.alloc h1.size o).trans (h2.mono (by have := h1.size; simp; omega))
  exact ⟨⟨h.os, h.tape, h.output, h.size, fun k hk _ => h.block k hk⟩, (h2.block _ (by simp)).trans (World.alloc_heap_new w1 o)⟩
set_option maxRecDepth 100000 in
set_option maxHeartbeats 2000000 in
theorem num_in (n : Nat) (hn : 1 ≤ n) (l Bv : Nat) (x : VV) (hx : InV x) (J Jx : List Int → World → Prop)
    (hY : ∀ pre k W, J pre W → pre.length < vcnt (vmake x) → YieldAt Fence.wide (n - 1) Tryz.prog l #[.int .i64 k] W fun e W' => (e = .returned (.bool true) ∧ J (pre ++ [k]) W' ∧ KpV W W') ∨ (e = .returned (.bool false) ∧ Jx (pre ++ [k]) W'))
    (W : World) (hJ : AbidesFrom W.heap.size J) (hBv : W.heap[Bv]? = some (.cells (VC x).toArray 31 (0, 0))) (h0 : J [] W) :
    CallsIn Fence.wide n Tryz.prog 212 #[.func (.yield l) #[] #[], .pointer (some ⟨Bv, 0, none⟩)] W fun e W' => (∃ v, e = .returned v) ∧
      ((∃ ys, ys = vnums (vmake x) (vcnt (vmake x)) ∧ J ys W') ∨ (∃ pre, (∃ k, k < vcnt (vmake x) ∧ pre = vnums (vmake x) (k + 1)) ∧ Jx pre W')) := by
  have hv := vmake_rv hx
  have R := vReduced_d x hx
  have E := iIsEmpty_d (vmake x).lo (vmake x).hi
  have hro : Fence.wide.round = none := rfl
  refine callsIn_of_wp Tryz.func212 rfl trivial ?_ hro
  simp only [Tryz.ntmps212, List.size_toArray, List.length_cons, List.length_nil, Nat.reduceAdd, Nat.reduceSub, Array.replicate_succ, Array.replicate_zero, List.push_toArray, List.append_toArray, List.nil_append, List.cons_append]
  have c0 : W.cell? ⟨Bv, 0, none⟩ = some (.int .i64 x.lo) := cell_of hBv rfl
  have c1 : W.cell? ⟨Bv, 1, none⟩ = some (.int .i64 x.hi) := cell_of hBv rfl
  have c2 : W.cell? ⟨Bv, 2, none⟩ = some (.int .u64 x.m) := cell_of hBv rfl
  have c3 : W.cell? ⟨Bv, 3, none⟩ = some (.int .u64 x.r) := cell_of hBv rfl
  generalize vmake x = v at *
  by_cases nb : v = vbot
  · rw [nb] at E R hY ⊢
    rw [show decide (vbot.lo > vbot.hi) = true from rfl] at E
    gi_wp2_with (first
      | (refine ⟨trivial, ?_⟩; gi_at_call 99; refine (callsIn_wide.2 (R.out _ ⟨fun _ _ _ h => h.elim, fun _ _ h => h.elim⟩)).mono ?_; rintro e w1 ⟨rfl, hB1⟩)
      | (refine ⟨trivial, ?_⟩; gi_at_call 124; refine (callsIn_wide.2 (E.out _ ⟨fun _ _ _ h => h.elim, fun _ _ h => h.elim⟩)).mono ?_; rintro e w2 ⟨rfl, hB2⟩
         obtain ⟨hg2, hb2⟩ := own_after hB1 hB2
         have hJ2 : J [] w2 := hJ [] W w2 none h0 hg2 (fun r e => by cases e)))
    refine bodyPost_ret (results_none rfl _ _ _) rfl ?_
    exact ⟨⟨_, rfl⟩, .inl ⟨[], by rw [vcnt_bot]; rfl, hJ2⟩⟩
  rw [decide_eq_false (show ¬ v.lo > v.hi by have := hv.le nb; omega)] at E
  gi_wp2_with (first
    | (refine ⟨trivial, ?_⟩; gi_at_call 99; refine (callsIn_wide.2 (R.out _ ⟨fun _ _ _ h => h.elim, fun _ _ h => h.elim⟩)).mono ?_; rintro e w1 ⟨rfl, hB1⟩)
    | (refine ⟨trivial, ?_⟩; gi_at_call 124; refine (callsIn_wide.2 (E.out _ ⟨fun _ _ _ h => h.elim, fun _ _ h => h.elim⟩)).mono ?_; rintro e w2 ⟨rfl, hB2⟩
       obtain ⟨hg2, hb2⟩ := own_after hB1 hB2
       have d0 : w2.cell? ⟨w1.heap.size, 0, none⟩ = some (.int .i64 v.lo) := cell_of hb2 rfl
       have hJ2 : J [] w2 := hJ [] W w2 none h0 hg2 (fun r e => by cases e)))
  gi_loopw [4] (fun p wr => ∃ k, p = .int .i64 (vnum v k) ∧ k < vcnt v ∧ J (vnums v k) wr ∧ wr.heap[w1.heap.size]? = some (.cells (VC v).toArray 31 (0, 0)))
    (fun p wr => (v.hi - intOf p).toNat)
  case atStart =>
    exact ⟨0, by unfold vnum; simp, vcnt_pos hv nb, hJ2, hb2⟩
  case round =>
    obtain ⟨k, rfl, hk, hJs, hb⟩ := hrel
    obtain ⟨fn, tmps, assign, body, hy, hR⟩ := hY (vnums v k) (vnum v k) wr hJs (by rw [vnums_len]; exact hk)
    gi_wp2
    refine hR.mono ?_
    rintro e W3 (⟨rfl, hJ3, hk3⟩ | ⟨rfl, hJx3⟩)
    · have hb3 := hk3 _ _ hb
      rw [← vnums_succ] at hJ3
      have q1 : W3.cell? ⟨w1.heap.size, 1, none⟩ = some (.int .i64 v.hi) := cell_of hb3 rfl
      have q2 : W3.cell? ⟨w1.heap.size, 2, none⟩ = some (.int .u64 v.m) := cell_of hb3 rfl
      gi_wp2
      · have hne : vnum v k ≠ v.hi := by simpa using ‹(vnum v k != v.hi) = true›
        have hk1 : k + 1 < vcnt v := by
          have : ¬ (k + 1 = vcnt v) := fun e => hne ((vnum_last hv hk).2 e)
          omega
        have st := vnum_succ hv hk1
        have i0 := vin_is' hv (vnum_in hv hk)
        have i1 := vin_is' hv (vnum_in hv hk1)
        have e : wrap64 (IntKind.u64.wrap (IntKind.u64.wrap (vnum v k) + v.m)) = vnum v (k + 1) := by
          rw [st.1] at i1 ⊢
          exact step64 i0 i1
        rw [e]
        refine ⟨⟨k + 1, rfl, hk1, hJ3, hb3⟩, ?_⟩
        show (v.hi - vnum v (k + 1)).toNat < (v.hi - vnum v k).toNat
        have := (vnum_in hv hk1).2.1
        omega
      · have he : vnum v k = v.hi := by simpa using ‹(vnum v k != v.hi) = false›
        have hk1 := (vnum_last hv hk).1 he
        go_end0
        exact ⟨⟨_, rfl⟩, .inl ⟨_, rfl, by rw [← hk1]; exact hJ3⟩⟩
    · gi_wp2
      go_end0
      exact ⟨⟨_, rfl⟩, .inr ⟨_, ⟨k, hk, rfl⟩, by rw [vnums_succ]; exact hJx3⟩⟩
end Go.Proofs.YtljhbdgoknfkcaaGreatDoor
