/- value.Some: a value's least numbers, in a row of its own. -/
import Derived.RangeFuncBox
import Derived.Maps.AppendAt
import Derived.Test.YtljhbdgoknfkcaaGreatDoorS1
namespace Go.Proofs.YtljhbdgoknfkcaaGreatDoor
open Go Go.RowKit Go.Sort Go.Shelf
set_option linter.unusedVariables false
set_option linter.unusedSimpArgs false
attribute [local go_sem] Oper.semAt_some

theorem num_stops (n : Nat) (hn : 1 ≤ n) (Bv : Nat) (x : VV) (hx : InV x) (w : World) (hlt : Bv < w.heap.size) (hBv : w.heap[Bv]? = some (.cells (VC x).toArray 31 (0, 0))) :
    SeqStopsK Fence.wide n Tryz.prog 212 #[.pointer (some ⟨Bv, 0, none⟩)] (fun k => #[.int .i64 k]) KpV (fun ys => ys = vnums (vmake x) (vcnt (vmake x))) (fun pre => ∃ k, k < vcnt (vmake x) ∧ pre = vnums (vmake x) (k + 1)) (vcnt (vmake x)) w := by
  intro l J Jx W hW hJ hJx hY h0
  exact num_in n hn l Bv x hx J Jx hY W hJ ((hW.block Bv hlt).trans hBv) h0
set_option maxRecDepth 100000 in
theorem numbers_in (n : Nat) (x : VV) (W : World) : CallsIn Fence.wide n Tryz.prog 128 #[VVal x] W fun e w' => e = .returned (.func (.func 212) #[] #[.pointer (some ⟨W.heap.size, 0, none⟩)]) ∧ w' = W.alloc (.cells (VC x).toArray 31) := by
  refine callsIn_of_wp Tryz.func128 rfl trivial ?_ rfl
  simp only [Tryz.ntmps128, List.size_toArray, List.length_cons, List.length_nil, Nat.reduceAdd, Nat.reduceSub, Array.replicate_succ, Array.replicate_zero, List.push_toArray, List.append_toArray, List.nil_append, List.cons_append]
  gi_wp2
  go_ret
  exact ⟨rfl, rfl⟩
theorem info_i64 : (Tryz.prog.info? 2).map (fun i => (i.zero, i.size, i.bytes)) = some (some (.int .i64 0), 1, 8) := by kernel_rfl
def IVl (l : List Int) : List Value := l.map fun i => Value.int .i64 i
/-- Between two rounds: the row has what has come. -/
def SomeI (w : World) (most : Int) (pre : List Int) (W : World) : Prop := (∃ u, Boxed W (w.heap.size + 1 + 1) 22 u ∧ W.ownsRow w.heap.size 2 1 u pre.length (IVl pre) ∧ True) ∧ Boxed W (w.heap.size + 1) 3 (.int .i64 most) ∧ Below w.heap.size w W
theorem someI_own {w : World} {most : Int} {B : Nat} (hB : w.heap.size ≤ B) : OwnFrom B (SomeI w most) :=
  OwnFrom.and ((holdsRow_own w.heap.size _ _ _ 1 (fun pre : List Int => pre.length) (fun pre => IVl pre) (fun _ _ => True)).from B) (OwnFrom.and ((boxed_own _ _ (fun _ => Value.int .i64 most)).from B) (ownFrom_below (Nat.le_refl _) hB))
theorem kpv_append {W w1 : World} {n₀ B k : Nat} {u v' : Value} {xs : List Value} {tmp : Obj} (hu : Boxed W B 22 u) (hrow : W.ownsRow n₀ 2 1 u k xs) (hg : (W.alloc tmp).grownBy w1 u.ownBlock) : KpV W (w1.setCell ⟨B, 0, none⟩ v') := by
  intro b ys hb
  have hlt := (Array.getElem?_eq_some_iff.1 hb).1
  have e1 : (W.alloc tmp).heap[b]? = W.heap[b]? := Below.heap_alloc W tmp b hlt
  have e2 : w1.heap[b]? = (W.alloc tmp).heap[b]? := hg.block b (by simp; omega) (by
    rcases hrow.2 with ⟨rfl, _⟩ | ⟨g, cap, cur, rfl, _, hgb, _⟩
    · simp [Value.ownBlock]
    · intro e
      obtain rfl : b = g := by simpa [Value.ownBlock] using e
      rw [hb] at hgb
      cases hgb)
  have ne : b ≠ B := by
    intro e
    subst e
    have := hb.symm.trans (show W.heap[b]? = some (.cells #[u] 22 (0, 0)) from hu)
    cases this
  rw [Below.heap_setCell _ _ _ b ne, e2, e1, hb]
set_option maxRecDepth 100000 in
set_option maxHeartbeats 4000000 in
theorem some_in (n : Nat) (hn : 4 ≤ n) (x : VV) (most : Int) (hx : InV x) (h1 : 0 < most) (h2 : most ≤ 1000) (w : World) :
    CallsIn Fence.wide n Tryz.prog 49 #[VVal x, .int .i64 most] w fun e w' => ∃ u k, e = .returned u ∧ k = min most.toNat (vcnt (vmake x)) ∧ w'.ownsRow w.heap.size 2 1 u k (IVl (vnums (vmake x) k)) ∧ Below w.heap.size w w' := by
  have hn1 : 1 ≤ n := by omega
  refine callsIn_of_wp_marks Tryz.func49 rfl trivial ?_ rfl
  simp only [Tryz.ntmps49, List.size_toArray, List.length_cons, List.length_nil, Nat.reduceAdd, Nat.reduceSub, Array.replicate_succ, Array.replicate_zero, List.push_toArray, List.append_toArray, List.nil_append, List.cons_append]
  gi_wp2_with (refine ⟨trivial, ?_⟩; gi_at_call 128; refine (numbers_in _ _ _).mono ?_; rintro e w1 ⟨rfl, rfl⟩)
  obtain ⟨W0, hW0⟩ : ∃ W0, (((w.alloc (.cells (VC x).toArray 31)).alloc (.cells #[.int .i64 most] 3)).alloc (.cells #[.slice none 0 0] 22)) = W0 := ⟨_, rfl⟩
  have hs : W0.heap.size = w.heap.size + 1 + 1 + 1 := by rw [← hW0]; simp
  have hbB : Below w.heap.size w W0 := by rw [← hW0]; exact (((Below.refl _ w).alloc (Nat.le_refl _) _).alloc (by simp) _).alloc (by simp; omega) _
  have hm0 : Boxed W0 (w.heap.size + 1) 3 (.int .i64 most) := by
    rw [← hW0]
    have := Boxed.new (w.alloc (.cells (VC x).toArray 31)) 3 (.int .i64 most)
    rw [World.size_alloc] at this
    exact this.alloc _
  have hu0 : Boxed W0 (w.heap.size + 1 + 1) 22 (.slice none 0 0) := by
    rw [← hW0]
    have := Boxed.new ((w.alloc (.cells (VC x).toArray 31)).alloc (.cells #[.int .i64 most] 3)) 22 (.slice none 0 0)
    rwa [World.size_alloc, World.size_alloc] at this
  refine wpIn_rangeFunc_ownF rfl hn1 (gf := 212) (lb := #[.pointer (some ⟨w.heap.size + 1 + 1 + 1, 0, none⟩)]) rfl trivial (enters_of Tryz.func212 (by kernel_rfl) rfl)
    (num_stops (n - 1) (by omega) (w.heap.size + 1 + 1 + 1) x hx _ (by simp) (by have := World.alloc_heap_new W0 (.cells (VC x).toArray 31); rw [hs, ← hW0] at this; exact this)) KpV.trans
    (fun W l o o' _ h hc _ b xs hb => (World.putObj_heap_other (fun e => by subst e; rw [hb] at h; cases h; cases hc)).trans hb) (Below.refl _ _) (fun _ => rfl)
    (fun pre W => SomeI w most pre W ∧ (pre.length : Int) < most) (fun c pre W => c = .exit 0 ∧ SomeI w most pre W ∧ (pre.length : Int) = most)
    (OwnFrom.and (someI_own (by simp; omega)) (ownFrom_pure _ (fun pre : List Int => (pre.length : Int) < most)))
    (fun c => OwnFrom.and (ownFrom_pure _ (fun _ => c = .exit 0)) (OwnFrom.and (someI_own (by simp; omega)) (ownFrom_pure _ (fun pre : List Int => (pre.length : Int) = most))))
    ?h0
    (fun k => { tmps := #[VVal x, .int .i64 most, .pointer (some ⟨w.heap.size, 0, none⟩), .pointer (some ⟨w.heap.size + 1, 0, none⟩), .slice none 0 0, .pointer (some ⟨w.heap.size + 1 + 1, 0, none⟩), .int .i64 k, .int .i64 most, .bool (decide (most ≤ 0)), VVal x, .func (.func 212) #[] #[.pointer (some ⟨w.heap.size + 1 + 1 + 1, 0, none⟩)], .int .i64 k, undef, undef, undef, undef, undef, undef, undef, undef, undef], defers := [] }) ?assign ?body ?done ?stop
  case h0 =>
    refine ⟨⟨⟨_, ?_, ⟨rfl, .inl ⟨rfl, rfl⟩⟩, trivial⟩, ?_, ?_⟩, by simpa using h1⟩
    · have := hu0.alloc (.cells (VC x).toArray 31); rwa [← hW0] at this
    · have := hm0.alloc (.cells (VC x).toArray 31); rwa [← hW0] at this
    · have := hbB.alloc hbB.size (.cells (VC x).toArray 31); rwa [← hW0] at this
  case assign =>
    intro l k W K hK
    gi_wp2
    exact hK
  case body =>
    rintro l pre k W ⟨⟨⟨u, hu, hrow, _⟩, hm, hB⟩, hlt⟩ _
    obtain ⟨i0, hi, hz0, hz1, hz2⟩ := info_parts info_i64
    have hc := hu.cell
    have hmc := hm.cell
    have hBl := hB.size
    gi_wp2_with (gi_at_builtin; refine wpListIn_append_own _ rfl _ _ 22 rfl w.heap.size 2 i0 (.int .i64 0) 1 8 Tryz.underlying22 hi hz0 hz1 hz2 rfl (by decide) _ _ _ rfl (hrow.alloc _) ⟨W.heap.size, 0, none⟩ 1 1 [.int .i64 k] rfl rfl (cell_one_new _ _ _) (by simp [Value.oneCell']) (Nat.le_trans (show pre.length + 1 ≤ 1001 by omega) (by decide)) (by omega) (by simp; omega) ?_; intro v' w1 hown' hgrow _; obtain ⟨g', cap', rfl⟩ := ownsRow_succ hown'; obtain ⟨hv1, hv2, hr2, hk2, hb2⟩ := hu.appended (by decide) hrow hB.size (by omega) hown' hgrow; have hkp := kpv_append (v' := .slice (some ⟨g', 0, none⟩) (pre.length + 1) cap') hu hrow hgrow; have hc1 := hv1.cell; have hf1 := hv1.frozen; have hm1 := (hm.alloc _).kept hgrow (hm.not_row (by decide) hrow); have hm2 := hm1.other (show w.heap.size + 1 ≠ w.heap.size + 1 + 1 by omega) (.slice (some ⟨g', 0, none⟩) (pre.length + 1) cap'); have hc2 := hv2.cell; have hmc2 := hm2.cell)
    · rename_i he
      have he : ((pre.length : Int) + 1) = most := by simpa using he
      refine ⟨hk2, rfl, ⟨⟨_, hv2, ?_, trivial⟩, hm2, hB.trans hb2⟩, by simp; omega⟩
      have := hr2
      unfold IVl at *
      simpa using this
    · rename_i he
      have he : ¬ ((pre.length : Int) + 1) = most := by simpa using he
      refine ⟨hk2, hkp, ⟨⟨_, hv2, ?_, trivial⟩, hm2, hB.trans hb2⟩, by simp; omega⟩
      have := hr2
      unfold IVl at *
      simpa using this
  case done =>
    rintro D ys W hD rfl ⟨⟨⟨u, hu, hrow, _⟩, hm, hB⟩, hlt⟩ hK
    have hc := hu.cell
    gi_wp2
    all_goals trace_state
    refine ⟨by simp, .inl ⟨_, _, rfl, run_takeDeferred hK, ?_⟩⟩
    rw [vnums_len] at hlt hrow
    exact ⟨_, results_tmp rfl _ _ _, u, _, rfl, by omega, ownsRow_putObj hrow _ hK rfl, hB.trans (belowK_b (w := w) (Nat.le_refl _) W D _ _ (by simp at hD; omega) hK rfl rfl)⟩
  case stop =>
    rintro D c pre W hD ⟨k, hk, rfl⟩ ⟨rfl, ⟨⟨u, hu, hrow, _⟩, hm, hB⟩, hlt⟩ hK
    have hc := hu.cell
    gi_wp2
    refine ⟨by simp, .inl ⟨_, _, rfl, run_takeDeferred hK, ?_⟩⟩
    rw [vnums_len] at hlt hrow
    exact ⟨_, results_tmp rfl _ _ _, u, _, rfl, by omega, ownsRow_putObj hrow _ hK rfl, hB.trans (belowK_b (w := w) (Nat.le_refl _) W D _ _ (by simp at hD; omega) hK rfl rfl)⟩
end Go.Proofs.YtljhbdgoknfkcaaGreatDoor
