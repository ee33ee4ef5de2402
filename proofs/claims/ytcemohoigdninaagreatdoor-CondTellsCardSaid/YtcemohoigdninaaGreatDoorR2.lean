/- Contracts of the reference: least and greatest numbers, how many; sums, differences, products. -/
import Derived.Test.YtcemohoigdninaaGreatDoorR1
namespace Go.Proofs.YtcemohoigdninaaGreatDoor
open Go Go.RowKit Go.Sort
set_option linter.unusedVariables false
set_option linter.unusedSimpArgs false
set_option maxRecDepth 100000

set_option maxHeartbeats 1000000 in
theorem rsub_c (am ar bm br : Int) (w : World) (ha : 0 ≤ am) (ha' : am ≤ 18446744073709551615) (har : 0 ≤ ar) (har' : ar ≤ 18446744073709551615) (hb : 0 ≤ bm) (hb' : bm ≤ 18446744073709551615) (hbr : 0 ≤ br) (hbr' : br ≤ 18446744073709551615) :
    Calls Tryz.prog 178 #[.agg #[.int .u64 am, .int .u64 ar], .agg #[.int .u64 bm, .int .u64 br]] w fun e w' => e = .returned (.agg #[.int .u64 (csub am ar bm br).1, .int .u64 (csub am ar bm br).2]) ∧ Below w.heap.size w w' := by
  have gc := grown_cell
  by_cases h : am = 0 ∧ bm = 0
  · obtain ⟨rfl, rfl⟩ := h
    have Hc := Lib.hid (show csub 0 ar 0 br = (0, us (ar - br)) from by simp [csub])
    have e1 := us_eq (ar - br)
    go_enter Tryz.func178, Tryz.ntmps178
    go_wp2
    exact bodyPost_ret (v := .agg #[.int .u64 0, .int .u64 (us (ar - br))]) (by simp [results, Tryz.results178, go_sem, us_eq]) rfl ⟨by rw [Hc.out], by (repeat' (first | exact Below.refl _ _ | refine Below.setCell ?_ ?_ _ | refine Below.alloc ?_ ?_ _ | refine below_drewN ?_ _ | refine Below.trans ?_ (Below.mono (by assumption) ?_) | exact Nat.le_refl _ | omega | (simp only [World.size_alloc, World.size_setCell, World.size_drew] at *; omega)))⟩
  · have Hc := Lib.hid (show csub am ar bm br = _ from by unfold csub; rw [if_neg h])
    have hg := cg_pos h
    have hgB : cg am bm ≤ 18446744073709551615 := cg_bd ha hb ha' hb'
    have hx := crest_rng am ar (cg am bm) hg
    have hy := crest_rng bm br (cg am bm) hg
    generalize hgg : cg am bm = g at *
    generalize hxx : crest am ar g = x at *
    generalize hyy : crest bm br g = y at *
    have C1 := fun W => Lib.hid (rgcd_c am bm W ha ha' hb hb')
    have C2 := fun W => Lib.hid (rof_c am ar g W ha ha' har har' hg hgB)
    have C3 := fun W => Lib.hid (rof_c bm br g W hb hb' hbr hbr' hg hgB)
    rw [hgg] at C1
    rw [hxx] at C2
    rw [hyy] at C3
    have C4 := fun W => Lib.hid (rminus_c x y g W hx.1 hy.1 (by omega) (by omega) hgB)
    have C5 := C4
    have hz2 := cminus_mod hx.1 hx.2 hy.1 hy.2
    generalize cminus x y g = z at *
    have Hz := Lib.hid (show (x - y) % g = z by rw [hz2])
    clear hz2
    have hguard : (am == 0) = false ∨ (am == 0) = true ∧ (bm == 0) = false := by
      by_cases h0 : am = 0
      · right; exact ⟨by simpa using h0, by simp; omega⟩
      · left; simpa using h0
    clear hgg hxx hyy h
    rcases hguard with hg0 | ⟨hg0, hg1⟩
    all_goals
      go_enter Tryz.func178, Tryz.ntmps178
      go_wp2_with (go_at_call 196; refine ((C1 _).out).mono ?_; rintro e w1 ⟨rfl, rfl⟩)
      refine wp_head_below 10 (by kernel_rfl) (by kernel_rfl) ?_; simp only [List.take_succ_cons, List.take_zero, List.drop_succ_cons, List.drop_zero]; (repeat (go_big_quiet_step (first | with_reducible exact quietly (fun W => (C2 W).out) | with_reducible exact quietly (fun W => (C3 W).out) | with_reducible exact quietly_same (fun W => (C4 W).out) | with_reducible exact quietly_same (fun W => (C5 W).out)))); refine wpQuiet_nil ?_; intro w2 hBw2; obtain ⟨hcw2, hfw2⟩ := bcell hBw2; have hzw2 := hBw2.size; (try simp only [World.size_alloc, World.size_setCell, World.size_drew] at hzw2); have hlw2_0 : w.heap.size < w2.heap.size := (by omega); have hlw2_1 : w.heap.size + 1 < w2.heap.size := (by omega); have hlw2_2 : w.heap.size + 1 + 1 < w2.heap.size := (by omega)
      go_wp2
      exact bodyPost_ret (v := .agg #[.int .u64 g, .int .u64 z]) (by simp [results, Tryz.results178, go_sem, hcw2, hfw2, hlw2_0, hlw2_1, hlw2_2]) rfl ⟨by rw [Hc.out, Hz.out], by (repeat' (first | exact Below.refl _ _ | refine Below.setCell ?_ ?_ _ | refine Below.alloc ?_ ?_ _ | refine below_drewN ?_ _ | refine Below.trans ?_ (Below.mono (by assumption) ?_) | exact Nat.le_refl _ | omega | (simp only [World.size_alloc, World.size_setCell, World.size_drew] at *; omega)))⟩

set_option maxHeartbeats 1000000 in
theorem radd_c (am ar bm br : Int) (w : World) (ha : 0 ≤ am) (ha' : am ≤ 18446744073709551615) (har : 0 ≤ ar) (har' : ar ≤ 18446744073709551615) (hb : 0 ≤ bm) (hb' : bm ≤ 18446744073709551615) (hbr : 0 ≤ br) (hbr' : br ≤ 18446744073709551615) :
    Calls Tryz.prog 177 #[.agg #[.int .u64 am, .int .u64 ar], .agg #[.int .u64 bm, .int .u64 br]] w fun e w' => e = .returned (.agg #[.int .u64 (cadd am ar bm br).1, .int .u64 (cadd am ar bm br).2]) ∧ Below w.heap.size w w' := by
  have gc := grown_cell
  by_cases h : am = 0 ∧ bm = 0
  · obtain ⟨rfl, rfl⟩ := h
    have Hc := Lib.hid (show cadd 0 ar 0 br = (0, us (ar + br)) from by simp [cadd])
    have e1 := us_eq (ar + br)
    go_enter Tryz.func177, Tryz.ntmps177
    go_wp2
    exact bodyPost_ret (v := .agg #[.int .u64 0, .int .u64 (us (ar + br))]) (by simp [results, Tryz.results177, go_sem, us_eq]) rfl ⟨by rw [Hc.out], by (repeat' (first | exact Below.refl _ _ | refine Below.setCell ?_ ?_ _ | refine Below.alloc ?_ ?_ _ | refine below_drewN ?_ _ | refine Below.trans ?_ (Below.mono (by assumption) ?_) | exact Nat.le_refl _ | omega | (simp only [World.size_alloc, World.size_setCell, World.size_drew] at *; omega)))⟩
  · have Hc := Lib.hid (show cadd am ar bm br = _ from by unfold cadd; rw [if_neg h])
    have hg := cg_pos h
    have hgB : cg am bm ≤ 18446744073709551615 := cg_bd ha hb ha' hb'
    have hx := crest_rng am ar (cg am bm) hg
    have hy := crest_rng bm br (cg am bm) hg
    generalize hgg : cg am bm = g at *
    generalize hxx : crest am ar g = x at *
    generalize hyy : crest bm br g = y at *
    have C1 := fun W => Lib.hid (rgcd_c am bm W ha ha' hb hb')
    have C2 := fun W => Lib.hid (rof_c am ar g W ha ha' har har' hg hgB)
    have C3 := fun W => Lib.hid (rof_c bm br g W hb hb' hbr hbr' hg hgB)
    rw [hgg] at C1
    rw [hxx] at C2
    rw [hyy] at C3
    have C4 := fun W => Lib.hid (rplus_c x y g W hx.1 hy.1 hy.2 hx.2 hgB)
    have C5 := C4
    generalize hzz : (x + y) % g = z at *
    have Hz := Lib.hid hzz
    clear hzz
    have hguard : (am == 0) = false ∨ (am == 0) = true ∧ (bm == 0) = false := by
      by_cases h0 : am = 0
      · right; exact ⟨by simpa using h0, by simp; omega⟩
      · left; simpa using h0
    clear hgg hxx hyy h
    rcases hguard with hg0 | ⟨hg0, hg1⟩
    all_goals
      go_enter Tryz.func177, Tryz.ntmps177
      go_wp2_with (go_at_call 196; refine ((C1 _).out).mono ?_; rintro e w1 ⟨rfl, rfl⟩)
      refine wp_head_below 10 (by kernel_rfl) (by kernel_rfl) ?_; simp only [List.take_succ_cons, List.take_zero, List.drop_succ_cons, List.drop_zero]; (repeat (go_big_quiet_step (first | with_reducible exact quietly (fun W => (C2 W).out) | with_reducible exact quietly (fun W => (C3 W).out) | with_reducible exact quietly_same (fun W => (C4 W).out) | with_reducible exact quietly_same (fun W => (C5 W).out)))); refine wpQuiet_nil ?_; intro w2 hBw2; obtain ⟨hcw2, hfw2⟩ := bcell hBw2; have hzw2 := hBw2.size; (try simp only [World.size_alloc, World.size_setCell, World.size_drew] at hzw2); have hlw2_0 : w.heap.size < w2.heap.size := (by omega); have hlw2_1 : w.heap.size + 1 < w2.heap.size := (by omega); have hlw2_2 : w.heap.size + 1 + 1 < w2.heap.size := (by omega)
      go_wp2
      exact bodyPost_ret (v := .agg #[.int .u64 g, .int .u64 z]) (by simp [results, Tryz.results177, go_sem, hcw2, hfw2, hlw2_0, hlw2_1, hlw2_2]) rfl ⟨by rw [Hc.out], by (repeat' (first | exact Below.refl _ _ | refine Below.setCell ?_ ?_ _ | refine Below.alloc ?_ ?_ _ | refine below_drewN ?_ _ | refine Below.trans ?_ (Below.mono (by assumption) ?_) | exact Nat.le_refl _ | omega | (simp only [World.size_alloc, World.size_setCell, World.size_drew] at *; omega)))⟩

end Go.Proofs.YtcemohoigdninaaGreatDoor
