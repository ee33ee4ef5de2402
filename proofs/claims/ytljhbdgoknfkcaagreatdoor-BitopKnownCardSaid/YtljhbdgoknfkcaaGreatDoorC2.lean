/- Contracts of package cong: the least and the greatest number, and how many there are. -/
import Derived.Test.YtljhbdgoknfkcaaGreatDoorC1
namespace Go.Proofs.YtljhbdgoknfkcaaGreatDoor
open Go Go.RowKit Go.Sort
set_option linter.unusedVariables false
set_option linter.unusedSimpArgs false

set_option maxHeartbeats 400000 in
theorem least_c (m r n : Int) (w : World) (hm : 0 ≤ m) (hm' : m ≤ 18446744073709551615) (hr : 0 ≤ r) (hr' : r ≤ 18446744073709551615) (hn : -9223372036854775808 ≤ n) (hn' : n ≤ 9223372036854775807) :
    Calls Tryz.prog 125 #[.agg #[.int .u64 m, .int .u64 r], .int .i64 n] w fun e w' => e = .returned (.tuple #[.int .i64 (cleast m r n).1, .bool (cleast m r n).2]) ∧ Below w.heap.size w w' := by
  have gc := grown_cell
  by_cases h : m = 0
  · have hm0 : (m == 0) = true := by rw [h]; rfl
    have e1' := sg_eq' r
    by_cases h2 : sg r < n
    · have Hc := Lib.hid (show cleast m r n = (0, false) from by simp [cleast, h, h2])
      clear h
      go_enter Tryz.func125, Tryz.ntmps125
      go_wp2
      go_ret2
      exact ⟨tup2 (by rw [Hc.out]; first | rfl | exact congrArg _ (by assumption)) (by rw [Hc.out]; rfl), by (repeat' (first | exact Below.refl _ _ | refine Below.setCell ?_ ?_ _ | refine Below.alloc ?_ ?_ _ | refine below_drewN ?_ _ | refine Below.trans ?_ (Below.mono (by assumption) ?_) | exact Nat.le_refl _ | omega | (simp only [World.size_alloc, World.size_setCell, World.size_drew] at *; omega)))⟩
    · have Hc := Lib.hid (show cleast m r n = (sg r, true) from by simp [cleast, h, h2])
      clear h
      go_enter Tryz.func125, Tryz.ntmps125
      go_wp2
      go_ret2
      exact ⟨tup2 (by rw [Hc.out]; first | rfl | exact congrArg _ (by assumption)) (by rw [Hc.out]; rfl), by (repeat' (first | exact Below.refl _ _ | refine Below.setCell ?_ ?_ _ | refine Below.alloc ?_ ?_ _ | refine below_drewN ?_ _ | refine Below.trans ?_ (Below.mono (by assumption) ?_) | exact Nat.le_refl _ | omega | (simp only [World.size_alloc, World.size_setCell, World.size_drew] at *; omega)))⟩
  · have hm0 : (m == 0) = false := by simpa using h
    have e1 := emod_rng r m (by omega)
    have e2 := emod_rng n m (by omega)
    obtain ⟨q, hq⟩ : ∃ q, q = (r - n) % m := ⟨_, rfl⟩
    have e3 := emod_rng (r - n) m (by omega)
    rw [← hq] at e3
    have hcm := sub_mod_mod (a := r) (b := n) (m := m) (by omega)
    rw [← hq] at hcm
    have e5 : IntKind.u64.wrap (9223372036854775807 - IntKind.u64.wrap n) = 9223372036854775807 - n := by simp only [IntKind.wrap_u64]; omega
    by_cases h2 : q > 9223372036854775807 - n
    · have Hc := Lib.hid (show cleast m r n = (0, false) from by simp only [cleast, h, ← hq, if_false, if_pos h2])
      clear h hq
      go_enter Tryz.func125, Tryz.ntmps125
      go_wp2_with fail
      refine wp_all_below (by kernel_rfl) (by kernel_rfl) ?_
      repeat (go_big_quiet_step (first | exact quietly_same (fun W => rest_c _ _ W (by omega) (by omega) (by omega) (by omega)) | exact quietly_same (fun W => minus_c _ _ _ W (by omega) (by omega) (by omega) (by omega) (by omega))))
      refine wpQuiet_nil ?_
      intro w1 hb
      go_wp2
      go_ret2
      exact ⟨tup2 (by rw [Hc.out]; first | rfl | exact congrArg _ (by assumption)) (by rw [Hc.out]; rfl), by (repeat' (first | exact Below.refl _ _ | refine Below.setCell ?_ ?_ _ | refine Below.alloc ?_ ?_ _ | refine below_drewN ?_ _ | refine Below.trans ?_ (Below.mono (by assumption) ?_) | exact Nat.le_refl _ | omega | (simp only [World.size_alloc, World.size_setCell, World.size_drew] at *; omega)))⟩
    · have Hc := Lib.hid (show cleast m r n = (n + q, true) from by simp only [cleast, h, ← hq, if_false, if_neg h2])
      have e6 : wrap64 (IntKind.u64.wrap (IntKind.u64.wrap n + q)) = n + q := by rw [sg_eq', us_eq, us_eq]; unfold us sg; omega
      clear h hq
      go_enter Tryz.func125, Tryz.ntmps125
      go_wp2_with fail
      refine wp_all_below (by kernel_rfl) (by kernel_rfl) ?_
      repeat (go_big_quiet_step (first | exact quietly_same (fun W => rest_c _ _ W (by omega) (by omega) (by omega) (by omega)) | exact quietly_same (fun W => minus_c _ _ _ W (by omega) (by omega) (by omega) (by omega) (by omega))))
      refine wpQuiet_nil ?_
      intro w1 hb
      go_wp2
      go_ret2
      exact ⟨tup2 (by rw [Hc.out]; first | rfl | exact congrArg _ (by assumption)) (by rw [Hc.out]; rfl), by (repeat' (first | exact Below.refl _ _ | refine Below.setCell ?_ ?_ _ | refine Below.alloc ?_ ?_ _ | refine below_drewN ?_ _ | refine Below.trans ?_ (Below.mono (by assumption) ?_) | exact Nat.le_refl _ | omega | (simp only [World.size_alloc, World.size_setCell, World.size_drew] at *; omega)))⟩

set_option maxHeartbeats 400000 in
theorem great_c (m r n : Int) (w : World) (hm : 0 ≤ m) (hm' : m ≤ 18446744073709551615) (hr : 0 ≤ r) (hr' : r ≤ 18446744073709551615) (hn : -9223372036854775808 ≤ n) (hn' : n ≤ 9223372036854775807) :
    Calls Tryz.prog 126 #[.agg #[.int .u64 m, .int .u64 r], .int .i64 n] w fun e w' => e = .returned (.tuple #[.int .i64 (cgreat m r n).1, .bool (cgreat m r n).2]) ∧ Below w.heap.size w w' := by
  have gc := grown_cell
  by_cases h : m = 0
  · have hm0 : (m == 0) = true := by rw [h]; rfl
    have e1' := sg_eq' r
    by_cases h2 : n < sg r
    · have Hc := Lib.hid (show cgreat m r n = (0, false) from by simp [cgreat, h, h2])
      clear h
      go_enter Tryz.func126, Tryz.ntmps126
      go_wp2
      go_ret2
      exact ⟨tup2 (by rw [Hc.out]; first | rfl | exact congrArg _ (by assumption)) (by rw [Hc.out]; rfl), by (repeat' (first | exact Below.refl _ _ | refine Below.setCell ?_ ?_ _ | refine Below.alloc ?_ ?_ _ | refine below_drewN ?_ _ | refine Below.trans ?_ (Below.mono (by assumption) ?_) | exact Nat.le_refl _ | omega | (simp only [World.size_alloc, World.size_setCell, World.size_drew] at *; omega)))⟩
    · have Hc := Lib.hid (show cgreat m r n = (sg r, true) from by simp [cgreat, h, h2])
      clear h
      go_enter Tryz.func126, Tryz.ntmps126
      go_wp2
      go_ret2
      exact ⟨tup2 (by rw [Hc.out]; first | rfl | exact congrArg _ (by assumption)) (by rw [Hc.out]; rfl), by (repeat' (first | exact Below.refl _ _ | refine Below.setCell ?_ ?_ _ | refine Below.alloc ?_ ?_ _ | refine below_drewN ?_ _ | refine Below.trans ?_ (Below.mono (by assumption) ?_) | exact Nat.le_refl _ | omega | (simp only [World.size_alloc, World.size_setCell, World.size_drew] at *; omega)))⟩
  · have hm0 : (m == 0) = false := by simpa using h
    have e1 := emod_rng r m (by omega)
    have e2 := emod_rng n m (by omega)
    obtain ⟨q, hq⟩ : ∃ q, q = (n - r) % m := ⟨_, rfl⟩
    have e3 := emod_rng (n - r) m (by omega)
    rw [← hq] at e3
    have hcm := sub_mod_mod (a := n) (b := r) (m := m) (by omega)
    rw [← hq] at hcm
    have e5 : IntKind.u64.wrap (IntKind.u64.wrap n - 9223372036854775808) = n + 9223372036854775808 := by simp only [IntKind.wrap_u64]; omega
    by_cases h2 : q > n + 9223372036854775808
    · have Hc := Lib.hid (show cgreat m r n = (0, false) from by simp only [cgreat, h, ← hq, if_false, if_pos h2])
      clear h hq
      go_enter Tryz.func126, Tryz.ntmps126
      go_wp2_with fail
      refine wp_all_below (by kernel_rfl) (by kernel_rfl) ?_
      repeat (go_big_quiet_step (first | exact quietly_same (fun W => rest_c _ _ W (by omega) (by omega) (by omega) (by omega)) | exact quietly_same (fun W => minus_c _ _ _ W (by omega) (by omega) (by omega) (by omega) (by omega))))
      refine wpQuiet_nil ?_
      intro w1 hb
      go_wp2
      go_ret2
      exact ⟨tup2 (by rw [Hc.out]; first | rfl | exact congrArg _ (by assumption)) (by rw [Hc.out]; rfl), by (repeat' (first | exact Below.refl _ _ | refine Below.setCell ?_ ?_ _ | refine Below.alloc ?_ ?_ _ | refine below_drewN ?_ _ | refine Below.trans ?_ (Below.mono (by assumption) ?_) | exact Nat.le_refl _ | omega | (simp only [World.size_alloc, World.size_setCell, World.size_drew] at *; omega)))⟩
    · have Hc := Lib.hid (show cgreat m r n = (n - q, true) from by simp only [cgreat, h, ← hq, if_false, if_neg h2])
      have e6 : wrap64 (IntKind.u64.wrap (IntKind.u64.wrap n - q)) = n - q := by rw [sg_eq', us_eq, us_eq]; unfold us sg; omega
      clear h hq
      go_enter Tryz.func126, Tryz.ntmps126
      go_wp2_with fail
      refine wp_all_below (by kernel_rfl) (by kernel_rfl) ?_
      repeat (go_big_quiet_step (first | exact quietly_same (fun W => rest_c _ _ W (by omega) (by omega) (by omega) (by omega)) | exact quietly_same (fun W => minus_c _ _ _ W (by omega) (by omega) (by omega) (by omega) (by omega))))
      refine wpQuiet_nil ?_
      intro w1 hb
      go_wp2
      go_ret2
      exact ⟨tup2 (by rw [Hc.out]; first | rfl | exact congrArg _ (by assumption)) (by rw [Hc.out]; rfl), by (repeat' (first | exact Below.refl _ _ | refine Below.setCell ?_ ?_ _ | refine Below.alloc ?_ ?_ _ | refine below_drewN ?_ _ | refine Below.trans ?_ (Below.mono (by assumption) ?_) | exact Nat.le_refl _ | omega | (simp only [World.size_alloc, World.size_setCell, World.size_drew] at *; omega)))⟩

set_option maxHeartbeats 400000 in
theorem many_c (m r lo hi : Int) (w : World) (hm : 0 ≤ m) (hm' : m ≤ 18446744073709551615) (hr : 0 ≤ r) (hr' : r ≤ 18446744073709551615) (hn : -9223372036854775808 ≤ lo) (hn' : lo ≤ 9223372036854775807) (hh : -9223372036854775808 ≤ hi) (hh' : hi ≤ 9223372036854775807) (hgl : (cleast m r lo).2 = true → (cleast m r lo).1 ≤ hi → (cleast m r lo).1 ≤ (cgreat m r hi).1) :
    Calls Tryz.prog 127 #[.agg #[.int .u64 m, .int .u64 r], .int .i64 lo, .int .i64 hi] w fun e w' => e = .returned (.tuple #[.int .u64 (cmany m r lo hi).1, .bool (cmany m r lo hi).2]) ∧ Below w.heap.size w w' := by
  obtain ⟨x, hx⟩ : ∃ x, x = (cleast m r lo).1 := ⟨_, rfl⟩
  obtain ⟨y, hy⟩ : ∃ y, y = (cgreat m r hi).1 := ⟨_, rfl⟩
  have hx1 := cleast_rng m r lo hm hn hn'
  have hy1 := cgreat_rng m r hi hm hh hh'
  have Hl := fun W => Lib.hid (least_c m r lo W hm hm' hr hr' hn hn')
  have Hg := fun W => Lib.hid (great_c m r hi W hm hm' hr hr' hh hh')
  rw [← hx] at hx1 hgl
  rw [← hy] at hy1 hgl
  simp only [← hx] at Hl
  simp only [← hy] at Hg
  by_cases h1 : (cleast m r lo).2 = false
  · have Hc := Lib.hid (show cmany m r lo hi = (0, true) from by unfold cmany; rw [if_pos (Or.inl h1)])
    simp only [h1] at Hl
    clear h1 hgl hx hy
    go_enter Tryz.func127, Tryz.ntmps127
    go_wp2_with (go_at_call 125; refine ((Hl _).out).mono ?_; rintro e w1 ⟨rfl, hB⟩; obtain ⟨hc, hf⟩ := bcell hB; have hz := hB.size)
    go_ret2
    exact ⟨tup2 (by rw [Hc.out]; rfl) (by rw [Hc.out]; rfl), by (repeat' (first | exact Below.refl _ _ | refine Below.setCell ?_ ?_ _ | refine Below.alloc ?_ ?_ _ | refine below_drewN ?_ _ | refine Below.trans ?_ (Below.mono (by assumption) ?_) | exact Nat.le_refl _ | omega | (simp only [World.size_alloc, World.size_setCell, World.size_drew] at *; omega)))⟩
  have h1' : (cleast m r lo).2 = true := by simpa using h1
  simp only [h1'] at Hl
  by_cases h2 : x > hi
  · have Hc := Lib.hid (show cmany m r lo hi = (0, true) from by unfold cmany; rw [← hx, if_pos (Or.inr h2)])
    clear h1 h1' hgl hx hy
    go_enter Tryz.func127, Tryz.ntmps127
    go_wp2_with (go_at_call 125; refine ((Hl _).out).mono ?_; rintro e w1 ⟨rfl, hB⟩; obtain ⟨hc, hf⟩ := bcell hB; have hz := hB.size)
    go_ret2
    exact ⟨tup2 (by rw [Hc.out]; rfl) (by rw [Hc.out]; rfl), by (repeat' (first | exact Below.refl _ _ | refine Below.setCell ?_ ?_ _ | refine Below.alloc ?_ ?_ _ | refine below_drewN ?_ _ | refine Below.trans ?_ (Below.mono (by assumption) ?_) | exact Nat.le_refl _ | omega | (simp only [World.size_alloc, World.size_setCell, World.size_drew] at *; omega)))⟩
  have hxy := hgl h1' (by omega)
  by_cases h3 : m = 0
  · have Hc := Lib.hid (show cmany m r lo hi = (1, true) from by unfold cmany; rw [← hx, if_neg (by rw [h1']; simp; omega), if_pos h3])
    have hm0 : (m == 0) = true := by rw [h3]; rfl
    clear h1 h1' hgl hx hy h3
    go_enter Tryz.func127, Tryz.ntmps127
    go_wp2_with (go_at_call 125; refine ((Hl _).out).mono ?_; rintro e w1 ⟨rfl, hB⟩; obtain ⟨hc, hf⟩ := bcell hB; have hz := hB.size)
    go_ret2
    exact ⟨tup2 (by rw [Hc.out]; rfl) (by rw [Hc.out]; rfl), by (repeat' (first | exact Below.refl _ _ | refine Below.setCell ?_ ?_ _ | refine Below.alloc ?_ ?_ _ | refine below_drewN ?_ _ | refine Below.trans ?_ (Below.mono (by assumption) ?_) | exact Nat.le_refl _ | omega | (simp only [World.size_alloc, World.size_setCell, World.size_drew] at *; omega)))⟩
  have hm0 : (m == 0) = false := by simpa using h3
  obtain ⟨q, hq⟩ : ∃ q, q = (y - x) / m := ⟨_, rfl⟩
  have hq0 : 0 ≤ q := by rw [hq]; exact Int.ediv_nonneg (by omega) (by omega)
  have hq1 : q ≤ y - x := by rw [hq]; exact Int.ediv_le_self _ (by omega)
  have e5 : IntKind.u64.wrap (IntKind.u64.wrap y - IntKind.u64.wrap x) = y - x := by simp only [IntKind.wrap_u64]; omega
  by_cases h4 : q = 18446744073709551615
  · have Hc := Lib.hid (show cmany m r lo hi = (0, false) from by unfold cmany; rw [← hx, ← hy, ← hq, if_neg (by rw [h1']; simp; omega), if_neg h3, if_pos h4])
    have hq4 : (q == 18446744073709551615) = true := by rw [h4]; rfl
    have hq' := hq.symm
    clear h1 h1' hgl hx hy h4 hq
    go_enter Tryz.func127, Tryz.ntmps127
    go_wp2_with (first | (go_at_call 125; refine ((Hl _).out).mono ?_; rintro e w1 ⟨rfl, hB⟩; obtain ⟨hc, hf⟩ := bcell hB; have hz := hB.size) | (go_at_call 126; refine ((Hg _).out).mono ?_; rintro e w2 ⟨rfl, hB2⟩; replace hB := hB.trans (hB2.mono hB.size); clear hc hf hz hB2; obtain ⟨hc, hf⟩ := bcell hB; have hz := hB.size))
    go_ret2
    exact ⟨tup2 (by rw [Hc.out]; rfl) (by rw [Hc.out]; rfl), by (repeat' (first | exact Below.refl _ _ | refine Below.setCell ?_ ?_ _ | refine Below.alloc ?_ ?_ _ | refine below_drewN ?_ _ | refine Below.trans ?_ (Below.mono (by assumption) ?_) | exact Nat.le_refl _ | omega | (simp only [World.size_alloc, World.size_setCell, World.size_drew] at *; omega)))⟩
  · have Hc := Lib.hid (show cmany m r lo hi = (q + 1, true) from by unfold cmany; rw [← hx, ← hy, ← hq, if_neg (by rw [h1']; simp; omega), if_neg h3, if_neg h4])
    have hq4 : (q == 18446744073709551615) = false := by simpa using h4
    have hq' := hq.symm
    clear h1 h1' hgl hx hy hq
    go_enter Tryz.func127, Tryz.ntmps127
    go_wp2_with (first | (go_at_call 125; refine ((Hl _).out).mono ?_; rintro e w1 ⟨rfl, hB⟩; obtain ⟨hc, hf⟩ := bcell hB; have hz := hB.size) | (go_at_call 126; refine ((Hg _).out).mono ?_; rintro e w2 ⟨rfl, hB2⟩; replace hB := hB.trans (hB2.mono hB.size); clear hc hf hz hB2; obtain ⟨hc, hf⟩ := bcell hB; have hz := hB.size))
    go_ret2
    exact ⟨tup2 (by rw [Hc.out]; rfl) (by rw [Hc.out]; rfl), by (repeat' (first | exact Below.refl _ _ | refine Below.setCell ?_ ?_ _ | refine Below.alloc ?_ ?_ _ | refine below_drewN ?_ _ | refine Below.trans ?_ (Below.mono (by assumption) ?_) | exact Nat.le_refl _ | omega | (simp only [World.size_alloc, World.size_setCell, World.size_drew] at *; omega)))⟩

end Go.Proofs.YtljhbdgoknfkcaaGreatDoor
