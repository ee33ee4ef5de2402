/- Contracts of the reference: least and greatest numbers, how many; sums, differences, products. -/
import Derived.Test.YtiefoahdikmilaaR1
namespace Go.Proofs.Ytiefoahdikmilaa
open Go Go.RowKit Go.Sort
set_option linter.unusedVariables false
set_option linter.unusedSimpArgs false
set_option maxRecDepth 100000

set_option maxHeartbeats 400000 in
theorem rleast_c (m r n : Int) (w : World) (hm : 0 ≤ m) (hm' : m ≤ 18446744073709551615) (hr : 0 ≤ r) (hr' : r ≤ 18446744073709551615) (hn : -9223372036854775808 ≤ n) (hn' : n ≤ 9223372036854775807) (hright : m = 0 ∨ r < m) :
    Calls Try.prog 44 #[.agg #[.int .u64 m, .int .u64 r], .int .i64 n] w fun e w' => e = .returned (.tuple #[.int .i64 (cleast m r n).1, .bool (cleast m r n).2]) ∧ Below w.heap.size w w' := by
  have gc := grown_cell
  by_cases h : m = 0
  · have hm0 : (m == 0) = true := by rw [h]; rfl
    have e1' := sg_eq' r
    by_cases h2 : sg r < n
    · have Hc := Lib.hid (show cleast m r n = (0, false) from by simp [cleast, h, h2])
      clear h
      go_enter Try.func44, Try.ntmps44
      go_wp2
      go_ret2
      exact ⟨tup2 (by rw [Hc.out]; first | rfl | exact congrArg _ (by assumption)) (by rw [Hc.out]; rfl), by (repeat' (first | exact Below.refl _ _ | refine Below.setCell ?_ ?_ _ | refine Below.alloc ?_ ?_ _ | refine below_drewN ?_ _ | refine Below.trans ?_ (Below.mono (by assumption) ?_) | exact Nat.le_refl _ | omega | (simp only [World.size_alloc, World.size_setCell, World.size_drew] at *; omega)))⟩
    · have Hc := Lib.hid (show cleast m r n = (sg r, true) from by simp [cleast, h, h2])
      clear h
      go_enter Try.func44, Try.ntmps44
      go_wp2
      go_ret2
      exact ⟨tup2 (by rw [Hc.out]; first | rfl | exact congrArg _ (by assumption)) (by rw [Hc.out]; rfl), by (repeat' (first | exact Below.refl _ _ | refine Below.setCell ?_ ?_ _ | refine Below.alloc ?_ ?_ _ | refine below_drewN ?_ _ | refine Below.trans ?_ (Below.mono (by assumption) ?_) | exact Nat.le_refl _ | omega | (simp only [World.size_alloc, World.size_setCell, World.size_drew] at *; omega)))⟩
  · have hm0 : (m == 0) = false := by simpa using h
    have e1 := emod_rng r m (by omega)
    have e2 := emod_rng n m (by omega)
    obtain ⟨q, hq⟩ : ∃ q, q = (r - n) % m := ⟨_, rfl⟩
    have e3 := emod_rng (r - n) m (by omega)
    rw [← hq] at e3
    have hrm : r % m = r := Int.emod_eq_of_lt hr (by omega)
    have hcm := sub_mod_mod (a := r) (b := n) (m := m) (by omega)
    rw [← hq, hrm] at hcm
    rw [hrm] at e1
    clear hrm
    have e5 : IntKind.u64.wrap (9223372036854775807 - IntKind.u64.wrap n) = 9223372036854775807 - n := by simp only [IntKind.wrap_u64]; omega
    by_cases h2 : q > 9223372036854775807 - n
    · have Hc := Lib.hid (show cleast m r n = (0, false) from by simp only [cleast, h, ← hq, if_false, if_pos h2])
      clear h hq
      go_enter Try.func44, Try.ntmps44
      go_wp2_with fail
      refine wp_all_below (by kernel_rfl) (by kernel_rfl) ?_
      repeat (go_big_quiet_step (first | exact quietly_same (fun W => rrest_c _ _ W (by omega) (by omega) (by omega) (by omega)) | exact quietly_same (fun W => rminus_c _ _ _ W (by omega) (by omega) (by omega) (by omega) (by omega))))
      refine wpQuiet_nil ?_
      intro w1 hb
      go_wp2
      go_ret2
      exact ⟨tup2 (by rw [Hc.out]; first | rfl | exact congrArg _ (by assumption)) (by rw [Hc.out]; rfl), by (repeat' (first | exact Below.refl _ _ | refine Below.setCell ?_ ?_ _ | refine Below.alloc ?_ ?_ _ | refine below_drewN ?_ _ | refine Below.trans ?_ (Below.mono (by assumption) ?_) | exact Nat.le_refl _ | omega | (simp only [World.size_alloc, World.size_setCell, World.size_drew] at *; omega)))⟩
    · have Hc := Lib.hid (show cleast m r n = (n + q, true) from by simp only [cleast, h, ← hq, if_false, if_neg h2])
      have e6 : wrap64 (IntKind.u64.wrap (IntKind.u64.wrap n + q)) = n + q := by rw [sg_eq', us_eq, us_eq]; unfold us sg; omega
      clear h hq
      go_enter Try.func44, Try.ntmps44
      go_wp2_with fail
      refine wp_all_below (by kernel_rfl) (by kernel_rfl) ?_
      repeat (go_big_quiet_step (first | exact quietly_same (fun W => rrest_c _ _ W (by omega) (by omega) (by omega) (by omega)) | exact quietly_same (fun W => rminus_c _ _ _ W (by omega) (by omega) (by omega) (by omega) (by omega))))
      refine wpQuiet_nil ?_
      intro w1 hb
      go_wp2
      go_ret2
      exact ⟨tup2 (by rw [Hc.out]; first | rfl | exact congrArg _ (by assumption)) (by rw [Hc.out]; rfl), by (repeat' (first | exact Below.refl _ _ | refine Below.setCell ?_ ?_ _ | refine Below.alloc ?_ ?_ _ | refine below_drewN ?_ _ | refine Below.trans ?_ (Below.mono (by assumption) ?_) | exact Nat.le_refl _ | omega | (simp only [World.size_alloc, World.size_setCell, World.size_drew] at *; omega)))⟩

set_option maxHeartbeats 400000 in
theorem rgreat_c (m r n : Int) (w : World) (hm : 0 ≤ m) (hm' : m ≤ 18446744073709551615) (hr : 0 ≤ r) (hr' : r ≤ 18446744073709551615) (hn : -9223372036854775808 ≤ n) (hn' : n ≤ 9223372036854775807) (hright : m = 0 ∨ r < m) :
    Calls Try.prog 46 #[.agg #[.int .u64 m, .int .u64 r], .int .i64 n] w fun e w' => e = .returned (.tuple #[.int .i64 (cgreat m r n).1, .bool (cgreat m r n).2]) ∧ Below w.heap.size w w' := by
  have gc := grown_cell
  by_cases h : m = 0
  · have hm0 : (m == 0) = true := by rw [h]; rfl
    have e1' := sg_eq' r
    by_cases h2 : n < sg r
    · have Hc := Lib.hid (show cgreat m r n = (0, false) from by simp [cgreat, h, h2])
      clear h
      go_enter Try.func46, Try.ntmps46
      go_wp2
      go_ret2
      exact ⟨tup2 (by rw [Hc.out]; first | rfl | exact congrArg _ (by assumption)) (by rw [Hc.out]; rfl), by (repeat' (first | exact Below.refl _ _ | refine Below.setCell ?_ ?_ _ | refine Below.alloc ?_ ?_ _ | refine below_drewN ?_ _ | refine Below.trans ?_ (Below.mono (by assumption) ?_) | exact Nat.le_refl _ | omega | (simp only [World.size_alloc, World.size_setCell, World.size_drew] at *; omega)))⟩
    · have Hc := Lib.hid (show cgreat m r n = (sg r, true) from by simp [cgreat, h, h2])
      clear h
      go_enter Try.func46, Try.ntmps46
      go_wp2
      go_ret2
      exact ⟨tup2 (by rw [Hc.out]; first | rfl | exact congrArg _ (by assumption)) (by rw [Hc.out]; rfl), by (repeat' (first | exact Below.refl _ _ | refine Below.setCell ?_ ?_ _ | refine Below.alloc ?_ ?_ _ | refine below_drewN ?_ _ | refine Below.trans ?_ (Below.mono (by assumption) ?_) | exact Nat.le_refl _ | omega | (simp only [World.size_alloc, World.size_setCell, World.size_drew] at *; omega)))⟩
  · have hm0 : (m == 0) = false := by simpa using h
    have e1 := emod_rng r m (by omega)
    have e2 := emod_rng n m (by omega)
    obtain ⟨q, hq⟩ : ∃ q, q = (n - r) % m := ⟨_, rfl⟩
    have e3 := emod_rng (n - r) m (by omega)
    rw [← hq] at e3
    have hrm : r % m = r := Int.emod_eq_of_lt hr (by omega)
    have hcm := sub_mod_mod (a := n) (b := r) (m := m) (by omega)
    rw [← hq, hrm] at hcm
    rw [hrm] at e1
    clear hrm
    have e5 : IntKind.u64.wrap (IntKind.u64.wrap n - 9223372036854775808) = n + 9223372036854775808 := by simp only [IntKind.wrap_u64]; omega
    by_cases h2 : q > n + 9223372036854775808
    · have Hc := Lib.hid (show cgreat m r n = (0, false) from by simp only [cgreat, h, ← hq, if_false, if_pos h2])
      clear h hq
      go_enter Try.func46, Try.ntmps46
      go_wp2_with fail
      refine wp_all_below (by kernel_rfl) (by kernel_rfl) ?_
      repeat (go_big_quiet_step (first | exact quietly_same (fun W => rrest_c _ _ W (by omega) (by omega) (by omega) (by omega)) | exact quietly_same (fun W => rminus_c _ _ _ W (by omega) (by omega) (by omega) (by omega) (by omega))))
      refine wpQuiet_nil ?_
      intro w1 hb
      go_wp2
      go_ret2
      exact ⟨tup2 (by rw [Hc.out]; first | rfl | exact congrArg _ (by assumption)) (by rw [Hc.out]; rfl), by (repeat' (first | exact Below.refl _ _ | refine Below.setCell ?_ ?_ _ | refine Below.alloc ?_ ?_ _ | refine below_drewN ?_ _ | refine Below.trans ?_ (Below.mono (by assumption) ?_) | exact Nat.le_refl _ | omega | (simp only [World.size_alloc, World.size_setCell, World.size_drew] at *; omega)))⟩
    · have Hc := Lib.hid (show cgreat m r n = (n - q, true) from by simp only [cgreat, h, ← hq, if_false, if_neg h2])
      have e6 : wrap64 (IntKind.u64.wrap (IntKind.u64.wrap n - q)) = n - q := by rw [sg_eq', us_eq, us_eq]; unfold us sg; omega
      clear h hq
      go_enter Try.func46, Try.ntmps46
      go_wp2_with fail
      refine wp_all_below (by kernel_rfl) (by kernel_rfl) ?_
      repeat (go_big_quiet_step (first | exact quietly_same (fun W => rrest_c _ _ W (by omega) (by omega) (by omega) (by omega)) | exact quietly_same (fun W => rminus_c _ _ _ W (by omega) (by omega) (by omega) (by omega) (by omega))))
      refine wpQuiet_nil ?_
      intro w1 hb
      go_wp2
      go_ret2
      exact ⟨tup2 (by rw [Hc.out]; first | rfl | exact congrArg _ (by assumption)) (by rw [Hc.out]; rfl), by (repeat' (first | exact Below.refl _ _ | refine Below.setCell ?_ ?_ _ | refine Below.alloc ?_ ?_ _ | refine below_drewN ?_ _ | refine Below.trans ?_ (Below.mono (by assumption) ?_) | exact Nat.le_refl _ | omega | (simp only [World.size_alloc, World.size_setCell, World.size_drew] at *; omega)))⟩

set_option maxHeartbeats 1000000 in
theorem rmany_c (m r lo hi : Int) (w : World) (hm : 0 ≤ m) (hm' : m ≤ 18446744073709551615) (hr : 0 ≤ r) (hr' : r ≤ 18446744073709551615) (hn : -9223372036854775808 ≤ lo) (hn' : lo ≤ 9223372036854775807) (hh : -9223372036854775808 ≤ hi) (hh' : hi ≤ 9223372036854775807) (hright : m = 0 ∨ r < m)
    (hgl : (cleast m r lo).2 = true → (cleast m r lo).1 ≤ hi → (cgreat m r hi).2 = true ∧ (cleast m r lo).1 ≤ (cgreat m r hi).1) :
    Calls Try.prog 48 #[.agg #[.int .u64 m, .int .u64 r], .int .i64 lo, .int .i64 hi] w fun e w' => e = .returned (.tuple #[.int .u64 (cmany m r lo hi).1, .bool (cmany m r lo hi).2]) ∧ Below w.heap.size w w' := by
  obtain ⟨x, hx⟩ : ∃ x, x = (cleast m r lo).1 := ⟨_, rfl⟩
  obtain ⟨y, hy⟩ : ∃ y, y = (cgreat m r hi).1 := ⟨_, rfl⟩
  have hx1 := cleast_rng m r lo hm hn hn'
  have hy1 := cgreat_rng m r hi hm hh hh'
  have Hl := fun W => Lib.hid (rleast_c m r lo W hm hm' hr hr' hn hn' hright)
  have Hg := fun W => Lib.hid (rgreat_c m r hi W hm hm' hr hr' hh hh' hright)
  rw [← hx] at hx1 hgl
  rw [← hy] at hy1 hgl
  simp only [← hx] at Hl
  simp only [← hy] at Hg
  have hge : (cleast m r lo).2 = true → (cgreat m r hi).2 = true → x ≤ y → x ≤ hi := by
    intro a b c
    have h1 := cgreat_le hm b
    rw [← hy] at h1
    omega
  have hmany : cmany m r lo hi = if (cleast m r lo).2 = false ∨ x > hi then (0, true) else if m = 0 then (1, true) else if (y - x) / m = 18446744073709551615 then (0, false) else ((y - x) / m + 1, true) := by
    unfold cmany; rw [← hx, ← hy]
  clear hx hy
  cases h1 : (cleast m r lo).2
  · have Hc := Lib.hid (hmany.trans (if_pos (Or.inl h1)))
    simp only [h1] at Hl
    clear h1 hgl hge hmany
    go_enter Try.func48, Try.ntmps48
    go_wp2_with (first | (go_at_call 44; refine ((Hl _).out).mono ?_; rintro e w1 ⟨rfl, hBw1⟩; obtain ⟨hcw1, hfw1⟩ := bcell hBw1; have hzw1 := hBw1.size; (try simp only [World.size_alloc, World.size_setCell, World.size_drew] at hzw1); have hlw1_0 : w.heap.size < w1.heap.size := (by omega)) | (go_at_call 46; refine ((Hg _).out).mono ?_; rintro e w2 ⟨rfl, hBw2⟩; obtain ⟨hcw2, hfw2⟩ := bcell hBw2; have hzw2 := hBw2.size; (try simp only [World.size_alloc, World.size_setCell, World.size_drew] at hzw2); have hlw2_0 : w.heap.size < w2.heap.size := (by omega)))
    go_ret2
    exact ⟨tup2 (by rw [Hc.out]; rfl) (by rw [Hc.out]; rfl), by (repeat' (first | exact Below.refl _ _ | refine Below.setCell ?_ ?_ _ | refine Below.alloc ?_ ?_ _ | refine below_drewN ?_ _ | refine Below.trans ?_ (Below.mono (by assumption) ?_) | exact Nat.le_refl _ | omega | (simp only [World.size_alloc, World.size_setCell, World.size_drew] at *; omega)))⟩
  simp only [h1] at Hl
  cases h2 : (cgreat m r hi).2
  · have hxh : x > hi := by
      by_cases h : x > hi
      · exact h
      · have := (hgl h1 (by omega)).1
        rw [h2] at this; cases this
    have Hc := Lib.hid (hmany.trans (if_pos (Or.inr hxh)))
    simp only [h2] at Hg
    clear h1 h2 hgl hge hmany hxh
    go_enter Try.func48, Try.ntmps48
    go_wp2_with (first | (go_at_call 44; refine ((Hl _).out).mono ?_; rintro e w1 ⟨rfl, hBw1⟩; obtain ⟨hcw1, hfw1⟩ := bcell hBw1; have hzw1 := hBw1.size; (try simp only [World.size_alloc, World.size_setCell, World.size_drew] at hzw1); have hlw1_0 : w.heap.size < w1.heap.size := (by omega)) | (go_at_call 46; refine ((Hg _).out).mono ?_; rintro e w2 ⟨rfl, hBw2⟩; obtain ⟨hcw2, hfw2⟩ := bcell hBw2; have hzw2 := hBw2.size; (try simp only [World.size_alloc, World.size_setCell, World.size_drew] at hzw2); have hlw2_0 : w.heap.size < w2.heap.size := (by omega)))
    go_ret2
    exact ⟨tup2 (by rw [Hc.out]; rfl) (by rw [Hc.out]; rfl), by (repeat' (first | exact Below.refl _ _ | refine Below.setCell ?_ ?_ _ | refine Below.alloc ?_ ?_ _ | refine below_drewN ?_ _ | refine Below.trans ?_ (Below.mono (by assumption) ?_) | exact Nat.le_refl _ | omega | (simp only [World.size_alloc, World.size_setCell, World.size_drew] at *; omega)))⟩
  simp only [h2] at Hg
  by_cases h3 : x > y
  · have hxh : x > hi := by
      by_cases h : x > hi
      · exact h
      · have := (hgl h1 (by omega)).2
        omega
    have Hc := Lib.hid (hmany.trans (if_pos (Or.inr hxh)))
    clear h1 h2 hgl hge hmany hxh
    go_enter Try.func48, Try.ntmps48
    go_wp2_with (first | (go_at_call 44; refine ((Hl _).out).mono ?_; rintro e w1 ⟨rfl, hBw1⟩; obtain ⟨hcw1, hfw1⟩ := bcell hBw1; have hzw1 := hBw1.size; (try simp only [World.size_alloc, World.size_setCell, World.size_drew] at hzw1); have hlw1_0 : w.heap.size < w1.heap.size := (by omega)) | (go_at_call 46; refine ((Hg _).out).mono ?_; rintro e w2 ⟨rfl, hBw2⟩; obtain ⟨hcw2, hfw2⟩ := bcell hBw2; have hzw2 := hBw2.size; (try simp only [World.size_alloc, World.size_setCell, World.size_drew] at hzw2); have hlw2_0 : w.heap.size < w2.heap.size := (by omega)))
    go_ret2
    exact ⟨tup2 (by rw [Hc.out]; rfl) (by rw [Hc.out]; rfl), by (repeat' (first | exact Below.refl _ _ | refine Below.setCell ?_ ?_ _ | refine Below.alloc ?_ ?_ _ | refine below_drewN ?_ _ | refine Below.trans ?_ (Below.mono (by assumption) ?_) | exact Nat.le_refl _ | omega | (simp only [World.size_alloc, World.size_setCell, World.size_drew] at *; omega)))⟩
  have hxh := hge h1 h2 (by omega)
  have hmany := hmany.trans (if_neg (by rw [h1]; simp; omega))
  have hxy : x ≤ y := by omega
  by_cases h4 : m = 0
  · have Hc := Lib.hid (hmany.trans (if_pos h4))
    have hm0 : (m == 0) = true := by simpa using h4
    clear h1 h2 h4 hgl hge hmany
    go_enter Try.func48, Try.ntmps48
    go_wp2_with (first | (go_at_call 44; refine ((Hl _).out).mono ?_; rintro e w1 ⟨rfl, hBw1⟩; obtain ⟨hcw1, hfw1⟩ := bcell hBw1; have hzw1 := hBw1.size; (try simp only [World.size_alloc, World.size_setCell, World.size_drew] at hzw1); have hlw1_0 : w.heap.size < w1.heap.size := (by omega)) | (go_at_call 46; refine ((Hg _).out).mono ?_; rintro e w2 ⟨rfl, hBw2⟩; obtain ⟨hcw2, hfw2⟩ := bcell hBw2; have hzw2 := hBw2.size; (try simp only [World.size_alloc, World.size_setCell, World.size_drew] at hzw2); have hlw2_0 : w.heap.size < w2.heap.size := (by omega)))
    go_ret2
    exact ⟨tup2 (by rw [Hc.out]; rfl) (by rw [Hc.out]; rfl), by (repeat' (first | exact Below.refl _ _ | refine Below.setCell ?_ ?_ _ | refine Below.alloc ?_ ?_ _ | refine below_drewN ?_ _ | refine Below.trans ?_ (Below.mono (by assumption) ?_) | exact Nat.le_refl _ | omega | (simp only [World.size_alloc, World.size_setCell, World.size_drew] at *; omega)))⟩
  have hm0 : (m == 0) = false := by simpa using h4
  have hmany := hmany.trans (if_neg h4)
  obtain ⟨q, hq⟩ : ∃ q, q = (y - x) / m := ⟨_, rfl⟩
  have hq0 : 0 ≤ q := by rw [hq]; exact Int.ediv_nonneg (by omega) (by omega)
  have hq1 : q ≤ y - x := by rw [hq]; exact Int.ediv_le_self _ (by omega)
  have e5 : IntKind.u64.wrap (IntKind.u64.wrap y - IntKind.u64.wrap x) = y - x := by simp only [IntKind.wrap_u64]; omega
  rw [← hq] at hmany
  by_cases h5 : q = 18446744073709551615
  · have Hc := Lib.hid (hmany.trans (if_pos h5))
    have hq4 : (q == 18446744073709551615) = true := by rw [h5]; rfl
    have hq' := hq.symm
    clear h1 h2 hgl hge hmany h5 hq
    go_enter Try.func48, Try.ntmps48
    go_wp2_with (first | (go_at_call 44; refine ((Hl _).out).mono ?_; rintro e w1 ⟨rfl, hBw1⟩; obtain ⟨hcw1, hfw1⟩ := bcell hBw1; have hzw1 := hBw1.size; (try simp only [World.size_alloc, World.size_setCell, World.size_drew] at hzw1); have hlw1_0 : w.heap.size < w1.heap.size := (by omega)) | (go_at_call 46; refine ((Hg _).out).mono ?_; rintro e w2 ⟨rfl, hBw2⟩; obtain ⟨hcw2, hfw2⟩ := bcell hBw2; have hzw2 := hBw2.size; (try simp only [World.size_alloc, World.size_setCell, World.size_drew] at hzw2); have hlw2_0 : w.heap.size < w2.heap.size := (by omega)))
    go_ret2
    exact ⟨tup2 (by rw [Hc.out]; rfl) (by rw [Hc.out]; rfl), by (repeat' (first | exact Below.refl _ _ | refine Below.setCell ?_ ?_ _ | refine Below.alloc ?_ ?_ _ | refine below_drewN ?_ _ | refine Below.trans ?_ (Below.mono (by assumption) ?_) | exact Nat.le_refl _ | omega | (simp only [World.size_alloc, World.size_setCell, World.size_drew] at *; omega)))⟩
  · have Hc := Lib.hid (hmany.trans (if_neg h5))
    have hq4 : (q == 18446744073709551615) = false := by simpa using h5
    have hq' := hq.symm
    clear h1 h2 hgl hge hmany hq
    go_enter Try.func48, Try.ntmps48
    go_wp2_with (first | (go_at_call 44; refine ((Hl _).out).mono ?_; rintro e w1 ⟨rfl, hBw1⟩; obtain ⟨hcw1, hfw1⟩ := bcell hBw1; have hzw1 := hBw1.size; (try simp only [World.size_alloc, World.size_setCell, World.size_drew] at hzw1); have hlw1_0 : w.heap.size < w1.heap.size := (by omega)) | (go_at_call 46; refine ((Hg _).out).mono ?_; rintro e w2 ⟨rfl, hBw2⟩; obtain ⟨hcw2, hfw2⟩ := bcell hBw2; have hzw2 := hBw2.size; (try simp only [World.size_alloc, World.size_setCell, World.size_drew] at hzw2); have hlw2_0 : w.heap.size < w2.heap.size := (by omega)))
    go_ret2
    exact ⟨tup2 (by rw [Hc.out]; rfl) (by rw [Hc.out]; rfl), by (repeat' (first | exact Below.refl _ _ | refine Below.setCell ?_ ?_ _ | refine Below.alloc ?_ ?_ _ | refine below_drewN ?_ _ | refine Below.trans ?_ (Below.mono (by assumption) ?_) | exact Nat.le_refl _ | omega | (simp only [World.size_alloc, World.size_setCell, World.size_drew] at *; omega)))⟩

set_option maxHeartbeats 1000000 in
theorem rsub_c (am ar bm br : Int) (w : World) (ha : 0 ≤ am) (ha' : am ≤ 18446744073709551615) (har : 0 ≤ ar) (har' : ar ≤ 18446744073709551615) (hb : 0 ≤ bm) (hb' : bm ≤ 18446744073709551615) (hbr : 0 ≤ br) (hbr' : br ≤ 18446744073709551615) :
    Calls Try.prog 38 #[.agg #[.int .u64 am, .int .u64 ar], .agg #[.int .u64 bm, .int .u64 br]] w fun e w' => e = .returned (.agg #[.int .u64 (csub am ar bm br).1, .int .u64 (csub am ar bm br).2]) ∧ Below w.heap.size w w' := by
  have gc := grown_cell
  by_cases h : am = 0 ∧ bm = 0
  · obtain ⟨rfl, rfl⟩ := h
    have Hc := Lib.hid (show csub 0 ar 0 br = (0, us (ar - br)) from by simp [csub])
    have e1 := us_eq (ar - br)
    go_enter Try.func38, Try.ntmps38
    go_wp2
    exact bodyPost_ret (v := .agg #[.int .u64 0, .int .u64 (us (ar - br))]) (by simp [results, Try.results38, go_sem, us_eq]) rfl ⟨by rw [Hc.out], by (repeat' (first | exact Below.refl _ _ | refine Below.setCell ?_ ?_ _ | refine Below.alloc ?_ ?_ _ | refine below_drewN ?_ _ | refine Below.trans ?_ (Below.mono (by assumption) ?_) | exact Nat.le_refl _ | omega | (simp only [World.size_alloc, World.size_setCell, World.size_drew] at *; omega)))⟩
  · have Hc := Lib.hid (show csub am ar bm br = _ from by unfold csub; rw [if_neg h])
    have hg := cg_pos h
    have hgB : cg am bm ≤ 18446744073709551615 := cg_bd ha hb ha' hb'
    have hx := crest_rng am ar (cg am bm) hg
    have hy := crest_rng bm br (cg am bm) hg
    generalize hgg : cg am bm = g at *
    generalize hxx : crest am ar g = x at *
    generalize hyy : crest bm br g = y at *
    have C1 := fun W => Lib.hid (rgcd_c am bm W ha ha' hb hb')
    have C2 := fun W => Lib.hid (rof_c am ar g W ha ha' har har' hg hgB)
    have C3 := fun W => Lib.hid (rof_c bm br g W hb hb' hbr hbr' hg hgB)
    rw [hgg] at C1
    rw [hxx] at C2
    rw [hyy] at C3
    have C4 := fun W => Lib.hid (rminus_c x y g W hx.1 hy.1 (by omega) (by omega) hgB)
    have C5 := C4
    have hz2 := cminus_mod hx.1 hx.2 hy.1 hy.2
    generalize cminus x y g = z at *
    have Hz := Lib.hid (show (x - y) % g = z by rw [hz2])
    clear hz2
    have hguard : (am == 0) = false ∨ (am == 0) = true ∧ (bm == 0) = false := by
      by_cases h0 : am = 0
      · right; exact ⟨by simpa using h0, by simp; omega⟩
      · left; simpa using h0
    clear hgg hxx hyy h
    rcases hguard with hg0 | ⟨hg0, hg1⟩
    all_goals
      go_enter Try.func38, Try.ntmps38
      go_wp2_with (go_at_call 62; refine ((C1 _).out).mono ?_; rintro e w1 ⟨rfl, rfl⟩)
      refine wp_head_below 10 (by kernel_rfl) (by kernel_rfl) ?_; simp only [List.take_succ_cons, List.take_zero, List.drop_succ_cons, List.drop_zero]; (repeat (go_big_quiet_step (first | with_reducible exact quietly (fun W => (C2 W).out) | with_reducible exact quietly (fun W => (C3 W).out) | with_reducible exact quietly_same (fun W => (C4 W).out) | with_reducible exact quietly_same (fun W => (C5 W).out)))); refine wpQuiet_nil ?_; intro w2 hBw2; obtain ⟨hcw2, hfw2⟩ := bcell hBw2; have hzw2 := hBw2.size; (try simp only [World.size_alloc, World.size_setCell, World.size_drew] at hzw2); have hlw2_0 : w.heap.size < w2.heap.size := (by omega); have hlw2_1 : w.heap.size + 1 < w2.heap.size := (by omega); have hlw2_2 : w.heap.size + 1 + 1 < w2.heap.size := (by omega)
      go_wp2
      exact bodyPost_ret (v := .agg #[.int .u64 g, .int .u64 z]) (by simp [results, Try.results38, go_sem, hcw2, hfw2, hlw2_0, hlw2_1, hlw2_2]) rfl ⟨by rw [Hc.out, Hz.out], by (repeat' (first | exact Below.refl _ _ | refine Below.setCell ?_ ?_ _ | refine Below.alloc ?_ ?_ _ | refine below_drewN ?_ _ | refine Below.trans ?_ (Below.mono (by assumption) ?_) | exact Nat.le_refl _ | omega | (simp only [World.size_alloc, World.size_setCell, World.size_drew] at *; omega)))⟩

set_option maxHeartbeats 1000000 in
theorem radd_c (am ar bm br : Int) (w : World) (ha : 0 ≤ am) (ha' : am ≤ 18446744073709551615) (har : 0 ≤ ar) (har' : ar ≤ 18446744073709551615) (hb : 0 ≤ bm) (hb' : bm ≤ 18446744073709551615) (hbr : 0 ≤ br) (hbr' : br ≤ 18446744073709551615) :
    Calls Try.prog 37 #[.agg #[.int .u64 am, .int .u64 ar], .agg #[.int .u64 bm, .int .u64 br]] w fun e w' => e = .returned (.agg #[.int .u64 (cadd am ar bm br).1, .int .u64 (cadd am ar bm br).2]) ∧ Below w.heap.size w w' := by
  have gc := grown_cell
  by_cases h : am = 0 ∧ bm = 0
  · obtain ⟨rfl, rfl⟩ := h
    have Hc := Lib.hid (show cadd 0 ar 0 br = (0, us (ar + br)) from by simp [cadd])
    have e1 := us_eq (ar + br)
    go_enter Try.func37, Try.ntmps37
    go_wp2
    exact bodyPost_ret (v := .agg #[.int .u64 0, .int .u64 (us (ar + br))]) (by simp [results, Try.results37, go_sem, us_eq]) rfl ⟨by rw [Hc.out], by (repeat' (first | exact Below.refl _ _ | refine Below.setCell ?_ ?_ _ | refine Below.alloc ?_ ?_ _ | refine below_drewN ?_ _ | refine Below.trans ?_ (Below.mono (by assumption) ?_) | exact Nat.le_refl _ | omega | (simp only [World.size_alloc, World.size_setCell, World.size_drew] at *; omega)))⟩
  · have Hc := Lib.hid (show cadd am ar bm br = _ from by unfold cadd; rw [if_neg h])
    have hg := cg_pos h
    have hgB : cg am bm ≤ 18446744073709551615 := cg_bd ha hb ha' hb'
    have hx := crest_rng am ar (cg am bm) hg
    have hy := crest_rng bm br (cg am bm) hg
    generalize hgg : cg am bm = g at *
    generalize hxx : crest am ar g = x at *
    generalize hyy : crest bm br g = y at *
    have C1 := fun W => Lib.hid (rgcd_c am bm W ha ha' hb hb')
    have C2 := fun W => Lib.hid (rof_c am ar g W ha ha' har har' hg hgB)
    have C3 := fun W => Lib.hid (rof_c bm br g W hb hb' hbr hbr' hg hgB)
    rw [hgg] at C1
    rw [hxx] at C2
    rw [hyy] at C3
    have C4 := fun W => Lib.hid (rplus_c x y g W hx.1 hy.1 hy.2 hx.2 hgB)
    have C5 := C4
    generalize hzz : (x + y) % g = z at *
    have Hz := Lib.hid hzz
    clear hzz
    have hguard : (am == 0) = false ∨ (am == 0) = true ∧ (bm == 0) = false := by
      by_cases h0 : am = 0
      · right; exact ⟨by simpa using h0, by simp; omega⟩
      · left; simpa using h0
    clear hgg hxx hyy h
    rcases hguard with hg0 | ⟨hg0, hg1⟩
    all_goals
      go_enter Try.func37, Try.ntmps37
      go_wp2_with (go_at_call 62; refine ((C1 _).out).mono ?_; rintro e w1 ⟨rfl, rfl⟩)
      refine wp_head_below 10 (by kernel_rfl) (by kernel_rfl) ?_; simp only [List.take_succ_cons, List.take_zero, List.drop_succ_cons, List.drop_zero]; (repeat (go_big_quiet_step (first | with_reducible exact quietly (fun W => (C2 W).out) | with_reducible exact quietly (fun W => (C3 W).out) | with_reducible exact quietly_same (fun W => (C4 W).out) | with_reducible exact quietly_same (fun W => (C5 W).out)))); refine wpQuiet_nil ?_; intro w2 hBw2; obtain ⟨hcw2, hfw2⟩ := bcell hBw2; have hzw2 := hBw2.size; (try simp only [World.size_alloc, World.size_setCell, World.size_drew] at hzw2); have hlw2_0 : w.heap.size < w2.heap.size := (by omega); have hlw2_1 : w.heap.size + 1 < w2.heap.size := (by omega); have hlw2_2 : w.heap.size + 1 + 1 < w2.heap.size := (by omega)
      go_wp2
      exact bodyPost_ret (v := .agg #[.int .u64 g, .int .u64 z]) (by simp [results, Try.results37, go_sem, hcw2, hfw2, hlw2_0, hlw2_1, hlw2_2]) rfl ⟨by rw [Hc.out], by (repeat' (first | exact Below.refl _ _ | refine Below.setCell ?_ ?_ _ | refine Below.alloc ?_ ?_ _ | refine below_drewN ?_ _ | refine Below.trans ?_ (Below.mono (by assumption) ?_) | exact Nat.le_refl _ | omega | (simp only [World.size_alloc, World.size_setCell, World.size_drew] at *; omega)))⟩

end Go.Proofs.Ytiefoahdikmilaa
