/- The helpers of the statement CongSound, as calls. -/
import Derived.Test.YtiefoahdikmilaaM2
import Derived.Test.YtiefoahdikmilaaQ3
import Derived.Test.YtiefoahdikmilaaL4
namespace Go.Proofs.Ytiefoahdikmilaa
open Go Go.RowKit Go.Sort
set_option linter.unusedVariables false
set_option linter.unusedSimpArgs false
set_option maxRecDepth 100000

theorem near_c (m r n : Int) (w : World) (hm : 0 ≤ m) (hm' : m ≤ 18446744073709551615) (hr : 0 ≤ r) (hr' : r ≤ 18446744073709551615) (hn : -9223372036854775808 ≤ n) (hn' : n ≤ 9223372036854775807) :
    Calls Try.prog 41 #[.agg #[.int .u64 m, .int .u64 r], .int .i64 n] w fun e w' => e = .returned (.int .i64 (cnear m r n)) ∧ Below w.heap.size w w' := by
  have C1 := fun W => Lib.hid (least_c m r n W hm hm' hr hr' hn hn')
  have C3 := fun W => Lib.hid (great_c m r n W hm hm' hr hr' hn hn')
  cases hok : (cleast m r n).2
  · have e : cnear m r n = (cgreat m r n).1 := by unfold cnear; rw [if_neg (by rw [hok]; simp)]
    rw [e]
    simp only [hok] at C1
    clear e hok
    go_enter Try.func41, Try.ntmps41
    go_wp2_with (first | (go_at_call 42; refine ((C1 _).out).mono ?_; rintro e w1 ⟨rfl, hBw1⟩; obtain ⟨hcw1, hfw1⟩ := bcell hBw1; have hzw1 := hBw1.size; (try simp only [World.size_alloc, World.size_setCell, World.size_drew] at hzw1); have hlw1_0 : w.heap.size < w1.heap.size := (by omega)) | (go_at_call 45; refine ((C3 _).out).mono ?_; rintro e w2 ⟨rfl, hBw2⟩; obtain ⟨hcw2, hfw2⟩ := bcell hBw2; have hzw2 := hBw2.size; (try simp only [World.size_alloc, World.size_setCell, World.size_drew] at hzw2); have hlw2_0 : w.heap.size < w2.heap.size := (by omega)))
    go_ret
    exact ⟨rfl, by (repeat' (first | exact Below.refl _ _ | refine Below.setCell ?_ ?_ _ | refine Below.alloc ?_ ?_ _ | refine below_drewN ?_ _ | refine Below.trans ?_ (Below.mono (by assumption) ?_) | exact Nat.le_refl _ | omega | (simp only [World.size_alloc, World.size_setCell, World.size_drew] at *; omega)))⟩
  · have e : cnear m r n = (cleast m r n).1 := by unfold cnear; rw [if_pos hok]
    rw [e]
    simp only [hok] at C1
    clear e hok
    go_enter Try.func41, Try.ntmps41
    go_wp2_with (first | (go_at_call 42; refine ((C1 _).out).mono ?_; rintro e w1 ⟨rfl, hBw1⟩; obtain ⟨hcw1, hfw1⟩ := bcell hBw1; have hzw1 := hBw1.size; (try simp only [World.size_alloc, World.size_setCell, World.size_drew] at hzw1); have hlw1_0 : w.heap.size < w1.heap.size := (by omega)) | (go_at_call 45; refine ((C3 _).out).mono ?_; rintro e w2 ⟨rfl, hBw2⟩; obtain ⟨hcw2, hfw2⟩ := bcell hBw2; have hzw2 := hBw2.size; (try simp only [World.size_alloc, World.size_setCell, World.size_drew] at hzw2); have hlw2_0 : w.heap.size < w2.heap.size := (by omega)))
    go_ret
    exact ⟨rfl, by (repeat' (first | exact Below.refl _ _ | refine Below.setCell ?_ ?_ _ | refine Below.alloc ?_ ?_ _ | refine below_drewN ?_ _ | refine Below.trans ?_ (Below.mono (by assumption) ?_) | exact Nat.le_refl _ | omega | (simp only [World.size_alloc, World.size_setCell, World.size_drew] at *; omega)))⟩

theorem fit_c (x y : Int) (w : World) (hx : -9223372036854775808 ≤ x) (hx' : x ≤ 9223372036854775807) (hy : -9223372036854775808 ≤ y) (hy' : y ≤ 9223372036854775807) :
    Calls Try.prog 43 #[.int .i64 x, .int .i64 y] w fun e w' => (∃ s d p : Bool, e = .returned (.tuple #[.bool s, .bool d, .bool p]) ∧ (s = true → sg (x + y) = x + y) ∧ (d = true → sg (x - y) = x - y) ∧ (p = true → sg (x * y) = x * y)) ∧ Below w.heap.size w w' := by
  have fs := fitS_of hx hx' hy hy'
  have fd := fitD_of hx hx' hy hy'
  have fp := fitP_of hx hx' hy hy'
  unfold fitS at fs
  unfold fitD at fd
  unfold fitP at fp
  simp only [← sg_eq'] at *
  go_enter Try.func43, Try.ntmps43
  go_wp2
  all_goals
    refine bodyPost_ret (v := ?_) ?_ rfl ?_
    rotate_left
    · simp [results, Try.results43, go_sem]
      try rfl
    · refine ⟨⟨_, _, _, rfl, fun h => ?_, fun h => ?_, fun h => ?_⟩, Below.refl _ _⟩
      · clear fp fd
        apply fs
        simp_all
      · clear fp fs
        apply fd
        simp_all
      · clear fs fd
        apply fp
        simp_all
        try (unfold wrap64; omega)

end Go.Proofs.Ytiefoahdikmilaa
