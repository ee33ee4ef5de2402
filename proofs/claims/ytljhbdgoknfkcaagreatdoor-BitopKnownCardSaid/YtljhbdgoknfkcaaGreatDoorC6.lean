/- Contracts: what is wrapped, in the program and in the reference. -/
import Derived.Test.YtljhbdgoknfkcaaGreatDoorR1
import Derived.Test.YtljhbdgoknfkcaaGreatDoorM
namespace Go.Proofs.YtljhbdgoknfkcaaGreatDoor
open Go Go.RowKit Go.Sort
set_option linter.unusedVariables false
set_option linter.unusedSimpArgs false
set_option maxRecDepth 100000

set_option maxHeartbeats 400000 in
theorem wrapped_c (m r : Int) (w : World) (hm : 0 ≤ m) (hm' : m ≤ 18446744073709551615) (hr : 0 ≤ r) (hr' : r ≤ 18446744073709551615) :
    Calls Tryz.prog 77 #[.agg #[.int .u64 m, .int .u64 r]] w fun e w' => e = .returned (.agg #[.int .u64 (cwrapped m r).1, .int .u64 (cwrapped m r).2]) ∧ Below w.heap.size w w' := by
  by_cases h : m = 0
  · subst h
    have Hc := Lib.hid (show cwrapped 0 r = (0, r) from rfl)
    go_enter Tryz.func77, Tryz.ntmps77
    go_wp2
    exact bodyPost_ret (v := .agg #[.int .u64 0, .int .u64 r]) (by simp [results, Tryz.results77, go_sem]) rfl ⟨by rw [Hc.out], by (repeat' (first | exact Below.refl _ _ | refine Below.setCell ?_ ?_ _ | refine Below.alloc ?_ ?_ _ | refine below_drewN ?_ _ | refine Below.trans ?_ (Below.mono (by assumption) ?_) | exact Nat.le_refl _ | omega | (simp only [World.size_alloc, World.size_setCell, World.size_drew] at *; omega)))⟩
  · have hm0 : (m == 0) = false := by simpa using h
    have Hc := Lib.hid (show cwrapped m r = (clow m, r % clow m) from by unfold cwrapped; rw [if_neg h])
    have r1 := clow_rng m (by omega) hm'
    have e1 : IntKind.u64.wrap (-m) = 18446744073709551616 - m := by simp only [IntKind.wrap_u64]; omega
    have e2 := clow_and m (by omega) hm'
    generalize clow m = p at *
    have hpn : p ≠ 0 := by omega
    have r2 := emod_rng r p (by omega)
    obtain ⟨k, hk⟩ : ∃ k, 18446744073709551616 - m = k := ⟨_, rfl⟩
    rw [hk] at e1 e2
    clear hk
    go_enter Tryz.func77, Tryz.ntmps77
    go_wp2
    exact bodyPost_ret (v := .agg #[.int .u64 p, .int .u64 (r % p)]) (by simp [results, Tryz.results77, go_sem]) rfl ⟨by rw [Hc.out], by (repeat' (first | exact Below.refl _ _ | refine Below.setCell ?_ ?_ _ | refine Below.alloc ?_ ?_ _ | refine below_drewN ?_ _ | refine Below.trans ?_ (Below.mono (by assumption) ?_) | exact Nat.le_refl _ | omega | (simp only [World.size_alloc, World.size_setCell, World.size_drew] at *; omega)))⟩

end Go.Proofs.YtljhbdgoknfkcaaGreatDoor
