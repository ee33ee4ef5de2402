/- The statement CongMakes, as a call: true for every modulus, number and two congruences. -/
import Derived.Test.YtiefoahdikmilaaL1
namespace Go.Proofs.Ytiefoahdikmilaa
open Go Go.RowKit Go.Sort
set_option linter.unusedVariables false
set_option linter.unusedSimpArgs false
set_option maxRecDepth 100000

theorem cwithin_self (m r : Int) (hr : 0 ≤ r) (hr' : r ≤ 18446744073709551615) (h : m = 0 ∨ r < m) : cwithin m r m r = true := by
  unfold cwithin chas
  by_cases h0 : m = 0
  · simp [h0, us_sg r hr hr']
  · have h1 : r % m = r := Int.emod_eq_of_lt hr (by omega)
    simp [h0, h1]
theorem cwithin_top (m r : Int) : cwithin m r 1 0 = true := by
  unfold cwithin chas
  by_cases h0 : m = 0
  · simp [h0]
  · simp [h0]

set_option maxHeartbeats 4000000 in
theorem congMakes_c (m n am ar bm br : Int) (w : World) (hm : 0 ≤ m) (hm' : m ≤ 18446744073709551615) (hn : -9223372036854775808 ≤ n) (hn' : n ≤ 9223372036854775807) (ha : 0 ≤ am) (ha' : am ≤ 18446744073709551615) (har : 0 ≤ ar) (har' : ar ≤ 18446744073709551615) (hb : 0 ≤ bm) (hb' : bm ≤ 18446744073709551615) (hbr : 0 ≤ br) (hbr' : br ≤ 18446744073709551615) :
    Calls Try.prog 4 #[.int .u64 m, .int .i64 n, .agg #[.int .u64 am, .int .u64 ar], .agg #[.int .u64 bm, .int .u64 br]] w fun e w' => e = .returned (.bool true) ∧ Below w.heap.size w w' := by
  have gc := grown_cell
  have heq := run_eql_cong
  have hneq := run_neq_cong
  have heqr := run_eql_rcong
  have hneqr := run_neq_rcong
  have T1 := fun W => Lib.hid (top_c W)
  have K1 := fun W => Lib.hid (const_c n W)
  have K2 := fun W => Lib.hid (ref_c 0 (us n) W)
  have K3 := fun W => k_two W (show ((0 : Int), cmake 0 n) = (0, us n) from rfl) (rmake_c 0 n W (by omega) (by omega) hn hn')
  have K4 := fun W => Lib.hid (make_c m n W hm hm' hn hn')
  have K5 := fun W => Lib.hid (ref_c m (cmake m n) W)
  have K6 := fun W => Lib.hid (rmake_c m n W hm hm' hn hn')
  have D0 := fun W => Lib.hid (right_c am ar W)
  have D1 := fun W => Lib.hid (ref_c am ar W)
  have D2 := fun W => Lib.hid (rright_c am ar W)
  have E1 := fun W => Lib.hid (ref_c bm br W)
  have E2 := fun W => Lib.hid (rright_c bm br W)
  have G1 := fun W => Lib.hid (has_c am ar n W ha ha' hn hn')
  have G2 := fun W => Lib.hid (rhas_c am ar n W ha ha' hn hn')
  have G3 := fun W => Lib.hid (within_c am ar bm br W ha ha' har har' hb hb')
  have G4 := fun W => Lib.hid (rwithin_c am ar bm br W ha ha' har har' hb hb')
  have G5 := fun W => Lib.hid (within_c am ar am ar W ha ha' har har' ha ha')
  have G6 := fun W => Lib.hid (within_c am ar 1 0 W ha ha' har har' (by omega) (by omega))
  have G7 := fun W => Lib.hid (works_c W)
  simp only [cwithin_top] at G6
  have HR : cright am ar = true → cwithin am ar am ar = true := fun h => cwithin_self am ar har har' (cright_of _ _ h)
  generalize us n = u at *
  generalize cmake m n = v at *
  generalize chas am ar n = hs at *
  generalize cwithin am ar bm br = wi at *
  cases hra : cright am ar
  · simp only [hra] at D0 D2
    clear hra HR
    go_enter Try.func4, Try.ntmps4
    go_wp2
    refine wp_all_below (by kernel_rfl) (by kernel_rfl) ?_; (repeat (go_big_quiet_step (first | with_reducible exact quietly (fun W => (T1 W).out) | with_reducible exact quietly (fun W => (K1 W).out) | with_reducible exact quietly (fun W => (K2 W).out) | with_reducible exact quietly (fun W => (K3 W).out) | with_reducible exact quietly (fun W => (K4 W).out) | with_reducible exact quietly (fun W => (K5 W).out) | with_reducible exact quietly (fun W => (K6 W).out) | with_reducible exact quietly (fun W => (D0 W).out) | with_reducible exact quietly (fun W => (D1 W).out) | with_reducible exact quietly (fun W => (D2 W).out)))); refine wpQuiet_nil ?_; intro w1 hBw1; obtain ⟨hcw1, hfw1⟩ := bcell hBw1; have hzw1 := hBw1.size; (try simp only [World.size_alloc, World.size_setCell, World.size_drew] at hzw1); have hlw1_0 : w.heap.size < w1.heap.size := (by omega); have hlw1_1 : w.heap.size + 1 < w1.heap.size := (by omega)
    go_wp2_with (first | (go_at_call 18; ((with_reducible refine ((D1 _).out).mono ?_); rintro e wa ⟨rfl, hBwa⟩; obtain ⟨hcwa, hfwa⟩ := bcell hBwa; have hzwa := hBwa.size; (try simp only [World.size_alloc, World.size_setCell, World.size_drew] at hzwa); have hlwa_0 : w.heap.size < wa.heap.size := (by omega); have hlwa_1 : w.heap.size + 1 < wa.heap.size := (by omega))) | (go_at_call 23; ((with_reducible refine ((D2 _).out).mono ?_); rintro e wb ⟨rfl, hBwb⟩; obtain ⟨hcwb, hfwb⟩ := bcell hBwb; have hzwb := hBwb.size; (try simp only [World.size_alloc, World.size_setCell, World.size_drew] at hzwb); have hlwb_0 : w.heap.size < wb.heap.size := (by omega); have hlwb_1 : w.heap.size + 1 < wb.heap.size := (by omega))) | (go_at_call 24; refine (works_c _).mono ?_; rintro e we ⟨rfl, hBwe⟩; obtain ⟨hcwe, hfwe⟩ := bcell hBwe; have hzwe := hBwe.size; (try simp only [World.size_alloc, World.size_setCell, World.size_drew] at hzwe); have hlwe_0 : w.heap.size < we.heap.size := (by omega); have hlwe_1 : w.heap.size + 1 < we.heap.size := (by omega)))
    go_ret
    exact ⟨rfl, by (repeat' (first | exact Below.refl _ _ | refine Below.setCell ?_ ?_ _ | refine Below.alloc ?_ ?_ _ | refine below_drewN ?_ _ | refine Below.trans ?_ (Below.mono (by assumption) ?_) | exact Nat.le_refl _ | omega | (simp only [World.size_alloc, World.size_setCell, World.size_drew] at *; omega)))⟩
  · have hself := HR hra
    simp only [hra] at D0 D2
    simp only [hself] at G5
    clear hra HR hself
    cases hrb : cright bm br
    · simp only [hrb] at E2
      clear hrb
      go_enter Try.func4, Try.ntmps4
      go_wp2
      refine wp_all_below (by kernel_rfl) (by kernel_rfl) ?_; (repeat (go_big_quiet_step (first | with_reducible exact quietly (fun W => (T1 W).out) | with_reducible exact quietly (fun W => (K1 W).out) | with_reducible exact quietly (fun W => (K2 W).out) | with_reducible exact quietly (fun W => (K3 W).out) | with_reducible exact quietly (fun W => (K4 W).out) | with_reducible exact quietly (fun W => (K5 W).out) | with_reducible exact quietly (fun W => (K6 W).out) | with_reducible exact quietly (fun W => (D0 W).out) | with_reducible exact quietly (fun W => (D1 W).out) | with_reducible exact quietly (fun W => (D2 W).out)))); refine wpQuiet_nil ?_; intro w1 hBw1; obtain ⟨hcw1, hfw1⟩ := bcell hBw1; have hzw1 := hBw1.size; (try simp only [World.size_alloc, World.size_setCell, World.size_drew] at hzw1); have hlw1_0 : w.heap.size < w1.heap.size := (by omega); have hlw1_1 : w.heap.size + 1 < w1.heap.size := (by omega)
      go_wp2_with (first | (go_at_call 18; first | ((with_reducible refine ((D1 _).out).mono ?_); rintro e wa ⟨rfl, hBwa⟩; obtain ⟨hcwa, hfwa⟩ := bcell hBwa; have hzwa := hBwa.size; (try simp only [World.size_alloc, World.size_setCell, World.size_drew] at hzwa); have hlwa_0 : w.heap.size < wa.heap.size := (by omega); have hlwa_1 : w.heap.size + 1 < wa.heap.size := (by omega)) | ((with_reducible refine ((E1 _).out).mono ?_); rintro e wc ⟨rfl, hBwc⟩; obtain ⟨hcwc, hfwc⟩ := bcell hBwc; have hzwc := hBwc.size; (try simp only [World.size_alloc, World.size_setCell, World.size_drew] at hzwc); have hlwc_0 : w.heap.size < wc.heap.size := (by omega); have hlwc_1 : w.heap.size + 1 < wc.heap.size := (by omega))) | (go_at_call 23; first | ((with_reducible refine ((D2 _).out).mono ?_); rintro e wb ⟨rfl, hBwb⟩; obtain ⟨hcwb, hfwb⟩ := bcell hBwb; have hzwb := hBwb.size; (try simp only [World.size_alloc, World.size_setCell, World.size_drew] at hzwb); have hlwb_0 : w.heap.size < wb.heap.size := (by omega); have hlwb_1 : w.heap.size + 1 < wb.heap.size := (by omega)) | ((with_reducible refine ((E2 _).out).mono ?_); rintro e wd ⟨rfl, hBwd⟩; obtain ⟨hcwd, hfwd⟩ := bcell hBwd; have hzwd := hBwd.size; (try simp only [World.size_alloc, World.size_setCell, World.size_drew] at hzwd); have hlwd_0 : w.heap.size < wd.heap.size := (by omega); have hlwd_1 : w.heap.size + 1 < wd.heap.size := (by omega))) | (go_at_call 24; refine (works_c _).mono ?_; rintro e we ⟨rfl, hBwe⟩; obtain ⟨hcwe, hfwe⟩ := bcell hBwe; have hzwe := hBwe.size; (try simp only [World.size_alloc, World.size_setCell, World.size_drew] at hzwe); have hlwe_0 : w.heap.size < we.heap.size := (by omega); have hlwe_1 : w.heap.size + 1 < we.heap.size := (by omega)))
      go_ret
      exact ⟨rfl, by (repeat' (first | exact Below.refl _ _ | refine Below.setCell ?_ ?_ _ | refine Below.alloc ?_ ?_ _ | refine below_drewN ?_ _ | refine Below.trans ?_ (Below.mono (by assumption) ?_) | exact Nat.le_refl _ | omega | (simp only [World.size_alloc, World.size_setCell, World.size_drew] at *; omega)))⟩
    · simp only [hrb] at E2
      clear hrb
      go_enter Try.func4, Try.ntmps4
      go_wp2
      refine wp_all_below (by kernel_rfl) (by kernel_rfl) ?_; (repeat (go_big_quiet_step (first | with_reducible exact quietly (fun W => (T1 W).out) | with_reducible exact quietly (fun W => (K1 W).out) | with_reducible exact quietly (fun W => (K2 W).out) | with_reducible exact quietly (fun W => (K3 W).out) | with_reducible exact quietly (fun W => (K4 W).out) | with_reducible exact quietly (fun W => (K5 W).out) | with_reducible exact quietly (fun W => (K6 W).out) | with_reducible exact quietly (fun W => (D0 W).out) | with_reducible exact quietly (fun W => (D1 W).out) | with_reducible exact quietly (fun W => (D2 W).out)))); refine wpQuiet_nil ?_; intro w1 hBw1; obtain ⟨hcw1, hfw1⟩ := bcell hBw1; have hzw1 := hBw1.size; (try simp only [World.size_alloc, World.size_setCell, World.size_drew] at hzw1); have hlw1_0 : w.heap.size < w1.heap.size := (by omega); have hlw1_1 : w.heap.size + 1 < w1.heap.size := (by omega)
      go_wp2_with (first | (go_at_call 18; first | ((with_reducible refine ((D1 _).out).mono ?_); rintro e wa ⟨rfl, hBwa⟩; obtain ⟨hcwa, hfwa⟩ := bcell hBwa; have hzwa := hBwa.size; (try simp only [World.size_alloc, World.size_setCell, World.size_drew] at hzwa); have hlwa_0 : w.heap.size < wa.heap.size := (by omega); have hlwa_1 : w.heap.size + 1 < wa.heap.size := (by omega)) | ((with_reducible refine ((E1 _).out).mono ?_); rintro e wc ⟨rfl, hBwc⟩; obtain ⟨hcwc, hfwc⟩ := bcell hBwc; have hzwc := hBwc.size; (try simp only [World.size_alloc, World.size_setCell, World.size_drew] at hzwc); have hlwc_0 : w.heap.size < wc.heap.size := (by omega); have hlwc_1 : w.heap.size + 1 < wc.heap.size := (by omega))) | (go_at_call 23; first | ((with_reducible refine ((D2 _).out).mono ?_); rintro e wb ⟨rfl, hBwb⟩; obtain ⟨hcwb, hfwb⟩ := bcell hBwb; have hzwb := hBwb.size; (try simp only [World.size_alloc, World.size_setCell, World.size_drew] at hzwb); have hlwb_0 : w.heap.size < wb.heap.size := (by omega); have hlwb_1 : w.heap.size + 1 < wb.heap.size := (by omega)) | ((with_reducible refine ((E2 _).out).mono ?_); rintro e wd ⟨rfl, hBwd⟩; obtain ⟨hcwd, hfwd⟩ := bcell hBwd; have hzwd := hBwd.size; (try simp only [World.size_alloc, World.size_setCell, World.size_drew] at hzwd); have hlwd_0 : w.heap.size < wd.heap.size := (by omega); have hlwd_1 : w.heap.size + 1 < wd.heap.size := (by omega))) | (go_at_call 24; refine (works_c _).mono ?_; rintro e we ⟨rfl, hBwe⟩; obtain ⟨hcwe, hfwe⟩ := bcell hBwe; have hzwe := hBwe.size; (try simp only [World.size_alloc, World.size_setCell, World.size_drew] at hzwe); have hlwe_0 : w.heap.size < we.heap.size := (by omega); have hlwe_1 : w.heap.size + 1 < we.heap.size := (by omega)))
      refine wp_all_below (by kernel_rfl) (by kernel_rfl) ?_; (repeat (go_big_quiet_step (first | with_reducible exact quietly (fun W => (T1 W).out) | with_reducible exact quietly (fun W => (D1 W).out) | with_reducible exact quietly (fun W => (E1 W).out) | with_reducible exact quietly (fun W => (G1 W).out) | with_reducible exact quietly (fun W => (G2 W).out) | with_reducible exact quietly (fun W => (G3 W).out) | with_reducible exact quietly (fun W => (G4 W).out) | with_reducible exact quietly (fun W => (G5 W).out) | with_reducible exact quietly (fun W => (G6 W).out) | with_reducible exact quietly (fun W => (G7 W).out)))); refine wpQuiet_nil ?_; intro w2 hBw2; obtain ⟨hcw2, hfw2⟩ := bcell hBw2; have hzw2 := hBw2.size; (try simp only [World.size_alloc, World.size_setCell, World.size_drew] at hzw2); have hlw2_0 : w.heap.size < w2.heap.size := (by omega); have hlw2_1 : w.heap.size + 1 < w2.heap.size := (by omega)
      go_wp2
      go_ret
      exact ⟨rfl, by (repeat' (first | exact Below.refl _ _ | refine Below.setCell ?_ ?_ _ | refine Below.alloc ?_ ?_ _ | refine below_drewN ?_ _ | refine Below.trans ?_ (Below.mono (by assumption) ?_) | exact Nat.le_refl _ | omega | (simp only [World.size_alloc, World.size_setCell, World.size_drew] at *; omega)))⟩

end Go.Proofs.Ytiefoahdikmilaa
