/- Contracts of the reference: products. -/
import Derived.Test.YtcemohoigdninaaGreatDoorR2
import Derived.Test.YtcemohoigdninaaGreatDoorC6
namespace Go.Proofs.YtcemohoigdninaaGreatDoor
open Go Go.RowKit Go.Sort
set_option linter.unusedVariables false
set_option linter.unusedSimpArgs false
set_option maxRecDepth 100000

/-- a product, if it is below 2^64 -/
def cfits (a b : Int) : Int × Bool := if a * b ≤ 18446744073709551615 then (a * b, true) else (0, false)

set_option maxHeartbeats 400000 in
theorem rfits_c (a b : Int) (w : World) (ha : 0 < a) (ha' : a ≤ 18446744073709551615) (hb : 0 ≤ b) (hb' : b ≤ 18446744073709551615) :
    Calls Tryz.prog 221 #[.int .u64 a, .int .u64 b] w fun e w' => e = .returned (.tuple #[.int .u64 (cfits a b).1, .bool (cfits a b).2]) ∧ Below w.heap.size w w' := by
  have hq : 18446744073709551615 / a < b ↔ ¬ a * b ≤ 18446744073709551615 := by
    rw [Int.ediv_lt_iff_lt_mul ha, Int.mul_comm]; omega
  have hq0 : 0 ≤ 18446744073709551615 / a := Int.ediv_nonneg (by omega) (by omega)
  have hq1 : 18446744073709551615 / a ≤ 18446744073709551615 := Int.ediv_le_self _ (by omega)
  have hm0 := Int.mul_nonneg (show 0 ≤ a by omega) hb
  have han : a ≠ 0 := by omega
  by_cases h : a * b ≤ 18446744073709551615
  · have Hc := Lib.hid (show cfits a b = (a * b, true) from by unfold cfits; rw [if_pos h])
    have h2 : ¬ 18446744073709551615 / a < b := by rw [hq]; omega
    have e1 : IntKind.u64.wrap (a * b) = a * b := by rw [us_eq]; exact us_in _ hm0 h
    clear hq
    generalize hqq : 18446744073709551615 / a = q at *
    go_enter Tryz.func221, Tryz.ntmps221
    go_wp2
    go_ret2
    exact ⟨tup2 (by rw [Hc.out]; first | rfl | exact congrArg (Value.int .u64) e1) (by rw [Hc.out]; rfl), by (repeat' (first | exact Below.refl _ _ | refine Below.setCell ?_ ?_ _ | refine Below.alloc ?_ ?_ _ | refine below_drewN ?_ _ | refine Below.trans ?_ (Below.mono (by assumption) ?_) | exact Nat.le_refl _ | omega | (simp only [World.size_alloc, World.size_setCell, World.size_drew] at *; omega)))⟩
  · have Hc := Lib.hid (show cfits a b = (0, false) from by unfold cfits; rw [if_neg h])
    have h2 : 18446744073709551615 / a < b := by rw [hq]; omega
    clear hq
    generalize hqq : 18446744073709551615 / a = q at *
    go_enter Tryz.func221, Tryz.ntmps221
    go_wp2
    go_ret2
    exact ⟨tup2 (by rw [Hc.out]; rfl) (by rw [Hc.out]; rfl), by (repeat' (first | exact Below.refl _ _ | refine Below.setCell ?_ ?_ _ | refine Below.alloc ?_ ?_ _ | refine below_drewN ?_ _ | refine Below.trans ?_ (Below.mono (by assumption) ?_) | exact Nat.le_refl _ | omega | (simp only [World.size_alloc, World.size_setCell, World.size_drew] at *; omega)))⟩

theorem times_odd (o a b m : Int) (hb : b % 2 = 1) : ((o + a) % m + (a + a) % m * (b / 2)) % m = (o + a * b) % m := by
  have e : a * b = a + (a + a) * (b / 2) := by
    have h : b = 1 + 2 * (b / 2) := by omega
    rw [Int.add_mul a a, ← Int.mul_add]
    have h2 : a * b = a * (1 + 2 * (b / 2)) := by rw [← h]
    rw [h2, Int.mul_add, Int.mul_one, Int.two_mul]
  rw [e, ← Int.add_assoc, Int.add_emod, Int.emod_emod_of_dvd _ (Int.dvd_refl m), Int.mul_emod, Int.emod_emod_of_dvd _ (Int.dvd_refl m), ← Int.mul_emod, ← Int.add_emod]
theorem times_even (o a b m : Int) (hb : b % 2 = 0) : (o + (a + a) % m * (b / 2)) % m = (o + a * b) % m := by
  have e : a * b = (a + a) * (b / 2) := by
    have h : b = 2 * (b / 2) := by omega
    have h2 : a * b = a * (2 * (b / 2)) := by rw [← h]
    rw [h2, Int.add_mul a a, ← Int.mul_add, Int.two_mul]
  rw [e, Int.add_emod, Int.mul_emod, Int.emod_emod_of_dvd _ (Int.dvd_refl m), ← Int.mul_emod, ← Int.add_emod]

set_option maxHeartbeats 1000000 in
theorem rtimes_c (a b m : Int) (w : World) (ha : 0 ≤ a) (ha' : a < m) (hb : 0 ≤ b) (hb' : b ≤ 18446744073709551615) (hm : m ≤ 18446744073709551615) :
    Calls Tryz.prog 222 #[.int .u64 a, .int .u64 b, .int .u64 m] w fun e w' => e = .returned (.int .u64 (a * b % m)) ∧ Below w.heap.size w w' := by
  go_enter Tryz.func222, Tryz.ntmps222
  go_wp2
  go_loopw [0, 1, 7] (fun xa xb xo wr => ∃ p q o : Int, xa = .int .u64 p ∧ xb = .int .u64 q ∧ xo = .int .u64 o ∧ 0 ≤ p ∧ p < m ∧ 0 ≤ q ∧ q ≤ 18446744073709551615 ∧ 0 ≤ o ∧ o < m ∧ Hid ((o + p * q) % m = a * b % m) ∧ w = wr) (fun _ xb _ _ => (intOf xb).toNat)
  case atStart => exact ⟨a, b, 0, rfl, rfl, rfl, ha, ha', hb, hb', by omega, by omega, by show (0 + a * b) % m = _; rw [Int.zero_add], rfl⟩
  case round =>
    obtain ⟨p, q, o, rfl, rfl, rfl, hp, hp', hq, hq', ho, ho', H, rfl⟩ := hrel
    by_cases h0 : q = 0
    · subst h0
      have Hc := Lib.hid (show o = a * b % m from by have := H.out; rw [Int.mul_zero, Int.add_zero, Int.emod_eq_of_lt ho ho'] at this; exact this)
      clear H
      go_wp2
      go_ret
      exact ⟨ret_int Hc.out, by (repeat' (first | exact Below.refl _ _ | refine Below.setCell ?_ ?_ _ | refine Below.alloc ?_ ?_ _ | refine below_drewN ?_ _ | refine Below.trans ?_ (Below.mono (by assumption) ?_) | exact Nat.le_refl _ | omega | (simp only [World.size_alloc, World.size_setCell, World.size_drew] at *; omega)))⟩
    · have r1 := emod_rng (p + p) m (by omega)
      have r2 := emod_rng (o + p) m (by omega)
      have C1 := fun W => Lib.hid (rplus_c o p m W ho hp hp' ho' hm)
      have C2 := fun W => Lib.hid (rplus_c p p m W hp hp hp' hp' hm)
      have hq2 : 0 ≤ q / 2 ∧ q / 2 < q := by omega
      by_cases h1 : q % 2 = 1
      · have Hn := Lib.hid ((times_odd o p q m h1).trans H.out)
        have hm1 : (q % 2 == 1) = true := by simpa using h1
        clear H h1
        generalize (p + p) % m = x at *
        generalize (o + p) % m = y at *
        go_wp2_with (go_at_call 218; first | ((with_reducible refine ((C1 _).out).mono ?_); rintro e w1 ⟨rfl, rfl⟩) | ((with_reducible refine ((C2 _).out).mono ?_); rintro e w1 ⟨rfl, rfl⟩))
        go_roundw
        case rel => exact ⟨x, q / 2, y, rfl, rfl, rfl, r1.1, r1.2, by omega, by omega, r2.1, r2.2, Hn, trivial⟩
        case measure => simp [intOf]; omega
      · have Hn := Lib.hid ((times_even o p q m (by omega)).trans H.out)
        have hm1 : (q % 2 == 1) = false := by simpa using h1
        clear H h1
        generalize (p + p) % m = x at *
        go_wp2_with (go_at_call 218; first | ((with_reducible refine ((C1 _).out).mono ?_); rintro e w1 ⟨rfl, rfl⟩) | ((with_reducible refine ((C2 _).out).mono ?_); rintro e w1 ⟨rfl, rfl⟩))
        go_roundw
        case rel => exact ⟨x, q / 2, o, rfl, rfl, rfl, r1.1, r1.2, by omega, by omega, ho, ho', Hn, trivial⟩
        case measure => simp [intOf]; omega

set_option maxHeartbeats 1000000 in
theorem rscale_c (n m r : Int) (w : World) (hn : -9223372036854775808 ≤ n) (hn' : n ≤ 9223372036854775807) (hm : 0 < m) (hm' : m ≤ 18446744073709551615) (hr : 0 ≤ r) (hr' : r ≤ 18446744073709551615) :
    Calls Tryz.prog 220 #[.agg #[.int .u64 m, .int .u64 r], .int .i64 n] w fun e w' => e = .returned (.agg #[.int .u64 (cscale n m r).1, .int .u64 (cscale n m r).2]) ∧ Below w.heap.size w w' := by
  have gc := grown_cell
  by_cases h0 : n = 0
  · subst h0
    have Hc := Lib.hid (show cscale 0 m r = (0, 0) from by simp [cscale])
    go_enter Tryz.func220, Tryz.ntmps220
    go_wp2
    exact bodyPost_ret (v := .agg #[.int .u64 0, .int .u64 0]) (by simp [results, Tryz.results220, go_sem]) rfl ⟨by rw [Hc.out], by (repeat' (first | exact Below.refl _ _ | refine Below.setCell ?_ ?_ _ | refine Below.alloc ?_ ?_ _ | refine below_drewN ?_ _ | refine Below.trans ?_ (Below.mono (by assumption) ?_) | exact Nat.le_refl _ | omega | (simp only [World.size_alloc, World.size_setCell, World.size_drew] at *; omega)))⟩
  · have hn0 : (n == 0) = false := by simpa using h0
    have hs := cabs_rng h0
    have hs' : cabs n ≤ 9223372036854775808 := by unfold cabs; split <;> omega
    have hsn : (¬ n < 0 ∧ IntKind.u64.wrap n = cabs n) ∨ (n < 0 ∧ IntKind.u64.wrap (wrap64 (-n)) = cabs n) := by
      rw [sg_eq']
      simp only [us_eq]
      by_cases h : n < 0
      · right; refine ⟨h, ?_⟩; unfold cabs us sg; rw [if_pos h]; omega
      · left; refine ⟨h, ?_⟩; unfold cabs us; rw [if_neg h]; omega
    have hcm : m * cabs n = cabs n * m := Int.mul_comm _ _
    obtain ⟨M, ok, j, HM, HM0, Hok, Hc⟩ : ∃ (M : Int) (ok : Bool) (j : Int), cfits m (cabs n) = (if ok then M else j, ok) ∧ (0 < M ∧ M ≤ 18446744073709551615) ∧ (ok = false → M = m) ∧ cscale n m r = (M, n * r % M) := by
      have hp : 0 < cabs n * m := Int.mul_pos hs hm
      by_cases hc : cabs n * m ≤ 18446744073709551615
      · exact ⟨cabs n * m, true, 0, by simp [cfits, hcm, hc], by omega, by simp, by simp [cscale, h0, hc]⟩
      · exact ⟨m, false, 0, by simp [cfits, hcm, hc], by omega, by simp, by simp [cscale, h0, hc]⟩
    have C1 := fun W => Lib.hid (rfits_c m (cabs n) W hm hm' (by omega) (by omega))
    rw [HM] at C1
    have C2 := fun W => Lib.hid (rrest_c n M W hn hn' HM0.1 HM0.2)
    have r1 := emod_rng n M HM0.1
    have r2 := emod_rng r M HM0.1
    have C3 := fun W => Lib.hid (rtimes_c (n % M) (r % M) M W r1.1 r1.2 r2.1 (by omega) HM0.2)
    rw [← Int.mul_emod] at C3
    have Hc := Lib.hid Hc
    obtain ⟨hM0, hM1⟩ := HM0
    generalize n * r % M = z at *
    generalize n % M = x at *
    generalize cabs n = s at *
    have hMn : M ≠ 0 := by omega
    clear HM hcm
    cases ok
    · obtain rfl : M = m := Hok rfl
      simp only [Bool.false_eq_true, if_false] at C1
      clear Hok
      rcases hsn with ⟨hneg, e1⟩ | ⟨hneg, e1⟩
      all_goals
        go_enter Tryz.func220, Tryz.ntmps220
        go_wp2_with (go_at_call 221; refine ((C1 _).out).mono ?_; rintro e w1 ⟨rfl, hBw1⟩; obtain ⟨hcw1, hfw1⟩ := bcell hBw1; have hzw1 := hBw1.size; (try simp only [World.size_alloc, World.size_setCell, World.size_drew] at hzw1); have hlw1_0 : w.heap.size < w1.heap.size := (by omega); have hlw1_1 : w.heap.size + 1 < w1.heap.size := (by omega))
        refine wp_head_below 11 (by kernel_rfl) (by kernel_rfl) ?_; simp only [List.take_succ_cons, List.take_zero, List.drop_succ_cons, List.drop_zero]; (repeat (go_big_quiet_step (first | with_reducible exact quietly_same (fun W => (C2 W).out) | with_reducible exact quietly (fun W => (C3 W).out)))); refine wpQuiet_nil ?_; intro w2 hBw2; obtain ⟨hcw2, hfw2⟩ := bcell hBw2; have hzw2 := hBw2.size; (try simp only [World.size_alloc, World.size_setCell, World.size_drew] at hzw2); have hlw2_0 : w.heap.size < w2.heap.size := (by omega); have hlw2_1 : w.heap.size + 1 < w2.heap.size := (by omega)
        go_wp2
        exact bodyPost_ret (v := .agg #[.int .u64 M, .int .u64 z]) (by simp [results, Tryz.results220, go_sem, hcw1, hfw1, hlw1_0, hlw1_1, hcw2, hfw2, hlw2_0, hlw2_1]) rfl ⟨by rw [Hc.out], by (repeat' (first | exact Below.refl _ _ | refine Below.setCell ?_ ?_ _ | refine Below.alloc ?_ ?_ _ | refine below_drewN ?_ _ | refine Below.trans ?_ (Below.mono (by assumption) ?_) | exact Nat.le_refl _ | omega | (simp only [World.size_alloc, World.size_setCell, World.size_drew] at *; omega)))⟩
    · simp only [if_true] at C1
      clear Hok
      rcases hsn with ⟨hneg, e1⟩ | ⟨hneg, e1⟩
      all_goals
        go_enter Tryz.func220, Tryz.ntmps220
        go_wp2_with (go_at_call 221; refine ((C1 _).out).mono ?_; rintro e w1 ⟨rfl, hBw1⟩; obtain ⟨hcw1, hfw1⟩ := bcell hBw1; have hzw1 := hBw1.size; (try simp only [World.size_alloc, World.size_setCell, World.size_drew] at hzw1); have hlw1_0 : w.heap.size < w1.heap.size := (by omega); have hlw1_1 : w.heap.size + 1 < w1.heap.size := (by omega))
        refine wp_head_below 11 (by kernel_rfl) (by kernel_rfl) ?_; simp only [List.take_succ_cons, List.take_zero, List.drop_succ_cons, List.drop_zero]; (repeat (go_big_quiet_step (first | with_reducible exact quietly_same (fun W => (C2 W).out) | with_reducible exact quietly (fun W => (C3 W).out)))); refine wpQuiet_nil ?_; intro w2 hBw2; obtain ⟨hcw2, hfw2⟩ := bcell hBw2; have hzw2 := hBw2.size; (try simp only [World.size_alloc, World.size_setCell, World.size_drew] at hzw2); have hlw2_0 : w.heap.size < w2.heap.size := (by omega); have hlw2_1 : w.heap.size + 1 < w2.heap.size := (by omega)
        go_wp2
        exact bodyPost_ret (v := .agg #[.int .u64 M, .int .u64 z]) (by simp [results, Tryz.results220, go_sem, hcw1, hfw1, hlw1_0, hlw1_1, hcw2, hfw2, hlw2_0, hlw2_1]) rfl ⟨by rw [Hc.out], by (repeat' (first | exact Below.refl _ _ | refine Below.setCell ?_ ?_ _ | refine Below.alloc ?_ ?_ _ | refine below_drewN ?_ _ | refine Below.trans ?_ (Below.mono (by assumption) ?_) | exact Nat.le_refl _ | omega | (simp only [World.size_alloc, World.size_setCell, World.size_drew] at *; omega)))⟩

set_option maxHeartbeats 1000000 in
theorem rmul_c (am ar bm br : Int) (w : World) (ha : 0 ≤ am) (ha' : am ≤ 18446744073709551615) (har : 0 ≤ ar) (har' : ar ≤ 18446744073709551615) (hb : 0 ≤ bm) (hb' : bm ≤ 18446744073709551615) (hbr : 0 ≤ br) (hbr' : br ≤ 18446744073709551615) :
    Calls Tryz.prog 179 #[.agg #[.int .u64 am, .int .u64 ar], .agg #[.int .u64 bm, .int .u64 br]] w fun e w' => e = .returned (.agg #[.int .u64 (cmul am ar bm br).1, .int .u64 (cmul am ar bm br).2]) ∧ Below w.heap.size w w' := by
  have gc := grown_cell
  by_cases h : am = 0
  · subst h
    by_cases h2 : bm = 0
    · subst h2
      have Hc := Lib.hid (show cmul 0 ar 0 br = (0, us (ar * br)) from by simp [cmul])
      have e1 := us_eq (ar * br)
      generalize us (ar * br) = z at *
      go_enter Tryz.func179, Tryz.ntmps179
      go_wp2
      exact bodyPost_ret (v := .agg #[.int .u64 0, .int .u64 z]) (by simp [results, Tryz.results179, go_sem, e1]) rfl ⟨by rw [Hc.out], by (repeat' (first | exact Below.refl _ _ | refine Below.setCell ?_ ?_ _ | refine Below.alloc ?_ ?_ _ | refine below_drewN ?_ _ | refine Below.trans ?_ (Below.mono (by assumption) ?_) | exact Nat.le_refl _ | omega | (simp only [World.size_alloc, World.size_setCell, World.size_drew] at *; omega)))⟩
    · have hm2 : (bm == 0) = false := by simpa using h2
      have Hc := Lib.hid (show cmul 0 ar bm br = cscale (sg ar) bm br from by simp [cmul, h2])
      have r1 := sg_rng ar
      have e1 := sg_eq' ar
      generalize sg ar = x at *
      have C1 := fun W => Lib.hid (rscale_c x bm br W r1.1 r1.2 (by omega) hb' hbr hbr')
      generalize cscale x bm br = z at *
      clear h2
      go_enter Tryz.func179, Tryz.ntmps179
      go_wp2_with (go_at_call 220; refine ((C1 _).out).mono ?_; rintro e w1 ⟨rfl, hBw1⟩; obtain ⟨hcw1, hfw1⟩ := bcell hBw1; have hzw1 := hBw1.size; (try simp only [World.size_alloc, World.size_setCell, World.size_drew] at hzw1); have hlw1_0 : w.heap.size < w1.heap.size := (by omega); have hlw1_1 : w.heap.size + 1 < w1.heap.size := (by omega); have hlw1_2 : w.heap.size + 1 + 1 < w1.heap.size := (by omega))
      exact bodyPost_ret (v := .agg #[.int .u64 z.1, .int .u64 z.2]) (by simp [results, Tryz.results179, go_sem, hcw1, hfw1, hlw1_0, hlw1_1, hlw1_2]) rfl ⟨by rw [Hc.out], by (repeat' (first | exact Below.refl _ _ | refine Below.setCell ?_ ?_ _ | refine Below.alloc ?_ ?_ _ | refine below_drewN ?_ _ | refine Below.trans ?_ (Below.mono (by assumption) ?_) | exact Nat.le_refl _ | omega | (simp only [World.size_alloc, World.size_setCell, World.size_drew] at *; omega)))⟩
  · have hm1 : (am == 0) = false := by simpa using h
    by_cases h2 : bm = 0
    · subst h2
      have Hc := Lib.hid (show cmul am ar 0 br = cscale (sg br) am ar from by simp [cmul, h])
      have r1 := sg_rng br
      have e1 := sg_eq' br
      generalize sg br = x at *
      have C1 := fun W => Lib.hid (rscale_c x am ar W r1.1 r1.2 (by omega) ha' har har')
      generalize cscale x am ar = z at *
      clear h
      go_enter Tryz.func179, Tryz.ntmps179
      go_wp2_with (go_at_call 220; refine ((C1 _).out).mono ?_; rintro e w1 ⟨rfl, hBw1⟩; obtain ⟨hcw1, hfw1⟩ := bcell hBw1; have hzw1 := hBw1.size; (try simp only [World.size_alloc, World.size_setCell, World.size_drew] at hzw1); have hlw1_0 : w.heap.size < w1.heap.size := (by omega); have hlw1_1 : w.heap.size + 1 < w1.heap.size := (by omega); have hlw1_2 : w.heap.size + 1 + 1 < w1.heap.size := (by omega))
      exact bodyPost_ret (v := .agg #[.int .u64 z.1, .int .u64 z.2]) (by simp [results, Tryz.results179, go_sem, hcw1, hfw1, hlw1_0, hlw1_1, hlw1_2]) rfl ⟨by rw [Hc.out], by (repeat' (first | exact Below.refl _ _ | refine Below.setCell ?_ ?_ _ | refine Below.alloc ?_ ?_ _ | refine below_drewN ?_ _ | refine Below.trans ?_ (Below.mono (by assumption) ?_) | exact Nat.le_refl _ | omega | (simp only [World.size_alloc, World.size_setCell, World.size_drew] at *; omega)))⟩
    · have hm2 : (bm == 0) = false := by simpa using h2
      have hg := cg_pos (a := am) (b := bm) (by omega)
      have hgB : cg am bm ≤ 18446744073709551615 := cg_bd ha hb ha' hb'
      have hx := crest_rng am ar (cg am bm) hg
      have hy := crest_rng bm br (cg am bm) hg
      have hd1 := cg_pos (a := am) (b := ar) (by omega)
      have hd1B : cg am ar ≤ 18446744073709551615 := cg_bd ha har ha' har'
      have hd2 := cg_pos (a := bm) (b := br) (by omega)
      have hd2B : cg bm br ≤ 18446744073709551615 := cg_bd hb hbr hb' hbr'
      have hD := Int.mul_pos hd1 hd2
      have C1 := fun W => Lib.hid (rgcd_c am bm W ha ha' hb hb')
      have C2 := fun W => Lib.hid (rgcd_c am ar W ha ha' har har')
      have C3 := fun W => Lib.hid (rgcd_c bm br W hb hb' hbr hbr')
      have C4 := fun W => Lib.hid (rfits_c (cg am ar) (cg bm br) W (by omega) hd1B (by omega) hd2B)
      have C5 := fun W => Lib.hid (rof_c am ar (cg am bm) W ha ha' har har' hg hgB)
      have C6 := fun W => Lib.hid (rof_c bm br (cg am bm) W hb hb' hbr hbr' hg hgB)
      have C7 := fun W => Lib.hid (rtimes_c _ _ (cg am bm) W hx.1 hx.2 hy.1 (by omega) hgB)
      by_cases h3 : cg am ar * cg bm br ≤ 18446744073709551615 ∧ cg am bm < cg am ar * cg bm br
      · have Hc := Lib.hid (show cmul am ar bm br = (cg am ar * cg bm br, 0) from by simp only [cmul, h, h2, if_false, if_pos h3])
        have hs : cfits (cg am ar) (cg bm br) = (cg am ar * cg bm br, true) := by simp [cfits, h3.1]
        rw [hs] at C4
        generalize cg am ar * cg bm br = d at *
        generalize cg am bm = g at *
        generalize cg am ar = p at *
        generalize cg bm br = q at *
        clear h h2 hs C5 C6 C7
        obtain ⟨h3a, h3b⟩ := h3
        go_enter Tryz.func179, Tryz.ntmps179
        go_wp2_with (go_at_call 196; refine ((C1 _).out).mono ?_; rintro e w1 ⟨rfl, rfl⟩)
        refine wp_all_below (by kernel_rfl) (by kernel_rfl) ?_; (repeat (go_big_quiet_step (first | with_reducible exact quietly_same (fun W => (C2 W).out) | with_reducible exact quietly_same (fun W => (C3 W).out) | with_reducible exact quietly (fun W => (C4 W).out)))); refine wpQuiet_nil ?_; intro w2 hBw2; obtain ⟨hcw2, hfw2⟩ := bcell hBw2; have hzw2 := hBw2.size; (try simp only [World.size_alloc, World.size_setCell, World.size_drew] at hzw2); have hlw2_0 : w.heap.size < w2.heap.size := (by omega); have hlw2_1 : w.heap.size + 1 < w2.heap.size := (by omega); have hlw2_2 : w.heap.size + 1 + 1 < w2.heap.size := (by omega)
        go_wp2
        exact bodyPost_ret (v := .agg #[.int .u64 d, .int .u64 0]) (by simp [results, Tryz.results179, go_sem, hcw2, hfw2, hlw2_0, hlw2_1, hlw2_2]) rfl ⟨by rw [Hc.out], by (repeat' (first | exact Below.refl _ _ | refine Below.setCell ?_ ?_ _ | refine Below.alloc ?_ ?_ _ | refine below_drewN ?_ _ | refine Below.trans ?_ (Below.mono (by assumption) ?_) | exact Nat.le_refl _ | omega | (simp only [World.size_alloc, World.size_setCell, World.size_drew] at *; omega)))⟩
      · have Hc := Lib.hid (show cmul am ar bm br = (cg am bm, crest am ar (cg am bm) * crest bm br (cg am bm) % cg am bm) from by simp only [cmul, h, h2, if_false, if_neg h3])
        obtain ⟨d, ok, hs, hd⟩ : ∃ (d : Int) (ok : Bool), cfits (cg am ar) (cg bm br) = (d, ok) ∧ (ok = false ∨ ok = true ∧ d ≤ cg am bm) := by
          by_cases h4 : cg am ar * cg bm br ≤ 18446744073709551615
          · exact ⟨cg am ar * cg bm br, true, by simp [cfits, h4], Or.inr ⟨rfl, by omega⟩⟩
          · exact ⟨0, false, by simp [cfits, h4], Or.inl rfl⟩
        rw [hs] at C4
        generalize crest am ar (cg am bm) = x at *
        generalize crest bm br (cg am bm) = y at *
        generalize x * y % cg am bm = z at *
        generalize cg am bm = g at *
        generalize cg am ar = p at *
        generalize cg bm br = q at *
        clear h h2 hs h3 hD
        rcases hd with rfl | ⟨rfl, hd⟩
        all_goals
          go_enter Tryz.func179, Tryz.ntmps179
          go_wp2_with (go_at_call 196; refine ((C1 _).out).mono ?_; rintro e w1 ⟨rfl, rfl⟩)
          refine wp_all_below (by kernel_rfl) (by kernel_rfl) ?_; (repeat (go_big_quiet_step (first | with_reducible exact quietly_same (fun W => (C2 W).out) | with_reducible exact quietly_same (fun W => (C3 W).out) | with_reducible exact quietly (fun W => (C4 W).out)))); refine wpQuiet_nil ?_; intro w2 hBw2; obtain ⟨hcw2, hfw2⟩ := bcell hBw2; have hzw2 := hBw2.size; (try simp only [World.size_alloc, World.size_setCell, World.size_drew] at hzw2); have hlw2_0 : w.heap.size < w2.heap.size := (by omega); have hlw2_1 : w.heap.size + 1 < w2.heap.size := (by omega); have hlw2_2 : w.heap.size + 1 + 1 < w2.heap.size := (by omega)
          go_wp2
          refine wp_head_below 10 (by kernel_rfl) (by kernel_rfl) ?_; simp only [List.take_succ_cons, List.take_zero, List.drop_succ_cons, List.drop_zero]; (repeat (go_big_quiet_step (first | with_reducible exact quietly (fun W => (C5 W).out) | with_reducible exact quietly (fun W => (C6 W).out) | with_reducible exact quietly (fun W => (C7 W).out)))); refine wpQuiet_nil ?_; intro w3 hBw3; obtain ⟨hcw3, hfw3⟩ := bcell hBw3; have hzw3 := hBw3.size; (try simp only [World.size_alloc, World.size_setCell, World.size_drew] at hzw3); have hlw3_0 : w.heap.size < w3.heap.size := (by omega); have hlw3_1 : w.heap.size + 1 < w3.heap.size := (by omega); have hlw3_2 : w.heap.size + 1 + 1 < w3.heap.size := (by omega)
          go_wp2
          exact bodyPost_ret (v := .agg #[.int .u64 g, .int .u64 z]) (by simp [results, Tryz.results179, go_sem, hcw2, hfw2, hlw2_0, hlw2_1, hlw2_2, hcw3, hfw3, hlw3_0, hlw3_1, hlw3_2]) rfl ⟨by rw [Hc.out], by (repeat' (first | exact Below.refl _ _ | refine Below.setCell ?_ ?_ _ | refine Below.alloc ?_ ?_ _ | refine below_drewN ?_ _ | refine Below.trans ?_ (Below.mono (by assumption) ?_) | exact Nat.le_refl _ | omega | (simp only [World.size_alloc, World.size_setCell, World.size_drew] at *; omega)))⟩

end Go.Proofs.YtcemohoigdninaaGreatDoor
