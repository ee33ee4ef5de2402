/- Contracts of the reference: products. -/
import Derived.Test.YtljhbdgoknfkcaaGreatDoorR1
import Derived.Test.YtljhbdgoknfkcaaGreatDoorC6
namespace Go.Proofs.YtljhbdgoknfkcaaGreatDoor
open Go Go.RowKit Go.Sort
set_option linter.unusedVariables false
set_option linter.unusedSimpArgs false
set_option maxRecDepth 100000

/-- a product, if it is below 2^64 -/
def cfits (a b : Int) : Int × Bool := if a * b ≤ 18446744073709551615 then (a * b, true) else (0, false)

set_option maxHeartbeats 400000 in
theorem rfits_c (a b : Int) (w : World) (ha : 0 < a) (ha' : a ≤ 18446744073709551615) (hb : 0 ≤ b) (hb' : b ≤ 18446744073709551615) :
    Calls Tryz.prog 238 #[.int .u64 a, .int .u64 b] w fun e w' => e = .returned (.tuple #[.int .u64 (cfits a b).1, .bool (cfits a b).2]) ∧ Below w.heap.size w w' := by
  have hq : 18446744073709551615 / a < b ↔ ¬ a * b ≤ 18446744073709551615 := by
    rw [Int.ediv_lt_iff_lt_mul ha, Int.mul_comm]; omega
  have hq0 : 0 ≤ 18446744073709551615 / a := Int.ediv_nonneg (by omega) (by omega)
  have hq1 : 18446744073709551615 / a ≤ 18446744073709551615 := Int.ediv_le_self _ (by omega)
  have hm0 := Int.mul_nonneg (show 0 ≤ a by omega) hb
  have han : a ≠ 0 := by omega
  by_cases h : a * b ≤ 18446744073709551615
  · have Hc := Lib.hid (show cfits a b = (a * b, true) from by unfold cfits; rw [if_pos h])
    have h2 : ¬ 18446744073709551615 / a < b := by rw [hq]; omega
    have e1 : IntKind.u64.wrap (a * b) = a * b := by rw [us_eq]; exact us_in _ hm0 h
    clear hq
    generalize hqq : 18446744073709551615 / a = q at *
    go_enter Tryz.func238, Tryz.ntmps238
    go_wp2
    go_ret2
    exact ⟨tup2 (by rw [Hc.out]; first | rfl | exact congrArg (Value.int .u64) e1) (by rw [Hc.out]; rfl), by (repeat' (first | exact Below.refl _ _ | refine Below.setCell ?_ ?_ _ | refine Below.alloc ?_ ?_ _ | refine below_drewN ?_ _ | refine Below.trans ?_ (Below.mono (by assumption) ?_) | exact Nat.le_refl _ | omega | (simp only [World.size_alloc, World.size_setCell, World.size_drew] at *; omega)))⟩
  · have Hc := Lib.hid (show cfits a b = (0, false) from by unfold cfits; rw [if_neg h])
    have h2 : 18446744073709551615 / a < b := by rw [hq]; omega
    clear hq
    generalize hqq : 18446744073709551615 / a = q at *
    go_enter Tryz.func238, Tryz.ntmps238
    go_wp2
    go_ret2
    exact ⟨tup2 (by rw [Hc.out]; rfl) (by rw [Hc.out]; rfl), by (repeat' (first | exact Below.refl _ _ | refine Below.setCell ?_ ?_ _ | refine Below.alloc ?_ ?_ _ | refine below_drewN ?_ _ | refine Below.trans ?_ (Below.mono (by assumption) ?_) | exact Nat.le_refl _ | omega | (simp only [World.size_alloc, World.size_setCell, World.size_drew] at *; omega)))⟩

theorem times_odd (o a b m : Int) (hb : b % 2 = 1) : ((o + a) % m + (a + a) % m * (b / 2)) % m = (o + a * b) % m := by
  have e : a * b = a + (a + a) * (b / 2) := by
    have h : b = 1 + 2 * (b / 2) := by omega
    rw [Int.add_mul a a, ← Int.mul_add]
    have h2 : a * b = a * (1 + 2 * (b / 2)) := by rw [← h]
    rw [h2, Int.mul_add, Int.mul_one, Int.two_mul]
  rw [e, ← Int.add_assoc, Int.add_emod, Int.emod_emod_of_dvd _ (Int.dvd_refl m), Int.mul_emod, Int.emod_emod_of_dvd _ (Int.dvd_refl m), ← Int.mul_emod, ← Int.add_emod]
theorem times_even (o a b m : Int) (hb : b % 2 = 0) : (o + (a + a) % m * (b / 2)) % m = (o + a * b) % m := by
  have e : a * b = (a + a) * (b / 2) := by
    have h : b = 2 * (b / 2) := by omega
    have h2 : a * b = a * (2 * (b / 2)) := by rw [← h]
    rw [h2, Int.add_mul a a, ← Int.mul_add, Int.two_mul]
  rw [e, Int.add_emod, Int.mul_emod, Int.emod_emod_of_dvd _ (Int.dvd_refl m), ← Int.mul_emod, ← Int.add_emod]

set_option maxHeartbeats 1000000 in
theorem rtimes_c (a b m : Int) (w : World) (ha : 0 ≤ a) (ha' : a < m) (hb : 0 ≤ b) (hb' : b ≤ 18446744073709551615) (hm : m ≤ 18446744073709551615) :
    Calls Tryz.prog 239 #[.int .u64 a, .int .u64 b, .int .u64 m] w fun e w' => e = .returned (.int .u64 (a * b % m)) ∧ Below w.heap.size w w' := by
  go_enter Tryz.func239, Tryz.ntmps239
  go_wp2
  go_loopw [0, 1, 7] (fun xa xb xo wr => ∃ p q o : Int, xa = .int .u64 p ∧ xb = .int .u64 q ∧ xo = .int .u64 o ∧ 0 ≤ p ∧ p < m ∧ 0 ≤ q ∧ q ≤ 18446744073709551615 ∧ 0 ≤ o ∧ o < m ∧ Hid ((o + p * q) % m = a * b % m) ∧ w = wr) (fun _ xb _ _ => (intOf xb).toNat)
  case atStart => exact ⟨a, b, 0, rfl, rfl, rfl, ha, ha', hb, hb', by omega, by omega, by show (0 + a * b) % m = _; rw [Int.zero_add], rfl⟩
  case round =>
    obtain ⟨p, q, o, rfl, rfl, rfl, hp, hp', hq, hq', ho, ho', H, rfl⟩ := hrel
    by_cases h0 : q = 0
    · subst h0
      have Hc := Lib.hid (show o = a * b % m from by have := H.out; rw [Int.mul_zero, Int.add_zero, Int.emod_eq_of_lt ho ho'] at this; exact this)
      clear H
      go_wp2
      go_ret
      exact ⟨ret_int Hc.out, by (repeat' (first | exact Below.refl _ _ | refine Below.setCell ?_ ?_ _ | refine Below.alloc ?_ ?_ _ | refine below_drewN ?_ _ | refine Below.trans ?_ (Below.mono (by assumption) ?_) | exact Nat.le_refl _ | omega | (simp only [World.size_alloc, World.size_setCell, World.size_drew] at *; omega)))⟩
    · have r1 := emod_rng (p + p) m (by omega)
      have r2 := emod_rng (o + p) m (by omega)
      have C1 := fun W => Lib.hid (rplus_c o p m W ho hp hp' ho' hm)
      have C2 := fun W => Lib.hid (rplus_c p p m W hp hp hp' hp' hm)
      have hq2 : 0 ≤ q / 2 ∧ q / 2 < q := by omega
      by_cases h1 : q % 2 = 1
      · have Hn := Lib.hid ((times_odd o p q m h1).trans H.out)
        have hm1 : (q % 2 == 1) = true := by simpa using h1
        clear H h1
        generalize (p + p) % m = x at *
        generalize (o + p) % m = y at *
        go_wp2_with (go_at_call 236; first | ((with_reducible refine ((C1 _).out).mono ?_); rintro e w1 ⟨rfl, rfl⟩) | ((with_reducible refine ((C2 _).out).mono ?_); rintro e w1 ⟨rfl, rfl⟩))
        go_roundw
        case rel => exact ⟨x, q / 2, y, rfl, rfl, rfl, r1.1, r1.2, by omega, by omega, r2.1, r2.2, Hn, trivial⟩
        case measure => simp [intOf]; omega
      · have Hn := Lib.hid ((times_even o p q m (by omega)).trans H.out)
        have hm1 : (q % 2 == 1) = false := by simpa using h1
        clear H h1
        generalize (p + p) % m = x at *
        go_wp2_with (go_at_call 236; first | ((with_reducible refine ((C1 _).out).mono ?_); rintro e w1 ⟨rfl, rfl⟩) | ((with_reducible refine ((C2 _).out).mono ?_); rintro e w1 ⟨rfl, rfl⟩))
        go_roundw
        case rel => exact ⟨x, q / 2, o, rfl, rfl, rfl, r1.1, r1.2, by omega, by omega, ho, ho', Hn, trivial⟩
        case measure => simp [intOf]; omega

set_option maxHeartbeats 1000000 in
theorem rscale_c (n m r : Int) (w : World) (hn : -9223372036854775808 ≤ n) (hn' : n ≤ 9223372036854775807) (hm : 0 < m) (hm' : m ≤ 18446744073709551615) (hr : 0 ≤ r) (hr' : r ≤ 18446744073709551615) :
    Calls Tryz.prog 237 #[.agg #[.int .u64 m, .int .u64 r], .int .i64 n] w fun e w' => e = .returned (.agg #[.int .u64 (cscale n m r).1, .int .u64 (cscale n m r).2]) ∧ Below w.heap.size w w' := by
  have gc := grown_cell
  by_cases h0 : n = 0
  · subst h0
    have Hc := Lib.hid (show cscale 0 m r = (0, 0) from by simp [cscale])
    go_enter Tryz.func237, Tryz.ntmps237
    go_wp2
    exact bodyPost_ret (v := .agg #[.int .u64 0, .int .u64 0]) (by simp [results, Tryz.results237, go_sem]) rfl ⟨by rw [Hc.out], by (repeat' (first | exact Below.refl _ _ | refine Below.setCell ?_ ?_ _ | refine Below.alloc ?_ ?_ _ | refine below_drewN ?_ _ | refine Below.trans ?_ (Below.mono (by assumption) ?_) | exact Nat.le_refl _ | omega | (simp only [World.size_alloc, World.size_setCell, World.size_drew] at *; omega)))⟩
  · have hn0 : (n == 0) = false := by simpa using h0
    have hs := cabs_rng h0
    have hs' : cabs n ≤ 9223372036854775808 := by unfold cabs; split <;> omega
    have hsn : (¬ n < 0 ∧ IntKind.u64.wrap n = cabs n) ∨ (n < 0 ∧ IntKind.u64.wrap (wrap64 (-n)) = cabs n) := by
      rw [sg_eq']
      simp only [us_eq]
      by_cases h : n < 0
      · right; refine ⟨h, ?_⟩; unfold cabs us sg; rw [if_pos h]; omega
      · left; refine ⟨h, ?_⟩; unfold cabs us; rw [if_neg h]; omega
    have hcm : m * cabs n = cabs n * m := Int.mul_comm _ _
    obtain ⟨M, ok, j, HM, HM0, Hok, Hc⟩ : ∃ (M : Int) (ok : Bool) (j : Int), cfits m (cabs n) = (if ok then M else j, ok) ∧ (0 < M ∧ M ≤ 18446744073709551615) ∧ (ok = false → M = m) ∧ cscale n m r = (M, n * r % M) := by
      have hp : 0 < cabs n * m := Int.mul_pos hs hm
      by_cases hc : cabs n * m ≤ 18446744073709551615
      · exact ⟨cabs n * m, true, 0, by simp [cfits, hcm, hc], by omega, by simp, by simp [cscale, h0, hc]⟩
      · exact ⟨m, false, 0, by simp [cfits, hcm, hc], by omega, by simp, by simp [cscale, h0, hc]⟩
    have C1 := fun W => Lib.hid (rfits_c m (cabs n) W hm hm' (by omega) (by omega))
    rw [HM] at C1
    have C2 := fun W => Lib.hid (rrest_c n M W hn hn' HM0.1 HM0.2)
    have r1 := emod_rng n M HM0.1
    have r2 := emod_rng r M HM0.1
    have C3 := fun W => Lib.hid (rtimes_c (n % M) (r % M) M W r1.1 r1.2 r2.1 (by omega) HM0.2)
    rw [← Int.mul_emod] at C3
    have Hc := Lib.hid Hc
    obtain ⟨hM0, hM1⟩ := HM0
    generalize n * r % M = z at *
    generalize n % M = x at *
    generalize cabs n = s at *
    have hMn : M ≠ 0 := by omega
    clear HM hcm
    cases ok
    · obtain rfl : M = m := Hok rfl
      simp only [Bool.false_eq_true, if_false] at C1
      clear Hok
      rcases hsn with ⟨hneg, e1⟩ | ⟨hneg, e1⟩
      all_goals
        go_enter Tryz.func237, Tryz.ntmps237
        go_wp2_with (go_at_call 238; refine ((C1 _).out).mono ?_; rintro e w1 ⟨rfl, hBw1⟩; obtain ⟨hcw1, hfw1⟩ := bcell hBw1; have hzw1 := hBw1.size; (try simp only [World.size_alloc, World.size_setCell, World.size_drew] at hzw1); have hlw1_0 : w.heap.size < w1.heap.size := (by omega); have hlw1_1 : w.heap.size + 1 < w1.heap.size := (by omega))
        refine wp_head_below 11 (by kernel_rfl) (by kernel_rfl) ?_; simp only [List.take_succ_cons, List.take_zero, List.drop_succ_cons, List.drop_zero]; (repeat (go_big_quiet_step (first | with_reducible exact quietly_same (fun W => (C2 W).out) | with_reducible exact quietly (fun W => (C3 W).out)))); refine wpQuiet_nil ?_; intro w2 hBw2; obtain ⟨hcw2, hfw2⟩ := bcell hBw2; have hzw2 := hBw2.size; (try simp only [World.size_alloc, World.size_setCell, World.size_drew] at hzw2); have hlw2_0 : w.heap.size < w2.heap.size := (by omega); have hlw2_1 : w.heap.size + 1 < w2.heap.size := (by omega)
        go_wp2
        exact bodyPost_ret (v := .agg #[.int .u64 M, .int .u64 z]) (by simp [results, Tryz.results237, go_sem, hcw1, hfw1, hlw1_0, hlw1_1, hcw2, hfw2, hlw2_0, hlw2_1]) rfl ⟨by rw [Hc.out], by (repeat' (first | exact Below.refl _ _ | refine Below.setCell ?_ ?_ _ | refine Below.alloc ?_ ?_ _ | refine below_drewN ?_ _ | refine Below.trans ?_ (Below.mono (by assumption) ?_) | exact Nat.le_refl _ | omega | (simp only [World.size_alloc, World.size_setCell, World.size_drew] at *; omega)))⟩
    · simp only [if_true] at C1
      clear Hok
      rcases hsn with ⟨hneg, e1⟩ | ⟨hneg, e1⟩
      all_goals
        go_enter Tryz.func237, Tryz.ntmps237
        go_wp2_with (go_at_call 238; refine ((C1 _).out).mono ?_; rintro e w1 ⟨rfl, hBw1⟩; obtain ⟨hcw1, hfw1⟩ := bcell hBw1; have hzw1 := hBw1.size; (try simp only [World.size_alloc, World.size_setCell, World.size_drew] at hzw1); have hlw1_0 : w.heap.size < w1.heap.size := (by omega); have hlw1_1 : w.heap.size + 1 < w1.heap.size := (by omega))
        refine wp_head_below 11 (by kernel_rfl) (by kernel_rfl) ?_; simp only [List.take_succ_cons, List.take_zero, List.drop_succ_cons, List.drop_zero]; (repeat (go_big_quiet_step (first | with_reducible exact quietly_same (fun W => (C2 W).out) | with_reducible exact quietly (fun W => (C3 W).out)))); refine wpQuiet_nil ?_; intro w2 hBw2; obtain ⟨hcw2, hfw2⟩ := bcell hBw2; have hzw2 := hBw2.size; (try simp only [World.size_alloc, World.size_setCell, World.size_drew] at hzw2); have hlw2_0 : w.heap.size < w2.heap.size := (by omega); have hlw2_1 : w.heap.size + 1 < w2.heap.size := (by omega)
        go_wp2
        exact bodyPost_ret (v := .agg #[.int .u64 M, .int .u64 z]) (by simp [results, Tryz.results237, go_sem, hcw1, hfw1, hlw1_0, hlw1_1, hcw2, hfw2, hlw2_0, hlw2_1]) rfl ⟨by rw [Hc.out], by (repeat' (first | exact Below.refl _ _ | refine Below.setCell ?_ ?_ _ | refine Below.alloc ?_ ?_ _ | refine below_drewN ?_ _ | refine Below.trans ?_ (Below.mono (by assumption) ?_) | exact Nat.le_refl _ | omega | (simp only [World.size_alloc, World.size_setCell, World.size_drew] at *; omega)))⟩

set_option maxHeartbeats 1000000 in
theorem rmul_c (am ar bm br : Int) (w : World) (ha : 0 ≤ am) (ha' : am ≤ 18446744073709551615) (har : 0 ≤ ar) (har' : ar ≤ 18446744073709551615) (hb : 0 ≤ bm) (hb' : bm ≤ 18446744073709551615) (hbr : 0 ≤ br) (hbr' : br ≤ 18446744073709551615) :
    Calls Tryz.prog 174 #[.agg #[.int .u64 am, .int .u64 ar], .agg #[.int .u64 bm, .int .u64 br]] w fun e w' => e = .returned (.agg #[.int .u64 (cmul am ar bm br).1, .int .u64 (cmul am ar bm br).2]) ∧ Below w.heap.size w w' := by
  have gc := grown_cell
  by_cases h : am = 0
  · subst h
    by_cases h2 : bm = 0
    · subst h2
      have Hc := Lib.hid (show cmul 0 ar 0 br = (0, us (ar * br)) from by simp [cmul])
      have e1 := us_eq (ar * br)
      generalize us (ar * br) = z at *
      go_enter Tryz.func174, Tryz.ntmps174
      go_wp2
      exact bodyPost_ret (v := .agg #[.int .u64 0, .int .u64 z]) (by simp [results, Tryz.results174, go_sem, e1]) rfl ⟨by rw [Hc.out], by (repeat' (first | exact Below.refl _ _ | refine Below.setCell ?_ ?_ _ | refine Below.alloc ?_ ?_ _ | refine below_drewN ?_ _ | refine Below.trans ?_ (Below.mono (by assumption) ?_) | exact Nat.le_refl _ | omega | (simp only [World.size_alloc, World.size_setCell, World.size_drew] at *; omega)))⟩
    · have hm2 : (bm == 0) = false := by simpa using h2
      have Hc := Lib.hid (show cmul 0 ar bm br = cscale (sg ar) bm br from by simp [cmul, h2])
      have r1 := sg_rng ar
      have e1 := sg_eq' ar
      generalize sg ar = x at *
      have C1 := fun W => Lib.hid (rscale_c x bm br W r1.1 r1.2 (by omega) hb' hbr hbr')
      generalize cscale x bm br = z at *
      clear h2
      go_enter Tryz.func174, Tryz.ntmps174
      go_wp2_with (go_at_call 237; refine ((C1 _).out).mono ?_; rintro e w1 ⟨rfl, hBw1⟩; obtain ⟨hcw1, hfw1⟩ := bcell hBw1; have hzw1 := hBw1.size; (try simp only [World.size_alloc, World.size_setCell, World.size_drew] at hzw1); have hlw1_0 : w.heap.size < w1.heap.size := (by omega); have hlw1_1 : w.heap.size + 1 < w1.heap.size := (by omega); have hlw1_2 : w.heap.size + 1 + 1 < w1.heap.size := (by omega))
      exact bodyPost_ret (v := .agg #[.int .u64 z.1, .int .u64 z.2]) (by simp [results, Tryz.results174, go_sem, hcw1, hfw1, hlw1_0, hlw1_1, hlw1_2]) rfl ⟨by rw [Hc.out], by (repeat' (first | exact Below.refl _ _ | refine Below.setCell ?_ ?_ _ | refine Below.alloc ?_ ?_ _ | refine below_drewN ?_ _ | refine Below.trans ?_ (Below.mono (by assumption) ?_) | exact Nat.le_refl _ | omega | (simp only [World.size_alloc, World.size_setCell, World.size_drew] at *; omega)))⟩
  · have hm1 : (am == 0) = false := by simpa using h
    by_cases h2 : bm = 0
    · subst h2
      have Hc := Lib.hid (show cmul am ar 0 br = cscale (sg br) am ar from by simp [cmul, h])
      have r1 := sg_rng br
      have e1 := sg_eq' br
      generalize sg br = x at *
      have C1 := fun W => Lib.hid (rscale_c x am ar W r1.1 r1.2 (by omega) ha' har har')
      generalize cscale x am ar = z at *
      clear h
      go_enter Tryz.func174, Tryz.ntmps174
      go_wp2_with (go_at_call 237; refine ((C1 _).out).mono ?_; rintro e w1 ⟨rfl, hBw1⟩; obtain ⟨hcw1, hfw1⟩ := bcell hBw1; have hzw1 := hBw1.size; (try simp only [World.size_alloc, World.size_setCell, World.size_drew] at hzw1); have hlw1_0 : w.heap.size < w1.heap.size := (by omega); have hlw1_1 : w.heap.size + 1 < w1.heap.size := (by omega); have hlw1_2 : w.heap.size + 1 + 1 < w1.heap.size := (by omega))
      exact bodyPost_ret (v := .agg #[.int .u64 z.1, .int .u64 z.2]) (by simp [results, Tryz.results174, go_sem, hcw1, hfw1, hlw1_0, hlw1_1, hlw1_2]) rfl ⟨by rw [Hc.out], by (repeat' (first | exact Below.refl _ _ | refine Below.setCell ?_ ?_ _ | refine Below.alloc ?_ ?_ _ | refine below_drewN ?_ _ | refine Below.trans ?_ (Below.mono (by assumption) ?_) | exact Nat.le_refl _ | omega | (simp only [World.size_alloc, World.size_setCell, World.size_drew] at *; omega)))⟩
    · have hm2 : (bm == 0) = false := by simpa using h2
      have hg := cg_pos (a := am) (b := bm) (by omega)
      have hgB : cg am bm ≤ 18446744073709551615 := cg_bd ha hb ha' hb'
      have hx := crest_rng am ar (cg am bm) hg
      have hy := crest_rng bm br (cg am bm) hg
      have hd1 := cg_pos (a := am) (b := ar) (by omega)
      have hd1B : cg am ar ≤ 18446744073709551615 := cg_bd ha har ha' har'
      have hd2 := cg_pos (a := bm) (b := br) (by omega)
      have hd2B : cg bm br ≤ 18446744073709551615 := cg_bd hb hbr hb' hbr'
      have hD := Int.mul_pos hd1 hd2
      have C1 := fun W => Lib.hid (rgcd_c am bm W ha ha' hb hb')
      have C2 := fun W => Lib.hid (rgcd_c am ar W ha ha' har har')
      have C3 := fun W => Lib.hid (rgcd_c bm br W hb hb' hbr hbr')
      have C4 := fun W => Lib.hid (rfits_c (cg am ar) (cg bm br) W (by omega) hd1B (by omega) hd2B)
      have C5 := fun W => Lib.hid (rof_c am ar (cg am bm) W ha ha' har har' hg hgB)
      have C6 := fun W => Lib.hid (rof_c bm br (cg am bm) W hb hb' hbr hbr' hg hgB)
      have C7 := fun W => Lib.hid (rtimes_c _ _ (cg am bm) W hx.1 hx.2 hy.1 (by omega) hgB)
      by_cases h3 : cg am ar * cg bm br ≤ 18446744073709551615 ∧ cg am bm < cg am ar * cg bm br
      · have Hc := Lib.hid (show cmul am ar bm br = (cg am ar * cg bm br, 0) from by simp only [cmul, h, h2, if_false, if_pos h3])
        have hs : cfits (cg am ar) (cg bm br) = (cg am ar * cg bm br, true) := by simp [cfits, h3.1]
        rw [hs] at C4
        generalize cg am ar * cg bm br = d at *
        generalize cg am bm = g at *
        generalize cg am ar = p at *
        generalize cg bm br = q at *
        clear h h2 hs C5 C6 C7
        obtain ⟨h3a, h3b⟩ := h3
        go_enter Tryz.func174, Tryz.ntmps174
        go_wp2_with (go_at_call 209; refine ((C1 _).out).mono ?_; rintro e w1 ⟨rfl, rfl⟩)
        refine wp_all_below (by kernel_rfl) (by kernel_rfl) ?_; (repeat (go_big_quiet_step (first | with_reducible exact quietly_same (fun W => (C2 W).out) | with_reducible exact quietly_same (fun W => (C3 W).out) | with_reducible exact quietly (fun W => (C4 W).out)))); refine wpQuiet_nil ?_; intro w2 hBw2; obtain ⟨hcw2, hfw2⟩ := bcell hBw2; have hzw2 := hBw2.size; (try simp only [World.size_alloc, World.size_setCell, World.size_drew] at hzw2); have hlw2_0 : w.heap.size < w2.heap.size := (by omega); have hlw2_1 : w.heap.size + 1 < w2.heap.size := (by omega); have hlw2_2 : w.heap.size + 1 + 1 < w2.heap.size := (by omega)
        go_wp2
        exact bodyPost_ret (v := .agg #[.int .u64 d, .int .u64 0]) (by simp [results, Tryz.results174, go_sem, hcw2, hfw2, hlw2_0, hlw2_1, hlw2_2]) rfl ⟨by rw [Hc.out], by (repeat' (first | exact Below.refl _ _ | refine Below.setCell ?_ ?_ _ | refine Below.alloc ?_ ?_ _ | refine below_drewN ?_ _ | refine Below.trans ?_ (Below.mono (by assumption) ?_) | exact Nat.le_refl _ | omega | (simp only [World.size_alloc, World.size_setCell, World.size_drew] at *; omega)))⟩
      · have Hc := Lib.hid (show cmul am ar bm br = (cg am bm, crest am ar (cg am bm) * crest bm br (cg am bm) % cg am bm) from by simp only [cmul, h, h2, if_false, if_neg h3])
        obtain ⟨d, ok, hs, hd⟩ : ∃ (d : Int) (ok : Bool), cfits (cg am ar) (cg bm br) = (d, ok) ∧ (ok = false ∨ ok = true ∧ d ≤ cg am bm) := by
          by_cases h4 : cg am ar * cg bm br ≤ 18446744073709551615
          · exact ⟨cg am ar * cg bm br, true, by simp [cfits, h4], Or.inr ⟨rfl, by omega⟩⟩
          · exact ⟨0, false, by simp [cfits, h4], Or.inl rfl⟩
        rw [hs] at C4
        generalize crest am ar (cg am bm) = x at *
        generalize crest bm br (cg am bm) = y at *
        generalize x * y % cg am bm = z at *
        generalize cg am bm = g at *
        generalize cg am ar = p at *
        generalize cg bm br = q at *
        clear h h2 hs h3 hD
        rcases hd with rfl | ⟨rfl, hd⟩
        all_goals
          go_enter Tryz.func174, Tryz.ntmps174
          go_wp2_with (go_at_call 209; refine ((C1 _).out).mono ?_; rintro e w1 ⟨rfl, rfl⟩)
          refine wp_all_below (by kernel_rfl) (by kernel_rfl) ?_; (repeat (go_big_quiet_step (first | with_reducible exact quietly_same (fun W => (C2 W).out) | with_reducible exact quietly_same (fun W => (C3 W).out) | with_reducible exact quietly (fun W => (C4 W).out)))); refine wpQuiet_nil ?_; intro w2 hBw2; obtain ⟨hcw2, hfw2⟩ := bcell hBw2; have hzw2 := hBw2.size; (try simp only [World.size_alloc, World.size_setCell, World.size_drew] at hzw2); have hlw2_0 : w.heap.size < w2.heap.size := (by omega); have hlw2_1 : w.heap.size + 1 < w2.heap.size := (by omega); have hlw2_2 : w.heap.size + 1 + 1 < w2.heap.size := (by omega)
          go_wp2
          refine wp_head_below 10 (by kernel_rfl) (by kernel_rfl) ?_; simp only [List.take_succ_cons, List.take_zero, List.drop_succ_cons, List.drop_zero]; (repeat (go_big_quiet_step (first | with_reducible exact quietly (fun W => (C5 W).out) | with_reducible exact quietly (fun W => (C6 W).out) | with_reducible exact quietly (fun W => (C7 W).out)))); refine wpQuiet_nil ?_; intro w3 hBw3; obtain ⟨hcw3, hfw3⟩ := bcell hBw3; have hzw3 := hBw3.size; (try simp only [World.size_alloc, World.size_setCell, World.size_drew] at hzw3); have hlw3_0 : w.heap.size < w3.heap.size := (by omega); have hlw3_1 : w.heap.size + 1 < w3.heap.size := (by omega); have hlw3_2 : w.heap.size + 1 + 1 < w3.heap.size := (by omega)
          go_wp2
          exact bodyPost_ret (v := .agg #[.int .u64 g, .int .u64 z]) (by simp [results, Tryz.results174, go_sem, hcw2, hfw2, hlw2_0, hlw2_1, hlw2_2, hcw3, hfw3, hlw3_0, hlw3_1, hlw3_2]) rfl ⟨by rw [Hc.out], by (repeat' (first | exact Below.refl _ _ | refine Below.setCell ?_ ?_ _ | refine Below.alloc ?_ ?_ _ | refine below_drewN ?_ _ | refine Below.trans ?_ (Below.mono (by assumption) ?_) | exact Nat.le_refl _ | omega | (simp only [World.size_alloc, World.size_setCell, World.size_drew] at *; omega)))⟩

/-! Contracts of the reference: joins, what is wrapped. -/
theorem cg_self (a : Int) (h : 0 ≤ a) : cg a a = a := by unfold cg; rw [Int.gcd_self]; omega
theorem cjoin_self (m r : Int) (hm : 0 ≤ m) (hr : 0 ≤ r) (h : m = 0 ∨ r < m) : cjoin m r m r = (m, r) := by
  unfold cjoin
  by_cases h0 : m = 0
  · rw [if_pos ⟨h0, h0⟩, if_pos rfl, h0]
  · have h1 : r < m := by omega
    have h2 : crest m r m = r := by unfold crest; rw [if_neg h0]; exact Int.emod_eq_of_lt hr h1
    have h3 : cdist r r = 0 := by unfold cdist; rw [if_neg (by omega)]; omega
    rw [if_neg (by omega), cg_self m hm, h2, h3, cg_zero m hm, Int.emod_eq_of_lt hr h1]

set_option maxHeartbeats 1000000 in
theorem rjoin_c (am ar bm br : Int) (w : World) (ha : 0 ≤ am) (ha' : am ≤ 18446744073709551615) (har : 0 ≤ ar) (har' : ar ≤ 18446744073709551615) (hb : 0 ≤ bm) (hb' : bm ≤ 18446744073709551615) (hbr : 0 ≤ br) (hbr' : br ≤ 18446744073709551615) (hright : am = 0 ∨ ar < am) :
    Calls Tryz.prog 137 #[.agg #[.int .u64 am, .int .u64 ar], .agg #[.int .u64 bm, .int .u64 br]] w fun e w' => e = .returned (.agg #[.int .u64 (cjoin am ar bm br).1, .int .u64 (cjoin am ar bm br).2]) ∧ Below w.heap.size w w' := by
  have gc := grown_cell
  have heq := run_eql_rcong
  by_cases hsame : am = bm ∧ ar = br
  · obtain ⟨rfl, rfl⟩ := hsame
    have Hc := Lib.hid (cjoin_self am ar ha har hright)
    go_enter Tryz.func137, Tryz.ntmps137
    go_wp2
    exact bodyPost_ret (v := .agg #[.int .u64 am, .int .u64 ar]) (by simp [results, Tryz.results137, go_sem]) rfl ⟨by rw [Hc.out], by (repeat' (first | exact Below.refl _ _ | refine Below.setCell ?_ ?_ _ | refine Below.alloc ?_ ?_ _ | refine below_drewN ?_ _ | refine Below.trans ?_ (Below.mono (by assumption) ?_) | exact Nat.le_refl _ | omega | (simp only [World.size_alloc, World.size_setCell, World.size_drew] at *; omega)))⟩
  have hne : (am == bm && ar == br) = false := by
    by_cases h1 : am = bm
    · have h2 : ¬ ar = br := fun h => hsame ⟨h1, h⟩
      simp [h2]
    · simp [h1]
  by_cases h : am = 0 ∧ bm = 0
  · obtain ⟨rfl, rfl⟩ := h
    have h2 : ¬ ar = br := fun h => hsame ⟨rfl, h⟩
    have hm2 : (ar == br) = false := by simpa using h2
    have Hc := Lib.hid (show cjoin 0 ar 0 br = (cdist (sg ar) (sg br), sg ar % cdist (sg ar) (sg br)) from by simp [cjoin, h2])
    have C1 := fun W => Lib.hid (rgcd_c 0 0 W (by omega) (by omega) (by omega) (by omega))
    simp only [show cg 0 0 = 0 from rfl] at C1
    have hne2 : sg ar ≠ sg br := fun e => h2 (sg_inj har har' hbr hbr' e)
    have e1 := sg_eq' ar
    have e2 := sg_eq' br
    have r1 := sg_rng ar
    have r2 := sg_rng br
    clear h2 hsame
    generalize sg ar = x at *
    generalize sg br = y at *
    obtain ⟨d, hd⟩ : ∃ d, d = cdist x y := ⟨_, rfl⟩
    have hd0 : 0 < d ∧ d ≤ 18446744073709551615 := by rw [hd]; unfold cdist; split <;> omega
    have e5 : IntKind.u64.wrap (IntKind.u64.wrap (max x y) - IntKind.u64.wrap (min x y)) = d := by rw [hd]; unfold cdist; simp only [IntKind.wrap_u64]; split <;> omega
    rw [← hd] at Hc
    have Hm := Lib.hid (show cmake d x = x % d from by unfold cmake; rw [if_neg (by omega)])
    clear hd
    go_enter Tryz.func137, Tryz.ntmps137
    go_wp2_with (go_at_call 209; refine ((C1 _).out).mono ?_; rintro e w9 ⟨rfl, rfl⟩)
    refine wp_all_below (by kernel_rfl) (by kernel_rfl) ?_; (repeat (go_big_quiet_step (first | fail))); refine wpQuiet_nil ?_; intro w0 hBw0; obtain ⟨hcw0, hfw0⟩ := bcell hBw0; have hzw0 := hBw0.size; (try simp only [World.size_alloc, World.size_setCell, World.size_drew] at hzw0); have hlw0_0 : w.heap.size < w0.heap.size := (by omega); have hlw0_1 : w.heap.size + 1 < w0.heap.size := (by omega); have hlw0_2 : w.heap.size + 1 + 1 < w0.heap.size := (by omega)
    go_wp2_with (go_at_call 116; refine (rmake_c _ _ _ (by omega) (by omega) (by omega) (by omega)).mono ?_; rintro e w1 ⟨rfl, hBw1⟩; obtain ⟨hcw1, hfw1⟩ := bcell hBw1; have hzw1 := hBw1.size; (try simp only [World.size_alloc, World.size_setCell, World.size_drew] at hzw1); have hlw1_0 : w.heap.size < w1.heap.size := (by omega); have hlw1_1 : w.heap.size + 1 < w1.heap.size := (by omega); have hlw1_2 : w.heap.size + 1 + 1 < w1.heap.size := (by omega))
    exact bodyPost_ret (v := .agg #[.int .u64 d, .int .u64 (cmake d x)]) (by simp [results, Tryz.results137, go_sem, hcw0, hfw0, hlw0_0, hlw0_1, hlw0_2, hcw1, hfw1, hlw1_0, hlw1_1, hlw1_2]) rfl ⟨by rw [Hc.out, Hm.out], by (repeat' (first | exact Below.refl _ _ | refine Below.setCell ?_ ?_ _ | refine Below.alloc ?_ ?_ _ | refine below_drewN ?_ _ | refine Below.trans ?_ (Below.mono (by assumption) ?_) | exact Nat.le_refl _ | omega | (simp only [World.size_alloc, World.size_setCell, World.size_drew] at *; omega)))⟩
  · have Hc := Lib.hid (show cjoin am ar bm br = _ from by unfold cjoin; rw [if_neg h])
    have hg := cg_pos h
    have hgB : cg am bm ≤ 18446744073709551615 := cg_bd ha hb ha' hb'
    have hx := crest_rng am ar (cg am bm) hg
    have hy := crest_rng bm br (cg am bm) hg
    generalize hgg : cg am bm = g at *
    generalize hxx : crest am ar g = x at *
    generalize hyy : crest bm br g = y at *
    have hd0 := @cdist_rng x y
    have hd1 : cdist x y ≤ 18446744073709551615 := by unfold cdist; split <;> omega
    have C0 := fun W => Lib.hid (rfar_c x y W hx.1 hy.1 (by omega) (by omega))
    generalize cdist x y = d at *
    have hm : 0 < cg g d := cg_pos (by omega)
    have hmB : cg g d ≤ 18446744073709551615 := cg_bd (by omega) (by omega) hgB hd1
    generalize hmm : cg g d = m at *
    have C1 := fun W => Lib.hid (rgcd_c am bm W ha ha' hb hb')
    have C2 := fun W => Lib.hid (rof_c am ar g W ha ha' har har' hg hgB)
    have C3 := fun W => Lib.hid (rof_c bm br g W hb hb' hbr hbr' hg hgB)
    have C4 := fun W => Lib.hid (rgcd_c g d W (by omega) hgB hd0 hd1)
    rw [hgg] at C1
    rw [hxx] at C2
    rw [hyy] at C3
    rw [hmm] at C4
    have hg0 : (g == 0) = false := by simp; omega
    clear hgg hxx hyy hmm h hsame hright
    go_enter Tryz.func137, Tryz.ntmps137
    go_wp2_with (go_at_call 209; refine ((C1 _).out).mono ?_; rintro e w9 ⟨rfl, rfl⟩)
    refine wp_all_below (by kernel_rfl) (by kernel_rfl) ?_; (repeat (go_big_quiet_step (first | with_reducible exact quietly (fun W => (C2 W).out) | with_reducible exact quietly (fun W => (C3 W).out) | with_reducible exact quietly_same (fun W => (C0 W).out) | with_reducible exact quietly_same (fun W => (C4 W).out)))); refine wpQuiet_nil ?_; intro w2 hBw2; obtain ⟨hcw2, hfw2⟩ := bcell hBw2; have hzw2 := hBw2.size; (try simp only [World.size_alloc, World.size_setCell, World.size_drew] at hzw2); have hlw2_0 : w.heap.size < w2.heap.size := (by omega); have hlw2_1 : w.heap.size + 1 < w2.heap.size := (by omega); have hlw2_2 : w.heap.size + 1 + 1 < w2.heap.size := (by omega)
    go_wp2_with (go_at_call 211; refine ((C2 _).out).mono ?_; rintro e w3 ⟨rfl, hBw3⟩; obtain ⟨hcw3, hfw3⟩ := bcell hBw3; have hzw3 := hBw3.size; (try simp only [World.size_alloc, World.size_setCell, World.size_drew] at hzw3); have hlw3_0 : w.heap.size < w3.heap.size := (by omega); have hlw3_1 : w.heap.size + 1 < w3.heap.size := (by omega); have hlw3_2 : w.heap.size + 1 + 1 < w3.heap.size := (by omega))
    exact bodyPost_ret (v := .agg #[.int .u64 m, .int .u64 (x % m)]) (by simp [results, Tryz.results137, go_sem, hcw2, hfw2, hlw2_0, hlw2_1, hlw2_2, hcw3, hfw3, hlw3_0, hlw3_1, hlw3_2]) rfl ⟨by rw [Hc.out], by (repeat' (first | exact Below.refl _ _ | refine Below.setCell ?_ ?_ _ | refine Below.alloc ?_ ?_ _ | refine below_drewN ?_ _ | refine Below.trans ?_ (Below.mono (by assumption) ?_) | exact Nat.le_refl _ | omega | (simp only [World.size_alloc, World.size_setCell, World.size_drew] at *; omega)))⟩

theorem lbN_succ (f m : Nat) : lbN (f + 1) m = if m % 2 = 0 then 2 * lbN f (m / 2) else 1 := rfl
theorem lbN_fuel : ∀ f m, 0 < m → m < 2 ^ f → lbN (f + 1) m = lbN f m := by
  intro f
  induction f with
  | zero => intro m h0 h1; simp at h1; omega
  | succ f ih =>
    intro m h0 h1
    rw [lbN_succ (f + 1) m, lbN_succ f m]
    split
    · rw [ih (m / 2) (by omega) (by rw [Nat.pow_succ] at h1; omega)]
    · rfl
theorem clow_even (q : Int) (h : q % 2 = 0) (h0 : 0 < q) (h1 : q ≤ 18446744073709551615) : clow q = 2 * clow (q / 2) := by
  unfold clow
  have e : (q / 2).toNat = q.toNat / 2 := by omega
  have h2 : lbN 64 q.toNat = 2 * lbN 63 (q.toNat / 2) := by rw [lbN_succ 63, if_pos (by omega)]
  have h3 : lbN 64 (q.toNat / 2) = lbN 63 (q.toNat / 2) := lbN_fuel 63 (q.toNat / 2) (by omega) (by omega)
  rw [e, h2, h3]; omega
theorem clow_odd (q : Int) (h : q % 2 = 1) (h0 : 0 < q) : clow q = 1 := by
  unfold clow
  have : lbN 64 q.toNat = 1 := by rw [lbN_succ 63, if_neg (by omega)]
  omega

set_option maxHeartbeats 1000000 in
theorem rwrapped_c (m r : Int) (w : World) (hm : 0 ≤ m) (hm' : m ≤ 18446744073709551615) (hr : 0 ≤ r) (hr' : r ≤ 18446744073709551615) :
    Calls Tryz.prog 85 #[.agg #[.int .u64 m, .int .u64 r]] w fun e w' => e = .returned (.agg #[.int .u64 (cwrapped m r).1, .int .u64 (cwrapped m r).2]) ∧ Below w.heap.size w w' := by
  by_cases h : m = 0
  · subst h
    have Hc := Lib.hid (show cwrapped 0 r = (0, r) from rfl)
    go_enter Tryz.func85, Tryz.ntmps85
    go_wp2
    exact bodyPost_ret (v := .agg #[.int .u64 0, .int .u64 r]) (by simp [results, Tryz.results85, go_sem]) rfl ⟨by rw [Hc.out], by (repeat' (first | exact Below.refl _ _ | refine Below.setCell ?_ ?_ _ | refine Below.alloc ?_ ?_ _ | refine below_drewN ?_ _ | refine Below.trans ?_ (Below.mono (by assumption) ?_) | exact Nat.le_refl _ | omega | (simp only [World.size_alloc, World.size_setCell, World.size_drew] at *; omega)))⟩
  · have hm0 : (m == 0) = false := by simpa using h
    have Hc := Lib.hid (show cwrapped m r = (clow m, r % clow m) from by unfold cwrapped; rw [if_neg h])
    have r1 := clow_rng m (by omega) hm'
    go_enter Tryz.func85, Tryz.ntmps85
    go_wp2
    go_loopw [3] (fun xp wr => ∃ p q : Int, xp = .int .u64 p ∧ 0 < p ∧ 0 < q ∧ q ≤ m ∧ Hid (p * clow q = clow m) ∧ Hid (p * q ≤ m) ∧ wr.cell? ⟨w.heap.size, 0, none⟩ = some (.int .u64 q) ∧ wr.cell? ⟨w.heap.size, 1, none⟩ = some (.int .u64 r) ∧ wr.frozen? ⟨w.heap.size, 0, none⟩ = false ∧
        wr.cell? ⟨w.heap.size + 1, 0, none⟩ = some (.int .u64 0) ∧ wr.cell? ⟨w.heap.size + 1, 1, none⟩ = some (.int .u64 0) ∧ wr.frozen? ⟨w.heap.size + 1, 0, none⟩ = false ∧ wr.frozen? ⟨w.heap.size + 1, 1, none⟩ = false ∧ Below w.heap.size w wr)
      (fun _ wr => match wr.cell? ⟨w.heap.size, 0, none⟩ with | some v => (intOf v).toNat | none => 0)
    case atStart => exact ⟨1, m, rfl, by omega, by omega, by omega, by show 1 * clow m = _; rw [Int.one_mul], by show 1 * m ≤ m; omega, by simp [go_sem], by simp [go_sem], by simp [go_sem], by simp [go_sem], by simp [go_sem], by simp [go_sem], by simp [go_sem], by (repeat' (first | exact Below.refl _ _ | refine Below.setCell ?_ ?_ _ | refine Below.alloc ?_ ?_ _ | refine below_drewN ?_ _ | refine Below.trans ?_ (Below.mono (by assumption) ?_) | exact Nat.le_refl _ | omega | (simp only [World.size_alloc, World.size_setCell, World.size_drew] at *; omega)))⟩
    case round =>
      obtain ⟨p, q, rfl, hp0, hq0, hqm, H1, H2, k0, k1, k2, k3, k4, k5, k6, hB⟩ := hrel
      by_cases h2 : q % 2 = 0
      · have hm2 : (q % 2 == 0) = true := by simpa using h2
        have e1 := clow_even q h2 hq0 (by omega)
        have N1 : Hid (2 * p * clow (q / 2) = clow m) := by
          have := H1.out; rw [e1] at this
          show 2 * p * clow (q / 2) = clow m
          rw [Int.mul_comm 2 p, Int.mul_assoc]; exact this
        have e2 : 2 * p * (q / 2) = p * q := by
          have : q = 2 * (q / 2) := by omega
          rw [Int.mul_comm 2 p, Int.mul_assoc, ← this]
        have N2 : Hid (2 * p * (q / 2) ≤ m) := by show _ ≤ _; rw [e2]; exact H2.out
        have hp2 : 2 * p ≤ 18446744073709551615 := by
          have h3 : 2 * p * 1 ≤ 2 * p * (q / 2) := Int.mul_le_mul_of_nonneg_left (by omega) (by omega)
          have := N2.out; omega
        have hq2 : 0 < q / 2 := by omega
        clear H1 H2 e1 e2 h2
        go_wp2
        go_roundw
        case rel => exact ⟨2 * p, q / 2, rfl, by omega, by omega, by omega, N1, N2, by simp [go_sem, k0], by simp [go_sem, k1], by simp [go_sem, k2], by simp [go_sem, k3], by simp [go_sem, k4], by simp [go_sem, k5], by simp [go_sem, k6], by (repeat' (first | exact Below.refl _ _ | refine Below.setCell ?_ ?_ _ | refine Below.alloc ?_ ?_ _ | refine below_drewN ?_ _ | refine Below.trans ?_ (Below.mono (by assumption) ?_) | exact Nat.le_refl _ | omega | (simp only [World.size_alloc, World.size_setCell, World.size_drew] at *; omega)))⟩
        case measure => simp [go_sem, k0, intOf]; omega
      · have hm2 : (q % 2 == 0) = false := by simpa using h2
        have e1 := clow_odd q (by omega) hq0
        have Hp := Lib.hid (show p = clow m by have := H1.out; rw [e1, Int.mul_one] at this; exact this)
        have hpn : p ≠ 0 := by omega
        clear H1 H2 h2 e1
        go_wp2
        exact bodyPost_ret (v := .agg #[.int .u64 p, .int .u64 (r % p)]) (by simp [results, Tryz.results85, go_sem, k0, k1, k3, k4]) rfl ⟨by rw [Hc.out, ← Hp.out], by (repeat' (first | exact Below.refl _ _ | refine Below.setCell ?_ ?_ _ | refine Below.alloc ?_ ?_ _ | refine below_drewN ?_ _ | refine Below.trans ?_ (Below.mono (by assumption) ?_) | exact Nat.le_refl _ | omega | (simp only [World.size_alloc, World.size_setCell, World.size_drew] at *; omega)))⟩

/-! Contracts of the reference: meets. -/
theorem cmeet_left {ar bm br : Int} : cmeet 0 ar bm br = if chas bm br (sg ar) then ((0, ar), true) else ((0, 0), false) := by
  have hcc : ccommon 0 ar bm br = chas bm br (sg ar) := by unfold ccommon; rw [if_pos rfl]
  have hw : cwithin 0 ar bm br = chas bm br (sg ar) := by unfold cwithin; rw [if_pos rfl]
  cases h : chas bm br (sg ar)
  · rw [if_neg (by simp)]; exact cmeet_no (hcc.trans h)
  · rw [if_pos rfl]; exact cmeet_a (hcc.trans h) (Or.inl (hw.trans h))
theorem cmeet_right {am ar br : Int} (h0 : am ≠ 0) : cmeet am ar 0 br = if chas am ar (sg br) then ((0, br), true) else ((0, 0), false) := by
  have hcc : ccommon am ar 0 br = chas am ar (sg br) := by unfold ccommon; rw [if_neg h0, if_pos rfl]
  have hw : cwithin am ar 0 br = false := by unfold cwithin; rw [if_neg h0, if_pos rfl]
  have hw2 : cwithin 0 br am ar = chas am ar (sg br) := by unfold cwithin; rw [if_pos rfl]
  cases h : chas am ar (sg br)
  · rw [if_neg (by simp)]; exact cmeet_no (hcc.trans h)
  · rw [if_pos rfl]; exact cmeet_b (hcc.trans h) hw (Or.inl (hw2.trans h))

set_option maxHeartbeats 2000000 in
theorem rmeet_c1 (am ar bm br : Int) (w : World) (ha : 0 ≤ am) (ha' : am ≤ 18446744073709551615) (har : 0 ≤ ar) (har' : ar ≤ 18446744073709551615) (hb : 0 ≤ bm) (hb' : bm ≤ 18446744073709551615) (hbr : 0 ≤ br) (hbr' : br ≤ 18446744073709551615) (h : am = 0) :
    Calls Tryz.prog 138 #[.agg #[.int .u64 am, .int .u64 ar], .agg #[.int .u64 bm, .int .u64 br]] w fun e w' => e = .returned (.tuple #[.agg #[.int .u64 (cmeet am ar bm br).1.1, .int .u64 (cmeet am ar bm br).1.2], .bool (cmeet am ar bm br).2]) ∧ Below w.heap.size w w' := by
  have gc := grown_cell
  subst h
  have r1 := sg_rng ar
  have e1 := sg_eq' ar
  have C1 := fun W => Lib.hid (rhas_c bm br (sg ar) W hb hb' r1.1 r1.2)
  have Hc := Lib.hid (@cmeet_left ar bm br)
  cases hk : chas bm br (sg ar)
  · simp only [hk] at C1
    have Hc := Lib.hid (show cmeet 0 ar bm br = ((0, 0), false) by rw [Hc.out, hk]; rfl)
    clear hk
    go_enter Tryz.func138, Tryz.ntmps138
    go_wp2
    go_region
    all_goals
      go_wp2_with ((go_at_call 102; refine ((C1 _).out).mono ?_; rintro e w1 ⟨rfl, hBw1⟩; obtain ⟨hcw1, hfw1⟩ := bcell hBw1; have hzw1 := hBw1.size; (try simp only [World.size_alloc, World.size_setCell, World.size_drew] at hzw1); have hlw1_0 : w.heap.size < w1.heap.size := (by omega); have hlw1_1 : w.heap.size + 1 < w1.heap.size := (by omega); have hlw1_2 : w.heap.size + 1 + 1 < w1.heap.size := (by omega); have hlw1_3 : w.heap.size + 1 + 1 + 1 < w1.heap.size := (by omega); have hlw1_4 : w.heap.size + 1 + 1 + 1 + 1 < w1.heap.size := (by omega)))
      exact bodyPost_ret (v := .tuple #[.agg #[.int .u64 0, .int .u64 0], .bool false]) (by simp [results, Tryz.results138, go_sem, hcw1, hfw1, hlw1_0, hlw1_1, hlw1_2, hlw1_3, hlw1_4]) rfl ⟨by rw [Hc.out], by (repeat' (first | exact Below.refl _ _ | refine Below.setCell ?_ ?_ _ | refine Below.alloc ?_ ?_ _ | refine below_drewN ?_ _ | refine Below.trans ?_ (Below.mono (by assumption) ?_) | exact Nat.le_refl _ | omega | (simp only [World.size_alloc, World.size_setCell, World.size_drew] at *; omega)))⟩
  · simp only [hk] at C1
    have Hc := Lib.hid (show cmeet 0 ar bm br = ((0, ar), true) by rw [Hc.out, hk]; rfl)
    clear hk
    go_enter Tryz.func138, Tryz.ntmps138
    go_wp2
    go_region
    all_goals
      go_wp2_with ((go_at_call 102; refine ((C1 _).out).mono ?_; rintro e w1 ⟨rfl, hBw1⟩; obtain ⟨hcw1, hfw1⟩ := bcell hBw1; have hzw1 := hBw1.size; (try simp only [World.size_alloc, World.size_setCell, World.size_drew] at hzw1); have hlw1_0 : w.heap.size < w1.heap.size := (by omega); have hlw1_1 : w.heap.size + 1 < w1.heap.size := (by omega); have hlw1_2 : w.heap.size + 1 + 1 < w1.heap.size := (by omega); have hlw1_3 : w.heap.size + 1 + 1 + 1 < w1.heap.size := (by omega); have hlw1_4 : w.heap.size + 1 + 1 + 1 + 1 < w1.heap.size := (by omega)))
      exact bodyPost_ret (v := .tuple #[.agg #[.int .u64 0, .int .u64 ar], .bool true]) (by simp [results, Tryz.results138, go_sem, hcw1, hfw1, hlw1_0, hlw1_1, hlw1_2, hlw1_3, hlw1_4]) rfl ⟨by rw [Hc.out], by (repeat' (first | exact Below.refl _ _ | refine Below.setCell ?_ ?_ _ | refine Below.alloc ?_ ?_ _ | refine below_drewN ?_ _ | refine Below.trans ?_ (Below.mono (by assumption) ?_) | exact Nat.le_refl _ | omega | (simp only [World.size_alloc, World.size_setCell, World.size_drew] at *; omega)))⟩

set_option maxHeartbeats 2000000 in
theorem rmeet_c2 (am ar bm br : Int) (w : World) (ha : 0 ≤ am) (ha' : am ≤ 18446744073709551615) (har : 0 ≤ ar) (har' : ar ≤ 18446744073709551615) (hb : 0 ≤ bm) (hb' : bm ≤ 18446744073709551615) (hbr : 0 ≤ br) (hbr' : br ≤ 18446744073709551615) (h : ¬ am = 0) (h2 : bm = 0) :
    Calls Tryz.prog 138 #[.agg #[.int .u64 am, .int .u64 ar], .agg #[.int .u64 bm, .int .u64 br]] w fun e w' => e = .returned (.tuple #[.agg #[.int .u64 (cmeet am ar bm br).1.1, .int .u64 (cmeet am ar bm br).1.2], .bool (cmeet am ar bm br).2]) ∧ Below w.heap.size w w' := by
  have gc := grown_cell
  subst h2
  have hm1 : (am == 0) = false := by simpa using h
  have r1 := sg_rng br
  have e1 := sg_eq' br
  have hapos : 0 < am := by omega
  have C1 := fun W => Lib.hid (rhas_c am ar (sg br) W ha ha' r1.1 r1.2)
  have Hc := Lib.hid (@cmeet_right am ar br h)
  cases hk : chas am ar (sg br)
  · simp only [hk] at C1
    have Hc := Lib.hid (show cmeet am ar 0 br = ((0, 0), false) by rw [Hc.out, hk]; rfl)
    clear hk h
    go_enter Tryz.func138, Tryz.ntmps138
    go_wp2
    go_region
    all_goals
      go_wp2_with ((go_at_call 102; refine ((C1 _).out).mono ?_; rintro e w1 ⟨rfl, hBw1⟩; obtain ⟨hcw1, hfw1⟩ := bcell hBw1; have hzw1 := hBw1.size; (try simp only [World.size_alloc, World.size_setCell, World.size_drew] at hzw1); have hlw1_0 : w.heap.size < w1.heap.size := (by omega); have hlw1_1 : w.heap.size + 1 < w1.heap.size := (by omega); have hlw1_2 : w.heap.size + 1 + 1 < w1.heap.size := (by omega); have hlw1_3 : w.heap.size + 1 + 1 + 1 < w1.heap.size := (by omega); have hlw1_4 : w.heap.size + 1 + 1 + 1 + 1 < w1.heap.size := (by omega)))
      exact bodyPost_ret (v := .tuple #[.agg #[.int .u64 0, .int .u64 0], .bool false]) (by simp [results, Tryz.results138, go_sem, hcw1, hfw1, hlw1_0, hlw1_1, hlw1_2, hlw1_3, hlw1_4]) rfl ⟨by rw [Hc.out], by (repeat' (first | exact Below.refl _ _ | refine Below.setCell ?_ ?_ _ | refine Below.alloc ?_ ?_ _ | refine below_drewN ?_ _ | refine Below.trans ?_ (Below.mono (by assumption) ?_) | exact Nat.le_refl _ | omega | (simp only [World.size_alloc, World.size_setCell, World.size_drew] at *; omega)))⟩
  · simp only [hk] at C1
    have Hc := Lib.hid (show cmeet am ar 0 br = ((0, br), true) by rw [Hc.out, hk]; rfl)
    clear hk h
    go_enter Tryz.func138, Tryz.ntmps138
    go_wp2
    go_region
    all_goals
      go_wp2_with ((go_at_call 102; refine ((C1 _).out).mono ?_; rintro e w1 ⟨rfl, hBw1⟩; obtain ⟨hcw1, hfw1⟩ := bcell hBw1; have hzw1 := hBw1.size; (try simp only [World.size_alloc, World.size_setCell, World.size_drew] at hzw1); have hlw1_0 : w.heap.size < w1.heap.size := (by omega); have hlw1_1 : w.heap.size + 1 < w1.heap.size := (by omega); have hlw1_2 : w.heap.size + 1 + 1 < w1.heap.size := (by omega); have hlw1_3 : w.heap.size + 1 + 1 + 1 < w1.heap.size := (by omega); have hlw1_4 : w.heap.size + 1 + 1 + 1 + 1 < w1.heap.size := (by omega)))
      exact bodyPost_ret (v := .tuple #[.agg #[.int .u64 0, .int .u64 br], .bool true]) (by simp [results, Tryz.results138, go_sem, hcw1, hfw1, hlw1_0, hlw1_1, hlw1_2, hlw1_3, hlw1_4]) rfl ⟨by rw [Hc.out], by (repeat' (first | exact Below.refl _ _ | refine Below.setCell ?_ ?_ _ | refine Below.alloc ?_ ?_ _ | refine below_drewN ?_ _ | refine Below.trans ?_ (Below.mono (by assumption) ?_) | exact Nat.le_refl _ | omega | (simp only [World.size_alloc, World.size_setCell, World.size_drew] at *; omega)))⟩

set_option maxHeartbeats 2000000 in
theorem rmeet_c3 (am ar bm br : Int) (w : World) (ha : 0 ≤ am) (ha' : am ≤ 18446744073709551615) (har : 0 ≤ ar) (har' : ar ≤ 18446744073709551615) (hb : 0 ≤ bm) (hb' : bm ≤ 18446744073709551615) (hbr : 0 ≤ br) (hbr' : br ≤ 18446744073709551615) (h : ¬ am = 0) (h2 : ¬ bm = 0) :
    Calls Tryz.prog 138 #[.agg #[.int .u64 am, .int .u64 ar], .agg #[.int .u64 bm, .int .u64 br]] w fun e w' => e = .returned (.tuple #[.agg #[.int .u64 (cmeet am ar bm br).1.1, .int .u64 (cmeet am ar bm br).1.2], .bool (cmeet am ar bm br).2]) ∧ Below w.heap.size w w' := by
  have gc := grown_cell
  have C2 := fun W => Lib.hid (rwithin_c am ar bm br W ha ha' har har' hb hb')
  have C3 := fun W => Lib.hid (rwithin_c bm br am ar W hb hb' hbr hbr' ha ha')
  have hways := Lib.hid (meet_ways am ar bm br)
  have hm1 : (am == 0) = false := by simpa using h
  have hm2 : (bm == 0) = false := by simpa using h2
  have hg := cg_pos (a := am) (b := bm) (by omega)
  have hgB : cg am bm ≤ 18446744073709551615 := cg_bd ha hb ha' hb'
  have C1 := fun W => Lib.hid (rgcd_c am bm W ha ha' hb hb')
  have C5 := fun W => Lib.hid (rof_c am ar (cg am bm) W ha ha' har har' hg hgB)
  have C6 := fun W => Lib.hid (rof_c bm br (cg am bm) W hb hb' hbr hbr' hg hgB)
  have Hxy : ccommon am ar bm br = (crest am ar (cg am bm) == crest bm br (cg am bm)) := by unfold ccommon; rw [if_neg h, if_neg h2]
  generalize crest am ar (cg am bm) = x at *
  generalize crest bm br (cg am bm) = y at *
  generalize cg am bm = g at *
  clear h h2
  cases hk : ccommon am ar bm br
  · have Hc := Lib.hid (cmeet_no hk)
    rw [hk] at Hxy
    replace Hxy := Hxy.symm
    have Hne : (x != y) = true := by rw [bne, Hxy]; rfl
    clear hk
    go_enter Tryz.func138, Tryz.ntmps138
    go_wp2_with ((go_at_call 209; refine ((C1 _).out).mono ?_; rintro e w0 ⟨rfl, rfl⟩))
    refine wp_all_below (by kernel_rfl) (by kernel_rfl) ?_; (repeat (go_big_quiet_step (first | with_reducible exact quietly (fun W => (C5 W).out) | with_reducible exact quietly (fun W => (C6 W).out)))); refine wpQuiet_nil ?_; intro w1 hBw1; obtain ⟨hcw1, hfw1⟩ := bcell hBw1; have hzw1 := hBw1.size; (try simp only [World.size_alloc, World.size_setCell, World.size_drew] at hzw1); have hlw1_0 : w.heap.size < w1.heap.size := (by omega); have hlw1_1 : w.heap.size + 1 < w1.heap.size := (by omega); have hlw1_2 : w.heap.size + 1 + 1 < w1.heap.size := (by omega)
    go_wp2
    exact bodyPost_ret (v := .tuple #[.agg #[.int .u64 0, .int .u64 0], .bool false]) (by simp [results, Tryz.results138, go_sem, hcw1, hfw1, hlw1_0, hlw1_1, hlw1_2]) rfl ⟨by rw [Hc.out], by (repeat' (first | exact Below.refl _ _ | refine Below.setCell ?_ ?_ _ | refine Below.alloc ?_ ?_ _ | refine below_drewN ?_ _ | refine Below.trans ?_ (Below.mono (by assumption) ?_) | exact Nat.le_refl _ | omega | (simp only [World.size_alloc, World.size_setCell, World.size_drew] at *; omega)))⟩
  · have Hw := hways.out hk
    rw [hk] at Hxy
    replace Hxy := Hxy.symm
    have Hne : (x != y) = false := by rw [bne, Hxy]; rfl
    clear hways hk
    rcases Hw with ⟨k1, Hc⟩ | ⟨k1, k2, Hc⟩ | ⟨k1, k2, k3, Hc⟩ | ⟨k1, k2, k3, Hc⟩
    · have Hc := Lib.hid Hc
      simp only [k1] at C2
      go_enter Tryz.func138, Tryz.ntmps138
      go_wp2_with ((go_at_call 209; refine ((C1 _).out).mono ?_; rintro e w0 ⟨rfl, rfl⟩))
      refine wp_all_below (by kernel_rfl) (by kernel_rfl) ?_; (repeat (go_big_quiet_step (first | with_reducible exact quietly (fun W => (C5 W).out) | with_reducible exact quietly (fun W => (C6 W).out)))); refine wpQuiet_nil ?_; intro w1 hBw1; obtain ⟨hcw1, hfw1⟩ := bcell hBw1; have hzw1 := hBw1.size; (try simp only [World.size_alloc, World.size_setCell, World.size_drew] at hzw1); have hlw1_0 : w.heap.size < w1.heap.size := (by omega); have hlw1_1 : w.heap.size + 1 < w1.heap.size := (by omega); have hlw1_2 : w.heap.size + 1 + 1 < w1.heap.size := (by omega)
      go_wp2_with ((go_at_call 218; first | ((with_reducible refine ((C2 _).out).mono ?_); rintro e w2 ⟨rfl, hBw2⟩; obtain ⟨hcw2, hfw2⟩ := bcell hBw2; have hzw2 := hBw2.size; (try simp only [World.size_alloc, World.size_setCell, World.size_drew] at hzw2); have hlw2_0 : w.heap.size < w2.heap.size := (by omega); have hlw2_1 : w.heap.size + 1 < w2.heap.size := (by omega); have hlw2_2 : w.heap.size + 1 + 1 < w2.heap.size := (by omega)) | ((with_reducible refine ((C3 _).out).mono ?_); rintro e w3 ⟨rfl, hBw3⟩; obtain ⟨hcw3, hfw3⟩ := bcell hBw3; have hzw3 := hBw3.size; (try simp only [World.size_alloc, World.size_setCell, World.size_drew] at hzw3); have hlw3_0 : w.heap.size < w3.heap.size := (by omega); have hlw3_1 : w.heap.size + 1 < w3.heap.size := (by omega); have hlw3_2 : w.heap.size + 1 + 1 < w3.heap.size := (by omega))))
      exact bodyPost_ret (v := .tuple #[.agg #[.int .u64 am, .int .u64 ar], .bool true]) (by simp [results, Tryz.results138, go_sem, hcw1, hfw1, hlw1_0, hlw1_1, hlw1_2, hcw2, hfw2, hlw2_0, hlw2_1, hlw2_2]) rfl ⟨by rw [Hc.out], by (repeat' (first | exact Below.refl _ _ | refine Below.setCell ?_ ?_ _ | refine Below.alloc ?_ ?_ _ | refine below_drewN ?_ _ | refine Below.trans ?_ (Below.mono (by assumption) ?_) | exact Nat.le_refl _ | omega | (simp only [World.size_alloc, World.size_setCell, World.size_drew] at *; omega)))⟩
    · have Hc := Lib.hid Hc
      simp only [k1] at C2
      simp only [k2] at C3
      go_enter Tryz.func138, Tryz.ntmps138
      go_wp2_with ((go_at_call 209; refine ((C1 _).out).mono ?_; rintro e w0 ⟨rfl, rfl⟩))
      refine wp_all_below (by kernel_rfl) (by kernel_rfl) ?_; (repeat (go_big_quiet_step (first | with_reducible exact quietly (fun W => (C5 W).out) | with_reducible exact quietly (fun W => (C6 W).out)))); refine wpQuiet_nil ?_; intro w1 hBw1; obtain ⟨hcw1, hfw1⟩ := bcell hBw1; have hzw1 := hBw1.size; (try simp only [World.size_alloc, World.size_setCell, World.size_drew] at hzw1); have hlw1_0 : w.heap.size < w1.heap.size := (by omega); have hlw1_1 : w.heap.size + 1 < w1.heap.size := (by omega); have hlw1_2 : w.heap.size + 1 + 1 < w1.heap.size := (by omega)
      go_wp2_with ((go_at_call 218; first | ((with_reducible refine ((C2 _).out).mono ?_); rintro e w2 ⟨rfl, hBw2⟩; obtain ⟨hcw2, hfw2⟩ := bcell hBw2; have hzw2 := hBw2.size; (try simp only [World.size_alloc, World.size_setCell, World.size_drew] at hzw2); have hlw2_0 : w.heap.size < w2.heap.size := (by omega); have hlw2_1 : w.heap.size + 1 < w2.heap.size := (by omega); have hlw2_2 : w.heap.size + 1 + 1 < w2.heap.size := (by omega)) | ((with_reducible refine ((C3 _).out).mono ?_); rintro e w3 ⟨rfl, hBw3⟩; obtain ⟨hcw3, hfw3⟩ := bcell hBw3; have hzw3 := hBw3.size; (try simp only [World.size_alloc, World.size_setCell, World.size_drew] at hzw3); have hlw3_0 : w.heap.size < w3.heap.size := (by omega); have hlw3_1 : w.heap.size + 1 < w3.heap.size := (by omega); have hlw3_2 : w.heap.size + 1 + 1 < w3.heap.size := (by omega))))
      exact bodyPost_ret (v := .tuple #[.agg #[.int .u64 bm, .int .u64 br], .bool true]) (by simp [results, Tryz.results138, go_sem, hcw1, hfw1, hlw1_0, hlw1_1, hlw1_2, hcw2, hfw2, hlw2_0, hlw2_1, hlw2_2, hcw3, hfw3, hlw3_0, hlw3_1, hlw3_2]) rfl ⟨by rw [Hc.out], by (repeat' (first | exact Below.refl _ _ | refine Below.setCell ?_ ?_ _ | refine Below.alloc ?_ ?_ _ | refine below_drewN ?_ _ | refine Below.trans ?_ (Below.mono (by assumption) ?_) | exact Nat.le_refl _ | omega | (simp only [World.size_alloc, World.size_setCell, World.size_drew] at *; omega)))⟩
    · have Hc := Lib.hid Hc
      simp only [k1] at C2
      simp only [k2] at C3
      go_enter Tryz.func138, Tryz.ntmps138
      go_wp2_with ((go_at_call 209; refine ((C1 _).out).mono ?_; rintro e w0 ⟨rfl, rfl⟩))
      refine wp_all_below (by kernel_rfl) (by kernel_rfl) ?_; (repeat (go_big_quiet_step (first | with_reducible exact quietly (fun W => (C5 W).out) | with_reducible exact quietly (fun W => (C6 W).out)))); refine wpQuiet_nil ?_; intro w1 hBw1; obtain ⟨hcw1, hfw1⟩ := bcell hBw1; have hzw1 := hBw1.size; (try simp only [World.size_alloc, World.size_setCell, World.size_drew] at hzw1); have hlw1_0 : w.heap.size < w1.heap.size := (by omega); have hlw1_1 : w.heap.size + 1 < w1.heap.size := (by omega); have hlw1_2 : w.heap.size + 1 + 1 < w1.heap.size := (by omega)
      go_wp2_with ((go_at_call 218; first | ((with_reducible refine ((C2 _).out).mono ?_); rintro e w2 ⟨rfl, hBw2⟩; obtain ⟨hcw2, hfw2⟩ := bcell hBw2; have hzw2 := hBw2.size; (try simp only [World.size_alloc, World.size_setCell, World.size_drew] at hzw2); have hlw2_0 : w.heap.size < w2.heap.size := (by omega); have hlw2_1 : w.heap.size + 1 < w2.heap.size := (by omega); have hlw2_2 : w.heap.size + 1 + 1 < w2.heap.size := (by omega)) | ((with_reducible refine ((C3 _).out).mono ?_); rintro e w3 ⟨rfl, hBw3⟩; obtain ⟨hcw3, hfw3⟩ := bcell hBw3; have hzw3 := hBw3.size; (try simp only [World.size_alloc, World.size_setCell, World.size_drew] at hzw3); have hlw3_0 : w.heap.size < w3.heap.size := (by omega); have hlw3_1 : w.heap.size + 1 < w3.heap.size := (by omega); have hlw3_2 : w.heap.size + 1 + 1 < w3.heap.size := (by omega))))
      exact bodyPost_ret (v := .tuple #[.agg #[.int .u64 bm, .int .u64 br], .bool true]) (by simp [results, Tryz.results138, go_sem, hcw1, hfw1, hlw1_0, hlw1_1, hlw1_2, hcw2, hfw2, hlw2_0, hlw2_1, hlw2_2, hcw3, hfw3, hlw3_0, hlw3_1, hlw3_2]) rfl ⟨by rw [Hc.out], by (repeat' (first | exact Below.refl _ _ | refine Below.setCell ?_ ?_ _ | refine Below.alloc ?_ ?_ _ | refine below_drewN ?_ _ | refine Below.trans ?_ (Below.mono (by assumption) ?_) | exact Nat.le_refl _ | omega | (simp only [World.size_alloc, World.size_setCell, World.size_drew] at *; omega)))⟩
    · have Hc := Lib.hid Hc
      simp only [k1] at C2
      simp only [k2] at C3
      go_enter Tryz.func138, Tryz.ntmps138
      go_wp2_with ((go_at_call 209; refine ((C1 _).out).mono ?_; rintro e w0 ⟨rfl, rfl⟩))
      refine wp_all_below (by kernel_rfl) (by kernel_rfl) ?_; (repeat (go_big_quiet_step (first | with_reducible exact quietly (fun W => (C5 W).out) | with_reducible exact quietly (fun W => (C6 W).out)))); refine wpQuiet_nil ?_; intro w1 hBw1; obtain ⟨hcw1, hfw1⟩ := bcell hBw1; have hzw1 := hBw1.size; (try simp only [World.size_alloc, World.size_setCell, World.size_drew] at hzw1); have hlw1_0 : w.heap.size < w1.heap.size := (by omega); have hlw1_1 : w.heap.size + 1 < w1.heap.size := (by omega); have hlw1_2 : w.heap.size + 1 + 1 < w1.heap.size := (by omega)
      go_wp2_with ((go_at_call 218; first | ((with_reducible refine ((C2 _).out).mono ?_); rintro e w2 ⟨rfl, hBw2⟩; obtain ⟨hcw2, hfw2⟩ := bcell hBw2; have hzw2 := hBw2.size; (try simp only [World.size_alloc, World.size_setCell, World.size_drew] at hzw2); have hlw2_0 : w.heap.size < w2.heap.size := (by omega); have hlw2_1 : w.heap.size + 1 < w2.heap.size := (by omega); have hlw2_2 : w.heap.size + 1 + 1 < w2.heap.size := (by omega)) | ((with_reducible refine ((C3 _).out).mono ?_); rintro e w3 ⟨rfl, hBw3⟩; obtain ⟨hcw3, hfw3⟩ := bcell hBw3; have hzw3 := hBw3.size; (try simp only [World.size_alloc, World.size_setCell, World.size_drew] at hzw3); have hlw3_0 : w.heap.size < w3.heap.size := (by omega); have hlw3_1 : w.heap.size + 1 < w3.heap.size := (by omega); have hlw3_2 : w.heap.size + 1 + 1 < w3.heap.size := (by omega))))
      exact bodyPost_ret (v := .tuple #[.agg #[.int .u64 am, .int .u64 ar], .bool true]) (by simp [results, Tryz.results138, go_sem, hcw1, hfw1, hlw1_0, hlw1_1, hlw1_2, hcw2, hfw2, hlw2_0, hlw2_1, hlw2_2, hcw3, hfw3, hlw3_0, hlw3_1, hlw3_2]) rfl ⟨by rw [Hc.out], by (repeat' (first | exact Below.refl _ _ | refine Below.setCell ?_ ?_ _ | refine Below.alloc ?_ ?_ _ | refine below_drewN ?_ _ | refine Below.trans ?_ (Below.mono (by assumption) ?_) | exact Nat.le_refl _ | omega | (simp only [World.size_alloc, World.size_setCell, World.size_drew] at *; omega)))⟩

theorem rmeet_c (am ar bm br : Int) (w : World) (ha : 0 ≤ am) (ha' : am ≤ 18446744073709551615) (har : 0 ≤ ar) (har' : ar ≤ 18446744073709551615) (hb : 0 ≤ bm) (hb' : bm ≤ 18446744073709551615) (hbr : 0 ≤ br) (hbr' : br ≤ 18446744073709551615) :
    Calls Tryz.prog 138 #[.agg #[.int .u64 am, .int .u64 ar], .agg #[.int .u64 bm, .int .u64 br]] w fun e w' => e = .returned (.tuple #[.agg #[.int .u64 (cmeet am ar bm br).1.1, .int .u64 (cmeet am ar bm br).1.2], .bool (cmeet am ar bm br).2]) ∧ Below w.heap.size w w' := by
  by_cases h : am = 0
  · exact rmeet_c1 am ar bm br w ha ha' har har' hb hb' hbr hbr' h
  · by_cases h2 : bm = 0
    · exact rmeet_c2 am ar bm br w ha ha' har har' hb hb' hbr hbr' h h2
    · exact rmeet_c3 am ar bm br w ha ha' har har' hb hb' hbr hbr' h h2

end Go.Proofs.YtljhbdgoknfkcaaGreatDoor
