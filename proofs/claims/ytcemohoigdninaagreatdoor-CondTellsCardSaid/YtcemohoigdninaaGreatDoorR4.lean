/- Contracts of the reference: joins, what is wrapped. -/
import Derived.Test.YtcemohoigdninaaGreatDoorR3
namespace Go.Proofs.YtcemohoigdninaaGreatDoor
open Go Go.RowKit Go.Sort
set_option linter.unusedVariables false
set_option linter.unusedSimpArgs false
set_option maxRecDepth 100000

theorem cg_self (a : Int) (h : 0 ≤ a) : cg a a = a := by unfold cg; rw [Int.gcd_self]; omega
theorem cjoin_self (m r : Int) (hm : 0 ≤ m) (hr : 0 ≤ r) (h : m = 0 ∨ r < m) : cjoin m r m r = (m, r) := by
  unfold cjoin
  by_cases h0 : m = 0
  · rw [if_pos ⟨h0, h0⟩, if_pos rfl, h0]
  · have h1 : r < m := by omega
    have h2 : crest m r m = r := by unfold crest; rw [if_neg h0]; exact Int.emod_eq_of_lt hr h1
    have h3 : cdist r r = 0 := by unfold cdist; rw [if_neg (by omega)]; omega
    rw [if_neg (by omega), cg_self m hm, h2, h3, cg_zero m hm, Int.emod_eq_of_lt hr h1]

set_option maxHeartbeats 1000000 in
theorem rjoin_c (am ar bm br : Int) (w : World) (ha : 0 ≤ am) (ha' : am ≤ 18446744073709551615) (har : 0 ≤ ar) (har' : ar ≤ 18446744073709551615) (hb : 0 ≤ bm) (hb' : bm ≤ 18446744073709551615) (hbr : 0 ≤ br) (hbr' : br ≤ 18446744073709551615) (hright : am = 0 ∨ ar < am) :
    Calls Tryz.prog 129 #[.agg #[.int .u64 am, .int .u64 ar], .agg #[.int .u64 bm, .int .u64 br]] w fun e w' => e = .returned (.agg #[.int .u64 (cjoin am ar bm br).1, .int .u64 (cjoin am ar bm br).2]) ∧ Below w.heap.size w w' := by
  have gc := grown_cell
  have heq := run_eql_rcong
  by_cases hsame : am = bm ∧ ar = br
  · obtain ⟨rfl, rfl⟩ := hsame
    have Hc := Lib.hid (cjoin_self am ar ha har hright)
    go_enter Tryz.func129, Tryz.ntmps129
    go_wp2
    exact bodyPost_ret (v := .agg #[.int .u64 am, .int .u64 ar]) (by simp [results, Tryz.results129, go_sem]) rfl ⟨by rw [Hc.out], by (repeat' (first | exact Below.refl _ _ | refine Below.setCell ?_ ?_ _ | refine Below.alloc ?_ ?_ _ | refine below_drewN ?_ _ | refine Below.trans ?_ (Below.mono (by assumption) ?_) | exact Nat.le_refl _ | omega | (simp only [World.size_alloc, World.size_setCell, World.size_drew] at *; omega)))⟩
  have hne : (am == bm && ar == br) = false := by
    by_cases h1 : am = bm
    · have h2 : ¬ ar = br := fun h => hsame ⟨h1, h⟩
      simp [h2]
    · simp [h1]
  by_cases h : am = 0 ∧ bm = 0
  · obtain ⟨rfl, rfl⟩ := h
    have h2 : ¬ ar = br := fun h => hsame ⟨rfl, h⟩
    have hm2 : (ar == br) = false := by simpa using h2
    have Hc := Lib.hid (show cjoin 0 ar 0 br = (cdist (sg ar) (sg br), sg ar % cdist (sg ar) (sg br)) from by simp [cjoin, h2])
    have C1 := fun W => Lib.hid (rgcd_c 0 0 W (by omega) (by omega) (by omega) (by omega))
    simp only [show cg 0 0 = 0 from rfl] at C1
    have hne2 : sg ar ≠ sg br := fun e => h2 (sg_inj har har' hbr hbr' e)
    have e1 := sg_eq' ar
    have e2 := sg_eq' br
    have r1 := sg_rng ar
    have r2 := sg_rng br
    clear h2 hsame
    generalize sg ar = x at *
    generalize sg br = y at *
    obtain ⟨d, hd⟩ : ∃ d, d = cdist x y := ⟨_, rfl⟩
    have hd0 : 0 < d ∧ d ≤ 18446744073709551615 := by rw [hd]; unfold cdist; split <;> omega
    have e5 : IntKind.u64.wrap (IntKind.u64.wrap (max x y) - IntKind.u64.wrap (min x y)) = d := by rw [hd]; unfold cdist; simp only [IntKind.wrap_u64]; split <;> omega
    rw [← hd] at Hc
    have Hm := Lib.hid (show cmake d x = x % d from by unfold cmake; rw [if_neg (by omega)])
    clear hd
    go_enter Tryz.func129, Tryz.ntmps129
    go_wp2_with (go_at_call 196; refine ((C1 _).out).mono ?_; rintro e w9 ⟨rfl, rfl⟩)
    refine wp_all_below (by kernel_rfl) (by kernel_rfl) ?_; (repeat (go_big_quiet_step (first | fail))); refine wpQuiet_nil ?_; intro w0 hBw0; obtain ⟨hcw0, hfw0⟩ := bcell hBw0; have hzw0 := hBw0.size; (try simp only [World.size_alloc, World.size_setCell, World.size_drew] at hzw0); have hlw0_0 : w.heap.size < w0.heap.size := (by omega); have hlw0_1 : w.heap.size + 1 < w0.heap.size := (by omega); have hlw0_2 : w.heap.size + 1 + 1 < w0.heap.size := (by omega)
    go_wp2_with (go_at_call 124; refine (rmake_c _ _ _ (by omega) (by omega) (by omega) (by omega)).mono ?_; rintro e w1 ⟨rfl, hBw1⟩; obtain ⟨hcw1, hfw1⟩ := bcell hBw1; have hzw1 := hBw1.size; (try simp only [World.size_alloc, World.size_setCell, World.size_drew] at hzw1); have hlw1_0 : w.heap.size < w1.heap.size := (by omega); have hlw1_1 : w.heap.size + 1 < w1.heap.size := (by omega); have hlw1_2 : w.heap.size + 1 + 1 < w1.heap.size := (by omega))
    exact bodyPost_ret (v := .agg #[.int .u64 d, .int .u64 (cmake d x)]) (by simp [results, Tryz.results129, go_sem, hcw0, hfw0, hlw0_0, hlw0_1, hlw0_2, hcw1, hfw1, hlw1_0, hlw1_1, hlw1_2]) rfl ⟨by rw [Hc.out, Hm.out], by (repeat' (first | exact Below.refl _ _ | refine Below.setCell ?_ ?_ _ | refine Below.alloc ?_ ?_ _ | refine below_drewN ?_ _ | refine Below.trans ?_ (Below.mono (by assumption) ?_) | exact Nat.le_refl _ | omega | (simp only [World.size_alloc, World.size_setCell, World.size_drew] at *; omega)))⟩
  · have Hc := Lib.hid (show cjoin am ar bm br = _ from by unfold cjoin; rw [if_neg h])
    have hg := cg_pos h
    have hgB : cg am bm ≤ 18446744073709551615 := cg_bd ha hb ha' hb'
    have hx := crest_rng am ar (cg am bm) hg
    have hy := crest_rng bm br (cg am bm) hg
    generalize hgg : cg am bm = g at *
    generalize hxx : crest am ar g = x at *
    generalize hyy : crest bm br g = y at *
    have hd0 := @cdist_rng x y
    have hd1 : cdist x y ≤ 18446744073709551615 := by unfold cdist; split <;> omega
    have C0 := fun W => Lib.hid (rfar_c x y W hx.1 hy.1 (by omega) (by omega))
    generalize cdist x y = d at *
    have hm : 0 < cg g d := cg_pos (by omega)
    have hmB : cg g d ≤ 18446744073709551615 := cg_bd (by omega) (by omega) hgB hd1
    generalize hmm : cg g d = m at *
    have C1 := fun W => Lib.hid (rgcd_c am bm W ha ha' hb hb')
    have C2 := fun W => Lib.hid (rof_c am ar g W ha ha' har har' hg hgB)
    have C3 := fun W => Lib.hid (rof_c bm br g W hb hb' hbr hbr' hg hgB)
    have C4 := fun W => Lib.hid (rgcd_c g d W (by omega) hgB hd0 hd1)
    rw [hgg] at C1
    rw [hxx] at C2
    rw [hyy] at C3
    rw [hmm] at C4
    have hg0 : (g == 0) = false := by simp; omega
    clear hgg hxx hyy hmm h hsame hright
    go_enter Tryz.func129, Tryz.ntmps129
    go_wp2_with (go_at_call 196; refine ((C1 _).out).mono ?_; rintro e w9 ⟨rfl, rfl⟩)
    refine wp_all_below (by kernel_rfl) (by kernel_rfl) ?_; (repeat (go_big_quiet_step (first | with_reducible exact quietly (fun W => (C2 W).out) | with_reducible exact quietly (fun W => (C3 W).out) | with_reducible exact quietly_same (fun W => (C0 W).out) | with_reducible exact quietly_same (fun W => (C4 W).out)))); refine wpQuiet_nil ?_; intro w2 hBw2; obtain ⟨hcw2, hfw2⟩ := bcell hBw2; have hzw2 := hBw2.size; (try simp only [World.size_alloc, World.size_setCell, World.size_drew] at hzw2); have hlw2_0 : w.heap.size < w2.heap.size := (by omega); have hlw2_1 : w.heap.size + 1 < w2.heap.size := (by omega); have hlw2_2 : w.heap.size + 1 + 1 < w2.heap.size := (by omega)
    go_wp2_with (go_at_call 198; refine ((C2 _).out).mono ?_; rintro e w3 ⟨rfl, hBw3⟩; obtain ⟨hcw3, hfw3⟩ := bcell hBw3; have hzw3 := hBw3.size; (try simp only [World.size_alloc, World.size_setCell, World.size_drew] at hzw3); have hlw3_0 : w.heap.size < w3.heap.size := (by omega); have hlw3_1 : w.heap.size + 1 < w3.heap.size := (by omega); have hlw3_2 : w.heap.size + 1 + 1 < w3.heap.size := (by omega))
    exact bodyPost_ret (v := .agg #[.int .u64 m, .int .u64 (x % m)]) (by simp [results, Tryz.results129, go_sem, hcw2, hfw2, hlw2_0, hlw2_1, hlw2_2, hcw3, hfw3, hlw3_0, hlw3_1, hlw3_2]) rfl ⟨by rw [Hc.out], by (repeat' (first | exact Below.refl _ _ | refine Below.setCell ?_ ?_ _ | refine Below.alloc ?_ ?_ _ | refine below_drewN ?_ _ | refine Below.trans ?_ (Below.mono (by assumption) ?_) | exact Nat.le_refl _ | omega | (simp only [World.size_alloc, World.size_setCell, World.size_drew] at *; omega)))⟩

theorem lbN_succ (f m : Nat) : lbN (f + 1) m = if m % 2 = 0 then 2 * lbN f (m / 2) else 1 := rfl
theorem lbN_fuel : ∀ f m, 0 < m → m < 2 ^ f → lbN (f + 1) m = lbN f m := by
  intro f
  induction f with
  | zero => intro m h0 h1; simp at h1; omega
  | succ f ih =>
    intro m h0 h1
    rw [lbN_succ (f + 1) m, lbN_succ f m]
    split
    · rw [ih (m / 2) (by omega) (by rw [Nat.pow_succ] at h1; omega)]
    · rfl
theorem clow_even (q : Int) (h : q % 2 = 0) (h0 : 0 < q) (h1 : q ≤ 18446744073709551615) : clow q = 2 * clow (q / 2) := by
  unfold clow
  have e : (q / 2).toNat = q.toNat / 2 := by omega
  have h2 : lbN 64 q.toNat = 2 * lbN 63 (q.toNat / 2) := by rw [lbN_succ 63, if_pos (by omega)]
  have h3 : lbN 64 (q.toNat / 2) = lbN 63 (q.toNat / 2) := lbN_fuel 63 (q.toNat / 2) (by omega) (by omega)
  rw [e, h2, h3]; omega
theorem clow_odd (q : Int) (h : q % 2 = 1) (h0 : 0 < q) : clow q = 1 := by
  unfold clow
  have : lbN 64 q.toNat = 1 := by rw [lbN_succ 63, if_neg (by omega)]
  omega

set_option maxHeartbeats 1000000 in
theorem rwrapped_c (m r : Int) (w : World) (hm : 0 ≤ m) (hm' : m ≤ 18446744073709551615) (hr : 0 ≤ r) (hr' : r ≤ 18446744073709551615) :
    Calls Tryz.prog 98 #[.agg #[.int .u64 m, .int .u64 r]] w fun e w' => e = .returned (.agg #[.int .u64 (cwrapped m r).1, .int .u64 (cwrapped m r).2]) ∧ Below w.heap.size w w' := by
  by_cases h : m = 0
  · subst h
    have Hc := Lib.hid (show cwrapped 0 r = (0, r) from rfl)
    go_enter Tryz.func98, Tryz.ntmps98
    go_wp2
    exact bodyPost_ret (v := .agg #[.int .u64 0, .int .u64 r]) (by simp [results, Tryz.results98, go_sem]) rfl ⟨by rw [Hc.out], by (repeat' (first | exact Below.refl _ _ | refine Below.setCell ?_ ?_ _ | refine Below.alloc ?_ ?_ _ | refine below_drewN ?_ _ | refine Below.trans ?_ (Below.mono (by assumption) ?_) | exact Nat.le_refl _ | omega | (simp only [World.size_alloc, World.size_setCell, World.size_drew] at *; omega)))⟩
  · have hm0 : (m == 0) = false := by simpa using h
    have Hc := Lib.hid (show cwrapped m r = (clow m, r % clow m) from by unfold cwrapped; rw [if_neg h])
    have r1 := clow_rng m (by omega) hm'
    go_enter Tryz.func98, Tryz.ntmps98
    go_wp2
    go_loopw [3] (fun xp wr => ∃ p q : Int, xp = .int .u64 p ∧ 0 < p ∧ 0 < q ∧ q ≤ m ∧ Hid (p * clow q = clow m) ∧ Hid (p * q ≤ m) ∧ wr.cell? ⟨w.heap.size, 0, none⟩ = some (.int .u64 q) ∧ wr.cell? ⟨w.heap.size, 1, none⟩ = some (.int .u64 r) ∧ wr.frozen? ⟨w.heap.size, 0, none⟩ = false ∧
        wr.cell? ⟨w.heap.size + 1, 0, none⟩ = some (.int .u64 0) ∧ wr.cell? ⟨w.heap.size + 1, 1, none⟩ = some (.int .u64 0) ∧ wr.frozen? ⟨w.heap.size + 1, 0, none⟩ = false ∧ wr.frozen? ⟨w.heap.size + 1, 1, none⟩ = false ∧ Below w.heap.size w wr)
      (fun _ wr => match wr.cell? ⟨w.heap.size, 0, none⟩ with | some v => (intOf v).toNat | none => 0)
    case atStart => exact ⟨1, m, rfl, by omega, by omega, by omega, by show 1 * clow m = _; rw [Int.one_mul], by show 1 * m ≤ m; omega, by simp [go_sem], by simp [go_sem], by simp [go_sem], by simp [go_sem], by simp [go_sem], by simp [go_sem], by simp [go_sem], by (repeat' (first | exact Below.refl _ _ | refine Below.setCell ?_ ?_ _ | refine Below.alloc ?_ ?_ _ | refine below_drewN ?_ _ | refine Below.trans ?_ (Below.mono (by assumption) ?_) | exact Nat.le_refl _ | omega | (simp only [World.size_alloc, World.size_setCell, World.size_drew] at *; omega)))⟩
    case round =>
      obtain ⟨p, q, rfl, hp0, hq0, hqm, H1, H2, k0, k1, k2, k3, k4, k5, k6, hB⟩ := hrel
      by_cases h2 : q % 2 = 0
      · have hm2 : (q % 2 == 0) = true := by simpa using h2
        have e1 := clow_even q h2 hq0 (by omega)
        have N1 : Hid (2 * p * clow (q / 2) = clow m) := by
          have := H1.out; rw [e1] at this
          show 2 * p * clow (q / 2) = clow m
          rw [Int.mul_comm 2 p, Int.mul_assoc]; exact this
        have e2 : 2 * p * (q / 2) = p * q := by
          have : q = 2 * (q / 2) := by omega
          rw [Int.mul_comm 2 p, Int.mul_assoc, ← this]
        have N2 : Hid (2 * p * (q / 2) ≤ m) := by show _ ≤ _; rw [e2]; exact H2.out
        have hp2 : 2 * p ≤ 18446744073709551615 := by
          have h3 : 2 * p * 1 ≤ 2 * p * (q / 2) := Int.mul_le_mul_of_nonneg_left (by omega) (by omega)
          have := N2.out; omega
        have hq2 : 0 < q / 2 := by omega
        clear H1 H2 e1 e2 h2
        go_wp2
        go_roundw
        case rel => exact ⟨2 * p, q / 2, rfl, by omega, by omega, by omega, N1, N2, by simp [go_sem, k0], by simp [go_sem, k1], by simp [go_sem, k2], by simp [go_sem, k3], by simp [go_sem, k4], by simp [go_sem, k5], by simp [go_sem, k6], by (repeat' (first | exact Below.refl _ _ | refine Below.setCell ?_ ?_ _ | refine Below.alloc ?_ ?_ _ | refine below_drewN ?_ _ | refine Below.trans ?_ (Below.mono (by assumption) ?_) | exact Nat.le_refl _ | omega | (simp only [World.size_alloc, World.size_setCell, World.size_drew] at *; omega)))⟩
        case measure => simp [go_sem, k0, intOf]; omega
      · have hm2 : (q % 2 == 0) = false := by simpa using h2
        have e1 := clow_odd q (by omega) hq0
        have Hp := Lib.hid (show p = clow m by have := H1.out; rw [e1, Int.mul_one] at this; exact this)
        have hpn : p ≠ 0 := by omega
        clear H1 H2 h2 e1
        go_wp2
        exact bodyPost_ret (v := .agg #[.int .u64 p, .int .u64 (r % p)]) (by simp [results, Tryz.results98, go_sem, k0, k1, k3, k4]) rfl ⟨by rw [Hc.out, ← Hp.out], by (repeat' (first | exact Below.refl _ _ | refine Below.setCell ?_ ?_ _ | refine Below.alloc ?_ ?_ _ | refine below_drewN ?_ _ | refine Below.trans ?_ (Below.mono (by assumption) ?_) | exact Nat.le_refl _ | omega | (simp only [World.size_alloc, World.size_setCell, World.size_drew] at *; omega)))⟩

end Go.Proofs.YtcemohoigdninaaGreatDoor
