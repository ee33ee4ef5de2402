/- Contracts of the reference: products. -/
import Derived.Test.YtcemohoigdninaaDoorR1
import Derived.Test.YtcemohoigdninaaDoorC6
namespace Go.Proofs.YtcemohoigdninaaDoor
open Go Go.RowKit Go.Sort
set_option linter.unusedVariables false
set_option linter.unusedSimpArgs false
set_option maxRecDepth 100000

/-- a product, if it is below 2^64 -/
def cfits (a b : Int) : Int × Bool := if a * b ≤ 18446744073709551615 then (a * b, true) else (0, false)

theorem times_odd (o a b m : Int) (hb : b % 2 = 1) : ((o + a) % m + (a + a) % m * (b / 2)) % m = (o + a * b) % m := by
  have e : a * b = a + (a + a) * (b / 2) := by
    have h : b = 1 + 2 * (b / 2) := by omega
    rw [Int.add_mul a a, ← Int.mul_add]
    have h2 : a * b = a * (1 + 2 * (b / 2)) := by rw [← h]
    rw [h2, Int.mul_add, Int.mul_one, Int.two_mul]
  rw [e, ← Int.add_assoc, Int.add_emod, Int.emod_emod_of_dvd _ (Int.dvd_refl m), Int.mul_emod, Int.emod_emod_of_dvd _ (Int.dvd_refl m), ← Int.mul_emod, ← Int.add_emod]
theorem times_even (o a b m : Int) (hb : b % 2 = 0) : (o + (a + a) % m * (b / 2)) % m = (o + a * b) % m := by
  have e : a * b = (a + a) * (b / 2) := by
    have h : b = 2 * (b / 2) := by omega
    have h2 : a * b = a * (2 * (b / 2)) := by rw [← h]
    rw [h2, Int.add_mul a a, ← Int.mul_add, Int.two_mul]
  rw [e, Int.add_emod, Int.mul_emod, Int.emod_emod_of_dvd _ (Int.dvd_refl m), ← Int.mul_emod, ← Int.add_emod]

theorem cg_self (a : Int) (h : 0 ≤ a) : cg a a = a := by unfold cg; rw [Int.gcd_self]; omega
theorem cjoin_self (m r : Int) (hm : 0 ≤ m) (hr : 0 ≤ r) (h : m = 0 ∨ r < m) : cjoin m r m r = (m, r) := by
  unfold cjoin
  by_cases h0 : m = 0
  · rw [if_pos ⟨h0, h0⟩, if_pos rfl, h0]
  · have h1 : r < m := by omega
    have h2 : crest m r m = r := by unfold crest; rw [if_neg h0]; exact Int.emod_eq_of_lt hr h1
    have h3 : cdist r r = 0 := by unfold cdist; rw [if_neg (by omega)]; omega
    rw [if_neg (by omega), cg_self m hm, h2, h3, cg_zero m hm, Int.emod_eq_of_lt hr h1]

set_option maxHeartbeats 1000000 in
theorem rjoin_c (am ar bm br : Int) (w : World) (ha : 0 ≤ am) (ha' : am ≤ 18446744073709551615) (har : 0 ≤ ar) (har' : ar ≤ 18446744073709551615) (hb : 0 ≤ bm) (hb' : bm ≤ 18446744073709551615) (hbr : 0 ≤ br) (hbr' : br ≤ 18446744073709551615) (hright : am = 0 ∨ ar < am) :
    Calls Tryd.prog 91 #[.agg #[.int .u64 am, .int .u64 ar], .agg #[.int .u64 bm, .int .u64 br]] w fun e w' => e = .returned (.agg #[.int .u64 (cjoin am ar bm br).1, .int .u64 (cjoin am ar bm br).2]) ∧ Below w.heap.size w w' := by
  have gc := grown_cell
  have heq := run_eql_rcong
  by_cases hsame : am = bm ∧ ar = br
  · obtain ⟨rfl, rfl⟩ := hsame
    have Hc := Lib.hid (cjoin_self am ar ha har hright)
    go_enter Tryd.func91, Tryd.ntmps91
    go_wp2
    exact bodyPost_ret (v := .agg #[.int .u64 am, .int .u64 ar]) (by simp [results, Tryd.results91, go_sem]) rfl ⟨by rw [Hc.out], by (repeat' (first | exact Below.refl _ _ | refine Below.setCell ?_ ?_ _ | refine Below.alloc ?_ ?_ _ | refine below_drewN ?_ _ | refine Below.trans ?_ (Below.mono (by assumption) ?_) | exact Nat.le_refl _ | omega | (simp only [World.size_alloc, World.size_setCell, World.size_drew] at *; omega)))⟩
  have hne : (am == bm && ar == br) = false := by
    by_cases h1 : am = bm
    · have h2 : ¬ ar = br := fun h => hsame ⟨h1, h⟩
      simp [h2]
    · simp [h1]
  by_cases h : am = 0 ∧ bm = 0
  · obtain ⟨rfl, rfl⟩ := h
    have h2 : ¬ ar = br := fun h => hsame ⟨rfl, h⟩
    have hm2 : (ar == br) = false := by simpa using h2
    have Hc := Lib.hid (show cjoin 0 ar 0 br = (cdist (sg ar) (sg br), sg ar % cdist (sg ar) (sg br)) from by simp [cjoin, h2])
    have C1 := fun W => Lib.hid (rgcd_c 0 0 W (by omega) (by omega) (by omega) (by omega))
    simp only [show cg 0 0 = 0 from rfl] at C1
    have hne2 : sg ar ≠ sg br := fun e => h2 (sg_inj har har' hbr hbr' e)
    have e1 := sg_eq' ar
    have e2 := sg_eq' br
    have r1 := sg_rng ar
    have r2 := sg_rng br
    clear h2 hsame
    generalize sg ar = x at *
    generalize sg br = y at *
    obtain ⟨d, hd⟩ : ∃ d, d = cdist x y := ⟨_, rfl⟩
    have hd0 : 0 < d ∧ d ≤ 18446744073709551615 := by rw [hd]; unfold cdist; split <;> omega
    have e5 : IntKind.u64.wrap (IntKind.u64.wrap (max x y) - IntKind.u64.wrap (min x y)) = d := by rw [hd]; unfold cdist; simp only [IntKind.wrap_u64]; split <;> omega
    rw [← hd] at Hc
    have Hm := Lib.hid (show cmake d x = x % d from by unfold cmake; rw [if_neg (by omega)])
    clear hd
    go_enter Tryd.func91, Tryd.ntmps91
    go_wp2_with (go_at_call 139; refine ((C1 _).out).mono ?_; rintro e w9 ⟨rfl, rfl⟩)
    refine wp_all_below (by kernel_rfl) (by kernel_rfl) ?_; (repeat (go_big_quiet_step (first | fail))); refine wpQuiet_nil ?_; intro w0 hBw0; obtain ⟨hcw0, hfw0⟩ := bcell hBw0; have hzw0 := hBw0.size; (try simp only [World.size_alloc, World.size_setCell, World.size_drew] at hzw0); have hlw0_0 : w.heap.size < w0.heap.size := (by omega); have hlw0_1 : w.heap.size + 1 < w0.heap.size := (by omega); have hlw0_2 : w.heap.size + 1 + 1 < w0.heap.size := (by omega)
    go_wp2_with (go_at_call 83; refine (rmake_c _ _ _ (by omega) (by omega) (by omega) (by omega)).mono ?_; rintro e w1 ⟨rfl, hBw1⟩; obtain ⟨hcw1, hfw1⟩ := bcell hBw1; have hzw1 := hBw1.size; (try simp only [World.size_alloc, World.size_setCell, World.size_drew] at hzw1); have hlw1_0 : w.heap.size < w1.heap.size := (by omega); have hlw1_1 : w.heap.size + 1 < w1.heap.size := (by omega); have hlw1_2 : w.heap.size + 1 + 1 < w1.heap.size := (by omega))
    exact bodyPost_ret (v := .agg #[.int .u64 d, .int .u64 (cmake d x)]) (by simp [results, Tryd.results91, go_sem, hcw0, hfw0, hlw0_0, hlw0_1, hlw0_2, hcw1, hfw1, hlw1_0, hlw1_1, hlw1_2]) rfl ⟨by rw [Hc.out, Hm.out], by (repeat' (first | exact Below.refl _ _ | refine Below.setCell ?_ ?_ _ | refine Below.alloc ?_ ?_ _ | refine below_drewN ?_ _ | refine Below.trans ?_ (Below.mono (by assumption) ?_) | exact Nat.le_refl _ | omega | (simp only [World.size_alloc, World.size_setCell, World.size_drew] at *; omega)))⟩
  · have Hc := Lib.hid (show cjoin am ar bm br = _ from by unfold cjoin; rw [if_neg h])
    have hg := cg_pos h
    have hgB : cg am bm ≤ 18446744073709551615 := cg_bd ha hb ha' hb'
    have hx := crest_rng am ar (cg am bm) hg
    have hy := crest_rng bm br (cg am bm) hg
    generalize hgg : cg am bm = g at *
    generalize hxx : crest am ar g = x at *
    generalize hyy : crest bm br g = y at *
    have hd0 := @cdist_rng x y
    have hd1 : cdist x y ≤ 18446744073709551615 := by unfold cdist; split <;> omega
    have C0 := fun W => Lib.hid (rfar_c x y W hx.1 hy.1 (by omega) (by omega))
    generalize cdist x y = d at *
    have hm : 0 < cg g d := cg_pos (by omega)
    have hmB : cg g d ≤ 18446744073709551615 := cg_bd (by omega) (by omega) hgB hd1
    generalize hmm : cg g d = m at *
    have C1 := fun W => Lib.hid (rgcd_c am bm W ha ha' hb hb')
    have C2 := fun W => Lib.hid (rof_c am ar g W ha ha' har har' hg hgB)
    have C3 := fun W => Lib.hid (rof_c bm br g W hb hb' hbr hbr' hg hgB)
    have C4 := fun W => Lib.hid (rgcd_c g d W (by omega) hgB hd0 hd1)
    rw [hgg] at C1
    rw [hxx] at C2
    rw [hyy] at C3
    rw [hmm] at C4
    have hg0 : (g == 0) = false := by simp; omega
    clear hgg hxx hyy hmm h hsame hright
    go_enter Tryd.func91, Tryd.ntmps91
    go_wp2_with (go_at_call 139; refine ((C1 _).out).mono ?_; rintro e w9 ⟨rfl, rfl⟩)
    refine wp_all_below (by kernel_rfl) (by kernel_rfl) ?_; (repeat (go_big_quiet_step (first | with_reducible exact quietly (fun W => (C2 W).out) | with_reducible exact quietly (fun W => (C3 W).out) | with_reducible exact quietly_same (fun W => (C0 W).out) | with_reducible exact quietly_same (fun W => (C4 W).out)))); refine wpQuiet_nil ?_; intro w2 hBw2; obtain ⟨hcw2, hfw2⟩ := bcell hBw2; have hzw2 := hBw2.size; (try simp only [World.size_alloc, World.size_setCell, World.size_drew] at hzw2); have hlw2_0 : w.heap.size < w2.heap.size := (by omega); have hlw2_1 : w.heap.size + 1 < w2.heap.size := (by omega); have hlw2_2 : w.heap.size + 1 + 1 < w2.heap.size := (by omega)
    go_wp2_with (go_at_call 141; refine ((C2 _).out).mono ?_; rintro e w3 ⟨rfl, hBw3⟩; obtain ⟨hcw3, hfw3⟩ := bcell hBw3; have hzw3 := hBw3.size; (try simp only [World.size_alloc, World.size_setCell, World.size_drew] at hzw3); have hlw3_0 : w.heap.size < w3.heap.size := (by omega); have hlw3_1 : w.heap.size + 1 < w3.heap.size := (by omega); have hlw3_2 : w.heap.size + 1 + 1 < w3.heap.size := (by omega))
    exact bodyPost_ret (v := .agg #[.int .u64 m, .int .u64 (x % m)]) (by simp [results, Tryd.results91, go_sem, hcw2, hfw2, hlw2_0, hlw2_1, hlw2_2, hcw3, hfw3, hlw3_0, hlw3_1, hlw3_2]) rfl ⟨by rw [Hc.out], by (repeat' (first | exact Below.refl _ _ | refine Below.setCell ?_ ?_ _ | refine Below.alloc ?_ ?_ _ | refine below_drewN ?_ _ | refine Below.trans ?_ (Below.mono (by assumption) ?_) | exact Nat.le_refl _ | omega | (simp only [World.size_alloc, World.size_setCell, World.size_drew] at *; omega)))⟩

theorem lbN_succ (f m : Nat) : lbN (f + 1) m = if m % 2 = 0 then 2 * lbN f (m / 2) else 1 := rfl
theorem lbN_fuel : ∀ f m, 0 < m → m < 2 ^ f → lbN (f + 1) m = lbN f m := by
  intro f
  induction f with
  | zero => intro m h0 h1; simp at h1; omega
  | succ f ih =>
    intro m h0 h1
    rw [lbN_succ (f + 1) m, lbN_succ f m]
    split
    · rw [ih (m / 2) (by omega) (by rw [Nat.pow_succ] at h1; omega)]
    · rfl
theorem clow_even (q : Int) (h : q % 2 = 0) (h0 : 0 < q) (h1 : q ≤ 18446744073709551615) : clow q = 2 * clow (q / 2) := by
  unfold clow
  have e : (q / 2).toNat = q.toNat / 2 := by omega
  have h2 : lbN 64 q.toNat = 2 * lbN 63 (q.toNat / 2) := by rw [lbN_succ 63, if_pos (by omega)]
  have h3 : lbN 64 (q.toNat / 2) = lbN 63 (q.toNat / 2) := lbN_fuel 63 (q.toNat / 2) (by omega) (by omega)
  rw [e, h2, h3]; omega
theorem clow_odd (q : Int) (h : q % 2 = 1) (h0 : 0 < q) : clow q = 1 := by
  unfold clow
  have : lbN 64 q.toNat = 1 := by rw [lbN_succ 63, if_neg (by omega)]
  omega

theorem cmeet_left {ar bm br : Int} : cmeet 0 ar bm br = if chas bm br (sg ar) then ((0, ar), true) else ((0, 0), false) := by
  have hcc : ccommon 0 ar bm br = chas bm br (sg ar) := by unfold ccommon; rw [if_pos rfl]
  have hw : cwithin 0 ar bm br = chas bm br (sg ar) := by unfold cwithin; rw [if_pos rfl]
  cases h : chas bm br (sg ar)
  · rw [if_neg (by simp)]; exact cmeet_no (hcc.trans h)
  · rw [if_pos rfl]; exact cmeet_a (hcc.trans h) (Or.inl (hw.trans h))
theorem cmeet_right {am ar br : Int} (h0 : am ≠ 0) : cmeet am ar 0 br = if chas am ar (sg br) then ((0, br), true) else ((0, 0), false) := by
  have hcc : ccommon am ar 0 br = chas am ar (sg br) := by unfold ccommon; rw [if_neg h0, if_pos rfl]
  have hw : cwithin am ar 0 br = false := by unfold cwithin; rw [if_neg h0, if_pos rfl]
  have hw2 : cwithin 0 br am ar = chas am ar (sg br) := by unfold cwithin; rw [if_pos rfl]
  cases h : chas am ar (sg br)
  · rw [if_neg (by simp)]; exact cmeet_no (hcc.trans h)
  · rw [if_pos rfl]; exact cmeet_b (hcc.trans h) hw (Or.inl (hw2.trans h))

set_option maxHeartbeats 2000000 in
theorem rmeet_c1 (am ar bm br : Int) (w : World) (ha : 0 ≤ am) (ha' : am ≤ 18446744073709551615) (har : 0 ≤ ar) (har' : ar ≤ 18446744073709551615) (hb : 0 ≤ bm) (hb' : bm ≤ 18446744073709551615) (hbr : 0 ≤ br) (hbr' : br ≤ 18446744073709551615) (h : am = 0) :
    Calls Tryd.prog 92 #[.agg #[.int .u64 am, .int .u64 ar], .agg #[.int .u64 bm, .int .u64 br]] w fun e w' => e = .returned (.tuple #[.agg #[.int .u64 (cmeet am ar bm br).1.1, .int .u64 (cmeet am ar bm br).1.2], .bool (cmeet am ar bm br).2]) ∧ Below w.heap.size w w' := by
  have gc := grown_cell
  subst h
  have r1 := sg_rng ar
  have e1 := sg_eq' ar
  have C1 := fun W => Lib.hid (rhas_c bm br (sg ar) W hb hb' r1.1 r1.2)
  have Hc := Lib.hid (@cmeet_left ar bm br)
  cases hk : chas bm br (sg ar)
  · simp only [hk] at C1
    have Hc := Lib.hid (show cmeet 0 ar bm br = ((0, 0), false) by rw [Hc.out, hk]; rfl)
    clear hk
    go_enter Tryd.func92, Tryd.ntmps92
    go_wp2
    go_region
    all_goals
      go_wp2_with ((go_at_call 76; refine ((C1 _).out).mono ?_; rintro e w1 ⟨rfl, hBw1⟩; obtain ⟨hcw1, hfw1⟩ := bcell hBw1; have hzw1 := hBw1.size; (try simp only [World.size_alloc, World.size_setCell, World.size_drew] at hzw1); have hlw1_0 : w.heap.size < w1.heap.size := (by omega); have hlw1_1 : w.heap.size + 1 < w1.heap.size := (by omega); have hlw1_2 : w.heap.size + 1 + 1 < w1.heap.size := (by omega); have hlw1_3 : w.heap.size + 1 + 1 + 1 < w1.heap.size := (by omega); have hlw1_4 : w.heap.size + 1 + 1 + 1 + 1 < w1.heap.size := (by omega)))
      exact bodyPost_ret (v := .tuple #[.agg #[.int .u64 0, .int .u64 0], .bool false]) (by simp [results, Tryd.results92, go_sem, hcw1, hfw1, hlw1_0, hlw1_1, hlw1_2, hlw1_3, hlw1_4]) rfl ⟨by rw [Hc.out], by (repeat' (first | exact Below.refl _ _ | refine Below.setCell ?_ ?_ _ | refine Below.alloc ?_ ?_ _ | refine below_drewN ?_ _ | refine Below.trans ?_ (Below.mono (by assumption) ?_) | exact Nat.le_refl _ | omega | (simp only [World.size_alloc, World.size_setCell, World.size_drew] at *; omega)))⟩
  · simp only [hk] at C1
    have Hc := Lib.hid (show cmeet 0 ar bm br = ((0, ar), true) by rw [Hc.out, hk]; rfl)
    clear hk
    go_enter Tryd.func92, Tryd.ntmps92
    go_wp2
    go_region
    all_goals
      go_wp2_with ((go_at_call 76; refine ((C1 _).out).mono ?_; rintro e w1 ⟨rfl, hBw1⟩; obtain ⟨hcw1, hfw1⟩ := bcell hBw1; have hzw1 := hBw1.size; (try simp only [World.size_alloc, World.size_setCell, World.size_drew] at hzw1); have hlw1_0 : w.heap.size < w1.heap.size := (by omega); have hlw1_1 : w.heap.size + 1 < w1.heap.size := (by omega); have hlw1_2 : w.heap.size + 1 + 1 < w1.heap.size := (by omega); have hlw1_3 : w.heap.size + 1 + 1 + 1 < w1.heap.size := (by omega); have hlw1_4 : w.heap.size + 1 + 1 + 1 + 1 < w1.heap.size := (by omega)))
      exact bodyPost_ret (v := .tuple #[.agg #[.int .u64 0, .int .u64 ar], .bool true]) (by simp [results, Tryd.results92, go_sem, hcw1, hfw1, hlw1_0, hlw1_1, hlw1_2, hlw1_3, hlw1_4]) rfl ⟨by rw [Hc.out], by (repeat' (first | exact Below.refl _ _ | refine Below.setCell ?_ ?_ _ | refine Below.alloc ?_ ?_ _ | refine below_drewN ?_ _ | refine Below.trans ?_ (Below.mono (by assumption) ?_) | exact Nat.le_refl _ | omega | (simp only [World.size_alloc, World.size_setCell, World.size_drew] at *; omega)))⟩

set_option maxHeartbeats 2000000 in
theorem rmeet_c2 (am ar bm br : Int) (w : World) (ha : 0 ≤ am) (ha' : am ≤ 18446744073709551615) (har : 0 ≤ ar) (har' : ar ≤ 18446744073709551615) (hb : 0 ≤ bm) (hb' : bm ≤ 18446744073709551615) (hbr : 0 ≤ br) (hbr' : br ≤ 18446744073709551615) (h : ¬ am = 0) (h2 : bm = 0) :
    Calls Tryd.prog 92 #[.agg #[.int .u64 am, .int .u64 ar], .agg #[.int .u64 bm, .int .u64 br]] w fun e w' => e = .returned (.tuple #[.agg #[.int .u64 (cmeet am ar bm br).1.1, .int .u64 (cmeet am ar bm br).1.2], .bool (cmeet am ar bm br).2]) ∧ Below w.heap.size w w' := by
  have gc := grown_cell
  subst h2
  have hm1 : (am == 0) = false := by simpa using h
  have r1 := sg_rng br
  have e1 := sg_eq' br
  have hapos : 0 < am := by omega
  have C1 := fun W => Lib.hid (rhas_c am ar (sg br) W ha ha' r1.1 r1.2)
  have Hc := Lib.hid (@cmeet_right am ar br h)
  cases hk : chas am ar (sg br)
  · simp only [hk] at C1
    have Hc := Lib.hid (show cmeet am ar 0 br = ((0, 0), false) by rw [Hc.out, hk]; rfl)
    clear hk h
    go_enter Tryd.func92, Tryd.ntmps92
    go_wp2
    go_region
    all_goals
      go_wp2_with ((go_at_call 76; refine ((C1 _).out).mono ?_; rintro e w1 ⟨rfl, hBw1⟩; obtain ⟨hcw1, hfw1⟩ := bcell hBw1; have hzw1 := hBw1.size; (try simp only [World.size_alloc, World.size_setCell, World.size_drew] at hzw1); have hlw1_0 : w.heap.size < w1.heap.size := (by omega); have hlw1_1 : w.heap.size + 1 < w1.heap.size := (by omega); have hlw1_2 : w.heap.size + 1 + 1 < w1.heap.size := (by omega); have hlw1_3 : w.heap.size + 1 + 1 + 1 < w1.heap.size := (by omega); have hlw1_4 : w.heap.size + 1 + 1 + 1 + 1 < w1.heap.size := (by omega)))
      exact bodyPost_ret (v := .tuple #[.agg #[.int .u64 0, .int .u64 0], .bool false]) (by simp [results, Tryd.results92, go_sem, hcw1, hfw1, hlw1_0, hlw1_1, hlw1_2, hlw1_3, hlw1_4]) rfl ⟨by rw [Hc.out], by (repeat' (first | exact Below.refl _ _ | refine Below.setCell ?_ ?_ _ | refine Below.alloc ?_ ?_ _ | refine below_drewN ?_ _ | refine Below.trans ?_ (Below.mono (by assumption) ?_) | exact Nat.le_refl _ | omega | (simp only [World.size_alloc, World.size_setCell, World.size_drew] at *; omega)))⟩
  · simp only [hk] at C1
    have Hc := Lib.hid (show cmeet am ar 0 br = ((0, br), true) by rw [Hc.out, hk]; rfl)
    clear hk h
    go_enter Tryd.func92, Tryd.ntmps92
    go_wp2
    go_region
    all_goals
      go_wp2_with ((go_at_call 76; refine ((C1 _).out).mono ?_; rintro e w1 ⟨rfl, hBw1⟩; obtain ⟨hcw1, hfw1⟩ := bcell hBw1; have hzw1 := hBw1.size; (try simp only [World.size_alloc, World.size_setCell, World.size_drew] at hzw1); have hlw1_0 : w.heap.size < w1.heap.size := (by omega); have hlw1_1 : w.heap.size + 1 < w1.heap.size := (by omega); have hlw1_2 : w.heap.size + 1 + 1 < w1.heap.size := (by omega); have hlw1_3 : w.heap.size + 1 + 1 + 1 < w1.heap.size := (by omega); have hlw1_4 : w.heap.size + 1 + 1 + 1 + 1 < w1.heap.size := (by omega)))
      exact bodyPost_ret (v := .tuple #[.agg #[.int .u64 0, .int .u64 br], .bool true]) (by simp [results, Tryd.results92, go_sem, hcw1, hfw1, hlw1_0, hlw1_1, hlw1_2, hlw1_3, hlw1_4]) rfl ⟨by rw [Hc.out], by (repeat' (first | exact Below.refl _ _ | refine Below.setCell ?_ ?_ _ | refine Below.alloc ?_ ?_ _ | refine below_drewN ?_ _ | refine Below.trans ?_ (Below.mono (by assumption) ?_) | exact Nat.le_refl _ | omega | (simp only [World.size_alloc, World.size_setCell, World.size_drew] at *; omega)))⟩

set_option maxHeartbeats 2000000 in
theorem rmeet_c3 (am ar bm br : Int) (w : World) (ha : 0 ≤ am) (ha' : am ≤ 18446744073709551615) (har : 0 ≤ ar) (har' : ar ≤ 18446744073709551615) (hb : 0 ≤ bm) (hb' : bm ≤ 18446744073709551615) (hbr : 0 ≤ br) (hbr' : br ≤ 18446744073709551615) (h : ¬ am = 0) (h2 : ¬ bm = 0) :
    Calls Tryd.prog 92 #[.agg #[.int .u64 am, .int .u64 ar], .agg #[.int .u64 bm, .int .u64 br]] w fun e w' => e = .returned (.tuple #[.agg #[.int .u64 (cmeet am ar bm br).1.1, .int .u64 (cmeet am ar bm br).1.2], .bool (cmeet am ar bm br).2]) ∧ Below w.heap.size w w' := by
  have gc := grown_cell
  have C2 := fun W => Lib.hid (rwithin_c am ar bm br W ha ha' har har' hb hb')
  have C3 := fun W => Lib.hid (rwithin_c bm br am ar W hb hb' hbr hbr' ha ha')
  have hways := Lib.hid (meet_ways am ar bm br)
  have hm1 : (am == 0) = false := by simpa using h
  have hm2 : (bm == 0) = false := by simpa using h2
  have hg := cg_pos (a := am) (b := bm) (by omega)
  have hgB : cg am bm ≤ 18446744073709551615 := cg_bd ha hb ha' hb'
  have C1 := fun W => Lib.hid (rgcd_c am bm W ha ha' hb hb')
  have C5 := fun W => Lib.hid (rof_c am ar (cg am bm) W ha ha' har har' hg hgB)
  have C6 := fun W => Lib.hid (rof_c bm br (cg am bm) W hb hb' hbr hbr' hg hgB)
  have Hxy : ccommon am ar bm br = (crest am ar (cg am bm) == crest bm br (cg am bm)) := by unfold ccommon; rw [if_neg h, if_neg h2]
  generalize crest am ar (cg am bm) = x at *
  generalize crest bm br (cg am bm) = y at *
  generalize cg am bm = g at *
  clear h h2
  cases hk : ccommon am ar bm br
  · have Hc := Lib.hid (cmeet_no hk)
    rw [hk] at Hxy
    replace Hxy := Hxy.symm
    have Hne : (x != y) = true := by rw [bne, Hxy]; rfl
    clear hk
    go_enter Tryd.func92, Tryd.ntmps92
    go_wp2_with ((go_at_call 139; refine ((C1 _).out).mono ?_; rintro e w0 ⟨rfl, rfl⟩))
    refine wp_all_below (by kernel_rfl) (by kernel_rfl) ?_; (repeat (go_big_quiet_step (first | with_reducible exact quietly (fun W => (C5 W).out) | with_reducible exact quietly (fun W => (C6 W).out)))); refine wpQuiet_nil ?_; intro w1 hBw1; obtain ⟨hcw1, hfw1⟩ := bcell hBw1; have hzw1 := hBw1.size; (try simp only [World.size_alloc, World.size_setCell, World.size_drew] at hzw1); have hlw1_0 : w.heap.size < w1.heap.size := (by omega); have hlw1_1 : w.heap.size + 1 < w1.heap.size := (by omega); have hlw1_2 : w.heap.size + 1 + 1 < w1.heap.size := (by omega)
    go_wp2
    exact bodyPost_ret (v := .tuple #[.agg #[.int .u64 0, .int .u64 0], .bool false]) (by simp [results, Tryd.results92, go_sem, hcw1, hfw1, hlw1_0, hlw1_1, hlw1_2]) rfl ⟨by rw [Hc.out], by (repeat' (first | exact Below.refl _ _ | refine Below.setCell ?_ ?_ _ | refine Below.alloc ?_ ?_ _ | refine below_drewN ?_ _ | refine Below.trans ?_ (Below.mono (by assumption) ?_) | exact Nat.le_refl _ | omega | (simp only [World.size_alloc, World.size_setCell, World.size_drew] at *; omega)))⟩
  · have Hw := hways.out hk
    rw [hk] at Hxy
    replace Hxy := Hxy.symm
    have Hne : (x != y) = false := by rw [bne, Hxy]; rfl
    clear hways hk
    rcases Hw with ⟨k1, Hc⟩ | ⟨k1, k2, Hc⟩ | ⟨k1, k2, k3, Hc⟩ | ⟨k1, k2, k3, Hc⟩
    · have Hc := Lib.hid Hc
      simp only [k1] at C2
      go_enter Tryd.func92, Tryd.ntmps92
      go_wp2_with ((go_at_call 139; refine ((C1 _).out).mono ?_; rintro e w0 ⟨rfl, rfl⟩))
      refine wp_all_below (by kernel_rfl) (by kernel_rfl) ?_; (repeat (go_big_quiet_step (first | with_reducible exact quietly (fun W => (C5 W).out) | with_reducible exact quietly (fun W => (C6 W).out)))); refine wpQuiet_nil ?_; intro w1 hBw1; obtain ⟨hcw1, hfw1⟩ := bcell hBw1; have hzw1 := hBw1.size; (try simp only [World.size_alloc, World.size_setCell, World.size_drew] at hzw1); have hlw1_0 : w.heap.size < w1.heap.size := (by omega); have hlw1_1 : w.heap.size + 1 < w1.heap.size := (by omega); have hlw1_2 : w.heap.size + 1 + 1 < w1.heap.size := (by omega)
      go_wp2_with ((go_at_call 142; first | ((with_reducible refine ((C2 _).out).mono ?_); rintro e w2 ⟨rfl, hBw2⟩; obtain ⟨hcw2, hfw2⟩ := bcell hBw2; have hzw2 := hBw2.size; (try simp only [World.size_alloc, World.size_setCell, World.size_drew] at hzw2); have hlw2_0 : w.heap.size < w2.heap.size := (by omega); have hlw2_1 : w.heap.size + 1 < w2.heap.size := (by omega); have hlw2_2 : w.heap.size + 1 + 1 < w2.heap.size := (by omega)) | ((with_reducible refine ((C3 _).out).mono ?_); rintro e w3 ⟨rfl, hBw3⟩; obtain ⟨hcw3, hfw3⟩ := bcell hBw3; have hzw3 := hBw3.size; (try simp only [World.size_alloc, World.size_setCell, World.size_drew] at hzw3); have hlw3_0 : w.heap.size < w3.heap.size := (by omega); have hlw3_1 : w.heap.size + 1 < w3.heap.size := (by omega); have hlw3_2 : w.heap.size + 1 + 1 < w3.heap.size := (by omega))))
      exact bodyPost_ret (v := .tuple #[.agg #[.int .u64 am, .int .u64 ar], .bool true]) (by simp [results, Tryd.results92, go_sem, hcw1, hfw1, hlw1_0, hlw1_1, hlw1_2, hcw2, hfw2, hlw2_0, hlw2_1, hlw2_2]) rfl ⟨by rw [Hc.out], by (repeat' (first | exact Below.refl _ _ | refine Below.setCell ?_ ?_ _ | refine Below.alloc ?_ ?_ _ | refine below_drewN ?_ _ | refine Below.trans ?_ (Below.mono (by assumption) ?_) | exact Nat.le_refl _ | omega | (simp only [World.size_alloc, World.size_setCell, World.size_drew] at *; omega)))⟩
    · have Hc := Lib.hid Hc
      simp only [k1] at C2
      simp only [k2] at C3
      go_enter Tryd.func92, Tryd.ntmps92
      go_wp2_with ((go_at_call 139; refine ((C1 _).out).mono ?_; rintro e w0 ⟨rfl, rfl⟩))
      refine wp_all_below (by kernel_rfl) (by kernel_rfl) ?_; (repeat (go_big_quiet_step (first | with_reducible exact quietly (fun W => (C5 W).out) | with_reducible exact quietly (fun W => (C6 W).out)))); refine wpQuiet_nil ?_; intro w1 hBw1; obtain ⟨hcw1, hfw1⟩ := bcell hBw1; have hzw1 := hBw1.size; (try simp only [World.size_alloc, World.size_setCell, World.size_drew] at hzw1); have hlw1_0 : w.heap.size < w1.heap.size := (by omega); have hlw1_1 : w.heap.size + 1 < w1.heap.size := (by omega); have hlw1_2 : w.heap.size + 1 + 1 < w1.heap.size := (by omega)
      go_wp2_with ((go_at_call 142; first | ((with_reducible refine ((C2 _).out).mono ?_); rintro e w2 ⟨rfl, hBw2⟩; obtain ⟨hcw2, hfw2⟩ := bcell hBw2; have hzw2 := hBw2.size; (try simp only [World.size_alloc, World.size_setCell, World.size_drew] at hzw2); have hlw2_0 : w.heap.size < w2.heap.size := (by omega); have hlw2_1 : w.heap.size + 1 < w2.heap.size := (by omega); have hlw2_2 : w.heap.size + 1 + 1 < w2.heap.size := (by omega)) | ((with_reducible refine ((C3 _).out).mono ?_); rintro e w3 ⟨rfl, hBw3⟩; obtain ⟨hcw3, hfw3⟩ := bcell hBw3; have hzw3 := hBw3.size; (try simp only [World.size_alloc, World.size_setCell, World.size_drew] at hzw3); have hlw3_0 : w.heap.size < w3.heap.size := (by omega); have hlw3_1 : w.heap.size + 1 < w3.heap.size := (by omega); have hlw3_2 : w.heap.size + 1 + 1 < w3.heap.size := (by omega))))
      exact bodyPost_ret (v := .tuple #[.agg #[.int .u64 bm, .int .u64 br], .bool true]) (by simp [results, Tryd.results92, go_sem, hcw1, hfw1, hlw1_0, hlw1_1, hlw1_2, hcw2, hfw2, hlw2_0, hlw2_1, hlw2_2, hcw3, hfw3, hlw3_0, hlw3_1, hlw3_2]) rfl ⟨by rw [Hc.out], by (repeat' (first | exact Below.refl _ _ | refine Below.setCell ?_ ?_ _ | refine Below.alloc ?_ ?_ _ | refine below_drewN ?_ _ | refine Below.trans ?_ (Below.mono (by assumption) ?_) | exact Nat.le_refl _ | omega | (simp only [World.size_alloc, World.size_setCell, World.size_drew] at *; omega)))⟩
    · have Hc := Lib.hid Hc
      simp only [k1] at C2
      simp only [k2] at C3
      go_enter Tryd.func92, Tryd.ntmps92
      go_wp2_with ((go_at_call 139; refine ((C1 _).out).mono ?_; rintro e w0 ⟨rfl, rfl⟩))
      refine wp_all_below (by kernel_rfl) (by kernel_rfl) ?_; (repeat (go_big_quiet_step (first | with_reducible exact quietly (fun W => (C5 W).out) | with_reducible exact quietly (fun W => (C6 W).out)))); refine wpQuiet_nil ?_; intro w1 hBw1; obtain ⟨hcw1, hfw1⟩ := bcell hBw1; have hzw1 := hBw1.size; (try simp only [World.size_alloc, World.size_setCell, World.size_drew] at hzw1); have hlw1_0 : w.heap.size < w1.heap.size := (by omega); have hlw1_1 : w.heap.size + 1 < w1.heap.size := (by omega); have hlw1_2 : w.heap.size + 1 + 1 < w1.heap.size := (by omega)
      go_wp2_with ((go_at_call 142; first | ((with_reducible refine ((C2 _).out).mono ?_); rintro e w2 ⟨rfl, hBw2⟩; obtain ⟨hcw2, hfw2⟩ := bcell hBw2; have hzw2 := hBw2.size; (try simp only [World.size_alloc, World.size_setCell, World.size_drew] at hzw2); have hlw2_0 : w.heap.size < w2.heap.size := (by omega); have hlw2_1 : w.heap.size + 1 < w2.heap.size := (by omega); have hlw2_2 : w.heap.size + 1 + 1 < w2.heap.size := (by omega)) | ((with_reducible refine ((C3 _).out).mono ?_); rintro e w3 ⟨rfl, hBw3⟩; obtain ⟨hcw3, hfw3⟩ := bcell hBw3; have hzw3 := hBw3.size; (try simp only [World.size_alloc, World.size_setCell, World.size_drew] at hzw3); have hlw3_0 : w.heap.size < w3.heap.size := (by omega); have hlw3_1 : w.heap.size + 1 < w3.heap.size := (by omega); have hlw3_2 : w.heap.size + 1 + 1 < w3.heap.size := (by omega))))
      exact bodyPost_ret (v := .tuple #[.agg #[.int .u64 bm, .int .u64 br], .bool true]) (by simp [results, Tryd.results92, go_sem, hcw1, hfw1, hlw1_0, hlw1_1, hlw1_2, hcw2, hfw2, hlw2_0, hlw2_1, hlw2_2, hcw3, hfw3, hlw3_0, hlw3_1, hlw3_2]) rfl ⟨by rw [Hc.out], by (repeat' (first | exact Below.refl _ _ | refine Below.setCell ?_ ?_ _ | refine Below.alloc ?_ ?_ _ | refine below_drewN ?_ _ | refine Below.trans ?_ (Below.mono (by assumption) ?_) | exact Nat.le_refl _ | omega | (simp only [World.size_alloc, World.size_setCell, World.size_drew] at *; omega)))⟩
    · have Hc := Lib.hid Hc
      simp only [k1] at C2
      simp only [k2] at C3
      go_enter Tryd.func92, Tryd.ntmps92
      go_wp2_with ((go_at_call 139; refine ((C1 _).out).mono ?_; rintro e w0 ⟨rfl, rfl⟩))
      refine wp_all_below (by kernel_rfl) (by kernel_rfl) ?_; (repeat (go_big_quiet_step (first | with_reducible exact quietly (fun W => (C5 W).out) | with_reducible exact quietly (fun W => (C6 W).out)))); refine wpQuiet_nil ?_; intro w1 hBw1; obtain ⟨hcw1, hfw1⟩ := bcell hBw1; have hzw1 := hBw1.size; (try simp only [World.size_alloc, World.size_setCell, World.size_drew] at hzw1); have hlw1_0 : w.heap.size < w1.heap.size := (by omega); have hlw1_1 : w.heap.size + 1 < w1.heap.size := (by omega); have hlw1_2 : w.heap.size + 1 + 1 < w1.heap.size := (by omega)
      go_wp2_with ((go_at_call 142; first | ((with_reducible refine ((C2 _).out).mono ?_); rintro e w2 ⟨rfl, hBw2⟩; obtain ⟨hcw2, hfw2⟩ := bcell hBw2; have hzw2 := hBw2.size; (try simp only [World.size_alloc, World.size_setCell, World.size_drew] at hzw2); have hlw2_0 : w.heap.size < w2.heap.size := (by omega); have hlw2_1 : w.heap.size + 1 < w2.heap.size := (by omega); have hlw2_2 : w.heap.size + 1 + 1 < w2.heap.size := (by omega)) | ((with_reducible refine ((C3 _).out).mono ?_); rintro e w3 ⟨rfl, hBw3⟩; obtain ⟨hcw3, hfw3⟩ := bcell hBw3; have hzw3 := hBw3.size; (try simp only [World.size_alloc, World.size_setCell, World.size_drew] at hzw3); have hlw3_0 : w.heap.size < w3.heap.size := (by omega); have hlw3_1 : w.heap.size + 1 < w3.heap.size := (by omega); have hlw3_2 : w.heap.size + 1 + 1 < w3.heap.size := (by omega))))
      exact bodyPost_ret (v := .tuple #[.agg #[.int .u64 am, .int .u64 ar], .bool true]) (by simp [results, Tryd.results92, go_sem, hcw1, hfw1, hlw1_0, hlw1_1, hlw1_2, hcw2, hfw2, hlw2_0, hlw2_1, hlw2_2, hcw3, hfw3, hlw3_0, hlw3_1, hlw3_2]) rfl ⟨by rw [Hc.out], by (repeat' (first | exact Below.refl _ _ | refine Below.setCell ?_ ?_ _ | refine Below.alloc ?_ ?_ _ | refine below_drewN ?_ _ | refine Below.trans ?_ (Below.mono (by assumption) ?_) | exact Nat.le_refl _ | omega | (simp only [World.size_alloc, World.size_setCell, World.size_drew] at *; omega)))⟩

theorem rmeet_c (am ar bm br : Int) (w : World) (ha : 0 ≤ am) (ha' : am ≤ 18446744073709551615) (har : 0 ≤ ar) (har' : ar ≤ 18446744073709551615) (hb : 0 ≤ bm) (hb' : bm ≤ 18446744073709551615) (hbr : 0 ≤ br) (hbr' : br ≤ 18446744073709551615) :
    Calls Tryd.prog 92 #[.agg #[.int .u64 am, .int .u64 ar], .agg #[.int .u64 bm, .int .u64 br]] w fun e w' => e = .returned (.tuple #[.agg #[.int .u64 (cmeet am ar bm br).1.1, .int .u64 (cmeet am ar bm br).1.2], .bool (cmeet am ar bm br).2]) ∧ Below w.heap.size w w' := by
  by_cases h : am = 0
  · exact rmeet_c1 am ar bm br w ha ha' har har' hb hb' hbr hbr' h
  · by_cases h2 : bm = 0
    · exact rmeet_c2 am ar bm br w ha ha' har har' hb hb' hbr hbr' h h2
    · exact rmeet_c3 am ar bm br w ha ha' har har' hb hb' hbr hbr' h h2

end Go.Proofs.YtcemohoigdninaaDoor
