/- Contracts of package cong: joins, sums, differences. -/
import Derived.Test.YtljhbdgoknfkcaaGreatDoorC1
namespace Go.Proofs.YtljhbdgoknfkcaaGreatDoor
open Go Go.RowKit Go.Sort
set_option linter.unusedVariables false
set_option linter.unusedSimpArgs false
set_option maxRecDepth 100000

set_option maxHeartbeats 1000000 in
theorem join_c (am ar bm br : Int) (w : World) (ha : 0 ≤ am) (ha' : am ≤ 18446744073709551615) (har : 0 ≤ ar) (har' : ar ≤ 18446744073709551615) (hb : 0 ≤ bm) (hb' : bm ≤ 18446744073709551615) (hbr : 0 ≤ br) (hbr' : br ≤ 18446744073709551615) :
    Calls Tryz.prog 143 #[.agg #[.int .u64 am, .int .u64 ar], .agg #[.int .u64 bm, .int .u64 br]] w fun e w' => e = .returned (.agg #[.int .u64 (cjoin am ar bm br).1, .int .u64 (cjoin am ar bm br).2]) ∧ Below w.heap.size w w' := by
  have gc := grown_cell
  have heq := run_eql_cong
  by_cases h : am = 0 ∧ bm = 0
  · obtain ⟨rfl, rfl⟩ := h
    by_cases h2 : ar = br
    · have Hc := Lib.hid (show cjoin 0 ar 0 br = (0, ar) from by simp [cjoin, h2])
      have hm2 : (ar == br) = true := by simpa using h2
      clear h2
      go_enter Tryz.func143, Tryz.ntmps143
      go_wp2
      exact bodyPost_ret (v := .agg #[.int .u64 0, .int .u64 ar]) (by simp [results, Tryz.results143, go_sem]) rfl ⟨by rw [Hc.out], by (repeat' (first | exact Below.refl _ _ | refine Below.setCell ?_ ?_ _ | refine Below.alloc ?_ ?_ _ | refine below_drewN ?_ _ | refine Below.trans ?_ (Below.mono (by assumption) ?_) | exact Nat.le_refl _ | omega | (simp only [World.size_alloc, World.size_setCell, World.size_drew] at *; omega)))⟩
    · have hm2 : (ar == br) = false := by simpa using h2
      have Hc := Lib.hid (show cjoin 0 ar 0 br = (cdist (sg ar) (sg br), sg ar % cdist (sg ar) (sg br)) from by simp [cjoin, h2])
      have hne : sg ar ≠ sg br := fun e => h2 (sg_inj har har' hbr hbr' e)
      have e1 := sg_eq' ar
      have e2 := sg_eq' br
      have r1 := sg_rng ar
      have r2 := sg_rng br
      clear h2
      generalize sg ar = x at *
      generalize sg br = y at *
      obtain ⟨d, hd⟩ : ∃ d, d = cdist x y := ⟨_, rfl⟩
      have hd0 : 0 < d ∧ d ≤ 18446744073709551615 := by rw [hd]; unfold cdist; split <;> omega
      have e5 : IntKind.u64.wrap (IntKind.u64.wrap (max x y) - IntKind.u64.wrap (min x y)) = d := by rw [hd]; unfold cdist; simp only [IntKind.wrap_u64]; split <;> omega
      rw [← hd] at Hc
      have Hm := Lib.hid (show cmake d x = x % d from by unfold cmake; rw [if_neg (by omega)])
      clear hd
      go_enter Tryz.func143, Tryz.ntmps143
      go_wp2
      refine wp_all_below (by kernel_rfl) (by kernel_rfl) ?_; (repeat (go_big_quiet_step (first | fail))); refine wpQuiet_nil ?_; intro w0 hBw0; obtain ⟨hcw0, hfw0⟩ := bcell hBw0; have hzw0 := hBw0.size; (try simp only [World.size_alloc, World.size_setCell, World.size_drew] at hzw0); have hlw0_0 : w.heap.size < w0.heap.size := (by omega); have hlw0_1 : w.heap.size + 1 < w0.heap.size := (by omega); have hlw0_2 : w.heap.size + 1 + 1 < w0.heap.size := (by omega)
      go_wp2_with (go_at_call 11; go_must ((refine (make_c _ _ _ (by omega) (by omega) (by omega) (by omega)).mono ?_; rintro e w1 ⟨rfl, hBw1⟩; obtain ⟨hcw1, hfw1⟩ := bcell hBw1; have hzw1 := hBw1.size; (try simp only [World.size_alloc, World.size_setCell, World.size_drew] at hzw1); have hlw1_0 : w.heap.size < w1.heap.size := (by omega); have hlw1_1 : w.heap.size + 1 < w1.heap.size := (by omega); have hlw1_2 : w.heap.size + 1 + 1 < w1.heap.size := (by omega))))
      exact bodyPost_ret (v := .agg #[.int .u64 d, .int .u64 (cmake d x)]) (by simp [results, Tryz.results143, go_sem, hcw0, hfw0, hlw0_0, hlw0_1, hlw0_2, hcw1, hfw1, hlw1_0, hlw1_1, hlw1_2]) rfl ⟨by rw [Hc.out, Hm.out], by (repeat' (first | exact Below.refl _ _ | refine Below.setCell ?_ ?_ _ | refine Below.alloc ?_ ?_ _ | refine below_drewN ?_ _ | refine Below.trans ?_ (Below.mono (by assumption) ?_) | exact Nat.le_refl _ | omega | (simp only [World.size_alloc, World.size_setCell, World.size_drew] at *; omega)))⟩
  · have Hc := Lib.hid (show cjoin am ar bm br = _ from by unfold cjoin; rw [if_neg h])
    have hg := cg_pos h
    have hgB : cg am bm ≤ 18446744073709551615 := cg_bd ha hb ha' hb'
    have hx := crest_rng am ar (cg am bm) hg
    have hy := crest_rng bm br (cg am bm) hg
    generalize hgg : cg am bm = g at *
    generalize hxx : crest am ar g = x at *
    generalize hyy : crest bm br g = y at *
    have e5 : max x y - min x y = cdist x y := by unfold cdist; split <;> omega
    have hd0 := @cdist_rng x y
    have hd1 : cdist x y ≤ 18446744073709551615 := by unfold cdist; split <;> omega
    generalize cdist x y = d at *
    have hm : 0 < cg g d := cg_pos (by omega)
    have hmB : cg g d ≤ 18446744073709551615 := cg_bd (by omega) (by omega) hgB hd1
    generalize hmm : cg g d = m at *
    have C1 := fun W => Lib.hid (gcd_c am bm W ha ha' hb hb')
    have C2 := fun W => Lib.hid (crest_c am ar g W ha ha' har har' hg hgB)
    have C3 := fun W => Lib.hid (crest_c bm br g W hb hb' hbr hbr' hg hgB)
    have C4 := fun W => Lib.hid (gcd_c g d W (by omega) hgB hd0 hd1)
    rw [hgg] at C1
    rw [hxx] at C2
    rw [hyy] at C3
    rw [hmm] at C4
    have hguard : (am == 0) = false ∨ (am == 0) = true ∧ (bm == 0) = false := by
      by_cases h0 : am = 0
      · right; exact ⟨by simpa using h0, by simp; omega⟩
      · left; simpa using h0
    clear hgg hxx hyy hmm h
    rcases hguard with hg0 | ⟨hg0, hg1⟩
    all_goals
      go_enter Tryz.func143, Tryz.ntmps143
      go_wp2_with (go_at_call 221; refine ((C1 _).out).mono ?_; rintro e w1 ⟨rfl, hBw1⟩; obtain ⟨hcw1, hfw1⟩ := bcell hBw1; have hzw1 := hBw1.size; (try simp only [World.size_alloc, World.size_setCell, World.size_drew] at hzw1); have hlw1_0 : w.heap.size < w1.heap.size := (by omega); have hlw1_1 : w.heap.size + 1 < w1.heap.size := (by omega); have hlw1_2 : w.heap.size + 1 + 1 < w1.heap.size := (by omega))
      refine wp_all_below (by kernel_rfl) (by kernel_rfl) ?_; (repeat (go_big_quiet_step (first | with_reducible exact quietly (fun W => (C2 W).out) | with_reducible exact quietly (fun W => (C3 W).out)))); refine wpQuiet_nil ?_; intro w2 hBw2; obtain ⟨hcw2, hfw2⟩ := bcell hBw2; have hzw2 := hBw2.size; (try simp only [World.size_alloc, World.size_setCell, World.size_drew] at hzw2); have hlw2_0 : w.heap.size < w2.heap.size := (by omega); have hlw2_1 : w.heap.size + 1 < w2.heap.size := (by omega); have hlw2_2 : w.heap.size + 1 + 1 < w2.heap.size := (by omega)
      go_wp2_with (go_at_call 221; refine ((C4 _).out).mono ?_; rintro e w3 ⟨rfl, hBw3⟩; obtain ⟨hcw3, hfw3⟩ := bcell hBw3; have hzw3 := hBw3.size; (try simp only [World.size_alloc, World.size_setCell, World.size_drew] at hzw3); have hlw3_0 : w.heap.size < w3.heap.size := (by omega); have hlw3_1 : w.heap.size + 1 < w3.heap.size := (by omega); have hlw3_2 : w.heap.size + 1 + 1 < w3.heap.size := (by omega))
      exact bodyPost_ret (v := .agg #[.int .u64 m, .int .u64 (x % m)]) (by simp [results, Tryz.results143, go_sem, hcw1, hfw1, hlw1_0, hlw1_1, hlw1_2, hcw2, hfw2, hlw2_0, hlw2_1, hlw2_2, hcw3, hfw3, hlw3_0, hlw3_1, hlw3_2]) rfl ⟨by rw [Hc.out], by (repeat' (first | exact Below.refl _ _ | refine Below.setCell ?_ ?_ _ | refine Below.alloc ?_ ?_ _ | refine below_drewN ?_ _ | refine Below.trans ?_ (Below.mono (by assumption) ?_) | exact Nat.le_refl _ | omega | (simp only [World.size_alloc, World.size_setCell, World.size_drew] at *; omega)))⟩

set_option maxHeartbeats 1000000 in
theorem add_c (am ar bm br : Int) (w : World) (ha : 0 ≤ am) (ha' : am ≤ 18446744073709551615) (har : 0 ≤ ar) (har' : ar ≤ 18446744073709551615) (hb : 0 ≤ bm) (hb' : bm ≤ 18446744073709551615) (hbr : 0 ≤ br) (hbr' : br ≤ 18446744073709551615) :
    Calls Tryz.prog 158 #[.agg #[.int .u64 am, .int .u64 ar], .agg #[.int .u64 bm, .int .u64 br]] w fun e w' => e = .returned (.agg #[.int .u64 (cadd am ar bm br).1, .int .u64 (cadd am ar bm br).2]) ∧ Below w.heap.size w w' := by
  have gc := grown_cell
  by_cases h : am = 0 ∧ bm = 0
  · obtain ⟨rfl, rfl⟩ := h
    have Hc := Lib.hid (show cadd 0 ar 0 br = (0, us (ar + br)) from by simp [cadd])
    have e1 := us_eq (ar + br)
    go_enter Tryz.func158, Tryz.ntmps158
    go_wp2
    exact bodyPost_ret (v := .agg #[.int .u64 0, .int .u64 (us (ar + br))]) (by simp [results, Tryz.results158, go_sem, us_eq]) rfl ⟨by rw [Hc.out], by (repeat' (first | exact Below.refl _ _ | refine Below.setCell ?_ ?_ _ | refine Below.alloc ?_ ?_ _ | refine below_drewN ?_ _ | refine Below.trans ?_ (Below.mono (by assumption) ?_) | exact Nat.le_refl _ | omega | (simp only [World.size_alloc, World.size_setCell, World.size_drew] at *; omega)))⟩
  · have Hc := Lib.hid (show cadd am ar bm br = _ from by unfold cadd; rw [if_neg h])
    have hg := cg_pos h
    have hgB : cg am bm ≤ 18446744073709551615 := cg_bd ha hb ha' hb'
    have hx := crest_rng am ar (cg am bm) hg
    have hy := crest_rng bm br (cg am bm) hg
    generalize hgg : cg am bm = g at *
    generalize hxx : crest am ar g = x at *
    generalize hyy : crest bm br g = y at *
    have C1 := fun W => Lib.hid (gcd_c am bm W ha ha' hb hb')
    have C2 := fun W => Lib.hid (crest_c am ar g W ha ha' har har' hg hgB)
    have C3 := fun W => Lib.hid (crest_c bm br g W hb hb' hbr hbr' hg hgB)
    rw [hgg] at C1
    rw [hxx] at C2
    rw [hyy] at C3
    have C4 := fun W => Lib.hid (minus_c 0 y g W (by omega) (by omega) (by omega) (by omega) hgB)
    have hn := cminus_rng (a := 0) (b := y) (m := g) (by omega) (by omega) hy.1 hy.2
    have hn2 := cminus_mod (a := 0) (b := y) (m := g) (by omega) (by omega) hy.1 hy.2
    generalize cminus 0 y g = n at *
    have C5 := fun W => Lib.hid (minus_c x n g W hx.1 hn.1 (by omega) (by omega) hgB)
    have hz2 := cminus_mod hx.1 hx.2 hn.1 hn.2
    generalize cminus x n g = z at *
    have Hz := Lib.hid (show (x + y) % g = z by rw [hz2, hn2, Int.sub_emod, Int.emod_emod_of_dvd _ (Int.dvd_refl g), ← Int.sub_emod]; congr 1; omega)
    clear hn2 hz2
    have hguard : (am == 0) = false ∨ (am == 0) = true ∧ (bm == 0) = false := by
      by_cases h0 : am = 0
      · right; exact ⟨by simpa using h0, by simp; omega⟩
      · left; simpa using h0
    clear hgg hxx hyy h
    rcases hguard with hg0 | ⟨hg0, hg1⟩
    all_goals
      go_enter Tryz.func158, Tryz.ntmps158
      go_wp2_with (go_at_call 221; refine ((C1 _).out).mono ?_; rintro e w1 ⟨rfl, hBw1⟩; obtain ⟨hcw1, hfw1⟩ := bcell hBw1; have hzw1 := hBw1.size; (try simp only [World.size_alloc, World.size_setCell, World.size_drew] at hzw1); have hlw1_0 : w.heap.size < w1.heap.size := (by omega); have hlw1_1 : w.heap.size + 1 < w1.heap.size := (by omega); have hlw1_2 : w.heap.size + 1 + 1 < w1.heap.size := (by omega))
      refine wp_head_below 12 (by kernel_rfl) (by kernel_rfl) ?_; simp only [List.take_succ_cons, List.take_zero, List.drop_succ_cons, List.drop_zero]; (repeat (go_big_quiet_step (first | with_reducible exact quietly (fun W => (C2 W).out) | with_reducible exact quietly (fun W => (C3 W).out) | with_reducible exact quietly_same (fun W => (C4 W).out) | with_reducible exact quietly_same (fun W => (C5 W).out)))); refine wpQuiet_nil ?_; intro w2 hBw2; obtain ⟨hcw2, hfw2⟩ := bcell hBw2; have hzw2 := hBw2.size; (try simp only [World.size_alloc, World.size_setCell, World.size_drew] at hzw2); have hlw2_0 : w.heap.size < w2.heap.size := (by omega); have hlw2_1 : w.heap.size + 1 < w2.heap.size := (by omega); have hlw2_2 : w.heap.size + 1 + 1 < w2.heap.size := (by omega)
      go_wp2
      exact bodyPost_ret (v := .agg #[.int .u64 g, .int .u64 z]) (by simp [results, Tryz.results158, go_sem, hcw1, hfw1, hlw1_0, hlw1_1, hlw1_2, hcw2, hfw2, hlw2_0, hlw2_1, hlw2_2]) rfl ⟨by rw [Hc.out, Hz.out], by (repeat' (first | exact Below.refl _ _ | refine Below.setCell ?_ ?_ _ | refine Below.alloc ?_ ?_ _ | refine below_drewN ?_ _ | refine Below.trans ?_ (Below.mono (by assumption) ?_) | exact Nat.le_refl _ | omega | (simp only [World.size_alloc, World.size_setCell, World.size_drew] at *; omega)))⟩

set_option maxHeartbeats 1000000 in
theorem sub_c (am ar bm br : Int) (w : World) (ha : 0 ≤ am) (ha' : am ≤ 18446744073709551615) (har : 0 ≤ ar) (har' : ar ≤ 18446744073709551615) (hb : 0 ≤ bm) (hb' : bm ≤ 18446744073709551615) (hbr : 0 ≤ br) (hbr' : br ≤ 18446744073709551615) :
    Calls Tryz.prog 159 #[.agg #[.int .u64 am, .int .u64 ar], .agg #[.int .u64 bm, .int .u64 br]] w fun e w' => e = .returned (.agg #[.int .u64 (csub am ar bm br).1, .int .u64 (csub am ar bm br).2]) ∧ Below w.heap.size w w' := by
  have gc := grown_cell
  by_cases h : am = 0 ∧ bm = 0
  · obtain ⟨rfl, rfl⟩ := h
    have Hc := Lib.hid (show csub 0 ar 0 br = (0, us (ar - br)) from by simp [csub])
    have e1 := us_eq (ar - br)
    go_enter Tryz.func159, Tryz.ntmps159
    go_wp2
    exact bodyPost_ret (v := .agg #[.int .u64 0, .int .u64 (us (ar - br))]) (by simp [results, Tryz.results159, go_sem, us_eq]) rfl ⟨by rw [Hc.out], by (repeat' (first | exact Below.refl _ _ | refine Below.setCell ?_ ?_ _ | refine Below.alloc ?_ ?_ _ | refine below_drewN ?_ _ | refine Below.trans ?_ (Below.mono (by assumption) ?_) | exact Nat.le_refl _ | omega | (simp only [World.size_alloc, World.size_setCell, World.size_drew] at *; omega)))⟩
  · have Hc := Lib.hid (show csub am ar bm br = _ from by unfold csub; rw [if_neg h])
    have hg := cg_pos h
    have hgB : cg am bm ≤ 18446744073709551615 := cg_bd ha hb ha' hb'
    have hx := crest_rng am ar (cg am bm) hg
    have hy := crest_rng bm br (cg am bm) hg
    generalize hgg : cg am bm = g at *
    generalize hxx : crest am ar g = x at *
    generalize hyy : crest bm br g = y at *
    have C1 := fun W => Lib.hid (gcd_c am bm W ha ha' hb hb')
    have C2 := fun W => Lib.hid (crest_c am ar g W ha ha' har har' hg hgB)
    have C3 := fun W => Lib.hid (crest_c bm br g W hb hb' hbr hbr' hg hgB)
    rw [hgg] at C1
    rw [hxx] at C2
    rw [hyy] at C3
    have C4 := fun W => Lib.hid (minus_c x y g W hx.1 hy.1 (by omega) (by omega) hgB)
    have C5 := C4
    have hz2 := cminus_mod hx.1 hx.2 hy.1 hy.2
    generalize cminus x y g = z at *
    have Hz := Lib.hid (show (x - y) % g = z by rw [hz2])
    clear hz2
    have hguard : (am == 0) = false ∨ (am == 0) = true ∧ (bm == 0) = false := by
      by_cases h0 : am = 0
      · right; exact ⟨by simpa using h0, by simp; omega⟩
      · left; simpa using h0
    clear hgg hxx hyy h
    rcases hguard with hg0 | ⟨hg0, hg1⟩
    all_goals
      go_enter Tryz.func159, Tryz.ntmps159
      go_wp2_with (go_at_call 221; refine ((C1 _).out).mono ?_; rintro e w1 ⟨rfl, hBw1⟩; obtain ⟨hcw1, hfw1⟩ := bcell hBw1; have hzw1 := hBw1.size; (try simp only [World.size_alloc, World.size_setCell, World.size_drew] at hzw1); have hlw1_0 : w.heap.size < w1.heap.size := (by omega); have hlw1_1 : w.heap.size + 1 < w1.heap.size := (by omega); have hlw1_2 : w.heap.size + 1 + 1 < w1.heap.size := (by omega))
      refine wp_head_below 10 (by kernel_rfl) (by kernel_rfl) ?_; simp only [List.take_succ_cons, List.take_zero, List.drop_succ_cons, List.drop_zero]; (repeat (go_big_quiet_step (first | with_reducible exact quietly (fun W => (C2 W).out) | with_reducible exact quietly (fun W => (C3 W).out) | with_reducible exact quietly_same (fun W => (C4 W).out) | with_reducible exact quietly_same (fun W => (C5 W).out)))); refine wpQuiet_nil ?_; intro w2 hBw2; obtain ⟨hcw2, hfw2⟩ := bcell hBw2; have hzw2 := hBw2.size; (try simp only [World.size_alloc, World.size_setCell, World.size_drew] at hzw2); have hlw2_0 : w.heap.size < w2.heap.size := (by omega); have hlw2_1 : w.heap.size + 1 < w2.heap.size := (by omega); have hlw2_2 : w.heap.size + 1 + 1 < w2.heap.size := (by omega)
      go_wp2
      exact bodyPost_ret (v := .agg #[.int .u64 g, .int .u64 z]) (by simp [results, Tryz.results159, go_sem, hcw1, hfw1, hlw1_0, hlw1_1, hlw1_2, hcw2, hfw2, hlw2_0, hlw2_1, hlw2_2]) rfl ⟨by rw [Hc.out, Hz.out], by (repeat' (first | exact Below.refl _ _ | refine Below.setCell ?_ ?_ _ | refine Below.alloc ?_ ?_ _ | refine below_drewN ?_ _ | refine Below.trans ?_ (Below.mono (by assumption) ?_) | exact Nat.le_refl _ | omega | (simp only [World.size_alloc, World.size_setCell, World.size_drew] at *; omega)))⟩

/-! Contracts of package cong: products, meets, what is wrapped. -/
theorem neg_mod (x m : Int) (h : 0 < m) : (0 - x % m) % m = (-x) % m := by
  have e := Int.emod_add_mul_ediv x m
  exact emod_same (x / m) (by omega)

set_option maxHeartbeats 1000000 in
theorem scaled_c (n m r : Int) (w : World) (hn : -9223372036854775808 ≤ n) (hn' : n ≤ 9223372036854775807) (hm : 0 < m) (hm' : m ≤ 18446744073709551615) (hr : 0 ≤ r) (hr' : r ≤ 18446744073709551615) :
    Calls Tryz.prog 224 #[.int .i64 n, .agg #[.int .u64 m, .int .u64 r]] w fun e w' => e = .returned (.agg #[.int .u64 (cscale n m r).1, .int .u64 (cscale n m r).2]) ∧ Below w.heap.size w w' := by
  have gc := grown_cell
  by_cases h0 : n = 0
  · subst h0
    have Hc := Lib.hid (show cscale 0 m r = (0, 0) from by simp [cscale])
    have e1 : us 0 = 0 := rfl
    go_enter Tryz.func224, Tryz.ntmps224
    go_wp2_with (go_at_call 58; refine (const_c _ _).mono ?_; rintro e w1 ⟨rfl, hBw1⟩; obtain ⟨hcw1, hfw1⟩ := bcell hBw1; have hzw1 := hBw1.size; (try simp only [World.size_alloc, World.size_setCell, World.size_drew] at hzw1); have hlw1_0 : w.heap.size < w1.heap.size := (by omega); have hlw1_1 : w.heap.size + 1 < w1.heap.size := (by omega))
    exact bodyPost_ret (v := .agg #[.int .u64 0, .int .u64 0]) (by simp [results, Tryz.results224, go_sem, hcw1, hfw1, hlw1_0, hlw1_1]) rfl ⟨by rw [Hc.out], by (repeat' (first | exact Below.refl _ _ | refine Below.setCell ?_ ?_ _ | refine Below.alloc ?_ ?_ _ | refine below_drewN ?_ _ | refine Below.trans ?_ (Below.mono (by assumption) ?_) | exact Nat.le_refl _ | omega | (simp only [World.size_alloc, World.size_setCell, World.size_drew] at *; omega)))⟩
  · have hn0 : (n == 0) = false := by simpa using h0
    have hs := cabs_rng h0
    have hs' : cabs n ≤ 9223372036854775808 := by unfold cabs; split <;> omega
    have hsn : (¬ n < 0 ∧ IntKind.u64.wrap n = cabs n ∧ cabs n = n) ∨ (n < 0 ∧ IntKind.u64.wrap (-IntKind.u64.wrap n) = cabs n ∧ cabs n = -n) := by
      simp only [IntKind.wrap_u64]
      by_cases h : n < 0
      · right; refine ⟨h, ?_, by unfold cabs; rw [if_pos h]⟩; unfold cabs; rw [if_pos h]; omega
      · left; refine ⟨h, ?_, by unfold cabs; rw [if_neg h]⟩; unfold cabs; rw [if_neg h]; omega
    have hp : 0 < cabs n * m := Int.mul_pos hs hm
    obtain ⟨M, ok, HM, HM0, Hok, Hc⟩ : ∃ (M : Int) (ok : Bool), csmall (cabs n) m = (if ok then M else us (cabs n * m), ok) ∧ (0 < M ∧ M ≤ 18446744073709551615) ∧ (ok = false → M = m) ∧ cscale n m r = (M, n * r % M) := by
      by_cases hc : cabs n * m ≤ 18446744073709551615
      · exact ⟨cabs n * m, true, by simp [csmall, hc, us_in _ (by omega) hc], by omega, by simp, by simp [cscale, h0, hc]⟩
      · exact ⟨m, false, by simp [csmall, hc], by omega, by simp, by simp [cscale, h0, hc]⟩
    have C1 := fun W => Lib.hid (small_c (cabs n) m W (by omega) (by omega) (by omega) hm')
    rw [HM] at C1
    have r1 := emod_rng (cabs n) M HM0.1
    have r2 := emod_rng r M HM0.1
    have C2 := fun W => Lib.hid (times_c (cabs n % M) (r % M) M W r1.1 r1.2 r2.1 r2.2 HM0.2)
    rw [← Int.mul_emod] at C2
    have r3 := emod_rng (cabs n * r) M HM0.1
    have C3 := fun W => Lib.hid (minus_c 0 (cabs n * r % M) M W (by omega) r3.1 (by omega) (by omega) HM0.2)
    have e3 : cminus 0 (cabs n * r % M) M = (-(cabs n * r)) % M := by rw [cminus_mod (by omega) HM0.1 r3.1 r3.2]; exact neg_mod _ _ HM0.1
    rw [e3] at C3
    obtain ⟨hM0, hM1⟩ := HM0
    generalize us (cabs n * m) = junk at *
    have Hc := Lib.hid Hc
    have hcn : (¬ n < 0 ∧ n * r % M = cabs n * r % M) ∨ (n < 0 ∧ n * r % M = -(cabs n * r) % M) := by
      rcases hsn with ⟨h, _, e⟩ | ⟨h, _, e⟩
      · exact Or.inl ⟨h, by rw [e]⟩
      · refine Or.inr ⟨h, ?_⟩
        rw [e, Int.neg_mul, Int.neg_neg]
    generalize hss : cabs n = s at *
    generalize hzz : s * r % M = z at *
    generalize hyy : -(s * r) % M = y at *
    have Hr := Lib.hid hcn
    have hsn' : (¬ n < 0 ∧ IntKind.u64.wrap n = s) ∨ (n < 0 ∧ IntKind.u64.wrap (-IntKind.u64.wrap n) = s) := by
      rcases hsn with ⟨h, e, _⟩ | ⟨h, e, _⟩
      · exact Or.inl ⟨h, e⟩
      · exact Or.inr ⟨h, e⟩
    have hMn : M ≠ 0 := by omega
    clear hsn hcn hss hzz hyy e3 hp HM
    rcases hsn' with ⟨hneg, e1⟩ | ⟨hneg, e1⟩
    · have Hz := Lib.hid (show n * r % M = z from by rcases Hr.out with ⟨_, h⟩ | ⟨h, _⟩; exact h; exact absurd h hneg)
      clear Hr
      cases ok
      · obtain rfl : M = m := Hok rfl
        simp only [Bool.false_eq_true, if_false] at C1
        clear Hok
        go_enter Tryz.func224, Tryz.ntmps224
        go_wp2_with (go_at_call 225; refine ((C1 _).out).mono ?_; rintro e w1 ⟨rfl, hBw1⟩; obtain ⟨hcw1, hfw1⟩ := bcell hBw1; have hzw1 := hBw1.size; (try simp only [World.size_alloc, World.size_setCell, World.size_drew] at hzw1); have hlw1_0 : w.heap.size < w1.heap.size := (by omega); have hlw1_1 : w.heap.size + 1 < w1.heap.size := (by omega))
        refine wp_all_below (by kernel_rfl) (by kernel_rfl) ?_; (repeat (go_big_quiet_step (first | with_reducible exact quietly (fun W => (C2 W).out)))); refine wpQuiet_nil ?_; intro w2 hBw2; obtain ⟨hcw2, hfw2⟩ := bcell hBw2; have hzw2 := hBw2.size; (try simp only [World.size_alloc, World.size_setCell, World.size_drew] at hzw2); have hlw2_0 : w.heap.size < w2.heap.size := (by omega); have hlw2_1 : w.heap.size + 1 < w2.heap.size := (by omega)
        go_wp2
        exact bodyPost_ret (v := .agg #[.int .u64 M, .int .u64 z]) (by simp [results, Tryz.results224, go_sem, hcw1, hfw1, hlw1_0, hlw1_1, hcw2, hfw2, hlw2_0, hlw2_1]) rfl ⟨by rw [Hc.out, Hz.out], by (repeat' (first | exact Below.refl _ _ | refine Below.setCell ?_ ?_ _ | refine Below.alloc ?_ ?_ _ | refine below_drewN ?_ _ | refine Below.trans ?_ (Below.mono (by assumption) ?_) | exact Nat.le_refl _ | omega | (simp only [World.size_alloc, World.size_setCell, World.size_drew] at *; omega)))⟩
      · simp only [if_true] at C1
        clear Hok
        go_enter Tryz.func224, Tryz.ntmps224
        go_wp2_with (go_at_call 225; refine ((C1 _).out).mono ?_; rintro e w1 ⟨rfl, hBw1⟩; obtain ⟨hcw1, hfw1⟩ := bcell hBw1; have hzw1 := hBw1.size; (try simp only [World.size_alloc, World.size_setCell, World.size_drew] at hzw1); have hlw1_0 : w.heap.size < w1.heap.size := (by omega); have hlw1_1 : w.heap.size + 1 < w1.heap.size := (by omega))
        refine wp_all_below (by kernel_rfl) (by kernel_rfl) ?_; (repeat (go_big_quiet_step (first | with_reducible exact quietly (fun W => (C2 W).out)))); refine wpQuiet_nil ?_; intro w2 hBw2; obtain ⟨hcw2, hfw2⟩ := bcell hBw2; have hzw2 := hBw2.size; (try simp only [World.size_alloc, World.size_setCell, World.size_drew] at hzw2); have hlw2_0 : w.heap.size < w2.heap.size := (by omega); have hlw2_1 : w.heap.size + 1 < w2.heap.size := (by omega)
        go_wp2
        exact bodyPost_ret (v := .agg #[.int .u64 M, .int .u64 z]) (by simp [results, Tryz.results224, go_sem, hcw1, hfw1, hlw1_0, hlw1_1, hcw2, hfw2, hlw2_0, hlw2_1]) rfl ⟨by rw [Hc.out, Hz.out], by (repeat' (first | exact Below.refl _ _ | refine Below.setCell ?_ ?_ _ | refine Below.alloc ?_ ?_ _ | refine below_drewN ?_ _ | refine Below.trans ?_ (Below.mono (by assumption) ?_) | exact Nat.le_refl _ | omega | (simp only [World.size_alloc, World.size_setCell, World.size_drew] at *; omega)))⟩
    · have Hz := Lib.hid (show n * r % M = y from by rcases Hr.out with ⟨h, _⟩ | ⟨_, h⟩; exact absurd hneg h; exact h)
      clear Hr
      cases ok
      · obtain rfl : M = m := Hok rfl
        simp only [Bool.false_eq_true, if_false] at C1
        clear Hok
        go_enter Tryz.func224, Tryz.ntmps224
        go_wp2_with (go_at_call 225; refine ((C1 _).out).mono ?_; rintro e w1 ⟨rfl, hBw1⟩; obtain ⟨hcw1, hfw1⟩ := bcell hBw1; have hzw1 := hBw1.size; (try simp only [World.size_alloc, World.size_setCell, World.size_drew] at hzw1); have hlw1_0 : w.heap.size < w1.heap.size := (by omega); have hlw1_1 : w.heap.size + 1 < w1.heap.size := (by omega))
        refine wp_all_below (by kernel_rfl) (by kernel_rfl) ?_; (repeat (go_big_quiet_step (first | with_reducible exact quietly (fun W => (C2 W).out)))); refine wpQuiet_nil ?_; intro w2 hBw2; obtain ⟨hcw2, hfw2⟩ := bcell hBw2; have hzw2 := hBw2.size; (try simp only [World.size_alloc, World.size_setCell, World.size_drew] at hzw2); have hlw2_0 : w.heap.size < w2.heap.size := (by omega); have hlw2_1 : w.heap.size + 1 < w2.heap.size := (by omega)
        go_wp2_with (go_at_call 135; refine ((C3 _).out).mono ?_; rintro e w3 ⟨rfl, rfl⟩)
        exact bodyPost_ret (v := .agg #[.int .u64 M, .int .u64 y]) (by simp [results, Tryz.results224, go_sem, hcw1, hfw1, hlw1_0, hlw1_1, hcw2, hfw2, hlw2_0, hlw2_1]) rfl ⟨by rw [Hc.out, Hz.out], by (repeat' (first | exact Below.refl _ _ | refine Below.setCell ?_ ?_ _ | refine Below.alloc ?_ ?_ _ | refine below_drewN ?_ _ | refine Below.trans ?_ (Below.mono (by assumption) ?_) | exact Nat.le_refl _ | omega | (simp only [World.size_alloc, World.size_setCell, World.size_drew] at *; omega)))⟩
      · simp only [if_true] at C1
        clear Hok
        go_enter Tryz.func224, Tryz.ntmps224
        go_wp2_with (go_at_call 225; refine ((C1 _).out).mono ?_; rintro e w1 ⟨rfl, hBw1⟩; obtain ⟨hcw1, hfw1⟩ := bcell hBw1; have hzw1 := hBw1.size; (try simp only [World.size_alloc, World.size_setCell, World.size_drew] at hzw1); have hlw1_0 : w.heap.size < w1.heap.size := (by omega); have hlw1_1 : w.heap.size + 1 < w1.heap.size := (by omega))
        refine wp_all_below (by kernel_rfl) (by kernel_rfl) ?_; (repeat (go_big_quiet_step (first | with_reducible exact quietly (fun W => (C2 W).out)))); refine wpQuiet_nil ?_; intro w2 hBw2; obtain ⟨hcw2, hfw2⟩ := bcell hBw2; have hzw2 := hBw2.size; (try simp only [World.size_alloc, World.size_setCell, World.size_drew] at hzw2); have hlw2_0 : w.heap.size < w2.heap.size := (by omega); have hlw2_1 : w.heap.size + 1 < w2.heap.size := (by omega)
        go_wp2_with (go_at_call 135; refine ((C3 _).out).mono ?_; rintro e w3 ⟨rfl, rfl⟩)
        exact bodyPost_ret (v := .agg #[.int .u64 M, .int .u64 y]) (by simp [results, Tryz.results224, go_sem, hcw1, hfw1, hlw1_0, hlw1_1, hcw2, hfw2, hlw2_0, hlw2_1]) rfl ⟨by rw [Hc.out, Hz.out], by (repeat' (first | exact Below.refl _ _ | refine Below.setCell ?_ ?_ _ | refine Below.alloc ?_ ?_ _ | refine below_drewN ?_ _ | refine Below.trans ?_ (Below.mono (by assumption) ?_) | exact Nat.le_refl _ | omega | (simp only [World.size_alloc, World.size_setCell, World.size_drew] at *; omega)))⟩

set_option maxHeartbeats 1000000 in
theorem mul_c (am ar bm br : Int) (w : World) (ha : 0 ≤ am) (ha' : am ≤ 18446744073709551615) (har : 0 ≤ ar) (har' : ar ≤ 18446744073709551615) (hb : 0 ≤ bm) (hb' : bm ≤ 18446744073709551615) (hbr : 0 ≤ br) (hbr' : br ≤ 18446744073709551615) :
    Calls Tryz.prog 160 #[.agg #[.int .u64 am, .int .u64 ar], .agg #[.int .u64 bm, .int .u64 br]] w fun e w' => e = .returned (.agg #[.int .u64 (cmul am ar bm br).1, .int .u64 (cmul am ar bm br).2]) ∧ Below w.heap.size w w' := by
  have gc := grown_cell
  by_cases h : am = 0
  · subst h
    by_cases h2 : bm = 0
    · subst h2
      have Hc := Lib.hid (show cmul 0 ar 0 br = (0, us (ar * br)) from by simp [cmul])
      have e1 := us_eq (ar * br)
      generalize us (ar * br) = z at *
      go_enter Tryz.func160, Tryz.ntmps160
      go_wp2
      exact bodyPost_ret (v := .agg #[.int .u64 0, .int .u64 z]) (by simp [results, Tryz.results160, go_sem, e1]) rfl ⟨by rw [Hc.out], by (repeat' (first | exact Below.refl _ _ | refine Below.setCell ?_ ?_ _ | refine Below.alloc ?_ ?_ _ | refine below_drewN ?_ _ | refine Below.trans ?_ (Below.mono (by assumption) ?_) | exact Nat.le_refl _ | omega | (simp only [World.size_alloc, World.size_setCell, World.size_drew] at *; omega)))⟩
    · have hm2 : (bm == 0) = false := by simpa using h2
      have Hc := Lib.hid (show cmul 0 ar bm br = cscale (sg ar) bm br from by simp [cmul, h2])
      have r1 := sg_rng ar
      have e1 := sg_eq' ar
      generalize sg ar = x at *
      have C1 := fun W => Lib.hid (scaled_c x bm br W r1.1 r1.2 (by omega) hb' hbr hbr')
      generalize cscale x bm br = z at *
      clear h2
      go_enter Tryz.func160, Tryz.ntmps160
      go_wp2_with (go_at_call 224; refine ((C1 _).out).mono ?_; rintro e w1 ⟨rfl, hBw1⟩; obtain ⟨hcw1, hfw1⟩ := bcell hBw1; have hzw1 := hBw1.size; (try simp only [World.size_alloc, World.size_setCell, World.size_drew] at hzw1); have hlw1_0 : w.heap.size < w1.heap.size := (by omega); have hlw1_1 : w.heap.size + 1 < w1.heap.size := (by omega); have hlw1_2 : w.heap.size + 1 + 1 < w1.heap.size := (by omega))
      exact bodyPost_ret (v := .agg #[.int .u64 z.1, .int .u64 z.2]) (by simp [results, Tryz.results160, go_sem, hcw1, hfw1, hlw1_0, hlw1_1, hlw1_2]) rfl ⟨by rw [Hc.out], by (repeat' (first | exact Below.refl _ _ | refine Below.setCell ?_ ?_ _ | refine Below.alloc ?_ ?_ _ | refine below_drewN ?_ _ | refine Below.trans ?_ (Below.mono (by assumption) ?_) | exact Nat.le_refl _ | omega | (simp only [World.size_alloc, World.size_setCell, World.size_drew] at *; omega)))⟩
  · have hm1 : (am == 0) = false := by simpa using h
    by_cases h2 : bm = 0
    · subst h2
      have Hc := Lib.hid (show cmul am ar 0 br = cscale (sg br) am ar from by simp [cmul, h])
      have r1 := sg_rng br
      have e1 := sg_eq' br
      generalize sg br = x at *
      have C1 := fun W => Lib.hid (scaled_c x am ar W r1.1 r1.2 (by omega) ha' har har')
      generalize cscale x am ar = z at *
      clear h
      go_enter Tryz.func160, Tryz.ntmps160
      go_wp2_with (go_at_call 224; refine ((C1 _).out).mono ?_; rintro e w1 ⟨rfl, hBw1⟩; obtain ⟨hcw1, hfw1⟩ := bcell hBw1; have hzw1 := hBw1.size; (try simp only [World.size_alloc, World.size_setCell, World.size_drew] at hzw1); have hlw1_0 : w.heap.size < w1.heap.size := (by omega); have hlw1_1 : w.heap.size + 1 < w1.heap.size := (by omega); have hlw1_2 : w.heap.size + 1 + 1 < w1.heap.size := (by omega))
      exact bodyPost_ret (v := .agg #[.int .u64 z.1, .int .u64 z.2]) (by simp [results, Tryz.results160, go_sem, hcw1, hfw1, hlw1_0, hlw1_1, hlw1_2]) rfl ⟨by rw [Hc.out], by (repeat' (first | exact Below.refl _ _ | refine Below.setCell ?_ ?_ _ | refine Below.alloc ?_ ?_ _ | refine below_drewN ?_ _ | refine Below.trans ?_ (Below.mono (by assumption) ?_) | exact Nat.le_refl _ | omega | (simp only [World.size_alloc, World.size_setCell, World.size_drew] at *; omega)))⟩
    · have hm2 : (bm == 0) = false := by simpa using h2
      have hg := cg_pos (a := am) (b := bm) (by omega)
      have hgB : cg am bm ≤ 18446744073709551615 := cg_bd ha hb ha' hb'
      have hx := crest_rng am ar (cg am bm) hg
      have hy := crest_rng bm br (cg am bm) hg
      have hd1 := cg_pos (a := am) (b := ar) (by omega)
      have hd1B : cg am ar ≤ 18446744073709551615 := cg_bd ha har ha' har'
      have hd2 := cg_pos (a := bm) (b := br) (by omega)
      have hd2B : cg bm br ≤ 18446744073709551615 := cg_bd hb hbr hb' hbr'
      have hD := Int.mul_pos hd1 hd2
      have C1 := fun W => Lib.hid (gcd_c am bm W ha ha' hb hb')
      have C2 := fun W => Lib.hid (gcd_c am ar W ha ha' har har')
      have C3 := fun W => Lib.hid (gcd_c bm br W hb hb' hbr hbr')
      have C4 := fun W => Lib.hid (small_c (cg am ar) (cg bm br) W (by omega) hd1B (by omega) hd2B)
      have C5 := fun W => Lib.hid (crest_c am ar (cg am bm) W ha ha' har har' hg hgB)
      have C6 := fun W => Lib.hid (crest_c bm br (cg am bm) W hb hb' hbr hbr' hg hgB)
      have C7 := fun W => Lib.hid (times_c _ _ (cg am bm) W hx.1 hx.2 hy.1 hy.2 hgB)
      by_cases h3 : cg am ar * cg bm br ≤ 18446744073709551615 ∧ cg am bm < cg am ar * cg bm br
      · have Hc := Lib.hid (show cmul am ar bm br = (cg am ar * cg bm br, 0) from by simp only [cmul, h, h2, if_false, if_pos h3])
        have hs : csmall (cg am ar) (cg bm br) = (cg am ar * cg bm br, true) := by simp [csmall, h3.1, us_in _ (by omega) h3.1]
        rw [hs] at C4
        generalize cg am ar * cg bm br = d at *
        generalize cg am bm = g at *
        generalize cg am ar = p at *
        generalize cg bm br = q at *
        clear h h2 hs C5 C6 C7
        obtain ⟨h3a, h3b⟩ := h3
        go_enter Tryz.func160, Tryz.ntmps160
        go_wp2_with (go_at_call 221; refine ((C1 _).out).mono ?_; rintro e w1 ⟨rfl, hBw1⟩; obtain ⟨hcw1, hfw1⟩ := bcell hBw1; have hzw1 := hBw1.size; (try simp only [World.size_alloc, World.size_setCell, World.size_drew] at hzw1); have hlw1_0 : w.heap.size < w1.heap.size := (by omega); have hlw1_1 : w.heap.size + 1 < w1.heap.size := (by omega); have hlw1_2 : w.heap.size + 1 + 1 < w1.heap.size := (by omega))
        refine wp_all_below (by kernel_rfl) (by kernel_rfl) ?_; (repeat (go_big_quiet_step (first | with_reducible exact quietly (fun W => (C2 W).out) | with_reducible exact quietly (fun W => (C3 W).out) | with_reducible exact quietly (fun W => (C4 W).out)))); refine wpQuiet_nil ?_; intro w2 hBw2; obtain ⟨hcw2, hfw2⟩ := bcell hBw2; have hzw2 := hBw2.size; (try simp only [World.size_alloc, World.size_setCell, World.size_drew] at hzw2); have hlw2_0 : w.heap.size < w2.heap.size := (by omega); have hlw2_1 : w.heap.size + 1 < w2.heap.size := (by omega); have hlw2_2 : w.heap.size + 1 + 1 < w2.heap.size := (by omega)
        go_wp2
        exact bodyPost_ret (v := .agg #[.int .u64 d, .int .u64 0]) (by simp [results, Tryz.results160, go_sem, hcw1, hfw1, hlw1_0, hlw1_1, hlw1_2, hcw2, hfw2, hlw2_0, hlw2_1, hlw2_2]) rfl ⟨by rw [Hc.out], by (repeat' (first | exact Below.refl _ _ | refine Below.setCell ?_ ?_ _ | refine Below.alloc ?_ ?_ _ | refine below_drewN ?_ _ | refine Below.trans ?_ (Below.mono (by assumption) ?_) | exact Nat.le_refl _ | omega | (simp only [World.size_alloc, World.size_setCell, World.size_drew] at *; omega)))⟩
      · have Hc := Lib.hid (show cmul am ar bm br = (cg am bm, crest am ar (cg am bm) * crest bm br (cg am bm) % cg am bm) from by simp only [cmul, h, h2, if_false, if_neg h3])
        obtain ⟨d, ok, hs, hd⟩ : ∃ (d : Int) (ok : Bool), csmall (cg am ar) (cg bm br) = (d, ok) ∧ (ok = false ∨ ok = true ∧ d ≤ cg am bm) := by
          by_cases h4 : cg am ar * cg bm br ≤ 18446744073709551615
          · exact ⟨cg am ar * cg bm br, true, by simp [csmall, h4, us_in _ (by omega) h4], Or.inr ⟨rfl, by omega⟩⟩
          · exact ⟨us (cg am ar * cg bm br), false, by simp only [csmall, decide_eq_false h4], Or.inl rfl⟩
        rw [hs] at C4
        generalize crest am ar (cg am bm) = x at *
        generalize crest bm br (cg am bm) = y at *
        generalize x * y % cg am bm = z at *
        generalize cg am bm = g at *
        generalize cg am ar = p at *
        generalize cg bm br = q at *
        clear h h2 hs h3 hD
        rcases hd with rfl | ⟨rfl, hd⟩
        all_goals
          go_enter Tryz.func160, Tryz.ntmps160
          go_wp2_with (go_at_call 221; refine ((C1 _).out).mono ?_; rintro e w1 ⟨rfl, hBw1⟩; obtain ⟨hcw1, hfw1⟩ := bcell hBw1; have hzw1 := hBw1.size; (try simp only [World.size_alloc, World.size_setCell, World.size_drew] at hzw1); have hlw1_0 : w.heap.size < w1.heap.size := (by omega); have hlw1_1 : w.heap.size + 1 < w1.heap.size := (by omega); have hlw1_2 : w.heap.size + 1 + 1 < w1.heap.size := (by omega))
          refine wp_all_below (by kernel_rfl) (by kernel_rfl) ?_; (repeat (go_big_quiet_step (first | with_reducible exact quietly (fun W => (C2 W).out) | with_reducible exact quietly (fun W => (C3 W).out) | with_reducible exact quietly (fun W => (C4 W).out)))); refine wpQuiet_nil ?_; intro w2 hBw2; obtain ⟨hcw2, hfw2⟩ := bcell hBw2; have hzw2 := hBw2.size; (try simp only [World.size_alloc, World.size_setCell, World.size_drew] at hzw2); have hlw2_0 : w.heap.size < w2.heap.size := (by omega); have hlw2_1 : w.heap.size + 1 < w2.heap.size := (by omega); have hlw2_2 : w.heap.size + 1 + 1 < w2.heap.size := (by omega)
          go_wp2
          refine wp_head_below 10 (by kernel_rfl) (by kernel_rfl) ?_; simp only [List.take_succ_cons, List.take_zero, List.drop_succ_cons, List.drop_zero]; (repeat (go_big_quiet_step (first | with_reducible exact quietly (fun W => (C5 W).out) | with_reducible exact quietly (fun W => (C6 W).out) | with_reducible exact quietly (fun W => (C7 W).out)))); refine wpQuiet_nil ?_; intro w3 hBw3; obtain ⟨hcw3, hfw3⟩ := bcell hBw3; have hzw3 := hBw3.size; (try simp only [World.size_alloc, World.size_setCell, World.size_drew] at hzw3); have hlw3_0 : w.heap.size < w3.heap.size := (by omega); have hlw3_1 : w.heap.size + 1 < w3.heap.size := (by omega); have hlw3_2 : w.heap.size + 1 + 1 < w3.heap.size := (by omega)
          go_wp2
          exact bodyPost_ret (v := .agg #[.int .u64 g, .int .u64 z]) (by simp [results, Tryz.results160, go_sem, hcw1, hfw1, hlw1_0, hlw1_1, hlw1_2, hcw2, hfw2, hlw2_0, hlw2_1, hlw2_2, hcw3, hfw3, hlw3_0, hlw3_1, hlw3_2]) rfl ⟨by rw [Hc.out], by (repeat' (first | exact Below.refl _ _ | refine Below.setCell ?_ ?_ _ | refine Below.alloc ?_ ?_ _ | refine below_drewN ?_ _ | refine Below.trans ?_ (Below.mono (by assumption) ?_) | exact Nat.le_refl _ | omega | (simp only [World.size_alloc, World.size_setCell, World.size_drew] at *; omega)))⟩

/-! Contracts of package cong: meets, what is wrapped. -/
/-- what Meet gives, by its three tests -/
theorem cmeet_no {am ar bm br : Int} (h : ccommon am ar bm br = false) : cmeet am ar bm br = ((0, 0), false) := by unfold cmeet; rw [if_pos h]
theorem cmeet_b {am ar bm br : Int} (h : ccommon am ar bm br = true) (h1 : cwithin am ar bm br = false) (h2 : cwithin bm br am ar = true ∨ bm > am) : cmeet am ar bm br = ((bm, br), true) := by
  unfold cmeet; rw [if_neg (by simp [h]), if_pos ⟨h1, h2⟩]
theorem cmeet_a {am ar bm br : Int} (h : ccommon am ar bm br = true) (h1 : cwithin am ar bm br = true ∨ (cwithin bm br am ar = false ∧ bm ≤ am)) : cmeet am ar bm br = ((am, ar), true) := by
  unfold cmeet; rw [if_neg (by simp [h]), if_neg]
  rintro ⟨h2, h3⟩
  rcases h1 with h1 | ⟨h1, h4⟩
  · rw [h1] at h2; cases h2
  · rcases h3 with h3 | h3
    · rw [h1] at h3; cases h3
    · omega
/-- the ways through the last tests -/
theorem meet_ways (am ar bm br : Int) (h : ccommon am ar bm br = true) :
    (cwithin am ar bm br = true ∧ cmeet am ar bm br = ((am, ar), true)) ∨ (cwithin am ar bm br = false ∧ cwithin bm br am ar = true ∧ cmeet am ar bm br = ((bm, br), true)) ∨
    (cwithin am ar bm br = false ∧ cwithin bm br am ar = false ∧ am < bm ∧ cmeet am ar bm br = ((bm, br), true)) ∨ (cwithin am ar bm br = false ∧ cwithin bm br am ar = false ∧ bm ≤ am ∧ cmeet am ar bm br = ((am, ar), true)) := by
  cases h1 : cwithin am ar bm br
  · cases h2 : cwithin bm br am ar
    · by_cases h3 : am < bm
      · right; right; left; exact ⟨rfl, rfl, h3, cmeet_b h h1 (Or.inr h3)⟩
      · right; right; right; exact ⟨rfl, rfl, by omega, cmeet_a h (Or.inr ⟨h2, by omega⟩)⟩
    · right; left; exact ⟨rfl, rfl, cmeet_b h h1 (Or.inl h2)⟩
  · left; exact ⟨rfl, cmeet_a h (Or.inl h1)⟩

set_option maxHeartbeats 2000000 in
theorem meet_c1 (am ar bm br : Int) (w : World) (ha : 0 ≤ am) (ha' : am ≤ 18446744073709551615) (har : 0 ≤ ar) (har' : ar ≤ 18446744073709551615) (hb : 0 ≤ bm) (hb' : bm ≤ 18446744073709551615) (hbr : 0 ≤ br) (hbr' : br ≤ 18446744073709551615) (h : am = 0) :
    Calls Tryz.prog 145 #[.agg #[.int .u64 am, .int .u64 ar], .agg #[.int .u64 bm, .int .u64 br]] w fun e w' => e = .returned (.tuple #[.agg #[.int .u64 (cmeet am ar bm br).1.1, .int .u64 (cmeet am ar bm br).1.2], .bool (cmeet am ar bm br).2]) ∧ Below w.heap.size w w' := by
  have gc := grown_cell
  have C2 := fun W => Lib.hid (within_c am ar bm br W ha ha' har har' hb hb')
  have C3 := fun W => Lib.hid (within_c bm br am ar W hb hb' hbr hbr' ha ha')
  have hways := Lib.hid (meet_ways am ar bm br)
  have hm1 : (am == 0) = true := by simpa using h
  have r1 := sg_rng ar
  have e1 := sg_eq' ar
  have C1 := fun W => Lib.hid (has_c bm br (sg ar) W hb hb' r1.1 r1.2)
  have hcc : ccommon am ar bm br = chas bm br (sg ar) := by unfold ccommon; rw [if_pos h]
  rw [← hcc] at C1
  clear h hcc
  cases hk : ccommon am ar bm br
  · have Hc := Lib.hid (cmeet_no hk)
    simp only [hk] at C1
    clear hk
    go_enter Tryz.func145, Tryz.ntmps145
    go_wp2_with ((go_at_call 118; refine ((C1 _).out).mono ?_; rintro e w1 ⟨rfl, hBw1⟩; obtain ⟨hcw1, hfw1⟩ := bcell hBw1; have hzw1 := hBw1.size; (try simp only [World.size_alloc, World.size_setCell, World.size_drew] at hzw1); have hlw1_0 : w.heap.size < w1.heap.size := (by omega); have hlw1_1 : w.heap.size + 1 < w1.heap.size := (by omega); have hlw1_2 : w.heap.size + 1 + 1 < w1.heap.size := (by omega)))
    exact bodyPost_ret (v := .tuple #[.agg #[.int .u64 0, .int .u64 0], .bool false]) (by simp [results, Tryz.results145, go_sem, hcw1, hfw1, hlw1_0, hlw1_1, hlw1_2]) rfl ⟨by rw [Hc.out], by (repeat' (first | exact Below.refl _ _ | refine Below.setCell ?_ ?_ _ | refine Below.alloc ?_ ?_ _ | refine below_drewN ?_ _ | refine Below.trans ?_ (Below.mono (by assumption) ?_) | exact Nat.le_refl _ | omega | (simp only [World.size_alloc, World.size_setCell, World.size_drew] at *; omega)))⟩
  · have Hw := hways.out hk
    simp only [hk] at C1
    clear hways hk
    rcases Hw with ⟨k1, Hc⟩ | ⟨k1, k2, Hc⟩ | ⟨k1, k2, k3, Hc⟩ | ⟨k1, k2, k3, Hc⟩
    · have Hc := Lib.hid Hc
      simp only [k1] at C2
      go_enter Tryz.func145, Tryz.ntmps145
      go_wp2_with (first | (go_at_call 118; refine ((C1 _).out).mono ?_; rintro e w1 ⟨rfl, hBw1⟩; obtain ⟨hcw1, hfw1⟩ := bcell hBw1; have hzw1 := hBw1.size; (try simp only [World.size_alloc, World.size_setCell, World.size_drew] at hzw1); have hlw1_0 : w.heap.size < w1.heap.size := (by omega); have hlw1_1 : w.heap.size + 1 < w1.heap.size := (by omega); have hlw1_2 : w.heap.size + 1 + 1 < w1.heap.size := (by omega)) | (go_at_call 152; first | ((with_reducible refine ((C2 _).out).mono ?_); rintro e w2 ⟨rfl, hBw2⟩; obtain ⟨hcw2, hfw2⟩ := bcell hBw2; have hzw2 := hBw2.size; (try simp only [World.size_alloc, World.size_setCell, World.size_drew] at hzw2); have hlw2_0 : w.heap.size < w2.heap.size := (by omega); have hlw2_1 : w.heap.size + 1 < w2.heap.size := (by omega); have hlw2_2 : w.heap.size + 1 + 1 < w2.heap.size := (by omega)) | ((with_reducible refine ((C3 _).out).mono ?_); rintro e w3 ⟨rfl, hBw3⟩; obtain ⟨hcw3, hfw3⟩ := bcell hBw3; have hzw3 := hBw3.size; (try simp only [World.size_alloc, World.size_setCell, World.size_drew] at hzw3); have hlw3_0 : w.heap.size < w3.heap.size := (by omega); have hlw3_1 : w.heap.size + 1 < w3.heap.size := (by omega); have hlw3_2 : w.heap.size + 1 + 1 < w3.heap.size := (by omega))))
      exact bodyPost_ret (v := .tuple #[.agg #[.int .u64 am, .int .u64 ar], .bool true]) (by simp [results, Tryz.results145, go_sem, hcw1, hfw1, hlw1_0, hlw1_1, hlw1_2, hcw2, hfw2, hlw2_0, hlw2_1, hlw2_2]) rfl ⟨by rw [Hc.out], by (repeat' (first | exact Below.refl _ _ | refine Below.setCell ?_ ?_ _ | refine Below.alloc ?_ ?_ _ | refine below_drewN ?_ _ | refine Below.trans ?_ (Below.mono (by assumption) ?_) | exact Nat.le_refl _ | omega | (simp only [World.size_alloc, World.size_setCell, World.size_drew] at *; omega)))⟩
    · have Hc := Lib.hid Hc
      simp only [k1] at C2
      simp only [k2] at C3
      go_enter Tryz.func145, Tryz.ntmps145
      go_wp2_with (first | (go_at_call 118; refine ((C1 _).out).mono ?_; rintro e w1 ⟨rfl, hBw1⟩; obtain ⟨hcw1, hfw1⟩ := bcell hBw1; have hzw1 := hBw1.size; (try simp only [World.size_alloc, World.size_setCell, World.size_drew] at hzw1); have hlw1_0 : w.heap.size < w1.heap.size := (by omega); have hlw1_1 : w.heap.size + 1 < w1.heap.size := (by omega); have hlw1_2 : w.heap.size + 1 + 1 < w1.heap.size := (by omega)) | (go_at_call 152; first | ((with_reducible refine ((C2 _).out).mono ?_); rintro e w2 ⟨rfl, hBw2⟩; obtain ⟨hcw2, hfw2⟩ := bcell hBw2; have hzw2 := hBw2.size; (try simp only [World.size_alloc, World.size_setCell, World.size_drew] at hzw2); have hlw2_0 : w.heap.size < w2.heap.size := (by omega); have hlw2_1 : w.heap.size + 1 < w2.heap.size := (by omega); have hlw2_2 : w.heap.size + 1 + 1 < w2.heap.size := (by omega)) | ((with_reducible refine ((C3 _).out).mono ?_); rintro e w3 ⟨rfl, hBw3⟩; obtain ⟨hcw3, hfw3⟩ := bcell hBw3; have hzw3 := hBw3.size; (try simp only [World.size_alloc, World.size_setCell, World.size_drew] at hzw3); have hlw3_0 : w.heap.size < w3.heap.size := (by omega); have hlw3_1 : w.heap.size + 1 < w3.heap.size := (by omega); have hlw3_2 : w.heap.size + 1 + 1 < w3.heap.size := (by omega))))
      exact bodyPost_ret (v := .tuple #[.agg #[.int .u64 bm, .int .u64 br], .bool true]) (by simp [results, Tryz.results145, go_sem, hcw1, hfw1, hlw1_0, hlw1_1, hlw1_2, hcw2, hfw2, hlw2_0, hlw2_1, hlw2_2, hcw3, hfw3, hlw3_0, hlw3_1, hlw3_2]) rfl ⟨by rw [Hc.out], by (repeat' (first | exact Below.refl _ _ | refine Below.setCell ?_ ?_ _ | refine Below.alloc ?_ ?_ _ | refine below_drewN ?_ _ | refine Below.trans ?_ (Below.mono (by assumption) ?_) | exact Nat.le_refl _ | omega | (simp only [World.size_alloc, World.size_setCell, World.size_drew] at *; omega)))⟩
    · have Hc := Lib.hid Hc
      simp only [k1] at C2
      simp only [k2] at C3
      go_enter Tryz.func145, Tryz.ntmps145
      go_wp2_with (first | (go_at_call 118; refine ((C1 _).out).mono ?_; rintro e w1 ⟨rfl, hBw1⟩; obtain ⟨hcw1, hfw1⟩ := bcell hBw1; have hzw1 := hBw1.size; (try simp only [World.size_alloc, World.size_setCell, World.size_drew] at hzw1); have hlw1_0 : w.heap.size < w1.heap.size := (by omega); have hlw1_1 : w.heap.size + 1 < w1.heap.size := (by omega); have hlw1_2 : w.heap.size + 1 + 1 < w1.heap.size := (by omega)) | (go_at_call 152; first | ((with_reducible refine ((C2 _).out).mono ?_); rintro e w2 ⟨rfl, hBw2⟩; obtain ⟨hcw2, hfw2⟩ := bcell hBw2; have hzw2 := hBw2.size; (try simp only [World.size_alloc, World.size_setCell, World.size_drew] at hzw2); have hlw2_0 : w.heap.size < w2.heap.size := (by omega); have hlw2_1 : w.heap.size + 1 < w2.heap.size := (by omega); have hlw2_2 : w.heap.size + 1 + 1 < w2.heap.size := (by omega)) | ((with_reducible refine ((C3 _).out).mono ?_); rintro e w3 ⟨rfl, hBw3⟩; obtain ⟨hcw3, hfw3⟩ := bcell hBw3; have hzw3 := hBw3.size; (try simp only [World.size_alloc, World.size_setCell, World.size_drew] at hzw3); have hlw3_0 : w.heap.size < w3.heap.size := (by omega); have hlw3_1 : w.heap.size + 1 < w3.heap.size := (by omega); have hlw3_2 : w.heap.size + 1 + 1 < w3.heap.size := (by omega))))
      exact bodyPost_ret (v := .tuple #[.agg #[.int .u64 bm, .int .u64 br], .bool true]) (by simp [results, Tryz.results145, go_sem, hcw1, hfw1, hlw1_0, hlw1_1, hlw1_2, hcw2, hfw2, hlw2_0, hlw2_1, hlw2_2, hcw3, hfw3, hlw3_0, hlw3_1, hlw3_2]) rfl ⟨by rw [Hc.out], by (repeat' (first | exact Below.refl _ _ | refine Below.setCell ?_ ?_ _ | refine Below.alloc ?_ ?_ _ | refine below_drewN ?_ _ | refine Below.trans ?_ (Below.mono (by assumption) ?_) | exact Nat.le_refl _ | omega | (simp only [World.size_alloc, World.size_setCell, World.size_drew] at *; omega)))⟩
    · have Hc := Lib.hid Hc
      simp only [k1] at C2
      simp only [k2] at C3
      go_enter Tryz.func145, Tryz.ntmps145
      go_wp2_with (first | (go_at_call 118; refine ((C1 _).out).mono ?_; rintro e w1 ⟨rfl, hBw1⟩; obtain ⟨hcw1, hfw1⟩ := bcell hBw1; have hzw1 := hBw1.size; (try simp only [World.size_alloc, World.size_setCell, World.size_drew] at hzw1); have hlw1_0 : w.heap.size < w1.heap.size := (by omega); have hlw1_1 : w.heap.size + 1 < w1.heap.size := (by omega); have hlw1_2 : w.heap.size + 1 + 1 < w1.heap.size := (by omega)) | (go_at_call 152; first | ((with_reducible refine ((C2 _).out).mono ?_); rintro e w2 ⟨rfl, hBw2⟩; obtain ⟨hcw2, hfw2⟩ := bcell hBw2; have hzw2 := hBw2.size; (try simp only [World.size_alloc, World.size_setCell, World.size_drew] at hzw2); have hlw2_0 : w.heap.size < w2.heap.size := (by omega); have hlw2_1 : w.heap.size + 1 < w2.heap.size := (by omega); have hlw2_2 : w.heap.size + 1 + 1 < w2.heap.size := (by omega)) | ((with_reducible refine ((C3 _).out).mono ?_); rintro e w3 ⟨rfl, hBw3⟩; obtain ⟨hcw3, hfw3⟩ := bcell hBw3; have hzw3 := hBw3.size; (try simp only [World.size_alloc, World.size_setCell, World.size_drew] at hzw3); have hlw3_0 : w.heap.size < w3.heap.size := (by omega); have hlw3_1 : w.heap.size + 1 < w3.heap.size := (by omega); have hlw3_2 : w.heap.size + 1 + 1 < w3.heap.size := (by omega))))
      exact bodyPost_ret (v := .tuple #[.agg #[.int .u64 am, .int .u64 ar], .bool true]) (by simp [results, Tryz.results145, go_sem, hcw1, hfw1, hlw1_0, hlw1_1, hlw1_2, hcw2, hfw2, hlw2_0, hlw2_1, hlw2_2, hcw3, hfw3, hlw3_0, hlw3_1, hlw3_2]) rfl ⟨by rw [Hc.out], by (repeat' (first | exact Below.refl _ _ | refine Below.setCell ?_ ?_ _ | refine Below.alloc ?_ ?_ _ | refine below_drewN ?_ _ | refine Below.trans ?_ (Below.mono (by assumption) ?_) | exact Nat.le_refl _ | omega | (simp only [World.size_alloc, World.size_setCell, World.size_drew] at *; omega)))⟩
set_option maxHeartbeats 2000000 in
theorem meet_c2 (am ar bm br : Int) (w : World) (ha : 0 ≤ am) (ha' : am ≤ 18446744073709551615) (har : 0 ≤ ar) (har' : ar ≤ 18446744073709551615) (hb : 0 ≤ bm) (hb' : bm ≤ 18446744073709551615) (hbr : 0 ≤ br) (hbr' : br ≤ 18446744073709551615) (h : ¬ am = 0) (h2 : bm = 0) :
    Calls Tryz.prog 145 #[.agg #[.int .u64 am, .int .u64 ar], .agg #[.int .u64 bm, .int .u64 br]] w fun e w' => e = .returned (.tuple #[.agg #[.int .u64 (cmeet am ar bm br).1.1, .int .u64 (cmeet am ar bm br).1.2], .bool (cmeet am ar bm br).2]) ∧ Below w.heap.size w w' := by
  have gc := grown_cell
  have C2 := fun W => Lib.hid (within_c am ar bm br W ha ha' har har' hb hb')
  have C3 := fun W => Lib.hid (within_c bm br am ar W hb hb' hbr hbr' ha ha')
  have hways := Lib.hid (meet_ways am ar bm br)
  have hm1 : (am == 0) = false := by simpa using h
  have hm2 : (bm == 0) = true := by simpa using h2
  have r1 := sg_rng br
  have e1 := sg_eq' br
  have C1 := fun W => Lib.hid (has_c am ar (sg br) W ha ha' r1.1 r1.2)
  have hcc : ccommon am ar bm br = chas am ar (sg br) := by unfold ccommon; rw [if_neg h, if_pos h2]
  rw [← hcc] at C1
  clear h h2 hcc
  cases hk : ccommon am ar bm br
  · have Hc := Lib.hid (cmeet_no hk)
    simp only [hk] at C1
    clear hk
    go_enter Tryz.func145, Tryz.ntmps145
    go_wp2_with ((go_at_call 118; refine ((C1 _).out).mono ?_; rintro e w1 ⟨rfl, hBw1⟩; obtain ⟨hcw1, hfw1⟩ := bcell hBw1; have hzw1 := hBw1.size; (try simp only [World.size_alloc, World.size_setCell, World.size_drew] at hzw1); have hlw1_0 : w.heap.size < w1.heap.size := (by omega); have hlw1_1 : w.heap.size + 1 < w1.heap.size := (by omega); have hlw1_2 : w.heap.size + 1 + 1 < w1.heap.size := (by omega)))
    exact bodyPost_ret (v := .tuple #[.agg #[.int .u64 0, .int .u64 0], .bool false]) (by simp [results, Tryz.results145, go_sem, hcw1, hfw1, hlw1_0, hlw1_1, hlw1_2]) rfl ⟨by rw [Hc.out], by (repeat' (first | exact Below.refl _ _ | refine Below.setCell ?_ ?_ _ | refine Below.alloc ?_ ?_ _ | refine below_drewN ?_ _ | refine Below.trans ?_ (Below.mono (by assumption) ?_) | exact Nat.le_refl _ | omega | (simp only [World.size_alloc, World.size_setCell, World.size_drew] at *; omega)))⟩
  · have Hw := hways.out hk
    simp only [hk] at C1
    clear hways hk
    rcases Hw with ⟨k1, Hc⟩ | ⟨k1, k2, Hc⟩ | ⟨k1, k2, k3, Hc⟩ | ⟨k1, k2, k3, Hc⟩
    · have Hc := Lib.hid Hc
      simp only [k1] at C2
      go_enter Tryz.func145, Tryz.ntmps145
      go_wp2_with (first | (go_at_call 118; refine ((C1 _).out).mono ?_; rintro e w1 ⟨rfl, hBw1⟩; obtain ⟨hcw1, hfw1⟩ := bcell hBw1; have hzw1 := hBw1.size; (try simp only [World.size_alloc, World.size_setCell, World.size_drew] at hzw1); have hlw1_0 : w.heap.size < w1.heap.size := (by omega); have hlw1_1 : w.heap.size + 1 < w1.heap.size := (by omega); have hlw1_2 : w.heap.size + 1 + 1 < w1.heap.size := (by omega)) | (go_at_call 152; first | ((with_reducible refine ((C2 _).out).mono ?_); rintro e w2 ⟨rfl, hBw2⟩; obtain ⟨hcw2, hfw2⟩ := bcell hBw2; have hzw2 := hBw2.size; (try simp only [World.size_alloc, World.size_setCell, World.size_drew] at hzw2); have hlw2_0 : w.heap.size < w2.heap.size := (by omega); have hlw2_1 : w.heap.size + 1 < w2.heap.size := (by omega); have hlw2_2 : w.heap.size + 1 + 1 < w2.heap.size := (by omega)) | ((with_reducible refine ((C3 _).out).mono ?_); rintro e w3 ⟨rfl, hBw3⟩; obtain ⟨hcw3, hfw3⟩ := bcell hBw3; have hzw3 := hBw3.size; (try simp only [World.size_alloc, World.size_setCell, World.size_drew] at hzw3); have hlw3_0 : w.heap.size < w3.heap.size := (by omega); have hlw3_1 : w.heap.size + 1 < w3.heap.size := (by omega); have hlw3_2 : w.heap.size + 1 + 1 < w3.heap.size := (by omega))))
      exact bodyPost_ret (v := .tuple #[.agg #[.int .u64 am, .int .u64 ar], .bool true]) (by simp [results, Tryz.results145, go_sem, hcw1, hfw1, hlw1_0, hlw1_1, hlw1_2, hcw2, hfw2, hlw2_0, hlw2_1, hlw2_2]) rfl ⟨by rw [Hc.out], by (repeat' (first | exact Below.refl _ _ | refine Below.setCell ?_ ?_ _ | refine Below.alloc ?_ ?_ _ | refine below_drewN ?_ _ | refine Below.trans ?_ (Below.mono (by assumption) ?_) | exact Nat.le_refl _ | omega | (simp only [World.size_alloc, World.size_setCell, World.size_drew] at *; omega)))⟩
    · have Hc := Lib.hid Hc
      simp only [k1] at C2
      simp only [k2] at C3
      go_enter Tryz.func145, Tryz.ntmps145
      go_wp2_with (first | (go_at_call 118; refine ((C1 _).out).mono ?_; rintro e w1 ⟨rfl, hBw1⟩; obtain ⟨hcw1, hfw1⟩ := bcell hBw1; have hzw1 := hBw1.size; (try simp only [World.size_alloc, World.size_setCell, World.size_drew] at hzw1); have hlw1_0 : w.heap.size < w1.heap.size := (by omega); have hlw1_1 : w.heap.size + 1 < w1.heap.size := (by omega); have hlw1_2 : w.heap.size + 1 + 1 < w1.heap.size := (by omega)) | (go_at_call 152; first | ((with_reducible refine ((C2 _).out).mono ?_); rintro e w2 ⟨rfl, hBw2⟩; obtain ⟨hcw2, hfw2⟩ := bcell hBw2; have hzw2 := hBw2.size; (try simp only [World.size_alloc, World.size_setCell, World.size_drew] at hzw2); have hlw2_0 : w.heap.size < w2.heap.size := (by omega); have hlw2_1 : w.heap.size + 1 < w2.heap.size := (by omega); have hlw2_2 : w.heap.size + 1 + 1 < w2.heap.size := (by omega)) | ((with_reducible refine ((C3 _).out).mono ?_); rintro e w3 ⟨rfl, hBw3⟩; obtain ⟨hcw3, hfw3⟩ := bcell hBw3; have hzw3 := hBw3.size; (try simp only [World.size_alloc, World.size_setCell, World.size_drew] at hzw3); have hlw3_0 : w.heap.size < w3.heap.size := (by omega); have hlw3_1 : w.heap.size + 1 < w3.heap.size := (by omega); have hlw3_2 : w.heap.size + 1 + 1 < w3.heap.size := (by omega))))
      exact bodyPost_ret (v := .tuple #[.agg #[.int .u64 bm, .int .u64 br], .bool true]) (by simp [results, Tryz.results145, go_sem, hcw1, hfw1, hlw1_0, hlw1_1, hlw1_2, hcw2, hfw2, hlw2_0, hlw2_1, hlw2_2, hcw3, hfw3, hlw3_0, hlw3_1, hlw3_2]) rfl ⟨by rw [Hc.out], by (repeat' (first | exact Below.refl _ _ | refine Below.setCell ?_ ?_ _ | refine Below.alloc ?_ ?_ _ | refine below_drewN ?_ _ | refine Below.trans ?_ (Below.mono (by assumption) ?_) | exact Nat.le_refl _ | omega | (simp only [World.size_alloc, World.size_setCell, World.size_drew] at *; omega)))⟩
    · have Hc := Lib.hid Hc
      simp only [k1] at C2
      simp only [k2] at C3
      go_enter Tryz.func145, Tryz.ntmps145
      go_wp2_with (first | (go_at_call 118; refine ((C1 _).out).mono ?_; rintro e w1 ⟨rfl, hBw1⟩; obtain ⟨hcw1, hfw1⟩ := bcell hBw1; have hzw1 := hBw1.size; (try simp only [World.size_alloc, World.size_setCell, World.size_drew] at hzw1); have hlw1_0 : w.heap.size < w1.heap.size := (by omega); have hlw1_1 : w.heap.size + 1 < w1.heap.size := (by omega); have hlw1_2 : w.heap.size + 1 + 1 < w1.heap.size := (by omega)) | (go_at_call 152; first | ((with_reducible refine ((C2 _).out).mono ?_); rintro e w2 ⟨rfl, hBw2⟩; obtain ⟨hcw2, hfw2⟩ := bcell hBw2; have hzw2 := hBw2.size; (try simp only [World.size_alloc, World.size_setCell, World.size_drew] at hzw2); have hlw2_0 : w.heap.size < w2.heap.size := (by omega); have hlw2_1 : w.heap.size + 1 < w2.heap.size := (by omega); have hlw2_2 : w.heap.size + 1 + 1 < w2.heap.size := (by omega)) | ((with_reducible refine ((C3 _).out).mono ?_); rintro e w3 ⟨rfl, hBw3⟩; obtain ⟨hcw3, hfw3⟩ := bcell hBw3; have hzw3 := hBw3.size; (try simp only [World.size_alloc, World.size_setCell, World.size_drew] at hzw3); have hlw3_0 : w.heap.size < w3.heap.size := (by omega); have hlw3_1 : w.heap.size + 1 < w3.heap.size := (by omega); have hlw3_2 : w.heap.size + 1 + 1 < w3.heap.size := (by omega))))
      exact bodyPost_ret (v := .tuple #[.agg #[.int .u64 bm, .int .u64 br], .bool true]) (by simp [results, Tryz.results145, go_sem, hcw1, hfw1, hlw1_0, hlw1_1, hlw1_2, hcw2, hfw2, hlw2_0, hlw2_1, hlw2_2, hcw3, hfw3, hlw3_0, hlw3_1, hlw3_2]) rfl ⟨by rw [Hc.out], by (repeat' (first | exact Below.refl _ _ | refine Below.setCell ?_ ?_ _ | refine Below.alloc ?_ ?_ _ | refine below_drewN ?_ _ | refine Below.trans ?_ (Below.mono (by assumption) ?_) | exact Nat.le_refl _ | omega | (simp only [World.size_alloc, World.size_setCell, World.size_drew] at *; omega)))⟩
    · have Hc := Lib.hid Hc
      simp only [k1] at C2
      simp only [k2] at C3
      go_enter Tryz.func145, Tryz.ntmps145
      go_wp2_with (first | (go_at_call 118; refine ((C1 _).out).mono ?_; rintro e w1 ⟨rfl, hBw1⟩; obtain ⟨hcw1, hfw1⟩ := bcell hBw1; have hzw1 := hBw1.size; (try simp only [World.size_alloc, World.size_setCell, World.size_drew] at hzw1); have hlw1_0 : w.heap.size < w1.heap.size := (by omega); have hlw1_1 : w.heap.size + 1 < w1.heap.size := (by omega); have hlw1_2 : w.heap.size + 1 + 1 < w1.heap.size := (by omega)) | (go_at_call 152; first | ((with_reducible refine ((C2 _).out).mono ?_); rintro e w2 ⟨rfl, hBw2⟩; obtain ⟨hcw2, hfw2⟩ := bcell hBw2; have hzw2 := hBw2.size; (try simp only [World.size_alloc, World.size_setCell, World.size_drew] at hzw2); have hlw2_0 : w.heap.size < w2.heap.size := (by omega); have hlw2_1 : w.heap.size + 1 < w2.heap.size := (by omega); have hlw2_2 : w.heap.size + 1 + 1 < w2.heap.size := (by omega)) | ((with_reducible refine ((C3 _).out).mono ?_); rintro e w3 ⟨rfl, hBw3⟩; obtain ⟨hcw3, hfw3⟩ := bcell hBw3; have hzw3 := hBw3.size; (try simp only [World.size_alloc, World.size_setCell, World.size_drew] at hzw3); have hlw3_0 : w.heap.size < w3.heap.size := (by omega); have hlw3_1 : w.heap.size + 1 < w3.heap.size := (by omega); have hlw3_2 : w.heap.size + 1 + 1 < w3.heap.size := (by omega))))
      exact bodyPost_ret (v := .tuple #[.agg #[.int .u64 am, .int .u64 ar], .bool true]) (by simp [results, Tryz.results145, go_sem, hcw1, hfw1, hlw1_0, hlw1_1, hlw1_2, hcw2, hfw2, hlw2_0, hlw2_1, hlw2_2, hcw3, hfw3, hlw3_0, hlw3_1, hlw3_2]) rfl ⟨by rw [Hc.out], by (repeat' (first | exact Below.refl _ _ | refine Below.setCell ?_ ?_ _ | refine Below.alloc ?_ ?_ _ | refine below_drewN ?_ _ | refine Below.trans ?_ (Below.mono (by assumption) ?_) | exact Nat.le_refl _ | omega | (simp only [World.size_alloc, World.size_setCell, World.size_drew] at *; omega)))⟩
set_option maxHeartbeats 2000000 in
theorem meet_c3 (am ar bm br : Int) (w : World) (ha : 0 ≤ am) (ha' : am ≤ 18446744073709551615) (har : 0 ≤ ar) (har' : ar ≤ 18446744073709551615) (hb : 0 ≤ bm) (hb' : bm ≤ 18446744073709551615) (hbr : 0 ≤ br) (hbr' : br ≤ 18446744073709551615) (h : ¬ am = 0) (h2 : ¬ bm = 0) :
    Calls Tryz.prog 145 #[.agg #[.int .u64 am, .int .u64 ar], .agg #[.int .u64 bm, .int .u64 br]] w fun e w' => e = .returned (.tuple #[.agg #[.int .u64 (cmeet am ar bm br).1.1, .int .u64 (cmeet am ar bm br).1.2], .bool (cmeet am ar bm br).2]) ∧ Below w.heap.size w w' := by
  have gc := grown_cell
  have C2 := fun W => Lib.hid (within_c am ar bm br W ha ha' har har' hb hb')
  have C3 := fun W => Lib.hid (within_c bm br am ar W hb hb' hbr hbr' ha ha')
  have hways := Lib.hid (meet_ways am ar bm br)
  have hm1 : (am == 0) = false := by simpa using h
  have hm2 : (bm == 0) = false := by simpa using h2
  have hg := cg_pos (a := am) (b := bm) (by omega)
  have hgB : cg am bm ≤ 18446744073709551615 := cg_bd ha hb ha' hb'
  have C1 := fun W => Lib.hid (gcd_c am bm W ha ha' hb hb')
  have C5 := fun W => Lib.hid (crest_c am ar (cg am bm) W ha ha' har har' hg hgB)
  have C6 := fun W => Lib.hid (crest_c bm br (cg am bm) W hb hb' hbr hbr' hg hgB)
  have Hxy : ccommon am ar bm br = (crest am ar (cg am bm) == crest bm br (cg am bm)) := by unfold ccommon; rw [if_neg h, if_neg h2]
  generalize crest am ar (cg am bm) = x at *
  generalize crest bm br (cg am bm) = y at *
  generalize cg am bm = g at *
  clear h h2
  cases hk : ccommon am ar bm br
  · have Hc := Lib.hid (cmeet_no hk)
    rw [hk] at Hxy
    replace Hxy := Hxy.symm
    clear hk
    go_enter Tryz.func145, Tryz.ntmps145
    go_wp2_with ((go_at_call 221; refine ((C1 _).out).mono ?_; rintro e w0 ⟨rfl, hBw0⟩; obtain ⟨hcw0, hfw0⟩ := bcell hBw0; have hzw0 := hBw0.size; (try simp only [World.size_alloc, World.size_setCell, World.size_drew] at hzw0); have hlw0_0 : w.heap.size < w0.heap.size := (by omega); have hlw0_1 : w.heap.size + 1 < w0.heap.size := (by omega); have hlw0_2 : w.heap.size + 1 + 1 < w0.heap.size := (by omega)))
    refine wp_all_below (by kernel_rfl) (by kernel_rfl) ?_; (repeat (go_big_quiet_step (first | with_reducible exact quietly (fun W => (C5 W).out) | with_reducible exact quietly (fun W => (C6 W).out)))); refine wpQuiet_nil ?_; intro w1 hBw1; obtain ⟨hcw1, hfw1⟩ := bcell hBw1; have hzw1 := hBw1.size; (try simp only [World.size_alloc, World.size_setCell, World.size_drew] at hzw1); have hlw1_0 : w.heap.size < w1.heap.size := (by omega); have hlw1_1 : w.heap.size + 1 < w1.heap.size := (by omega); have hlw1_2 : w.heap.size + 1 + 1 < w1.heap.size := (by omega)
    go_wp2
    exact bodyPost_ret (v := .tuple #[.agg #[.int .u64 0, .int .u64 0], .bool false]) (by simp [results, Tryz.results145, go_sem, hcw0, hfw0, hlw0_0, hlw0_1, hlw0_2, hcw1, hfw1, hlw1_0, hlw1_1, hlw1_2]) rfl ⟨by rw [Hc.out], by (repeat' (first | exact Below.refl _ _ | refine Below.setCell ?_ ?_ _ | refine Below.alloc ?_ ?_ _ | refine below_drewN ?_ _ | refine Below.trans ?_ (Below.mono (by assumption) ?_) | exact Nat.le_refl _ | omega | (simp only [World.size_alloc, World.size_setCell, World.size_drew] at *; omega)))⟩
  · have Hw := hways.out hk
    rw [hk] at Hxy
    replace Hxy := Hxy.symm
    clear hways hk
    rcases Hw with ⟨k1, Hc⟩ | ⟨k1, k2, Hc⟩ | ⟨k1, k2, k3, Hc⟩ | ⟨k1, k2, k3, Hc⟩
    · have Hc := Lib.hid Hc
      simp only [k1] at C2
      go_enter Tryz.func145, Tryz.ntmps145
      go_wp2_with ((go_at_call 221; refine ((C1 _).out).mono ?_; rintro e w0 ⟨rfl, hBw0⟩; obtain ⟨hcw0, hfw0⟩ := bcell hBw0; have hzw0 := hBw0.size; (try simp only [World.size_alloc, World.size_setCell, World.size_drew] at hzw0); have hlw0_0 : w.heap.size < w0.heap.size := (by omega); have hlw0_1 : w.heap.size + 1 < w0.heap.size := (by omega); have hlw0_2 : w.heap.size + 1 + 1 < w0.heap.size := (by omega)))
      refine wp_all_below (by kernel_rfl) (by kernel_rfl) ?_; (repeat (go_big_quiet_step (first | with_reducible exact quietly (fun W => (C5 W).out) | with_reducible exact quietly (fun W => (C6 W).out)))); refine wpQuiet_nil ?_; intro w1 hBw1; obtain ⟨hcw1, hfw1⟩ := bcell hBw1; have hzw1 := hBw1.size; (try simp only [World.size_alloc, World.size_setCell, World.size_drew] at hzw1); have hlw1_0 : w.heap.size < w1.heap.size := (by omega); have hlw1_1 : w.heap.size + 1 < w1.heap.size := (by omega); have hlw1_2 : w.heap.size + 1 + 1 < w1.heap.size := (by omega)
      go_wp2_with ((go_at_call 152; first | ((with_reducible refine ((C2 _).out).mono ?_); rintro e w2 ⟨rfl, hBw2⟩; obtain ⟨hcw2, hfw2⟩ := bcell hBw2; have hzw2 := hBw2.size; (try simp only [World.size_alloc, World.size_setCell, World.size_drew] at hzw2); have hlw2_0 : w.heap.size < w2.heap.size := (by omega); have hlw2_1 : w.heap.size + 1 < w2.heap.size := (by omega); have hlw2_2 : w.heap.size + 1 + 1 < w2.heap.size := (by omega)) | ((with_reducible refine ((C3 _).out).mono ?_); rintro e w3 ⟨rfl, hBw3⟩; obtain ⟨hcw3, hfw3⟩ := bcell hBw3; have hzw3 := hBw3.size; (try simp only [World.size_alloc, World.size_setCell, World.size_drew] at hzw3); have hlw3_0 : w.heap.size < w3.heap.size := (by omega); have hlw3_1 : w.heap.size + 1 < w3.heap.size := (by omega); have hlw3_2 : w.heap.size + 1 + 1 < w3.heap.size := (by omega))))
      exact bodyPost_ret (v := .tuple #[.agg #[.int .u64 am, .int .u64 ar], .bool true]) (by simp [results, Tryz.results145, go_sem, hcw0, hfw0, hlw0_0, hlw0_1, hlw0_2, hcw1, hfw1, hlw1_0, hlw1_1, hlw1_2, hcw2, hfw2, hlw2_0, hlw2_1, hlw2_2]) rfl ⟨by rw [Hc.out], by (repeat' (first | exact Below.refl _ _ | refine Below.setCell ?_ ?_ _ | refine Below.alloc ?_ ?_ _ | refine below_drewN ?_ _ | refine Below.trans ?_ (Below.mono (by assumption) ?_) | exact Nat.le_refl _ | omega | (simp only [World.size_alloc, World.size_setCell, World.size_drew] at *; omega)))⟩
    · have Hc := Lib.hid Hc
      simp only [k1] at C2
      simp only [k2] at C3
      go_enter Tryz.func145, Tryz.ntmps145
      go_wp2_with ((go_at_call 221; refine ((C1 _).out).mono ?_; rintro e w0 ⟨rfl, hBw0⟩; obtain ⟨hcw0, hfw0⟩ := bcell hBw0; have hzw0 := hBw0.size; (try simp only [World.size_alloc, World.size_setCell, World.size_drew] at hzw0); have hlw0_0 : w.heap.size < w0.heap.size := (by omega); have hlw0_1 : w.heap.size + 1 < w0.heap.size := (by omega); have hlw0_2 : w.heap.size + 1 + 1 < w0.heap.size := (by omega)))
      refine wp_all_below (by kernel_rfl) (by kernel_rfl) ?_; (repeat (go_big_quiet_step (first | with_reducible exact quietly (fun W => (C5 W).out) | with_reducible exact quietly (fun W => (C6 W).out)))); refine wpQuiet_nil ?_; intro w1 hBw1; obtain ⟨hcw1, hfw1⟩ := bcell hBw1; have hzw1 := hBw1.size; (try simp only [World.size_alloc, World.size_setCell, World.size_drew] at hzw1); have hlw1_0 : w.heap.size < w1.heap.size := (by omega); have hlw1_1 : w.heap.size + 1 < w1.heap.size := (by omega); have hlw1_2 : w.heap.size + 1 + 1 < w1.heap.size := (by omega)
      go_wp2_with ((go_at_call 152; first | ((with_reducible refine ((C2 _).out).mono ?_); rintro e w2 ⟨rfl, hBw2⟩; obtain ⟨hcw2, hfw2⟩ := bcell hBw2; have hzw2 := hBw2.size; (try simp only [World.size_alloc, World.size_setCell, World.size_drew] at hzw2); have hlw2_0 : w.heap.size < w2.heap.size := (by omega); have hlw2_1 : w.heap.size + 1 < w2.heap.size := (by omega); have hlw2_2 : w.heap.size + 1 + 1 < w2.heap.size := (by omega)) | ((with_reducible refine ((C3 _).out).mono ?_); rintro e w3 ⟨rfl, hBw3⟩; obtain ⟨hcw3, hfw3⟩ := bcell hBw3; have hzw3 := hBw3.size; (try simp only [World.size_alloc, World.size_setCell, World.size_drew] at hzw3); have hlw3_0 : w.heap.size < w3.heap.size := (by omega); have hlw3_1 : w.heap.size + 1 < w3.heap.size := (by omega); have hlw3_2 : w.heap.size + 1 + 1 < w3.heap.size := (by omega))))
      exact bodyPost_ret (v := .tuple #[.agg #[.int .u64 bm, .int .u64 br], .bool true]) (by simp [results, Tryz.results145, go_sem, hcw0, hfw0, hlw0_0, hlw0_1, hlw0_2, hcw1, hfw1, hlw1_0, hlw1_1, hlw1_2, hcw2, hfw2, hlw2_0, hlw2_1, hlw2_2, hcw3, hfw3, hlw3_0, hlw3_1, hlw3_2]) rfl ⟨by rw [Hc.out], by (repeat' (first | exact Below.refl _ _ | refine Below.setCell ?_ ?_ _ | refine Below.alloc ?_ ?_ _ | refine below_drewN ?_ _ | refine Below.trans ?_ (Below.mono (by assumption) ?_) | exact Nat.le_refl _ | omega | (simp only [World.size_alloc, World.size_setCell, World.size_drew] at *; omega)))⟩
    · have Hc := Lib.hid Hc
      simp only [k1] at C2
      simp only [k2] at C3
      go_enter Tryz.func145, Tryz.ntmps145
      go_wp2_with ((go_at_call 221; refine ((C1 _).out).mono ?_; rintro e w0 ⟨rfl, hBw0⟩; obtain ⟨hcw0, hfw0⟩ := bcell hBw0; have hzw0 := hBw0.size; (try simp only [World.size_alloc, World.size_setCell, World.size_drew] at hzw0); have hlw0_0 : w.heap.size < w0.heap.size := (by omega); have hlw0_1 : w.heap.size + 1 < w0.heap.size := (by omega); have hlw0_2 : w.heap.size + 1 + 1 < w0.heap.size := (by omega)))
      refine wp_all_below (by kernel_rfl) (by kernel_rfl) ?_; (repeat (go_big_quiet_step (first | with_reducible exact quietly (fun W => (C5 W).out) | with_reducible exact quietly (fun W => (C6 W).out)))); refine wpQuiet_nil ?_; intro w1 hBw1; obtain ⟨hcw1, hfw1⟩ := bcell hBw1; have hzw1 := hBw1.size; (try simp only [World.size_alloc, World.size_setCell, World.size_drew] at hzw1); have hlw1_0 : w.heap.size < w1.heap.size := (by omega); have hlw1_1 : w.heap.size + 1 < w1.heap.size := (by omega); have hlw1_2 : w.heap.size + 1 + 1 < w1.heap.size := (by omega)
      go_wp2_with ((go_at_call 152; first | ((with_reducible refine ((C2 _).out).mono ?_); rintro e w2 ⟨rfl, hBw2⟩; obtain ⟨hcw2, hfw2⟩ := bcell hBw2; have hzw2 := hBw2.size; (try simp only [World.size_alloc, World.size_setCell, World.size_drew] at hzw2); have hlw2_0 : w.heap.size < w2.heap.size := (by omega); have hlw2_1 : w.heap.size + 1 < w2.heap.size := (by omega); have hlw2_2 : w.heap.size + 1 + 1 < w2.heap.size := (by omega)) | ((with_reducible refine ((C3 _).out).mono ?_); rintro e w3 ⟨rfl, hBw3⟩; obtain ⟨hcw3, hfw3⟩ := bcell hBw3; have hzw3 := hBw3.size; (try simp only [World.size_alloc, World.size_setCell, World.size_drew] at hzw3); have hlw3_0 : w.heap.size < w3.heap.size := (by omega); have hlw3_1 : w.heap.size + 1 < w3.heap.size := (by omega); have hlw3_2 : w.heap.size + 1 + 1 < w3.heap.size := (by omega))))
      exact bodyPost_ret (v := .tuple #[.agg #[.int .u64 bm, .int .u64 br], .bool true]) (by simp [results, Tryz.results145, go_sem, hcw0, hfw0, hlw0_0, hlw0_1, hlw0_2, hcw1, hfw1, hlw1_0, hlw1_1, hlw1_2, hcw2, hfw2, hlw2_0, hlw2_1, hlw2_2, hcw3, hfw3, hlw3_0, hlw3_1, hlw3_2]) rfl ⟨by rw [Hc.out], by (repeat' (first | exact Below.refl _ _ | refine Below.setCell ?_ ?_ _ | refine Below.alloc ?_ ?_ _ | refine below_drewN ?_ _ | refine Below.trans ?_ (Below.mono (by assumption) ?_) | exact Nat.le_refl _ | omega | (simp only [World.size_alloc, World.size_setCell, World.size_drew] at *; omega)))⟩
    · have Hc := Lib.hid Hc
      simp only [k1] at C2
      simp only [k2] at C3
      go_enter Tryz.func145, Tryz.ntmps145
      go_wp2_with ((go_at_call 221; refine ((C1 _).out).mono ?_; rintro e w0 ⟨rfl, hBw0⟩; obtain ⟨hcw0, hfw0⟩ := bcell hBw0; have hzw0 := hBw0.size; (try simp only [World.size_alloc, World.size_setCell, World.size_drew] at hzw0); have hlw0_0 : w.heap.size < w0.heap.size := (by omega); have hlw0_1 : w.heap.size + 1 < w0.heap.size := (by omega); have hlw0_2 : w.heap.size + 1 + 1 < w0.heap.size := (by omega)))
      refine wp_all_below (by kernel_rfl) (by kernel_rfl) ?_; (repeat (go_big_quiet_step (first | with_reducible exact quietly (fun W => (C5 W).out) | with_reducible exact quietly (fun W => (C6 W).out)))); refine wpQuiet_nil ?_; intro w1 hBw1; obtain ⟨hcw1, hfw1⟩ := bcell hBw1; have hzw1 := hBw1.size; (try simp only [World.size_alloc, World.size_setCell, World.size_drew] at hzw1); have hlw1_0 : w.heap.size < w1.heap.size := (by omega); have hlw1_1 : w.heap.size + 1 < w1.heap.size := (by omega); have hlw1_2 : w.heap.size + 1 + 1 < w1.heap.size := (by omega)
      go_wp2_with ((go_at_call 152; first | ((with_reducible refine ((C2 _).out).mono ?_); rintro e w2 ⟨rfl, hBw2⟩; obtain ⟨hcw2, hfw2⟩ := bcell hBw2; have hzw2 := hBw2.size; (try simp only [World.size_alloc, World.size_setCell, World.size_drew] at hzw2); have hlw2_0 : w.heap.size < w2.heap.size := (by omega); have hlw2_1 : w.heap.size + 1 < w2.heap.size := (by omega); have hlw2_2 : w.heap.size + 1 + 1 < w2.heap.size := (by omega)) | ((with_reducible refine ((C3 _).out).mono ?_); rintro e w3 ⟨rfl, hBw3⟩; obtain ⟨hcw3, hfw3⟩ := bcell hBw3; have hzw3 := hBw3.size; (try simp only [World.size_alloc, World.size_setCell, World.size_drew] at hzw3); have hlw3_0 : w.heap.size < w3.heap.size := (by omega); have hlw3_1 : w.heap.size + 1 < w3.heap.size := (by omega); have hlw3_2 : w.heap.size + 1 + 1 < w3.heap.size := (by omega))))
      exact bodyPost_ret (v := .tuple #[.agg #[.int .u64 am, .int .u64 ar], .bool true]) (by simp [results, Tryz.results145, go_sem, hcw0, hfw0, hlw0_0, hlw0_1, hlw0_2, hcw1, hfw1, hlw1_0, hlw1_1, hlw1_2, hcw2, hfw2, hlw2_0, hlw2_1, hlw2_2, hcw3, hfw3, hlw3_0, hlw3_1, hlw3_2]) rfl ⟨by rw [Hc.out], by (repeat' (first | exact Below.refl _ _ | refine Below.setCell ?_ ?_ _ | refine Below.alloc ?_ ?_ _ | refine below_drewN ?_ _ | refine Below.trans ?_ (Below.mono (by assumption) ?_) | exact Nat.le_refl _ | omega | (simp only [World.size_alloc, World.size_setCell, World.size_drew] at *; omega)))⟩

theorem meet_c (am ar bm br : Int) (w : World) (ha : 0 ≤ am) (ha' : am ≤ 18446744073709551615) (har : 0 ≤ ar) (har' : ar ≤ 18446744073709551615) (hb : 0 ≤ bm) (hb' : bm ≤ 18446744073709551615) (hbr : 0 ≤ br) (hbr' : br ≤ 18446744073709551615) :
    Calls Tryz.prog 145 #[.agg #[.int .u64 am, .int .u64 ar], .agg #[.int .u64 bm, .int .u64 br]] w fun e w' => e = .returned (.tuple #[.agg #[.int .u64 (cmeet am ar bm br).1.1, .int .u64 (cmeet am ar bm br).1.2], .bool (cmeet am ar bm br).2]) ∧ Below w.heap.size w w' := by
  by_cases h : am = 0
  · exact meet_c1 am ar bm br w ha ha' har har' hb hb' hbr hbr' h
  · by_cases h2 : bm = 0
    · exact meet_c2 am ar bm br w ha ha' har har' hb hb' hbr hbr' h h2
    · exact meet_c3 am ar bm br w ha ha' har har' hb hb' hbr hbr' h h2

end Go.Proofs.YtljhbdgoknfkcaaGreatDoor
