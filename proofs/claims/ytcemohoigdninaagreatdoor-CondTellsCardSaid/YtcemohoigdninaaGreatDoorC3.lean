/- Contracts of package cong: joins, sums, differences. -/
import Derived.Test.YtcemohoigdninaaGreatDoorD
namespace Go.Proofs.YtcemohoigdninaaGreatDoor
open Go Go.RowKit Go.Sort
set_option linter.unusedVariables false
set_option linter.unusedSimpArgs false
set_option maxRecDepth 100000

set_option maxHeartbeats 1000000 in
theorem join_c (am ar bm br : Int) (w : World) (ha : 0 ≤ am) (ha' : am ≤ 18446744073709551615) (har : 0 ≤ ar) (har' : ar ≤ 18446744073709551615) (hb : 0 ≤ bm) (hb' : bm ≤ 18446744073709551615) (hbr : 0 ≤ br) (hbr' : br ≤ 18446744073709551615) :
    Calls Tryz.prog 135 #[.agg #[.int .u64 am, .int .u64 ar], .agg #[.int .u64 bm, .int .u64 br]] w fun e w' => e = .returned (.agg #[.int .u64 (cjoin am ar bm br).1, .int .u64 (cjoin am ar bm br).2]) ∧ Below w.heap.size w w' := by
  have gc := grown_cell
  have heq := run_eql_cong
  by_cases h : am = 0 ∧ bm = 0
  · obtain ⟨rfl, rfl⟩ := h
    by_cases h2 : ar = br
    · have Hc := Lib.hid (show cjoin 0 ar 0 br = (0, ar) from by simp [cjoin, h2])
      have hm2 : (ar == br) = true := by simpa using h2
      clear h2
      go_enter Tryz.func135, Tryz.ntmps135
      go_wp2
      exact bodyPost_ret (v := .agg #[.int .u64 0, .int .u64 ar]) (by simp [results, Tryz.results135, go_sem]) rfl ⟨by rw [Hc.out], by (repeat' (first | exact Below.refl _ _ | refine Below.setCell ?_ ?_ _ | refine Below.alloc ?_ ?_ _ | refine below_drewN ?_ _ | refine Below.trans ?_ (Below.mono (by assumption) ?_) | exact Nat.le_refl _ | omega | (simp only [World.size_alloc, World.size_setCell, World.size_drew] at *; omega)))⟩
    · have hm2 : (ar == br) = false := by simpa using h2
      have Hc := Lib.hid (show cjoin 0 ar 0 br = (cdist (sg ar) (sg br), sg ar % cdist (sg ar) (sg br)) from by simp [cjoin, h2])
      have hne : sg ar ≠ sg br := fun e => h2 (sg_inj har har' hbr hbr' e)
      have e1 := sg_eq' ar
      have e2 := sg_eq' br
      have r1 := sg_rng ar
      have r2 := sg_rng br
      clear h2
      generalize sg ar = x at *
      generalize sg br = y at *
      obtain ⟨d, hd⟩ : ∃ d, d = cdist x y := ⟨_, rfl⟩
      have hd0 : 0 < d ∧ d ≤ 18446744073709551615 := by rw [hd]; unfold cdist; split <;> omega
      have e5 : IntKind.u64.wrap (IntKind.u64.wrap (max x y) - IntKind.u64.wrap (min x y)) = d := by rw [hd]; unfold cdist; simp only [IntKind.wrap_u64]; split <;> omega
      rw [← hd] at Hc
      have Hm := Lib.hid (show cmake d x = x % d from by unfold cmake; rw [if_neg (by omega)])
      clear hd
      go_enter Tryz.func135, Tryz.ntmps135
      go_wp2
      refine wp_all_below (by kernel_rfl) (by kernel_rfl) ?_; (repeat (go_big_quiet_step (first | fail))); refine wpQuiet_nil ?_; intro w0 hBw0; obtain ⟨hcw0, hfw0⟩ := bcell hBw0; have hzw0 := hBw0.size; (try simp only [World.size_alloc, World.size_setCell, World.size_drew] at hzw0); have hlw0_0 : w.heap.size < w0.heap.size := (by omega); have hlw0_1 : w.heap.size + 1 < w0.heap.size := (by omega); have hlw0_2 : w.heap.size + 1 + 1 < w0.heap.size := (by omega)
      go_wp2_with (go_at_call 9; go_must ((refine (make_c _ _ _ (by omega) (by omega) (by omega) (by omega)).mono ?_; rintro e w1 ⟨rfl, hBw1⟩; obtain ⟨hcw1, hfw1⟩ := bcell hBw1; have hzw1 := hBw1.size; (try simp only [World.size_alloc, World.size_setCell, World.size_drew] at hzw1); have hlw1_0 : w.heap.size < w1.heap.size := (by omega); have hlw1_1 : w.heap.size + 1 < w1.heap.size := (by omega); have hlw1_2 : w.heap.size + 1 + 1 < w1.heap.size := (by omega))))
      exact bodyPost_ret (v := .agg #[.int .u64 d, .int .u64 (cmake d x)]) (by simp [results, Tryz.results135, go_sem, hcw0, hfw0, hlw0_0, hlw0_1, hlw0_2, hcw1, hfw1, hlw1_0, hlw1_1, hlw1_2]) rfl ⟨by rw [Hc.out, Hm.out], by (repeat' (first | exact Below.refl _ _ | refine Below.setCell ?_ ?_ _ | refine Below.alloc ?_ ?_ _ | refine below_drewN ?_ _ | refine Below.trans ?_ (Below.mono (by assumption) ?_) | exact Nat.le_refl _ | omega | (simp only [World.size_alloc, World.size_setCell, World.size_drew] at *; omega)))⟩
  · have Hc := Lib.hid (show cjoin am ar bm br = _ from by unfold cjoin; rw [if_neg h])
    have hg := cg_pos h
    have hgB : cg am bm ≤ 18446744073709551615 := cg_bd ha hb ha' hb'
    have hx := crest_rng am ar (cg am bm) hg
    have hy := crest_rng bm br (cg am bm) hg
    generalize hgg : cg am bm = g at *
    generalize hxx : crest am ar g = x at *
    generalize hyy : crest bm br g = y at *
    have e5 : max x y - min x y = cdist x y := by unfold cdist; split <;> omega
    have hd0 := @cdist_rng x y
    have hd1 : cdist x y ≤ 18446744073709551615 := by unfold cdist; split <;> omega
    generalize cdist x y = d at *
    have hm : 0 < cg g d := cg_pos (by omega)
    have hmB : cg g d ≤ 18446744073709551615 := cg_bd (by omega) (by omega) hgB hd1
    generalize hmm : cg g d = m at *
    have C1 := fun W => Lib.hid (gcd_c am bm W ha ha' hb hb')
    have C2 := fun W => Lib.hid (crest_c am ar g W ha ha' har har' hg hgB)
    have C3 := fun W => Lib.hid (crest_c bm br g W hb hb' hbr hbr' hg hgB)
    have C4 := fun W => Lib.hid (gcd_c g d W (by omega) hgB hd0 hd1)
    rw [hgg] at C1
    rw [hxx] at C2
    rw [hyy] at C3
    rw [hmm] at C4
    have hguard : (am == 0) = false ∨ (am == 0) = true ∧ (bm == 0) = false := by
      by_cases h0 : am = 0
      · right; exact ⟨by simpa using h0, by simp; omega⟩
      · left; simpa using h0
    clear hgg hxx hyy hmm h
    rcases hguard with hg0 | ⟨hg0, hg1⟩
    all_goals
      go_enter Tryz.func135, Tryz.ntmps135
      go_wp2_with (go_at_call 202; refine ((C1 _).out).mono ?_; rintro e w1 ⟨rfl, hBw1⟩; obtain ⟨hcw1, hfw1⟩ := bcell hBw1; have hzw1 := hBw1.size; (try simp only [World.size_alloc, World.size_setCell, World.size_drew] at hzw1); have hlw1_0 : w.heap.size < w1.heap.size := (by omega); have hlw1_1 : w.heap.size + 1 < w1.heap.size := (by omega); have hlw1_2 : w.heap.size + 1 + 1 < w1.heap.size := (by omega))
      refine wp_all_below (by kernel_rfl) (by kernel_rfl) ?_; (repeat (go_big_quiet_step (first | with_reducible exact quietly (fun W => (C2 W).out) | with_reducible exact quietly (fun W => (C3 W).out)))); refine wpQuiet_nil ?_; intro w2 hBw2; obtain ⟨hcw2, hfw2⟩ := bcell hBw2; have hzw2 := hBw2.size; (try simp only [World.size_alloc, World.size_setCell, World.size_drew] at hzw2); have hlw2_0 : w.heap.size < w2.heap.size := (by omega); have hlw2_1 : w.heap.size + 1 < w2.heap.size := (by omega); have hlw2_2 : w.heap.size + 1 + 1 < w2.heap.size := (by omega)
      go_wp2_with (go_at_call 202; refine ((C4 _).out).mono ?_; rintro e w3 ⟨rfl, hBw3⟩; obtain ⟨hcw3, hfw3⟩ := bcell hBw3; have hzw3 := hBw3.size; (try simp only [World.size_alloc, World.size_setCell, World.size_drew] at hzw3); have hlw3_0 : w.heap.size < w3.heap.size := (by omega); have hlw3_1 : w.heap.size + 1 < w3.heap.size := (by omega); have hlw3_2 : w.heap.size + 1 + 1 < w3.heap.size := (by omega))
      exact bodyPost_ret (v := .agg #[.int .u64 m, .int .u64 (x % m)]) (by simp [results, Tryz.results135, go_sem, hcw1, hfw1, hlw1_0, hlw1_1, hlw1_2, hcw2, hfw2, hlw2_0, hlw2_1, hlw2_2, hcw3, hfw3, hlw3_0, hlw3_1, hlw3_2]) rfl ⟨by rw [Hc.out], by (repeat' (first | exact Below.refl _ _ | refine Below.setCell ?_ ?_ _ | refine Below.alloc ?_ ?_ _ | refine below_drewN ?_ _ | refine Below.trans ?_ (Below.mono (by assumption) ?_) | exact Nat.le_refl _ | omega | (simp only [World.size_alloc, World.size_setCell, World.size_drew] at *; omega)))⟩

set_option maxHeartbeats 1000000 in
theorem add_c (am ar bm br : Int) (w : World) (ha : 0 ≤ am) (ha' : am ≤ 18446744073709551615) (har : 0 ≤ ar) (har' : ar ≤ 18446744073709551615) (hb : 0 ≤ bm) (hb' : bm ≤ 18446744073709551615) (hbr : 0 ≤ br) (hbr' : br ≤ 18446744073709551615) :
    Calls Tryz.prog 162 #[.agg #[.int .u64 am, .int .u64 ar], .agg #[.int .u64 bm, .int .u64 br]] w fun e w' => e = .returned (.agg #[.int .u64 (cadd am ar bm br).1, .int .u64 (cadd am ar bm br).2]) ∧ Below w.heap.size w w' := by
  have gc := grown_cell
  by_cases h : am = 0 ∧ bm = 0
  · obtain ⟨rfl, rfl⟩ := h
    have Hc := Lib.hid (show cadd 0 ar 0 br = (0, us (ar + br)) from by simp [cadd])
    have e1 := us_eq (ar + br)
    go_enter Tryz.func162, Tryz.ntmps162
    go_wp2
    exact bodyPost_ret (v := .agg #[.int .u64 0, .int .u64 (us (ar + br))]) (by simp [results, Tryz.results162, go_sem, us_eq]) rfl ⟨by rw [Hc.out], by (repeat' (first | exact Below.refl _ _ | refine Below.setCell ?_ ?_ _ | refine Below.alloc ?_ ?_ _ | refine below_drewN ?_ _ | refine Below.trans ?_ (Below.mono (by assumption) ?_) | exact Nat.le_refl _ | omega | (simp only [World.size_alloc, World.size_setCell, World.size_drew] at *; omega)))⟩
  · have Hc := Lib.hid (show cadd am ar bm br = _ from by unfold cadd; rw [if_neg h])
    have hg := cg_pos h
    have hgB : cg am bm ≤ 18446744073709551615 := cg_bd ha hb ha' hb'
    have hx := crest_rng am ar (cg am bm) hg
    have hy := crest_rng bm br (cg am bm) hg
    generalize hgg : cg am bm = g at *
    generalize hxx : crest am ar g = x at *
    generalize hyy : crest bm br g = y at *
    have C1 := fun W => Lib.hid (gcd_c am bm W ha ha' hb hb')
    have C2 := fun W => Lib.hid (crest_c am ar g W ha ha' har har' hg hgB)
    have C3 := fun W => Lib.hid (crest_c bm br g W hb hb' hbr hbr' hg hgB)
    rw [hgg] at C1
    rw [hxx] at C2
    rw [hyy] at C3
    have C4 := fun W => Lib.hid (minus_c 0 y g W (by omega) (by omega) (by omega) (by omega) hgB)
    have hn := cminus_rng (a := 0) (b := y) (m := g) (by omega) (by omega) hy.1 hy.2
    have hn2 := cminus_mod (a := 0) (b := y) (m := g) (by omega) (by omega) hy.1 hy.2
    generalize cminus 0 y g = n at *
    have C5 := fun W => Lib.hid (minus_c x n g W hx.1 hn.1 (by omega) (by omega) hgB)
    have hz2 := cminus_mod hx.1 hx.2 hn.1 hn.2
    generalize cminus x n g = z at *
    have Hz := Lib.hid (show (x + y) % g = z by rw [hz2, hn2, Int.sub_emod, Int.emod_emod_of_dvd _ (Int.dvd_refl g), ← Int.sub_emod]; congr 1; omega)
    clear hn2 hz2
    have hguard : (am == 0) = false ∨ (am == 0) = true ∧ (bm == 0) = false := by
      by_cases h0 : am = 0
      · right; exact ⟨by simpa using h0, by simp; omega⟩
      · left; simpa using h0
    clear hgg hxx hyy h
    rcases hguard with hg0 | ⟨hg0, hg1⟩
    all_goals
      go_enter Tryz.func162, Tryz.ntmps162
      go_wp2_with (go_at_call 202; refine ((C1 _).out).mono ?_; rintro e w1 ⟨rfl, hBw1⟩; obtain ⟨hcw1, hfw1⟩ := bcell hBw1; have hzw1 := hBw1.size; (try simp only [World.size_alloc, World.size_setCell, World.size_drew] at hzw1); have hlw1_0 : w.heap.size < w1.heap.size := (by omega); have hlw1_1 : w.heap.size + 1 < w1.heap.size := (by omega); have hlw1_2 : w.heap.size + 1 + 1 < w1.heap.size := (by omega))
      refine wp_head_below 12 (by kernel_rfl) (by kernel_rfl) ?_; simp only [List.take_succ_cons, List.take_zero, List.drop_succ_cons, List.drop_zero]; (repeat (go_big_quiet_step (first | with_reducible exact quietly (fun W => (C2 W).out) | with_reducible exact quietly (fun W => (C3 W).out) | with_reducible exact quietly_same (fun W => (C4 W).out) | with_reducible exact quietly_same (fun W => (C5 W).out)))); refine wpQuiet_nil ?_; intro w2 hBw2; obtain ⟨hcw2, hfw2⟩ := bcell hBw2; have hzw2 := hBw2.size; (try simp only [World.size_alloc, World.size_setCell, World.size_drew] at hzw2); have hlw2_0 : w.heap.size < w2.heap.size := (by omega); have hlw2_1 : w.heap.size + 1 < w2.heap.size := (by omega); have hlw2_2 : w.heap.size + 1 + 1 < w2.heap.size := (by omega)
      go_wp2
      exact bodyPost_ret (v := .agg #[.int .u64 g, .int .u64 z]) (by simp [results, Tryz.results162, go_sem, hcw1, hfw1, hlw1_0, hlw1_1, hlw1_2, hcw2, hfw2, hlw2_0, hlw2_1, hlw2_2]) rfl ⟨by rw [Hc.out, Hz.out], by (repeat' (first | exact Below.refl _ _ | refine Below.setCell ?_ ?_ _ | refine Below.alloc ?_ ?_ _ | refine below_drewN ?_ _ | refine Below.trans ?_ (Below.mono (by assumption) ?_) | exact Nat.le_refl _ | omega | (simp only [World.size_alloc, World.size_setCell, World.size_drew] at *; omega)))⟩

set_option maxHeartbeats 1000000 in
theorem sub_c (am ar bm br : Int) (w : World) (ha : 0 ≤ am) (ha' : am ≤ 18446744073709551615) (har : 0 ≤ ar) (har' : ar ≤ 18446744073709551615) (hb : 0 ≤ bm) (hb' : bm ≤ 18446744073709551615) (hbr : 0 ≤ br) (hbr' : br ≤ 18446744073709551615) :
    Calls Tryz.prog 163 #[.agg #[.int .u64 am, .int .u64 ar], .agg #[.int .u64 bm, .int .u64 br]] w fun e w' => e = .returned (.agg #[.int .u64 (csub am ar bm br).1, .int .u64 (csub am ar bm br).2]) ∧ Below w.heap.size w w' := by
  have gc := grown_cell
  by_cases h : am = 0 ∧ bm = 0
  · obtain ⟨rfl, rfl⟩ := h
    have Hc := Lib.hid (show csub 0 ar 0 br = (0, us (ar - br)) from by simp [csub])
    have e1 := us_eq (ar - br)
    go_enter Tryz.func163, Tryz.ntmps163
    go_wp2
    exact bodyPost_ret (v := .agg #[.int .u64 0, .int .u64 (us (ar - br))]) (by simp [results, Tryz.results163, go_sem, us_eq]) rfl ⟨by rw [Hc.out], by (repeat' (first | exact Below.refl _ _ | refine Below.setCell ?_ ?_ _ | refine Below.alloc ?_ ?_ _ | refine below_drewN ?_ _ | refine Below.trans ?_ (Below.mono (by assumption) ?_) | exact Nat.le_refl _ | omega | (simp only [World.size_alloc, World.size_setCell, World.size_drew] at *; omega)))⟩
  · have Hc := Lib.hid (show csub am ar bm br = _ from by unfold csub; rw [if_neg h])
    have hg := cg_pos h
    have hgB : cg am bm ≤ 18446744073709551615 := cg_bd ha hb ha' hb'
    have hx := crest_rng am ar (cg am bm) hg
    have hy := crest_rng bm br (cg am bm) hg
    generalize hgg : cg am bm = g at *
    generalize hxx : crest am ar g = x at *
    generalize hyy : crest bm br g = y at *
    have C1 := fun W => Lib.hid (gcd_c am bm W ha ha' hb hb')
    have C2 := fun W => Lib.hid (crest_c am ar g W ha ha' har har' hg hgB)
    have C3 := fun W => Lib.hid (crest_c bm br g W hb hb' hbr hbr' hg hgB)
    rw [hgg] at C1
    rw [hxx] at C2
    rw [hyy] at C3
    have C4 := fun W => Lib.hid (minus_c x y g W hx.1 hy.1 (by omega) (by omega) hgB)
    have C5 := C4
    have hz2 := cminus_mod hx.1 hx.2 hy.1 hy.2
    generalize cminus x y g = z at *
    have Hz := Lib.hid (show (x - y) % g = z by rw [hz2])
    clear hz2
    have hguard : (am == 0) = false ∨ (am == 0) = true ∧ (bm == 0) = false := by
      by_cases h0 : am = 0
      · right; exact ⟨by simpa using h0, by simp; omega⟩
      · left; simpa using h0
    clear hgg hxx hyy h
    rcases hguard with hg0 | ⟨hg0, hg1⟩
    all_goals
      go_enter Tryz.func163, Tryz.ntmps163
      go_wp2_with (go_at_call 202; refine ((C1 _).out).mono ?_; rintro e w1 ⟨rfl, hBw1⟩; obtain ⟨hcw1, hfw1⟩ := bcell hBw1; have hzw1 := hBw1.size; (try simp only [World.size_alloc, World.size_setCell, World.size_drew] at hzw1); have hlw1_0 : w.heap.size < w1.heap.size := (by omega); have hlw1_1 : w.heap.size + 1 < w1.heap.size := (by omega); have hlw1_2 : w.heap.size + 1 + 1 < w1.heap.size := (by omega))
      refine wp_head_below 10 (by kernel_rfl) (by kernel_rfl) ?_; simp only [List.take_succ_cons, List.take_zero, List.drop_succ_cons, List.drop_zero]; (repeat (go_big_quiet_step (first | with_reducible exact quietly (fun W => (C2 W).out) | with_reducible exact quietly (fun W => (C3 W).out) | with_reducible exact quietly_same (fun W => (C4 W).out) | with_reducible exact quietly_same (fun W => (C5 W).out)))); refine wpQuiet_nil ?_; intro w2 hBw2; obtain ⟨hcw2, hfw2⟩ := bcell hBw2; have hzw2 := hBw2.size; (try simp only [World.size_alloc, World.size_setCell, World.size_drew] at hzw2); have hlw2_0 : w.heap.size < w2.heap.size := (by omega); have hlw2_1 : w.heap.size + 1 < w2.heap.size := (by omega); have hlw2_2 : w.heap.size + 1 + 1 < w2.heap.size := (by omega)
      go_wp2
      exact bodyPost_ret (v := .agg #[.int .u64 g, .int .u64 z]) (by simp [results, Tryz.results163, go_sem, hcw1, hfw1, hlw1_0, hlw1_1, hlw1_2, hcw2, hfw2, hlw2_0, hlw2_1, hlw2_2]) rfl ⟨by rw [Hc.out, Hz.out], by (repeat' (first | exact Below.refl _ _ | refine Below.setCell ?_ ?_ _ | refine Below.alloc ?_ ?_ _ | refine below_drewN ?_ _ | refine Below.trans ?_ (Below.mono (by assumption) ?_) | exact Nat.le_refl _ | omega | (simp only [World.size_alloc, World.size_setCell, World.size_drew] at *; omega)))⟩

end Go.Proofs.YtcemohoigdninaaGreatDoor
