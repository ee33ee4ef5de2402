/- Contracts of the reference: meets. -/
import Derived.Test.YtcemohoigdninaaGreatDoorR4
namespace Go.Proofs.YtcemohoigdninaaGreatDoor
open Go Go.RowKit Go.Sort
set_option linter.unusedVariables false
set_option linter.unusedSimpArgs false
set_option maxRecDepth 100000

theorem cmeet_left {ar bm br : Int} : cmeet 0 ar bm br = if chas bm br (sg ar) then ((0, ar), true) else ((0, 0), false) := by
  have hcc : ccommon 0 ar bm br = chas bm br (sg ar) := by unfold ccommon; rw [if_pos rfl]
  have hw : cwithin 0 ar bm br = chas bm br (sg ar) := by unfold cwithin; rw [if_pos rfl]
  cases h : chas bm br (sg ar)
  · rw [if_neg (by simp)]; exact cmeet_no (hcc.trans h)
  · rw [if_pos rfl]; exact cmeet_a (hcc.trans h) (Or.inl (hw.trans h))
theorem cmeet_right {am ar br : Int} (h0 : am ≠ 0) : cmeet am ar 0 br = if chas am ar (sg br) then ((0, br), true) else ((0, 0), false) := by
  have hcc : ccommon am ar 0 br = chas am ar (sg br) := by unfold ccommon; rw [if_neg h0, if_pos rfl]
  have hw : cwithin am ar 0 br = false := by unfold cwithin; rw [if_neg h0, if_pos rfl]
  have hw2 : cwithin 0 br am ar = chas am ar (sg br) := by unfold cwithin; rw [if_pos rfl]
  cases h : chas am ar (sg br)
  · rw [if_neg (by simp)]; exact cmeet_no (hcc.trans h)
  · rw [if_pos rfl]; exact cmeet_b (hcc.trans h) hw (Or.inl (hw2.trans h))

set_option maxHeartbeats 2000000 in
theorem rmeet_c1 (am ar bm br : Int) (w : World) (ha : 0 ≤ am) (ha' : am ≤ 18446744073709551615) (har : 0 ≤ ar) (har' : ar ≤ 18446744073709551615) (hb : 0 ≤ bm) (hb' : bm ≤ 18446744073709551615) (hbr : 0 ≤ br) (hbr' : br ≤ 18446744073709551615) (h : am = 0) :
    Calls Tryz.prog 130 #[.agg #[.int .u64 am, .int .u64 ar], .agg #[.int .u64 bm, .int .u64 br]] w fun e w' => e = .returned (.tuple #[.agg #[.int .u64 (cmeet am ar bm br).1.1, .int .u64 (cmeet am ar bm br).1.2], .bool (cmeet am ar bm br).2]) ∧ Below w.heap.size w w' := by
  have gc := grown_cell
  subst h
  have r1 := sg_rng ar
  have e1 := sg_eq' ar
  have C1 := fun W => Lib.hid (rhas_c bm br (sg ar) W hb hb' r1.1 r1.2)
  have Hc := Lib.hid (@cmeet_left ar bm br)
  cases hk : chas bm br (sg ar)
  · simp only [hk] at C1
    have Hc := Lib.hid (show cmeet 0 ar bm br = ((0, 0), false) by rw [Hc.out, hk]; rfl)
    clear hk
    go_enter Tryz.func130, Tryz.ntmps130
    go_wp2
    go_region
    all_goals
      go_wp2_with ((go_at_call 119; refine ((C1 _).out).mono ?_; rintro e w1 ⟨rfl, hBw1⟩; obtain ⟨hcw1, hfw1⟩ := bcell hBw1; have hzw1 := hBw1.size; (try simp only [World.size_alloc, World.size_setCell, World.size_drew] at hzw1); have hlw1_0 : w.heap.size < w1.heap.size := (by omega); have hlw1_1 : w.heap.size + 1 < w1.heap.size := (by omega); have hlw1_2 : w.heap.size + 1 + 1 < w1.heap.size := (by omega); have hlw1_3 : w.heap.size + 1 + 1 + 1 < w1.heap.size := (by omega); have hlw1_4 : w.heap.size + 1 + 1 + 1 + 1 < w1.heap.size := (by omega)))
      exact bodyPost_ret (v := .tuple #[.agg #[.int .u64 0, .int .u64 0], .bool false]) (by simp [results, Tryz.results130, go_sem, hcw1, hfw1, hlw1_0, hlw1_1, hlw1_2, hlw1_3, hlw1_4]) rfl ⟨by rw [Hc.out], by (repeat' (first | exact Below.refl _ _ | refine Below.setCell ?_ ?_ _ | refine Below.alloc ?_ ?_ _ | refine below_drewN ?_ _ | refine Below.trans ?_ (Below.mono (by assumption) ?_) | exact Nat.le_refl _ | omega | (simp only [World.size_alloc, World.size_setCell, World.size_drew] at *; omega)))⟩
  · simp only [hk] at C1
    have Hc := Lib.hid (show cmeet 0 ar bm br = ((0, ar), true) by rw [Hc.out, hk]; rfl)
    clear hk
    go_enter Tryz.func130, Tryz.ntmps130
    go_wp2
    go_region
    all_goals
      go_wp2_with ((go_at_call 119; refine ((C1 _).out).mono ?_; rintro e w1 ⟨rfl, hBw1⟩; obtain ⟨hcw1, hfw1⟩ := bcell hBw1; have hzw1 := hBw1.size; (try simp only [World.size_alloc, World.size_setCell, World.size_drew] at hzw1); have hlw1_0 : w.heap.size < w1.heap.size := (by omega); have hlw1_1 : w.heap.size + 1 < w1.heap.size := (by omega); have hlw1_2 : w.heap.size + 1 + 1 < w1.heap.size := (by omega); have hlw1_3 : w.heap.size + 1 + 1 + 1 < w1.heap.size := (by omega); have hlw1_4 : w.heap.size + 1 + 1 + 1 + 1 < w1.heap.size := (by omega)))
      exact bodyPost_ret (v := .tuple #[.agg #[.int .u64 0, .int .u64 ar], .bool true]) (by simp [results, Tryz.results130, go_sem, hcw1, hfw1, hlw1_0, hlw1_1, hlw1_2, hlw1_3, hlw1_4]) rfl ⟨by rw [Hc.out], by (repeat' (first | exact Below.refl _ _ | refine Below.setCell ?_ ?_ _ | refine Below.alloc ?_ ?_ _ | refine below_drewN ?_ _ | refine Below.trans ?_ (Below.mono (by assumption) ?_) | exact Nat.le_refl _ | omega | (simp only [World.size_alloc, World.size_setCell, World.size_drew] at *; omega)))⟩

set_option maxHeartbeats 2000000 in
theorem rmeet_c2 (am ar bm br : Int) (w : World) (ha : 0 ≤ am) (ha' : am ≤ 18446744073709551615) (har : 0 ≤ ar) (har' : ar ≤ 18446744073709551615) (hb : 0 ≤ bm) (hb' : bm ≤ 18446744073709551615) (hbr : 0 ≤ br) (hbr' : br ≤ 18446744073709551615) (h : ¬ am = 0) (h2 : bm = 0) :
    Calls Tryz.prog 130 #[.agg #[.int .u64 am, .int .u64 ar], .agg #[.int .u64 bm, .int .u64 br]] w fun e w' => e = .returned (.tuple #[.agg #[.int .u64 (cmeet am ar bm br).1.1, .int .u64 (cmeet am ar bm br).1.2], .bool (cmeet am ar bm br).2]) ∧ Below w.heap.size w w' := by
  have gc := grown_cell
  subst h2
  have hm1 : (am == 0) = false := by simpa using h
  have r1 := sg_rng br
  have e1 := sg_eq' br
  have hapos : 0 < am := by omega
  have C1 := fun W => Lib.hid (rhas_c am ar (sg br) W ha ha' r1.1 r1.2)
  have Hc := Lib.hid (@cmeet_right am ar br h)
  cases hk : chas am ar (sg br)
  · simp only [hk] at C1
    have Hc := Lib.hid (show cmeet am ar 0 br = ((0, 0), false) by rw [Hc.out, hk]; rfl)
    clear hk h
    go_enter Tryz.func130, Tryz.ntmps130
    go_wp2
    go_region
    all_goals
      go_wp2_with ((go_at_call 119; refine ((C1 _).out).mono ?_; rintro e w1 ⟨rfl, hBw1⟩; obtain ⟨hcw1, hfw1⟩ := bcell hBw1; have hzw1 := hBw1.size; (try simp only [World.size_alloc, World.size_setCell, World.size_drew] at hzw1); have hlw1_0 : w.heap.size < w1.heap.size := (by omega); have hlw1_1 : w.heap.size + 1 < w1.heap.size := (by omega); have hlw1_2 : w.heap.size + 1 + 1 < w1.heap.size := (by omega); have hlw1_3 : w.heap.size + 1 + 1 + 1 < w1.heap.size := (by omega); have hlw1_4 : w.heap.size + 1 + 1 + 1 + 1 < w1.heap.size := (by omega)))
      exact bodyPost_ret (v := .tuple #[.agg #[.int .u64 0, .int .u64 0], .bool false]) (by simp [results, Tryz.results130, go_sem, hcw1, hfw1, hlw1_0, hlw1_1, hlw1_2, hlw1_3, hlw1_4]) rfl ⟨by rw [Hc.out], by (repeat' (first | exact Below.refl _ _ | refine Below.setCell ?_ ?_ _ | refine Below.alloc ?_ ?_ _ | refine below_drewN ?_ _ | refine Below.trans ?_ (Below.mono (by assumption) ?_) | exact Nat.le_refl _ | omega | (simp only [World.size_alloc, World.size_setCell, World.size_drew] at *; omega)))⟩
  · simp only [hk] at C1
    have Hc := Lib.hid (show cmeet am ar 0 br = ((0, br), true) by rw [Hc.out, hk]; rfl)
    clear hk h
    go_enter Tryz.func130, Tryz.ntmps130
    go_wp2
    go_region
    all_goals
      go_wp2_with ((go_at_call 119; refine ((C1 _).out).mono ?_; rintro e w1 ⟨rfl, hBw1⟩; obtain ⟨hcw1, hfw1⟩ := bcell hBw1; have hzw1 := hBw1.size; (try simp only [World.size_alloc, World.size_setCell, World.size_drew] at hzw1); have hlw1_0 : w.heap.size < w1.heap.size := (by omega); have hlw1_1 : w.heap.size + 1 < w1.heap.size := (by omega); have hlw1_2 : w.heap.size + 1 + 1 < w1.heap.size := (by omega); have hlw1_3 : w.heap.size + 1 + 1 + 1 < w1.heap.size := (by omega); have hlw1_4 : w.heap.size + 1 + 1 + 1 + 1 < w1.heap.size := (by omega)))
      exact bodyPost_ret (v := .tuple #[.agg #[.int .u64 0, .int .u64 br], .bool true]) (by simp [results, Tryz.results130, go_sem, hcw1, hfw1, hlw1_0, hlw1_1, hlw1_2, hlw1_3, hlw1_4]) rfl ⟨by rw [Hc.out], by (repeat' (first | exact Below.refl _ _ | refine Below.setCell ?_ ?_ _ | refine Below.alloc ?_ ?_ _ | refine below_drewN ?_ _ | refine Below.trans ?_ (Below.mono (by assumption) ?_) | exact Nat.le_refl _ | omega | (simp only [World.size_alloc, World.size_setCell, World.size_drew] at *; omega)))⟩

set_option maxHeartbeats 2000000 in
theorem rmeet_c3 (am ar bm br : Int) (w : World) (ha : 0 ≤ am) (ha' : am ≤ 18446744073709551615) (har : 0 ≤ ar) (har' : ar ≤ 18446744073709551615) (hb : 0 ≤ bm) (hb' : bm ≤ 18446744073709551615) (hbr : 0 ≤ br) (hbr' : br ≤ 18446744073709551615) (h : ¬ am = 0) (h2 : ¬ bm = 0) :
    Calls Tryz.prog 130 #[.agg #[.int .u64 am, .int .u64 ar], .agg #[.int .u64 bm, .int .u64 br]] w fun e w' => e = .returned (.tuple #[.agg #[.int .u64 (cmeet am ar bm br).1.1, .int .u64 (cmeet am ar bm br).1.2], .bool (cmeet am ar bm br).2]) ∧ Below w.heap.size w w' := by
  have gc := grown_cell
  have C2 := fun W => Lib.hid (rwithin_c am ar bm br W ha ha' har har' hb hb')
  have C3 := fun W => Lib.hid (rwithin_c bm br am ar W hb hb' hbr hbr' ha ha')
  have hways := Lib.hid (meet_ways am ar bm br)
  have hm1 : (am == 0) = false := by simpa using h
  have hm2 : (bm == 0) = false := by simpa using h2
  have hg := cg_pos (a := am) (b := bm) (by omega)
  have hgB : cg am bm ≤ 18446744073709551615 := cg_bd ha hb ha' hb'
  have C1 := fun W => Lib.hid (rgcd_c am bm W ha ha' hb hb')
  have C5 := fun W => Lib.hid (rof_c am ar (cg am bm) W ha ha' har har' hg hgB)
  have C6 := fun W => Lib.hid (rof_c bm br (cg am bm) W hb hb' hbr hbr' hg hgB)
  have Hxy : ccommon am ar bm br = (crest am ar (cg am bm) == crest bm br (cg am bm)) := by unfold ccommon; rw [if_neg h, if_neg h2]
  generalize crest am ar (cg am bm) = x at *
  generalize crest bm br (cg am bm) = y at *
  generalize cg am bm = g at *
  clear h h2
  cases hk : ccommon am ar bm br
  · have Hc := Lib.hid (cmeet_no hk)
    rw [hk] at Hxy
    replace Hxy := Hxy.symm
    have Hne : (x != y) = true := by rw [bne, Hxy]; rfl
    clear hk
    go_enter Tryz.func130, Tryz.ntmps130
    go_wp2_with ((go_at_call 196; refine ((C1 _).out).mono ?_; rintro e w0 ⟨rfl, rfl⟩))
    refine wp_all_below (by kernel_rfl) (by kernel_rfl) ?_; (repeat (go_big_quiet_step (first | with_reducible exact quietly (fun W => (C5 W).out) | with_reducible exact quietly (fun W => (C6 W).out)))); refine wpQuiet_nil ?_; intro w1 hBw1; obtain ⟨hcw1, hfw1⟩ := bcell hBw1; have hzw1 := hBw1.size; (try simp only [World.size_alloc, World.size_setCell, World.size_drew] at hzw1); have hlw1_0 : w.heap.size < w1.heap.size := (by omega); have hlw1_1 : w.heap.size + 1 < w1.heap.size := (by omega); have hlw1_2 : w.heap.size + 1 + 1 < w1.heap.size := (by omega)
    go_wp2
    exact bodyPost_ret (v := .tuple #[.agg #[.int .u64 0, .int .u64 0], .bool false]) (by simp [results, Tryz.results130, go_sem, hcw1, hfw1, hlw1_0, hlw1_1, hlw1_2]) rfl ⟨by rw [Hc.out], by (repeat' (first | exact Below.refl _ _ | refine Below.setCell ?_ ?_ _ | refine Below.alloc ?_ ?_ _ | refine below_drewN ?_ _ | refine Below.trans ?_ (Below.mono (by assumption) ?_) | exact Nat.le_refl _ | omega | (simp only [World.size_alloc, World.size_setCell, World.size_drew] at *; omega)))⟩
  · have Hw := hways.out hk
    rw [hk] at Hxy
    replace Hxy := Hxy.symm
    have Hne : (x != y) = false := by rw [bne, Hxy]; rfl
    clear hways hk
    rcases Hw with ⟨k1, Hc⟩ | ⟨k1, k2, Hc⟩ | ⟨k1, k2, k3, Hc⟩ | ⟨k1, k2, k3, Hc⟩
    · have Hc := Lib.hid Hc
      simp only [k1] at C2
      go_enter Tryz.func130, Tryz.ntmps130
      go_wp2_with ((go_at_call 196; refine ((C1 _).out).mono ?_; rintro e w0 ⟨rfl, rfl⟩))
      refine wp_all_below (by kernel_rfl) (by kernel_rfl) ?_; (repeat (go_big_quiet_step (first | with_reducible exact quietly (fun W => (C5 W).out) | with_reducible exact quietly (fun W => (C6 W).out)))); refine wpQuiet_nil ?_; intro w1 hBw1; obtain ⟨hcw1, hfw1⟩ := bcell hBw1; have hzw1 := hBw1.size; (try simp only [World.size_alloc, World.size_setCell, World.size_drew] at hzw1); have hlw1_0 : w.heap.size < w1.heap.size := (by omega); have hlw1_1 : w.heap.size + 1 < w1.heap.size := (by omega); have hlw1_2 : w.heap.size + 1 + 1 < w1.heap.size := (by omega)
      go_wp2_with ((go_at_call 199; first | ((with_reducible refine ((C2 _).out).mono ?_); rintro e w2 ⟨rfl, hBw2⟩; obtain ⟨hcw2, hfw2⟩ := bcell hBw2; have hzw2 := hBw2.size; (try simp only [World.size_alloc, World.size_setCell, World.size_drew] at hzw2); have hlw2_0 : w.heap.size < w2.heap.size := (by omega); have hlw2_1 : w.heap.size + 1 < w2.heap.size := (by omega); have hlw2_2 : w.heap.size + 1 + 1 < w2.heap.size := (by omega)) | ((with_reducible refine ((C3 _).out).mono ?_); rintro e w3 ⟨rfl, hBw3⟩; obtain ⟨hcw3, hfw3⟩ := bcell hBw3; have hzw3 := hBw3.size; (try simp only [World.size_alloc, World.size_setCell, World.size_drew] at hzw3); have hlw3_0 : w.heap.size < w3.heap.size := (by omega); have hlw3_1 : w.heap.size + 1 < w3.heap.size := (by omega); have hlw3_2 : w.heap.size + 1 + 1 < w3.heap.size := (by omega))))
      exact bodyPost_ret (v := .tuple #[.agg #[.int .u64 am, .int .u64 ar], .bool true]) (by simp [results, Tryz.results130, go_sem, hcw1, hfw1, hlw1_0, hlw1_1, hlw1_2, hcw2, hfw2, hlw2_0, hlw2_1, hlw2_2]) rfl ⟨by rw [Hc.out], by (repeat' (first | exact Below.refl _ _ | refine Below.setCell ?_ ?_ _ | refine Below.alloc ?_ ?_ _ | refine below_drewN ?_ _ | refine Below.trans ?_ (Below.mono (by assumption) ?_) | exact Nat.le_refl _ | omega | (simp only [World.size_alloc, World.size_setCell, World.size_drew] at *; omega)))⟩
    · have Hc := Lib.hid Hc
      simp only [k1] at C2
      simp only [k2] at C3
      go_enter Tryz.func130, Tryz.ntmps130
      go_wp2_with ((go_at_call 196; refine ((C1 _).out).mono ?_; rintro e w0 ⟨rfl, rfl⟩))
      refine wp_all_below (by kernel_rfl) (by kernel_rfl) ?_; (repeat (go_big_quiet_step (first | with_reducible exact quietly (fun W => (C5 W).out) | with_reducible exact quietly (fun W => (C6 W).out)))); refine wpQuiet_nil ?_; intro w1 hBw1; obtain ⟨hcw1, hfw1⟩ := bcell hBw1; have hzw1 := hBw1.size; (try simp only [World.size_alloc, World.size_setCell, World.size_drew] at hzw1); have hlw1_0 : w.heap.size < w1.heap.size := (by omega); have hlw1_1 : w.heap.size + 1 < w1.heap.size := (by omega); have hlw1_2 : w.heap.size + 1 + 1 < w1.heap.size := (by omega)
      go_wp2_with ((go_at_call 199; first | ((with_reducible refine ((C2 _).out).mono ?_); rintro e w2 ⟨rfl, hBw2⟩; obtain ⟨hcw2, hfw2⟩ := bcell hBw2; have hzw2 := hBw2.size; (try simp only [World.size_alloc, World.size_setCell, World.size_drew] at hzw2); have hlw2_0 : w.heap.size < w2.heap.size := (by omega); have hlw2_1 : w.heap.size + 1 < w2.heap.size := (by omega); have hlw2_2 : w.heap.size + 1 + 1 < w2.heap.size := (by omega)) | ((with_reducible refine ((C3 _).out).mono ?_); rintro e w3 ⟨rfl, hBw3⟩; obtain ⟨hcw3, hfw3⟩ := bcell hBw3; have hzw3 := hBw3.size; (try simp only [World.size_alloc, World.size_setCell, World.size_drew] at hzw3); have hlw3_0 : w.heap.size < w3.heap.size := (by omega); have hlw3_1 : w.heap.size + 1 < w3.heap.size := (by omega); have hlw3_2 : w.heap.size + 1 + 1 < w3.heap.size := (by omega))))
      exact bodyPost_ret (v := .tuple #[.agg #[.int .u64 bm, .int .u64 br], .bool true]) (by simp [results, Tryz.results130, go_sem, hcw1, hfw1, hlw1_0, hlw1_1, hlw1_2, hcw2, hfw2, hlw2_0, hlw2_1, hlw2_2, hcw3, hfw3, hlw3_0, hlw3_1, hlw3_2]) rfl ⟨by rw [Hc.out], by (repeat' (first | exact Below.refl _ _ | refine Below.setCell ?_ ?_ _ | refine Below.alloc ?_ ?_ _ | refine below_drewN ?_ _ | refine Below.trans ?_ (Below.mono (by assumption) ?_) | exact Nat.le_refl _ | omega | (simp only [World.size_alloc, World.size_setCell, World.size_drew] at *; omega)))⟩
    · have Hc := Lib.hid Hc
      simp only [k1] at C2
      simp only [k2] at C3
      go_enter Tryz.func130, Tryz.ntmps130
      go_wp2_with ((go_at_call 196; refine ((C1 _).out).mono ?_; rintro e w0 ⟨rfl, rfl⟩))
      refine wp_all_below (by kernel_rfl) (by kernel_rfl) ?_; (repeat (go_big_quiet_step (first | with_reducible exact quietly (fun W => (C5 W).out) | with_reducible exact quietly (fun W => (C6 W).out)))); refine wpQuiet_nil ?_; intro w1 hBw1; obtain ⟨hcw1, hfw1⟩ := bcell hBw1; have hzw1 := hBw1.size; (try simp only [World.size_alloc, World.size_setCell, World.size_drew] at hzw1); have hlw1_0 : w.heap.size < w1.heap.size := (by omega); have hlw1_1 : w.heap.size + 1 < w1.heap.size := (by omega); have hlw1_2 : w.heap.size + 1 + 1 < w1.heap.size := (by omega)
      go_wp2_with ((go_at_call 199; first | ((with_reducible refine ((C2 _).out).mono ?_); rintro e w2 ⟨rfl, hBw2⟩; obtain ⟨hcw2, hfw2⟩ := bcell hBw2; have hzw2 := hBw2.size; (try simp only [World.size_alloc, World.size_setCell, World.size_drew] at hzw2); have hlw2_0 : w.heap.size < w2.heap.size := (by omega); have hlw2_1 : w.heap.size + 1 < w2.heap.size := (by omega); have hlw2_2 : w.heap.size + 1 + 1 < w2.heap.size := (by omega)) | ((with_reducible refine ((C3 _).out).mono ?_); rintro e w3 ⟨rfl, hBw3⟩; obtain ⟨hcw3, hfw3⟩ := bcell hBw3; have hzw3 := hBw3.size; (try simp only [World.size_alloc, World.size_setCell, World.size_drew] at hzw3); have hlw3_0 : w.heap.size < w3.heap.size := (by omega); have hlw3_1 : w.heap.size + 1 < w3.heap.size := (by omega); have hlw3_2 : w.heap.size + 1 + 1 < w3.heap.size := (by omega))))
      exact bodyPost_ret (v := .tuple #[.agg #[.int .u64 bm, .int .u64 br], .bool true]) (by simp [results, Tryz.results130, go_sem, hcw1, hfw1, hlw1_0, hlw1_1, hlw1_2, hcw2, hfw2, hlw2_0, hlw2_1, hlw2_2, hcw3, hfw3, hlw3_0, hlw3_1, hlw3_2]) rfl ⟨by rw [Hc.out], by (repeat' (first | exact Below.refl _ _ | refine Below.setCell ?_ ?_ _ | refine Below.alloc ?_ ?_ _ | refine below_drewN ?_ _ | refine Below.trans ?_ (Below.mono (by assumption) ?_) | exact Nat.le_refl _ | omega | (simp only [World.size_alloc, World.size_setCell, World.size_drew] at *; omega)))⟩
    · have Hc := Lib.hid Hc
      simp only [k1] at C2
      simp only [k2] at C3
      go_enter Tryz.func130, Tryz.ntmps130
      go_wp2_with ((go_at_call 196; refine ((C1 _).out).mono ?_; rintro e w0 ⟨rfl, rfl⟩))
      refine wp_all_below (by kernel_rfl) (by kernel_rfl) ?_; (repeat (go_big_quiet_step (first | with_reducible exact quietly (fun W => (C5 W).out) | with_reducible exact quietly (fun W => (C6 W).out)))); refine wpQuiet_nil ?_; intro w1 hBw1; obtain ⟨hcw1, hfw1⟩ := bcell hBw1; have hzw1 := hBw1.size; (try simp only [World.size_alloc, World.size_setCell, World.size_drew] at hzw1); have hlw1_0 : w.heap.size < w1.heap.size := (by omega); have hlw1_1 : w.heap.size + 1 < w1.heap.size := (by omega); have hlw1_2 : w.heap.size + 1 + 1 < w1.heap.size := (by omega)
      go_wp2_with ((go_at_call 199; first | ((with_reducible refine ((C2 _).out).mono ?_); rintro e w2 ⟨rfl, hBw2⟩; obtain ⟨hcw2, hfw2⟩ := bcell hBw2; have hzw2 := hBw2.size; (try simp only [World.size_alloc, World.size_setCell, World.size_drew] at hzw2); have hlw2_0 : w.heap.size < w2.heap.size := (by omega); have hlw2_1 : w.heap.size + 1 < w2.heap.size := (by omega); have hlw2_2 : w.heap.size + 1 + 1 < w2.heap.size := (by omega)) | ((with_reducible refine ((C3 _).out).mono ?_); rintro e w3 ⟨rfl, hBw3⟩; obtain ⟨hcw3, hfw3⟩ := bcell hBw3; have hzw3 := hBw3.size; (try simp only [World.size_alloc, World.size_setCell, World.size_drew] at hzw3); have hlw3_0 : w.heap.size < w3.heap.size := (by omega); have hlw3_1 : w.heap.size + 1 < w3.heap.size := (by omega); have hlw3_2 : w.heap.size + 1 + 1 < w3.heap.size := (by omega))))
      exact bodyPost_ret (v := .tuple #[.agg #[.int .u64 am, .int .u64 ar], .bool true]) (by simp [results, Tryz.results130, go_sem, hcw1, hfw1, hlw1_0, hlw1_1, hlw1_2, hcw2, hfw2, hlw2_0, hlw2_1, hlw2_2, hcw3, hfw3, hlw3_0, hlw3_1, hlw3_2]) rfl ⟨by rw [Hc.out], by (repeat' (first | exact Below.refl _ _ | refine Below.setCell ?_ ?_ _ | refine Below.alloc ?_ ?_ _ | refine below_drewN ?_ _ | refine Below.trans ?_ (Below.mono (by assumption) ?_) | exact Nat.le_refl _ | omega | (simp only [World.size_alloc, World.size_setCell, World.size_drew] at *; omega)))⟩

theorem rmeet_c (am ar bm br : Int) (w : World) (ha : 0 ≤ am) (ha' : am ≤ 18446744073709551615) (har : 0 ≤ ar) (har' : ar ≤ 18446744073709551615) (hb : 0 ≤ bm) (hb' : bm ≤ 18446744073709551615) (hbr : 0 ≤ br) (hbr' : br ≤ 18446744073709551615) :
    Calls Tryz.prog 130 #[.agg #[.int .u64 am, .int .u64 ar], .agg #[.int .u64 bm, .int .u64 br]] w fun e w' => e = .returned (.tuple #[.agg #[.int .u64 (cmeet am ar bm br).1.1, .int .u64 (cmeet am ar bm br).1.2], .bool (cmeet am ar bm br).2]) ∧ Below w.heap.size w w' := by
  by_cases h : am = 0
  · exact rmeet_c1 am ar bm br w ha ha' har har' hb hb' hbr hbr' h
  · by_cases h2 : bm = 0
    · exact rmeet_c2 am ar bm br w ha ha' har har' hb hb' hbr hbr' h h2
    · exact rmeet_c3 am ar bm br w ha ha' har har' hb hb' hbr hbr' h h2

end Go.Proofs.YtcemohoigdninaaGreatDoor
