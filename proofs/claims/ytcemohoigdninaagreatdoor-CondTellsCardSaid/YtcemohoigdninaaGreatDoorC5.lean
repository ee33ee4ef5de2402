/- Contracts of package cong: meets, what is wrapped. -/
import Derived.Test.YtcemohoigdninaaGreatDoorC4
namespace Go.Proofs.YtcemohoigdninaaGreatDoor
open Go Go.RowKit Go.Sort
set_option linter.unusedVariables false
set_option linter.unusedSimpArgs false
set_option maxRecDepth 100000

/-- what Meet gives, by its three tests -/
theorem cmeet_no {am ar bm br : Int} (h : ccommon am ar bm br = false) : cmeet am ar bm br = ((0, 0), false) := by unfold cmeet; rw [if_pos h]
theorem cmeet_b {am ar bm br : Int} (h : ccommon am ar bm br = true) (h1 : cwithin am ar bm br = false) (h2 : cwithin bm br am ar = true ∨ bm > am) : cmeet am ar bm br = ((bm, br), true) := by
  unfold cmeet; rw [if_neg (by simp [h]), if_pos ⟨h1, h2⟩]
theorem cmeet_a {am ar bm br : Int} (h : ccommon am ar bm br = true) (h1 : cwithin am ar bm br = true ∨ (cwithin bm br am ar = false ∧ bm ≤ am)) : cmeet am ar bm br = ((am, ar), true) := by
  unfold cmeet; rw [if_neg (by simp [h]), if_neg]
  rintro ⟨h2, h3⟩
  rcases h1 with h1 | ⟨h1, h4⟩
  · rw [h1] at h2; cases h2
  · rcases h3 with h3 | h3
    · rw [h1] at h3; cases h3
    · omega
/-- the ways through the last tests -/
theorem meet_ways (am ar bm br : Int) (h : ccommon am ar bm br = true) :
    (cwithin am ar bm br = true ∧ cmeet am ar bm br = ((am, ar), true)) ∨ (cwithin am ar bm br = false ∧ cwithin bm br am ar = true ∧ cmeet am ar bm br = ((bm, br), true)) ∨
    (cwithin am ar bm br = false ∧ cwithin bm br am ar = false ∧ am < bm ∧ cmeet am ar bm br = ((bm, br), true)) ∨ (cwithin am ar bm br = false ∧ cwithin bm br am ar = false ∧ bm ≤ am ∧ cmeet am ar bm br = ((am, ar), true)) := by
  cases h1 : cwithin am ar bm br
  · cases h2 : cwithin bm br am ar
    · by_cases h3 : am < bm
      · right; right; left; exact ⟨rfl, rfl, h3, cmeet_b h h1 (Or.inr h3)⟩
      · right; right; right; exact ⟨rfl, rfl, by omega, cmeet_a h (Or.inr ⟨h2, by omega⟩)⟩
    · right; left; exact ⟨rfl, rfl, cmeet_b h h1 (Or.inl h2)⟩
  · left; exact ⟨rfl, cmeet_a h (Or.inl h1)⟩

set_option maxHeartbeats 2000000 in
theorem meet_c1 (am ar bm br : Int) (w : World) (ha : 0 ≤ am) (ha' : am ≤ 18446744073709551615) (har : 0 ≤ ar) (har' : ar ≤ 18446744073709551615) (hb : 0 ≤ bm) (hb' : bm ≤ 18446744073709551615) (hbr : 0 ≤ br) (hbr' : br ≤ 18446744073709551615) (h : am = 0) :
    Calls Tryz.prog 137 #[.agg #[.int .u64 am, .int .u64 ar], .agg #[.int .u64 bm, .int .u64 br]] w fun e w' => e = .returned (.tuple #[.agg #[.int .u64 (cmeet am ar bm br).1.1, .int .u64 (cmeet am ar bm br).1.2], .bool (cmeet am ar bm br).2]) ∧ Below w.heap.size w w' := by
  have gc := grown_cell
  have C2 := fun W => Lib.hid (within_c am ar bm br W ha ha' har har' hb hb')
  have C3 := fun W => Lib.hid (within_c bm br am ar W hb hb' hbr hbr' ha ha')
  have hways := Lib.hid (meet_ways am ar bm br)
  have hm1 : (am == 0) = true := by simpa using h
  have r1 := sg_rng ar
  have e1 := sg_eq' ar
  have C1 := fun W => Lib.hid (has_c bm br (sg ar) W hb hb' r1.1 r1.2)
  have hcc : ccommon am ar bm br = chas bm br (sg ar) := by unfold ccommon; rw [if_pos h]
  rw [← hcc] at C1
  clear h hcc
  cases hk : ccommon am ar bm br
  · have Hc := Lib.hid (cmeet_no hk)
    simp only [hk] at C1
    clear hk
    go_enter Tryz.func137, Tryz.ntmps137
    go_wp2_with ((go_at_call 117; refine ((C1 _).out).mono ?_; rintro e w1 ⟨rfl, hBw1⟩; obtain ⟨hcw1, hfw1⟩ := bcell hBw1; have hzw1 := hBw1.size; (try simp only [World.size_alloc, World.size_setCell, World.size_drew] at hzw1); have hlw1_0 : w.heap.size < w1.heap.size := (by omega); have hlw1_1 : w.heap.size + 1 < w1.heap.size := (by omega); have hlw1_2 : w.heap.size + 1 + 1 < w1.heap.size := (by omega)))
    exact bodyPost_ret (v := .tuple #[.agg #[.int .u64 0, .int .u64 0], .bool false]) (by simp [results, Tryz.results137, go_sem, hcw1, hfw1, hlw1_0, hlw1_1, hlw1_2]) rfl ⟨by rw [Hc.out], by (repeat' (first | exact Below.refl _ _ | refine Below.setCell ?_ ?_ _ | refine Below.alloc ?_ ?_ _ | refine below_drewN ?_ _ | refine Below.trans ?_ (Below.mono (by assumption) ?_) | exact Nat.le_refl _ | omega | (simp only [World.size_alloc, World.size_setCell, World.size_drew] at *; omega)))⟩
  · have Hw := hways.out hk
    simp only [hk] at C1
    clear hways hk
    rcases Hw with ⟨k1, Hc⟩ | ⟨k1, k2, Hc⟩ | ⟨k1, k2, k3, Hc⟩ | ⟨k1, k2, k3, Hc⟩
    · have Hc := Lib.hid Hc
      simp only [k1] at C2
      go_enter Tryz.func137, Tryz.ntmps137
      go_wp2_with (first | (go_at_call 117; refine ((C1 _).out).mono ?_; rintro e w1 ⟨rfl, hBw1⟩; obtain ⟨hcw1, hfw1⟩ := bcell hBw1; have hzw1 := hBw1.size; (try simp only [World.size_alloc, World.size_setCell, World.size_drew] at hzw1); have hlw1_0 : w.heap.size < w1.heap.size := (by omega); have hlw1_1 : w.heap.size + 1 < w1.heap.size := (by omega); have hlw1_2 : w.heap.size + 1 + 1 < w1.heap.size := (by omega)) | (go_at_call 144; first | ((with_reducible refine ((C2 _).out).mono ?_); rintro e w2 ⟨rfl, hBw2⟩; obtain ⟨hcw2, hfw2⟩ := bcell hBw2; have hzw2 := hBw2.size; (try simp only [World.size_alloc, World.size_setCell, World.size_drew] at hzw2); have hlw2_0 : w.heap.size < w2.heap.size := (by omega); have hlw2_1 : w.heap.size + 1 < w2.heap.size := (by omega); have hlw2_2 : w.heap.size + 1 + 1 < w2.heap.size := (by omega)) | ((with_reducible refine ((C3 _).out).mono ?_); rintro e w3 ⟨rfl, hBw3⟩; obtain ⟨hcw3, hfw3⟩ := bcell hBw3; have hzw3 := hBw3.size; (try simp only [World.size_alloc, World.size_setCell, World.size_drew] at hzw3); have hlw3_0 : w.heap.size < w3.heap.size := (by omega); have hlw3_1 : w.heap.size + 1 < w3.heap.size := (by omega); have hlw3_2 : w.heap.size + 1 + 1 < w3.heap.size := (by omega))))
      exact bodyPost_ret (v := .tuple #[.agg #[.int .u64 am, .int .u64 ar], .bool true]) (by simp [results, Tryz.results137, go_sem, hcw1, hfw1, hlw1_0, hlw1_1, hlw1_2, hcw2, hfw2, hlw2_0, hlw2_1, hlw2_2]) rfl ⟨by rw [Hc.out], by (repeat' (first | exact Below.refl _ _ | refine Below.setCell ?_ ?_ _ | refine Below.alloc ?_ ?_ _ | refine below_drewN ?_ _ | refine Below.trans ?_ (Below.mono (by assumption) ?_) | exact Nat.le_refl _ | omega | (simp only [World.size_alloc, World.size_setCell, World.size_drew] at *; omega)))⟩
    · have Hc := Lib.hid Hc
      simp only [k1] at C2
      simp only [k2] at C3
      go_enter Tryz.func137, Tryz.ntmps137
      go_wp2_with (first | (go_at_call 117; refine ((C1 _).out).mono ?_; rintro e w1 ⟨rfl, hBw1⟩; obtain ⟨hcw1, hfw1⟩ := bcell hBw1; have hzw1 := hBw1.size; (try simp only [World.size_alloc, World.size_setCell, World.size_drew] at hzw1); have hlw1_0 : w.heap.size < w1.heap.size := (by omega); have hlw1_1 : w.heap.size + 1 < w1.heap.size := (by omega); have hlw1_2 : w.heap.size + 1 + 1 < w1.heap.size := (by omega)) | (go_at_call 144; first | ((with_reducible refine ((C2 _).out).mono ?_); rintro e w2 ⟨rfl, hBw2⟩; obtain ⟨hcw2, hfw2⟩ := bcell hBw2; have hzw2 := hBw2.size; (try simp only [World.size_alloc, World.size_setCell, World.size_drew] at hzw2); have hlw2_0 : w.heap.size < w2.heap.size := (by omega); have hlw2_1 : w.heap.size + 1 < w2.heap.size := (by omega); have hlw2_2 : w.heap.size + 1 + 1 < w2.heap.size := (by omega)) | ((with_reducible refine ((C3 _).out).mono ?_); rintro e w3 ⟨rfl, hBw3⟩; obtain ⟨hcw3, hfw3⟩ := bcell hBw3; have hzw3 := hBw3.size; (try simp only [World.size_alloc, World.size_setCell, World.size_drew] at hzw3); have hlw3_0 : w.heap.size < w3.heap.size := (by omega); have hlw3_1 : w.heap.size + 1 < w3.heap.size := (by omega); have hlw3_2 : w.heap.size + 1 + 1 < w3.heap.size := (by omega))))
      exact bodyPost_ret (v := .tuple #[.agg #[.int .u64 bm, .int .u64 br], .bool true]) (by simp [results, Tryz.results137, go_sem, hcw1, hfw1, hlw1_0, hlw1_1, hlw1_2, hcw2, hfw2, hlw2_0, hlw2_1, hlw2_2, hcw3, hfw3, hlw3_0, hlw3_1, hlw3_2]) rfl ⟨by rw [Hc.out], by (repeat' (first | exact Below.refl _ _ | refine Below.setCell ?_ ?_ _ | refine Below.alloc ?_ ?_ _ | refine below_drewN ?_ _ | refine Below.trans ?_ (Below.mono (by assumption) ?_) | exact Nat.le_refl _ | omega | (simp only [World.size_alloc, World.size_setCell, World.size_drew] at *; omega)))⟩
    · have Hc := Lib.hid Hc
      simp only [k1] at C2
      simp only [k2] at C3
      go_enter Tryz.func137, Tryz.ntmps137
      go_wp2_with (first | (go_at_call 117; refine ((C1 _).out).mono ?_; rintro e w1 ⟨rfl, hBw1⟩; obtain ⟨hcw1, hfw1⟩ := bcell hBw1; have hzw1 := hBw1.size; (try simp only [World.size_alloc, World.size_setCell, World.size_drew] at hzw1); have hlw1_0 : w.heap.size < w1.heap.size := (by omega); have hlw1_1 : w.heap.size + 1 < w1.heap.size := (by omega); have hlw1_2 : w.heap.size + 1 + 1 < w1.heap.size := (by omega)) | (go_at_call 144; first | ((with_reducible refine ((C2 _).out).mono ?_); rintro e w2 ⟨rfl, hBw2⟩; obtain ⟨hcw2, hfw2⟩ := bcell hBw2; have hzw2 := hBw2.size; (try simp only [World.size_alloc, World.size_setCell, World.size_drew] at hzw2); have hlw2_0 : w.heap.size < w2.heap.size := (by omega); have hlw2_1 : w.heap.size + 1 < w2.heap.size := (by omega); have hlw2_2 : w.heap.size + 1 + 1 < w2.heap.size := (by omega)) | ((with_reducible refine ((C3 _).out).mono ?_); rintro e w3 ⟨rfl, hBw3⟩; obtain ⟨hcw3, hfw3⟩ := bcell hBw3; have hzw3 := hBw3.size; (try simp only [World.size_alloc, World.size_setCell, World.size_drew] at hzw3); have hlw3_0 : w.heap.size < w3.heap.size := (by omega); have hlw3_1 : w.heap.size + 1 < w3.heap.size := (by omega); have hlw3_2 : w.heap.size + 1 + 1 < w3.heap.size := (by omega))))
      exact bodyPost_ret (v := .tuple #[.agg #[.int .u64 bm, .int .u64 br], .bool true]) (by simp [results, Tryz.results137, go_sem, hcw1, hfw1, hlw1_0, hlw1_1, hlw1_2, hcw2, hfw2, hlw2_0, hlw2_1, hlw2_2, hcw3, hfw3, hlw3_0, hlw3_1, hlw3_2]) rfl ⟨by rw [Hc.out], by (repeat' (first | exact Below.refl _ _ | refine Below.setCell ?_ ?_ _ | refine Below.alloc ?_ ?_ _ | refine below_drewN ?_ _ | refine Below.trans ?_ (Below.mono (by assumption) ?_) | exact Nat.le_refl _ | omega | (simp only [World.size_alloc, World.size_setCell, World.size_drew] at *; omega)))⟩
    · have Hc := Lib.hid Hc
      simp only [k1] at C2
      simp only [k2] at C3
      go_enter Tryz.func137, Tryz.ntmps137
      go_wp2_with (first | (go_at_call 117; refine ((C1 _).out).mono ?_; rintro e w1 ⟨rfl, hBw1⟩; obtain ⟨hcw1, hfw1⟩ := bcell hBw1; have hzw1 := hBw1.size; (try simp only [World.size_alloc, World.size_setCell, World.size_drew] at hzw1); have hlw1_0 : w.heap.size < w1.heap.size := (by omega); have hlw1_1 : w.heap.size + 1 < w1.heap.size := (by omega); have hlw1_2 : w.heap.size + 1 + 1 < w1.heap.size := (by omega)) | (go_at_call 144; first | ((with_reducible refine ((C2 _).out).mono ?_); rintro e w2 ⟨rfl, hBw2⟩; obtain ⟨hcw2, hfw2⟩ := bcell hBw2; have hzw2 := hBw2.size; (try simp only [World.size_alloc, World.size_setCell, World.size_drew] at hzw2); have hlw2_0 : w.heap.size < w2.heap.size := (by omega); have hlw2_1 : w.heap.size + 1 < w2.heap.size := (by omega); have hlw2_2 : w.heap.size + 1 + 1 < w2.heap.size := (by omega)) | ((with_reducible refine ((C3 _).out).mono ?_); rintro e w3 ⟨rfl, hBw3⟩; obtain ⟨hcw3, hfw3⟩ := bcell hBw3; have hzw3 := hBw3.size; (try simp only [World.size_alloc, World.size_setCell, World.size_drew] at hzw3); have hlw3_0 : w.heap.size < w3.heap.size := (by omega); have hlw3_1 : w.heap.size + 1 < w3.heap.size := (by omega); have hlw3_2 : w.heap.size + 1 + 1 < w3.heap.size := (by omega))))
      exact bodyPost_ret (v := .tuple #[.agg #[.int .u64 am, .int .u64 ar], .bool true]) (by simp [results, Tryz.results137, go_sem, hcw1, hfw1, hlw1_0, hlw1_1, hlw1_2, hcw2, hfw2, hlw2_0, hlw2_1, hlw2_2, hcw3, hfw3, hlw3_0, hlw3_1, hlw3_2]) rfl ⟨by rw [Hc.out], by (repeat' (first | exact Below.refl _ _ | refine Below.setCell ?_ ?_ _ | refine Below.alloc ?_ ?_ _ | refine below_drewN ?_ _ | refine Below.trans ?_ (Below.mono (by assumption) ?_) | exact Nat.le_refl _ | omega | (simp only [World.size_alloc, World.size_setCell, World.size_drew] at *; omega)))⟩
set_option maxHeartbeats 2000000 in
theorem meet_c2 (am ar bm br : Int) (w : World) (ha : 0 ≤ am) (ha' : am ≤ 18446744073709551615) (har : 0 ≤ ar) (har' : ar ≤ 18446744073709551615) (hb : 0 ≤ bm) (hb' : bm ≤ 18446744073709551615) (hbr : 0 ≤ br) (hbr' : br ≤ 18446744073709551615) (h : ¬ am = 0) (h2 : bm = 0) :
    Calls Tryz.prog 137 #[.agg #[.int .u64 am, .int .u64 ar], .agg #[.int .u64 bm, .int .u64 br]] w fun e w' => e = .returned (.tuple #[.agg #[.int .u64 (cmeet am ar bm br).1.1, .int .u64 (cmeet am ar bm br).1.2], .bool (cmeet am ar bm br).2]) ∧ Below w.heap.size w w' := by
  have gc := grown_cell
  have C2 := fun W => Lib.hid (within_c am ar bm br W ha ha' har har' hb hb')
  have C3 := fun W => Lib.hid (within_c bm br am ar W hb hb' hbr hbr' ha ha')
  have hways := Lib.hid (meet_ways am ar bm br)
  have hm1 : (am == 0) = false := by simpa using h
  have hm2 : (bm == 0) = true := by simpa using h2
  have r1 := sg_rng br
  have e1 := sg_eq' br
  have C1 := fun W => Lib.hid (has_c am ar (sg br) W ha ha' r1.1 r1.2)
  have hcc : ccommon am ar bm br = chas am ar (sg br) := by unfold ccommon; rw [if_neg h, if_pos h2]
  rw [← hcc] at C1
  clear h h2 hcc
  cases hk : ccommon am ar bm br
  · have Hc := Lib.hid (cmeet_no hk)
    simp only [hk] at C1
    clear hk
    go_enter Tryz.func137, Tryz.ntmps137
    go_wp2_with ((go_at_call 117; refine ((C1 _).out).mono ?_; rintro e w1 ⟨rfl, hBw1⟩; obtain ⟨hcw1, hfw1⟩ := bcell hBw1; have hzw1 := hBw1.size; (try simp only [World.size_alloc, World.size_setCell, World.size_drew] at hzw1); have hlw1_0 : w.heap.size < w1.heap.size := (by omega); have hlw1_1 : w.heap.size + 1 < w1.heap.size := (by omega); have hlw1_2 : w.heap.size + 1 + 1 < w1.heap.size := (by omega)))
    exact bodyPost_ret (v := .tuple #[.agg #[.int .u64 0, .int .u64 0], .bool false]) (by simp [results, Tryz.results137, go_sem, hcw1, hfw1, hlw1_0, hlw1_1, hlw1_2]) rfl ⟨by rw [Hc.out], by (repeat' (first | exact Below.refl _ _ | refine Below.setCell ?_ ?_ _ | refine Below.alloc ?_ ?_ _ | refine below_drewN ?_ _ | refine Below.trans ?_ (Below.mono (by assumption) ?_) | exact Nat.le_refl _ | omega | (simp only [World.size_alloc, World.size_setCell, World.size_drew] at *; omega)))⟩
  · have Hw := hways.out hk
    simp only [hk] at C1
    clear hways hk
    rcases Hw with ⟨k1, Hc⟩ | ⟨k1, k2, Hc⟩ | ⟨k1, k2, k3, Hc⟩ | ⟨k1, k2, k3, Hc⟩
    · have Hc := Lib.hid Hc
      simp only [k1] at C2
      go_enter Tryz.func137, Tryz.ntmps137
      go_wp2_with (first | (go_at_call 117; refine ((C1 _).out).mono ?_; rintro e w1 ⟨rfl, hBw1⟩; obtain ⟨hcw1, hfw1⟩ := bcell hBw1; have hzw1 := hBw1.size; (try simp only [World.size_alloc, World.size_setCell, World.size_drew] at hzw1); have hlw1_0 : w.heap.size < w1.heap.size := (by omega); have hlw1_1 : w.heap.size + 1 < w1.heap.size := (by omega); have hlw1_2 : w.heap.size + 1 + 1 < w1.heap.size := (by omega)) | (go_at_call 144; first | ((with_reducible refine ((C2 _).out).mono ?_); rintro e w2 ⟨rfl, hBw2⟩; obtain ⟨hcw2, hfw2⟩ := bcell hBw2; have hzw2 := hBw2.size; (try simp only [World.size_alloc, World.size_setCell, World.size_drew] at hzw2); have hlw2_0 : w.heap.size < w2.heap.size := (by omega); have hlw2_1 : w.heap.size + 1 < w2.heap.size := (by omega); have hlw2_2 : w.heap.size + 1 + 1 < w2.heap.size := (by omega)) | ((with_reducible refine ((C3 _).out).mono ?_); rintro e w3 ⟨rfl, hBw3⟩; obtain ⟨hcw3, hfw3⟩ := bcell hBw3; have hzw3 := hBw3.size; (try simp only [World.size_alloc, World.size_setCell, World.size_drew] at hzw3); have hlw3_0 : w.heap.size < w3.heap.size := (by omega); have hlw3_1 : w.heap.size + 1 < w3.heap.size := (by omega); have hlw3_2 : w.heap.size + 1 + 1 < w3.heap.size := (by omega))))
      exact bodyPost_ret (v := .tuple #[.agg #[.int .u64 am, .int .u64 ar], .bool true]) (by simp [results, Tryz.results137, go_sem, hcw1, hfw1, hlw1_0, hlw1_1, hlw1_2, hcw2, hfw2, hlw2_0, hlw2_1, hlw2_2]) rfl ⟨by rw [Hc.out], by (repeat' (first | exact Below.refl _ _ | refine Below.setCell ?_ ?_ _ | refine Below.alloc ?_ ?_ _ | refine below_drewN ?_ _ | refine Below.trans ?_ (Below.mono (by assumption) ?_) | exact Nat.le_refl _ | omega | (simp only [World.size_alloc, World.size_setCell, World.size_drew] at *; omega)))⟩
    · have Hc := Lib.hid Hc
      simp only [k1] at C2
      simp only [k2] at C3
      go_enter Tryz.func137, Tryz.ntmps137
      go_wp2_with (first | (go_at_call 117; refine ((C1 _).out).mono ?_; rintro e w1 ⟨rfl, hBw1⟩; obtain ⟨hcw1, hfw1⟩ := bcell hBw1; have hzw1 := hBw1.size; (try simp only [World.size_alloc, World.size_setCell, World.size_drew] at hzw1); have hlw1_0 : w.heap.size < w1.heap.size := (by omega); have hlw1_1 : w.heap.size + 1 < w1.heap.size := (by omega); have hlw1_2 : w.heap.size + 1 + 1 < w1.heap.size := (by omega)) | (go_at_call 144; first | ((with_reducible refine ((C2 _).out).mono ?_); rintro e w2 ⟨rfl, hBw2⟩; obtain ⟨hcw2, hfw2⟩ := bcell hBw2; have hzw2 := hBw2.size; (try simp only [World.size_alloc, World.size_setCell, World.size_drew] at hzw2); have hlw2_0 : w.heap.size < w2.heap.size := (by omega); have hlw2_1 : w.heap.size + 1 < w2.heap.size := (by omega); have hlw2_2 : w.heap.size + 1 + 1 < w2.heap.size := (by omega)) | ((with_reducible refine ((C3 _).out).mono ?_); rintro e w3 ⟨rfl, hBw3⟩; obtain ⟨hcw3, hfw3⟩ := bcell hBw3; have hzw3 := hBw3.size; (try simp only [World.size_alloc, World.size_setCell, World.size_drew] at hzw3); have hlw3_0 : w.heap.size < w3.heap.size := (by omega); have hlw3_1 : w.heap.size + 1 < w3.heap.size := (by omega); have hlw3_2 : w.heap.size + 1 + 1 < w3.heap.size := (by omega))))
      exact bodyPost_ret (v := .tuple #[.agg #[.int .u64 bm, .int .u64 br], .bool true]) (by simp [results, Tryz.results137, go_sem, hcw1, hfw1, hlw1_0, hlw1_1, hlw1_2, hcw2, hfw2, hlw2_0, hlw2_1, hlw2_2, hcw3, hfw3, hlw3_0, hlw3_1, hlw3_2]) rfl ⟨by rw [Hc.out], by (repeat' (first | exact Below.refl _ _ | refine Below.setCell ?_ ?_ _ | refine Below.alloc ?_ ?_ _ | refine below_drewN ?_ _ | refine Below.trans ?_ (Below.mono (by assumption) ?_) | exact Nat.le_refl _ | omega | (simp only [World.size_alloc, World.size_setCell, World.size_drew] at *; omega)))⟩
    · have Hc := Lib.hid Hc
      simp only [k1] at C2
      simp only [k2] at C3
      go_enter Tryz.func137, Tryz.ntmps137
      go_wp2_with (first | (go_at_call 117; refine ((C1 _).out).mono ?_; rintro e w1 ⟨rfl, hBw1⟩; obtain ⟨hcw1, hfw1⟩ := bcell hBw1; have hzw1 := hBw1.size; (try simp only [World.size_alloc, World.size_setCell, World.size_drew] at hzw1); have hlw1_0 : w.heap.size < w1.heap.size := (by omega); have hlw1_1 : w.heap.size + 1 < w1.heap.size := (by omega); have hlw1_2 : w.heap.size + 1 + 1 < w1.heap.size := (by omega)) | (go_at_call 144; first | ((with_reducible refine ((C2 _).out).mono ?_); rintro e w2 ⟨rfl, hBw2⟩; obtain ⟨hcw2, hfw2⟩ := bcell hBw2; have hzw2 := hBw2.size; (try simp only [World.size_alloc, World.size_setCell, World.size_drew] at hzw2); have hlw2_0 : w.heap.size < w2.heap.size := (by omega); have hlw2_1 : w.heap.size + 1 < w2.heap.size := (by omega); have hlw2_2 : w.heap.size + 1 + 1 < w2.heap.size := (by omega)) | ((with_reducible refine ((C3 _).out).mono ?_); rintro e w3 ⟨rfl, hBw3⟩; obtain ⟨hcw3, hfw3⟩ := bcell hBw3; have hzw3 := hBw3.size; (try simp only [World.size_alloc, World.size_setCell, World.size_drew] at hzw3); have hlw3_0 : w.heap.size < w3.heap.size := (by omega); have hlw3_1 : w.heap.size + 1 < w3.heap.size := (by omega); have hlw3_2 : w.heap.size + 1 + 1 < w3.heap.size := (by omega))))
      exact bodyPost_ret (v := .tuple #[.agg #[.int .u64 bm, .int .u64 br], .bool true]) (by simp [results, Tryz.results137, go_sem, hcw1, hfw1, hlw1_0, hlw1_1, hlw1_2, hcw2, hfw2, hlw2_0, hlw2_1, hlw2_2, hcw3, hfw3, hlw3_0, hlw3_1, hlw3_2]) rfl ⟨by rw [Hc.out], by (repeat' (first | exact Below.refl _ _ | refine Below.setCell ?_ ?_ _ | refine Below.alloc ?_ ?_ _ | refine below_drewN ?_ _ | refine Below.trans ?_ (Below.mono (by assumption) ?_) | exact Nat.le_refl _ | omega | (simp only [World.size_alloc, World.size_setCell, World.size_drew] at *; omega)))⟩
    · have Hc := Lib.hid Hc
      simp only [k1] at C2
      simp only [k2] at C3
      go_enter Tryz.func137, Tryz.ntmps137
      go_wp2_with (first | (go_at_call 117; refine ((C1 _).out).mono ?_; rintro e w1 ⟨rfl, hBw1⟩; obtain ⟨hcw1, hfw1⟩ := bcell hBw1; have hzw1 := hBw1.size; (try simp only [World.size_alloc, World.size_setCell, World.size_drew] at hzw1); have hlw1_0 : w.heap.size < w1.heap.size := (by omega); have hlw1_1 : w.heap.size + 1 < w1.heap.size := (by omega); have hlw1_2 : w.heap.size + 1 + 1 < w1.heap.size := (by omega)) | (go_at_call 144; first | ((with_reducible refine ((C2 _).out).mono ?_); rintro e w2 ⟨rfl, hBw2⟩; obtain ⟨hcw2, hfw2⟩ := bcell hBw2; have hzw2 := hBw2.size; (try simp only [World.size_alloc, World.size_setCell, World.size_drew] at hzw2); have hlw2_0 : w.heap.size < w2.heap.size := (by omega); have hlw2_1 : w.heap.size + 1 < w2.heap.size := (by omega); have hlw2_2 : w.heap.size + 1 + 1 < w2.heap.size := (by omega)) | ((with_reducible refine ((C3 _).out).mono ?_); rintro e w3 ⟨rfl, hBw3⟩; obtain ⟨hcw3, hfw3⟩ := bcell hBw3; have hzw3 := hBw3.size; (try simp only [World.size_alloc, World.size_setCell, World.size_drew] at hzw3); have hlw3_0 : w.heap.size < w3.heap.size := (by omega); have hlw3_1 : w.heap.size + 1 < w3.heap.size := (by omega); have hlw3_2 : w.heap.size + 1 + 1 < w3.heap.size := (by omega))))
      exact bodyPost_ret (v := .tuple #[.agg #[.int .u64 am, .int .u64 ar], .bool true]) (by simp [results, Tryz.results137, go_sem, hcw1, hfw1, hlw1_0, hlw1_1, hlw1_2, hcw2, hfw2, hlw2_0, hlw2_1, hlw2_2, hcw3, hfw3, hlw3_0, hlw3_1, hlw3_2]) rfl ⟨by rw [Hc.out], by (repeat' (first | exact Below.refl _ _ | refine Below.setCell ?_ ?_ _ | refine Below.alloc ?_ ?_ _ | refine below_drewN ?_ _ | refine Below.trans ?_ (Below.mono (by assumption) ?_) | exact Nat.le_refl _ | omega | (simp only [World.size_alloc, World.size_setCell, World.size_drew] at *; omega)))⟩
set_option maxHeartbeats 2000000 in
theorem meet_c3 (am ar bm br : Int) (w : World) (ha : 0 ≤ am) (ha' : am ≤ 18446744073709551615) (har : 0 ≤ ar) (har' : ar ≤ 18446744073709551615) (hb : 0 ≤ bm) (hb' : bm ≤ 18446744073709551615) (hbr : 0 ≤ br) (hbr' : br ≤ 18446744073709551615) (h : ¬ am = 0) (h2 : ¬ bm = 0) :
    Calls Tryz.prog 137 #[.agg #[.int .u64 am, .int .u64 ar], .agg #[.int .u64 bm, .int .u64 br]] w fun e w' => e = .returned (.tuple #[.agg #[.int .u64 (cmeet am ar bm br).1.1, .int .u64 (cmeet am ar bm br).1.2], .bool (cmeet am ar bm br).2]) ∧ Below w.heap.size w w' := by
  have gc := grown_cell
  have C2 := fun W => Lib.hid (within_c am ar bm br W ha ha' har har' hb hb')
  have C3 := fun W => Lib.hid (within_c bm br am ar W hb hb' hbr hbr' ha ha')
  have hways := Lib.hid (meet_ways am ar bm br)
  have hm1 : (am == 0) = false := by simpa using h
  have hm2 : (bm == 0) = false := by simpa using h2
  have hg := cg_pos (a := am) (b := bm) (by omega)
  have hgB : cg am bm ≤ 18446744073709551615 := cg_bd ha hb ha' hb'
  have C1 := fun W => Lib.hid (gcd_c am bm W ha ha' hb hb')
  have C5 := fun W => Lib.hid (crest_c am ar (cg am bm) W ha ha' har har' hg hgB)
  have C6 := fun W => Lib.hid (crest_c bm br (cg am bm) W hb hb' hbr hbr' hg hgB)
  have Hxy : ccommon am ar bm br = (crest am ar (cg am bm) == crest bm br (cg am bm)) := by unfold ccommon; rw [if_neg h, if_neg h2]
  generalize crest am ar (cg am bm) = x at *
  generalize crest bm br (cg am bm) = y at *
  generalize cg am bm = g at *
  clear h h2
  cases hk : ccommon am ar bm br
  · have Hc := Lib.hid (cmeet_no hk)
    rw [hk] at Hxy
    replace Hxy := Hxy.symm
    clear hk
    go_enter Tryz.func137, Tryz.ntmps137
    go_wp2_with ((go_at_call 202; refine ((C1 _).out).mono ?_; rintro e w0 ⟨rfl, hBw0⟩; obtain ⟨hcw0, hfw0⟩ := bcell hBw0; have hzw0 := hBw0.size; (try simp only [World.size_alloc, World.size_setCell, World.size_drew] at hzw0); have hlw0_0 : w.heap.size < w0.heap.size := (by omega); have hlw0_1 : w.heap.size + 1 < w0.heap.size := (by omega); have hlw0_2 : w.heap.size + 1 + 1 < w0.heap.size := (by omega)))
    refine wp_all_below (by kernel_rfl) (by kernel_rfl) ?_; (repeat (go_big_quiet_step (first | with_reducible exact quietly (fun W => (C5 W).out) | with_reducible exact quietly (fun W => (C6 W).out)))); refine wpQuiet_nil ?_; intro w1 hBw1; obtain ⟨hcw1, hfw1⟩ := bcell hBw1; have hzw1 := hBw1.size; (try simp only [World.size_alloc, World.size_setCell, World.size_drew] at hzw1); have hlw1_0 : w.heap.size < w1.heap.size := (by omega); have hlw1_1 : w.heap.size + 1 < w1.heap.size := (by omega); have hlw1_2 : w.heap.size + 1 + 1 < w1.heap.size := (by omega)
    go_wp2
    exact bodyPost_ret (v := .tuple #[.agg #[.int .u64 0, .int .u64 0], .bool false]) (by simp [results, Tryz.results137, go_sem, hcw0, hfw0, hlw0_0, hlw0_1, hlw0_2, hcw1, hfw1, hlw1_0, hlw1_1, hlw1_2]) rfl ⟨by rw [Hc.out], by (repeat' (first | exact Below.refl _ _ | refine Below.setCell ?_ ?_ _ | refine Below.alloc ?_ ?_ _ | refine below_drewN ?_ _ | refine Below.trans ?_ (Below.mono (by assumption) ?_) | exact Nat.le_refl _ | omega | (simp only [World.size_alloc, World.size_setCell, World.size_drew] at *; omega)))⟩
  · have Hw := hways.out hk
    rw [hk] at Hxy
    replace Hxy := Hxy.symm
    clear hways hk
    rcases Hw with ⟨k1, Hc⟩ | ⟨k1, k2, Hc⟩ | ⟨k1, k2, k3, Hc⟩ | ⟨k1, k2, k3, Hc⟩
    · have Hc := Lib.hid Hc
      simp only [k1] at C2
      go_enter Tryz.func137, Tryz.ntmps137
      go_wp2_with ((go_at_call 202; refine ((C1 _).out).mono ?_; rintro e w0 ⟨rfl, hBw0⟩; obtain ⟨hcw0, hfw0⟩ := bcell hBw0; have hzw0 := hBw0.size; (try simp only [World.size_alloc, World.size_setCell, World.size_drew] at hzw0); have hlw0_0 : w.heap.size < w0.heap.size := (by omega); have hlw0_1 : w.heap.size + 1 < w0.heap.size := (by omega); have hlw0_2 : w.heap.size + 1 + 1 < w0.heap.size := (by omega)))
      refine wp_all_below (by kernel_rfl) (by kernel_rfl) ?_; (repeat (go_big_quiet_step (first | with_reducible exact quietly (fun W => (C5 W).out) | with_reducible exact quietly (fun W => (C6 W).out)))); refine wpQuiet_nil ?_; intro w1 hBw1; obtain ⟨hcw1, hfw1⟩ := bcell hBw1; have hzw1 := hBw1.size; (try simp only [World.size_alloc, World.size_setCell, World.size_drew] at hzw1); have hlw1_0 : w.heap.size < w1.heap.size := (by omega); have hlw1_1 : w.heap.size + 1 < w1.heap.size := (by omega); have hlw1_2 : w.heap.size + 1 + 1 < w1.heap.size := (by omega)
      go_wp2_with ((go_at_call 144; first | ((with_reducible refine ((C2 _).out).mono ?_); rintro e w2 ⟨rfl, hBw2⟩; obtain ⟨hcw2, hfw2⟩ := bcell hBw2; have hzw2 := hBw2.size; (try simp only [World.size_alloc, World.size_setCell, World.size_drew] at hzw2); have hlw2_0 : w.heap.size < w2.heap.size := (by omega); have hlw2_1 : w.heap.size + 1 < w2.heap.size := (by omega); have hlw2_2 : w.heap.size + 1 + 1 < w2.heap.size := (by omega)) | ((with_reducible refine ((C3 _).out).mono ?_); rintro e w3 ⟨rfl, hBw3⟩; obtain ⟨hcw3, hfw3⟩ := bcell hBw3; have hzw3 := hBw3.size; (try simp only [World.size_alloc, World.size_setCell, World.size_drew] at hzw3); have hlw3_0 : w.heap.size < w3.heap.size := (by omega); have hlw3_1 : w.heap.size + 1 < w3.heap.size := (by omega); have hlw3_2 : w.heap.size + 1 + 1 < w3.heap.size := (by omega))))
      exact bodyPost_ret (v := .tuple #[.agg #[.int .u64 am, .int .u64 ar], .bool true]) (by simp [results, Tryz.results137, go_sem, hcw0, hfw0, hlw0_0, hlw0_1, hlw0_2, hcw1, hfw1, hlw1_0, hlw1_1, hlw1_2, hcw2, hfw2, hlw2_0, hlw2_1, hlw2_2]) rfl ⟨by rw [Hc.out], by (repeat' (first | exact Below.refl _ _ | refine Below.setCell ?_ ?_ _ | refine Below.alloc ?_ ?_ _ | refine below_drewN ?_ _ | refine Below.trans ?_ (Below.mono (by assumption) ?_) | exact Nat.le_refl _ | omega | (simp only [World.size_alloc, World.size_setCell, World.size_drew] at *; omega)))⟩
    · have Hc := Lib.hid Hc
      simp only [k1] at C2
      simp only [k2] at C3
      go_enter Tryz.func137, Tryz.ntmps137
      go_wp2_with ((go_at_call 202; refine ((C1 _).out).mono ?_; rintro e w0 ⟨rfl, hBw0⟩; obtain ⟨hcw0, hfw0⟩ := bcell hBw0; have hzw0 := hBw0.size; (try simp only [World.size_alloc, World.size_setCell, World.size_drew] at hzw0); have hlw0_0 : w.heap.size < w0.heap.size := (by omega); have hlw0_1 : w.heap.size + 1 < w0.heap.size := (by omega); have hlw0_2 : w.heap.size + 1 + 1 < w0.heap.size := (by omega)))
      refine wp_all_below (by kernel_rfl) (by kernel_rfl) ?_; (repeat (go_big_quiet_step (first | with_reducible exact quietly (fun W => (C5 W).out) | with_reducible exact quietly (fun W => (C6 W).out)))); refine wpQuiet_nil ?_; intro w1 hBw1; obtain ⟨hcw1, hfw1⟩ := bcell hBw1; have hzw1 := hBw1.size; (try simp only [World.size_alloc, World.size_setCell, World.size_drew] at hzw1); have hlw1_0 : w.heap.size < w1.heap.size := (by omega); have hlw1_1 : w.heap.size + 1 < w1.heap.size := (by omega); have hlw1_2 : w.heap.size + 1 + 1 < w1.heap.size := (by omega)
      go_wp2_with ((go_at_call 144; first | ((with_reducible refine ((C2 _).out).mono ?_); rintro e w2 ⟨rfl, hBw2⟩; obtain ⟨hcw2, hfw2⟩ := bcell hBw2; have hzw2 := hBw2.size; (try simp only [World.size_alloc, World.size_setCell, World.size_drew] at hzw2); have hlw2_0 : w.heap.size < w2.heap.size := (by omega); have hlw2_1 : w.heap.size + 1 < w2.heap.size := (by omega); have hlw2_2 : w.heap.size + 1 + 1 < w2.heap.size := (by omega)) | ((with_reducible refine ((C3 _).out).mono ?_); rintro e w3 ⟨rfl, hBw3⟩; obtain ⟨hcw3, hfw3⟩ := bcell hBw3; have hzw3 := hBw3.size; (try simp only [World.size_alloc, World.size_setCell, World.size_drew] at hzw3); have hlw3_0 : w.heap.size < w3.heap.size := (by omega); have hlw3_1 : w.heap.size + 1 < w3.heap.size := (by omega); have hlw3_2 : w.heap.size + 1 + 1 < w3.heap.size := (by omega))))
      exact bodyPost_ret (v := .tuple #[.agg #[.int .u64 bm, .int .u64 br], .bool true]) (by simp [results, Tryz.results137, go_sem, hcw0, hfw0, hlw0_0, hlw0_1, hlw0_2, hcw1, hfw1, hlw1_0, hlw1_1, hlw1_2, hcw2, hfw2, hlw2_0, hlw2_1, hlw2_2, hcw3, hfw3, hlw3_0, hlw3_1, hlw3_2]) rfl ⟨by rw [Hc.out], by (repeat' (first | exact Below.refl _ _ | refine Below.setCell ?_ ?_ _ | refine Below.alloc ?_ ?_ _ | refine below_drewN ?_ _ | refine Below.trans ?_ (Below.mono (by assumption) ?_) | exact Nat.le_refl _ | omega | (simp only [World.size_alloc, World.size_setCell, World.size_drew] at *; omega)))⟩
    · have Hc := Lib.hid Hc
      simp only [k1] at C2
      simp only [k2] at C3
      go_enter Tryz.func137, Tryz.ntmps137
      go_wp2_with ((go_at_call 202; refine ((C1 _).out).mono ?_; rintro e w0 ⟨rfl, hBw0⟩; obtain ⟨hcw0, hfw0⟩ := bcell hBw0; have hzw0 := hBw0.size; (try simp only [World.size_alloc, World.size_setCell, World.size_drew] at hzw0); have hlw0_0 : w.heap.size < w0.heap.size := (by omega); have hlw0_1 : w.heap.size + 1 < w0.heap.size := (by omega); have hlw0_2 : w.heap.size + 1 + 1 < w0.heap.size := (by omega)))
      refine wp_all_below (by kernel_rfl) (by kernel_rfl) ?_; (repeat (go_big_quiet_step (first | with_reducible exact quietly (fun W => (C5 W).out) | with_reducible exact quietly (fun W => (C6 W).out)))); refine wpQuiet_nil ?_; intro w1 hBw1; obtain ⟨hcw1, hfw1⟩ := bcell hBw1; have hzw1 := hBw1.size; (try simp only [World.size_alloc, World.size_setCell, World.size_drew] at hzw1); have hlw1_0 : w.heap.size < w1.heap.size := (by omega); have hlw1_1 : w.heap.size + 1 < w1.heap.size := (by omega); have hlw1_2 : w.heap.size + 1 + 1 < w1.heap.size := (by omega)
      go_wp2_with ((go_at_call 144; first | ((with_reducible refine ((C2 _).out).mono ?_); rintro e w2 ⟨rfl, hBw2⟩; obtain ⟨hcw2, hfw2⟩ := bcell hBw2; have hzw2 := hBw2.size; (try simp only [World.size_alloc, World.size_setCell, World.size_drew] at hzw2); have hlw2_0 : w.heap.size < w2.heap.size := (by omega); have hlw2_1 : w.heap.size + 1 < w2.heap.size := (by omega); have hlw2_2 : w.heap.size + 1 + 1 < w2.heap.size := (by omega)) | ((with_reducible refine ((C3 _).out).mono ?_); rintro e w3 ⟨rfl, hBw3⟩; obtain ⟨hcw3, hfw3⟩ := bcell hBw3; have hzw3 := hBw3.size; (try simp only [World.size_alloc, World.size_setCell, World.size_drew] at hzw3); have hlw3_0 : w.heap.size < w3.heap.size := (by omega); have hlw3_1 : w.heap.size + 1 < w3.heap.size := (by omega); have hlw3_2 : w.heap.size + 1 + 1 < w3.heap.size := (by omega))))
      exact bodyPost_ret (v := .tuple #[.agg #[.int .u64 bm, .int .u64 br], .bool true]) (by simp [results, Tryz.results137, go_sem, hcw0, hfw0, hlw0_0, hlw0_1, hlw0_2, hcw1, hfw1, hlw1_0, hlw1_1, hlw1_2, hcw2, hfw2, hlw2_0, hlw2_1, hlw2_2, hcw3, hfw3, hlw3_0, hlw3_1, hlw3_2]) rfl ⟨by rw [Hc.out], by (repeat' (first | exact Below.refl _ _ | refine Below.setCell ?_ ?_ _ | refine Below.alloc ?_ ?_ _ | refine below_drewN ?_ _ | refine Below.trans ?_ (Below.mono (by assumption) ?_) | exact Nat.le_refl _ | omega | (simp only [World.size_alloc, World.size_setCell, World.size_drew] at *; omega)))⟩
    · have Hc := Lib.hid Hc
      simp only [k1] at C2
      simp only [k2] at C3
      go_enter Tryz.func137, Tryz.ntmps137
      go_wp2_with ((go_at_call 202; refine ((C1 _).out).mono ?_; rintro e w0 ⟨rfl, hBw0⟩; obtain ⟨hcw0, hfw0⟩ := bcell hBw0; have hzw0 := hBw0.size; (try simp only [World.size_alloc, World.size_setCell, World.size_drew] at hzw0); have hlw0_0 : w.heap.size < w0.heap.size := (by omega); have hlw0_1 : w.heap.size + 1 < w0.heap.size := (by omega); have hlw0_2 : w.heap.size + 1 + 1 < w0.heap.size := (by omega)))
      refine wp_all_below (by kernel_rfl) (by kernel_rfl) ?_; (repeat (go_big_quiet_step (first | with_reducible exact quietly (fun W => (C5 W).out) | with_reducible exact quietly (fun W => (C6 W).out)))); refine wpQuiet_nil ?_; intro w1 hBw1; obtain ⟨hcw1, hfw1⟩ := bcell hBw1; have hzw1 := hBw1.size; (try simp only [World.size_alloc, World.size_setCell, World.size_drew] at hzw1); have hlw1_0 : w.heap.size < w1.heap.size := (by omega); have hlw1_1 : w.heap.size + 1 < w1.heap.size := (by omega); have hlw1_2 : w.heap.size + 1 + 1 < w1.heap.size := (by omega)
      go_wp2_with ((go_at_call 144; first | ((with_reducible refine ((C2 _).out).mono ?_); rintro e w2 ⟨rfl, hBw2⟩; obtain ⟨hcw2, hfw2⟩ := bcell hBw2; have hzw2 := hBw2.size; (try simp only [World.size_alloc, World.size_setCell, World.size_drew] at hzw2); have hlw2_0 : w.heap.size < w2.heap.size := (by omega); have hlw2_1 : w.heap.size + 1 < w2.heap.size := (by omega); have hlw2_2 : w.heap.size + 1 + 1 < w2.heap.size := (by omega)) | ((with_reducible refine ((C3 _).out).mono ?_); rintro e w3 ⟨rfl, hBw3⟩; obtain ⟨hcw3, hfw3⟩ := bcell hBw3; have hzw3 := hBw3.size; (try simp only [World.size_alloc, World.size_setCell, World.size_drew] at hzw3); have hlw3_0 : w.heap.size < w3.heap.size := (by omega); have hlw3_1 : w.heap.size + 1 < w3.heap.size := (by omega); have hlw3_2 : w.heap.size + 1 + 1 < w3.heap.size := (by omega))))
      exact bodyPost_ret (v := .tuple #[.agg #[.int .u64 am, .int .u64 ar], .bool true]) (by simp [results, Tryz.results137, go_sem, hcw0, hfw0, hlw0_0, hlw0_1, hlw0_2, hcw1, hfw1, hlw1_0, hlw1_1, hlw1_2, hcw2, hfw2, hlw2_0, hlw2_1, hlw2_2, hcw3, hfw3, hlw3_0, hlw3_1, hlw3_2]) rfl ⟨by rw [Hc.out], by (repeat' (first | exact Below.refl _ _ | refine Below.setCell ?_ ?_ _ | refine Below.alloc ?_ ?_ _ | refine below_drewN ?_ _ | refine Below.trans ?_ (Below.mono (by assumption) ?_) | exact Nat.le_refl _ | omega | (simp only [World.size_alloc, World.size_setCell, World.size_drew] at *; omega)))⟩

theorem meet_c (am ar bm br : Int) (w : World) (ha : 0 ≤ am) (ha' : am ≤ 18446744073709551615) (har : 0 ≤ ar) (har' : ar ≤ 18446744073709551615) (hb : 0 ≤ bm) (hb' : bm ≤ 18446744073709551615) (hbr : 0 ≤ br) (hbr' : br ≤ 18446744073709551615) :
    Calls Tryz.prog 137 #[.agg #[.int .u64 am, .int .u64 ar], .agg #[.int .u64 bm, .int .u64 br]] w fun e w' => e = .returned (.tuple #[.agg #[.int .u64 (cmeet am ar bm br).1.1, .int .u64 (cmeet am ar bm br).1.2], .bool (cmeet am ar bm br).2]) ∧ Below w.heap.size w w' := by
  by_cases h : am = 0
  · exact meet_c1 am ar bm br w ha ha' har har' hb hb' hbr hbr' h
  · by_cases h2 : bm = 0
    · exact meet_c2 am ar bm br w ha ha' har har' hb hb' hbr hbr' h h2
    · exact meet_c3 am ar bm br w ha ha' har har' hb hb' hbr hbr' h h2

end Go.Proofs.YtcemohoigdninaaGreatDoor
