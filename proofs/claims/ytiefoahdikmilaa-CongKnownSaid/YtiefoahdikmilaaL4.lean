/- The statement CongOperates, as a call. -/
import Derived.Test.YtiefoahdikmilaaL3
import Derived.Test.YtiefoahdikmilaaQ2
import Derived.Deep.DeepCutAuto
namespace Go.Proofs.Ytiefoahdikmilaa
open Go Go.RowKit Go.Sort
set_option linter.unusedVariables false
set_option linter.unusedSimpArgs false
set_option maxRecDepth 100000

attribute [local go_sem] calm calmAt calmUpon

theorem newvar (t : TypeId) (ht : t = 61 ∨ t = 59 ) {d : Option Tmp} {ty : TypeId} {pos : String} {af : Array Edge} {gd : Option (Nat × Bool)} (a : Act) (w : World) :
    (execOp a.eval { dst := d, op := .alloc t, type := ty, pos := pos, after := af, guard := gd }).run Try.prog w = .ok (.value (.pointer (some ⟨w.heap.size, 0, none⟩))) (w.alloc (.cells #[.int .u64 0, .int .u64 0] t)) := by
  rcases ht with rfl | rfl <;> simp [execOp, go_sem]

theorem cright_mk {m r : Int} (h : m = 0 ∨ r < m) : cright m r = true := by simpa [cright] using h
theorem cright_mod {g x : Int} (h : 0 < g) : cright g (x % g) = true := cright_mk (Or.inr (emod_rng x g h).2)
theorem cright_join {am ar bm br : Int} (ha : 0 ≤ am) (har : 0 ≤ ar) (har' : ar ≤ 18446744073709551615) (hb : 0 ≤ bm) (hbr : 0 ≤ br) (hbr' : br ≤ 18446744073709551615) : cright (cjoin am ar bm br).1 (cjoin am ar bm br).2 = true := by
  unfold cjoin
  by_cases h : am = 0 ∧ bm = 0
  · rw [if_pos h]
    by_cases h2 : ar = br
    · rw [if_pos h2]; exact cright_mk (Or.inl rfl)
    · rw [if_neg h2]
      have hne : sg ar ≠ sg br := fun e => h2 (sg_inj har har' hbr hbr' e)
      exact cright_mod (by unfold cdist; split <;> omega)
  · rw [if_neg h]
    have hg := cg_pos h
    exact cright_mod (cg_pos (by omega))
theorem cright_add {am ar bm br : Int} : cright (cadd am ar bm br).1 (cadd am ar bm br).2 = true := by
  unfold cadd
  by_cases h : am = 0 ∧ bm = 0
  · rw [if_pos h]; exact cright_mk (Or.inl rfl)
  · rw [if_neg h]; exact cright_mod (cg_pos h)
theorem cright_sub {am ar bm br : Int} : cright (csub am ar bm br).1 (csub am ar bm br).2 = true := by
  unfold csub
  by_cases h : am = 0 ∧ bm = 0
  · rw [if_pos h]; exact cright_mk (Or.inl rfl)
  · rw [if_neg h]; exact cright_mod (cg_pos h)
theorem cright_scale {n m r : Int} (hm : 0 < m) : cright (cscale n m r).1 (cscale n m r).2 = true := by
  unfold cscale
  by_cases h : n = 0
  · rw [if_pos h]; exact cright_mk (Or.inl rfl)
  · rw [if_neg h]
    have := Int.mul_pos (cabs_rng h) hm
    split
    · exact cright_mod this
    · exact cright_mod hm
theorem cright_mul {am ar bm br : Int} (ha : 0 ≤ am) (hb : 0 ≤ bm) : cright (cmul am ar bm br).1 (cmul am ar bm br).2 = true := by
  unfold cmul
  by_cases h : am = 0
  · rw [if_pos h]
    by_cases h2 : bm = 0
    · rw [if_pos h2]; exact cright_mk (Or.inl rfl)
    · rw [if_neg h2]; exact cright_scale (by omega)
  · rw [if_neg h]
    by_cases h2 : bm = 0
    · rw [if_pos h2]; exact cright_scale (by omega)
    · rw [if_neg h2]
      split
      · exact cright_mk (Or.inr (Int.mul_pos (cg_pos (by omega)) (cg_pos (by omega))))
      · exact cright_mod (cg_pos (by omega))
theorem cright_wrapped {m r : Int} (hm : 0 ≤ m) (hm' : m ≤ 18446744073709551615) : cright (cwrapped m r).1 (cwrapped m r).2 = true := by
  unfold cwrapped
  by_cases h : m = 0
  · rw [if_pos h]; exact cright_mk (Or.inl rfl)
  · rw [if_neg h]; exact cright_mod (clow_rng m (by omega) hm').1
theorem cright_meet {am ar bm br : Int} (h : cright am ar = true) (h' : cright bm br = true) : cright (cmeet am ar bm br).1.1 (cmeet am ar bm br).1.2 = true := by
  unfold cmeet
  split
  · exact cright_mk (Or.inl rfl)
  · split
    · exact h'
    · exact h

/-- what region 1 leaves -/
def Made (w : World) (am ar bm br : Int) (s5 s6 : Value) (wx : World) : Prop := ∃ gx gy : Nat, s5 = .pointer (some ⟨gx, 0, none⟩) ∧ s6 = .pointer (some ⟨gy, 0, none⟩) ∧ w.heap.size + 1 < wx.heap.size ∧ gx < wx.heap.size ∧ gy < wx.heap.size ∧
  wx.cell? ⟨w.heap.size, 0, none⟩ = some (.int .u64 am) ∧ wx.cell? ⟨w.heap.size, 1, none⟩ = some (.int .u64 ar) ∧ wx.cell? ⟨w.heap.size + 1, 0, none⟩ = some (.int .u64 bm) ∧ wx.cell? ⟨w.heap.size + 1, 1, none⟩ = some (.int .u64 br) ∧
  wx.cell? ⟨gx, 0, none⟩ = some (.int .u64 am) ∧ wx.cell? ⟨gx, 1, none⟩ = some (.int .u64 ar) ∧ wx.cell? ⟨gy, 0, none⟩ = some (.int .u64 bm) ∧ wx.cell? ⟨gy, 1, none⟩ = some (.int .u64 br) ∧ Below w.heap.size w wx

set_option maxHeartbeats 4000000 in
theorem congOperates_c (am ar bm br : Int) (w : World) (ha : 0 ≤ am) (ha' : am ≤ 18446744073709551615) (har : 0 ≤ ar) (har' : ar ≤ 18446744073709551615) (hb : 0 ≤ bm) (hb' : bm ≤ 18446744073709551615) (hbr : 0 ≤ br) (hbr' : br ≤ 18446744073709551615) :
    Calls Try.prog 5 #[.agg #[.int .u64 am, .int .u64 ar], .agg #[.int .u64 bm, .int .u64 br]] w fun e w' => e = .returned (.bool true) ∧ Below w.heap.size w w' := by
  have D1 := fun W => Lib.hid (ref_c am ar W)
  have D2 := fun W => Lib.hid (ref_c bm br W)
  have gc := grown_cell
  go_enter Try.func5, Try.ntmps5
  go_upto_region 1 with fail
  go_cut [5, 6] (fun s5 s6 wx => Made w am ar bm br s5 s6 wx)
  case first =>
    refine wp_two 4 5 6 (by kernel_rfl) rfl rfl rfl rfl rfl rfl (by decide) (by simp) (by simp) (by kernel_rfl) (newvar 61 (by first | exact Or.inl rfl | exact Or.inr rfl)) (newvar 61 (by first | exact Or.inl rfl | exact Or.inr rfl)) ?_; simp only [List.take_succ_cons, List.take_zero, List.drop_succ_cons, List.drop_zero]; (repeat (refine wpCalm_step (fun K hK => ?_); go_simp; first | (refine hK _ ?_; clear hK K) | (apply Exists.intro; refine ⟨fun _ => ?_, hK _ ?_⟩; (first | with_reducible exact calmly (fun W => (D1 W).out) | with_reducible exact calmly (fun W => (D2 W).out)); clear hK K))); refine wpCalm_nil ?_; intro gx gy w1 hggx hggy hgne hBw1 hkgx hkgy; simp only [Act.put, List.setIfInBounds_toArray, List.set_cons_zero, List.set_cons_succ]; obtain ⟨hcw1, hfw1⟩ := bcell hBw1; have hzw1 := hBw1.size; (try simp only [World.size_alloc, World.size_setCell, World.size_drew] at hzw1); have hlw1_0 : w.heap.size < w1.heap.size := (by omega); have hlw1_1 : w.heap.size + 1 < w1.heap.size := (by omega); obtain ⟨hagx, hbgx⟩ := two_cells hkgx; obtain ⟨hagy, hbgy⟩ := two_cells hkgy; obtain ⟨hugx, hvgx⟩ := two_free hkgx; obtain ⟨hugy, hvgy⟩ := two_free hkgy
    have hgne' := hgne.symm
    simp only [World.size_alloc] at hggx hggy
    have n1 : w.heap.size ≠ gx := by omega
    have n2 : w.heap.size ≠ gy := by omega
    have n3 : w.heap.size + 1 ≠ gx := by omega
    have n4 : w.heap.size + 1 ≠ gy := by omega
    have hx1 := heap_lt hkgx
    have hy1 := heap_lt hkgy
    go_wp2
    go_meet
    exact ⟨gx, gy, rfl, rfl, by simp [go_sem, *], by simp [go_sem, *], by simp [go_sem, *], by simp [go_sem, *], by simp [go_sem, *], by simp [go_sem, *], by simp [go_sem, *], by simp [go_sem, *], by simp [go_sem, *], by simp [go_sem, *], by simp [go_sem, *], by (repeat' (first | exact Below.refl _ _ | refine Below.setCell ?_ ?_ _ | refine Below.alloc ?_ ?_ _ | refine below_drewN ?_ _ | refine Below.trans ?_ (Below.mono (by assumption) ?_) | exact Nat.le_refl _ | omega | (simp only [World.size_alloc, World.size_setCell, World.size_drew] at *; omega)))⟩
  case rest =>
    obtain ⟨gx, gy, rfl, rfl, hz0, hx0, hy0, k1, k2, k3, k4, k5, k6, k7, k8, hB0⟩ := hcut
    have hz00 : w.heap.size < wc.heap.size := by omega
    have E1 := fun W => Lib.hid (rright_c am ar W)
    have E2 := fun W => Lib.hid (rright_c bm br W)
    clear D1 D2
    cases hRa : cright am ar
    · simp only [hRa] at E1
      clear hRa
      go_wp2_with (first | (go_at_call 23; ((with_reducible refine ((E1 _).out).mono ?_); rintro e w1 ⟨rfl, hBw1⟩; obtain ⟨hcw1, hfw1⟩ := bcell hBw1; have hzw1 := hBw1.size; (try simp only [World.size_alloc, World.size_setCell, World.size_drew] at hzw1); have hlw1_gx : gx < w1.heap.size := (by omega); have hlw1_gy : gy < w1.heap.size := (by omega); have hlw1_0 : w.heap.size < w1.heap.size := (by omega); have hlw1_1 : w.heap.size + 1 < w1.heap.size := (by omega))) | (go_at_call 24; refine (works_c _).mono ?_; rintro e wk ⟨rfl, hBwk⟩; obtain ⟨hcwk, hfwk⟩ := bcell hBwk; have hzwk := hBwk.size; (try simp only [World.size_alloc, World.size_setCell, World.size_drew] at hzwk); have hlwk_0 : w.heap.size < wk.heap.size := (by omega); have hlwk_1 : w.heap.size + 1 < wk.heap.size := (by omega)))
      go_ret
      exact ⟨rfl, by (repeat' (first | exact Below.refl _ _ | refine Below.setCell ?_ ?_ _ | refine Below.alloc ?_ ?_ _ | refine below_drewN ?_ _ | refine Below.trans ?_ (Below.mono (by assumption) ?_) | exact Nat.le_refl _ | omega | (simp only [World.size_alloc, World.size_setCell, World.size_drew] at *; omega)))⟩
    cases hRb : cright bm br
    · simp only [hRa] at E1
      simp only [hRb] at E2
      clear hRa hRb
      go_wp2_with (first | (go_at_call 23; first | ((with_reducible refine ((E1 _).out).mono ?_); rintro e w1 ⟨rfl, hBw1⟩; obtain ⟨hcw1, hfw1⟩ := bcell hBw1; have hzw1 := hBw1.size; (try simp only [World.size_alloc, World.size_setCell, World.size_drew] at hzw1); have hlw1_gx : gx < w1.heap.size := (by omega); have hlw1_gy : gy < w1.heap.size := (by omega); have hlw1_0 : w.heap.size < w1.heap.size := (by omega); have hlw1_1 : w.heap.size + 1 < w1.heap.size := (by omega)) | ((with_reducible refine ((E2 _).out).mono ?_); rintro e w2 ⟨rfl, hBw2⟩; obtain ⟨hcw2, hfw2⟩ := bcell hBw2; have hzw2 := hBw2.size; (try simp only [World.size_alloc, World.size_setCell, World.size_drew] at hzw2); have hlw2_gx : gx < w2.heap.size := (by omega); have hlw2_gy : gy < w2.heap.size := (by omega); have hlw2_0 : w.heap.size < w2.heap.size := (by omega); have hlw2_1 : w.heap.size + 1 < w2.heap.size := (by omega))) | (go_at_call 24; refine (works_c _).mono ?_; rintro e wk ⟨rfl, hBwk⟩; obtain ⟨hcwk, hfwk⟩ := bcell hBwk; have hzwk := hBwk.size; (try simp only [World.size_alloc, World.size_setCell, World.size_drew] at hzwk); have hlwk_0 : w.heap.size < wk.heap.size := (by omega); have hlwk_1 : w.heap.size + 1 < wk.heap.size := (by omega)))
      go_ret
      exact ⟨rfl, by (repeat' (first | exact Below.refl _ _ | refine Below.setCell ?_ ?_ _ | refine Below.alloc ?_ ?_ _ | refine below_drewN ?_ _ | refine Below.trans ?_ (Below.mono (by assumption) ?_) | exact Nat.le_refl _ | omega | (simp only [World.size_alloc, World.size_setCell, World.size_drew] at *; omega)))⟩
    have hr := cright_of _ _ hRa
    have F1 := cright_join (am := am) (bm := bm) ha har har' hb hbr hbr'
    have F2 := cright_add (am := am) (ar := ar) (bm := bm) (br := br)
    have F3 := cright_sub (am := am) (ar := ar) (bm := bm) (br := br)
    have F4 := cright_mul (am := am) (ar := ar) (bm := bm) (br := br) ha hb
    have F5 := cright_wrapped (m := am) (r := ar) ha ha'
    have F6 := cright_meet (am := am) (ar := ar) (bm := bm) (br := br) hRa hRb
    have M1 := fun W => Lib.hid (meet_c am ar bm br W ha ha' har har' hb hb' hbr hbr')
    have M2 := fun W => Lib.hid (rmeet_c am ar bm br W ha ha' har har' hb hb' hbr hbr')
    have P1 := fun W => Lib.hid (join_c am ar bm br W ha ha' har har' hb hb' hbr hbr')
    have P2 := fun W => Lib.hid (add_c am ar bm br W ha ha' har har' hb hb' hbr hbr')
    have P3 := fun W => Lib.hid (sub_c am ar bm br W ha ha' har har' hb hb' hbr hbr')
    have P4 := fun W => Lib.hid (mul_c am ar bm br W ha ha' har har' hb hb' hbr hbr')
    have P5 := fun W => Lib.hid (wrapped_c am ar W ha ha' har har')
    have Q1 := fun W => Lib.hid (rjoin_c am ar bm br W ha ha' har har' hb hb' hbr hbr' hr)
    have Q2 := fun W => Lib.hid (radd_c am ar bm br W ha ha' har har' hb hb' hbr hbr')
    have Q3 := fun W => Lib.hid (rsub_c am ar bm br W ha ha' har har' hb hb' hbr hbr')
    have Q4 := fun W => Lib.hid (rmul_c am ar bm br W ha ha' har har' hb hb' hbr hbr')
    have Q5 := fun W => Lib.hid (rwrapped_c am ar W ha ha' har har')
    simp only [hRa] at E1
    simp only [hRb] at E2
    generalize cjoin am ar bm br = y1 at *
    generalize cadd am ar bm br = y2 at *
    generalize csub am ar bm br = y3 at *
    generalize cmul am ar bm br = y4 at *
    generalize cwrapped am ar = y5 at *
    generalize (cmeet am ar bm br).1 = y6 at *
    generalize (cmeet am ar bm br).2 = ok at *
    clear hRa hRb hr
    obtain ⟨m1, r1⟩ := y1
    obtain ⟨m2, r2⟩ := y2
    obtain ⟨m3, r3⟩ := y3
    obtain ⟨m4, r4⟩ := y4
    obtain ⟨m5, r5⟩ := y5
    obtain ⟨m6, r6⟩ := y6
    simp only [] at F1 F2 F3 F4 F5 F6 M1 M2 P1 P2 P3 P4 P5 Q1 Q2 Q3 Q4 Q5
    go_wp2_with (first | (go_at_call 23; first | ((with_reducible refine ((E1 _).out).mono ?_); rintro e w1 ⟨rfl, hBw1⟩; obtain ⟨hcw1, hfw1⟩ := bcell hBw1; have hzw1 := hBw1.size; (try simp only [World.size_alloc, World.size_setCell, World.size_drew] at hzw1); have hlw1_gx : gx < w1.heap.size := (by omega); have hlw1_gy : gy < w1.heap.size := (by omega); have hlw1_0 : w.heap.size < w1.heap.size := (by omega); have hlw1_1 : w.heap.size + 1 < w1.heap.size := (by omega)) | ((with_reducible refine ((E2 _).out).mono ?_); rintro e w2 ⟨rfl, hBw2⟩; obtain ⟨hcw2, hfw2⟩ := bcell hBw2; have hzw2 := hBw2.size; (try simp only [World.size_alloc, World.size_setCell, World.size_drew] at hzw2); have hlw2_gx : gx < w2.heap.size := (by omega); have hlw2_gy : gy < w2.heap.size := (by omega); have hlw2_0 : w.heap.size < w2.heap.size := (by omega); have hlw2_1 : w.heap.size + 1 < w2.heap.size := (by omega))) | (go_at_call 29; refine ((M1 _).out).mono ?_; rintro e w3 ⟨rfl, hBw3⟩; obtain ⟨hcw3, hfw3⟩ := bcell hBw3; have hzw3 := hBw3.size; (try simp only [World.size_alloc, World.size_setCell, World.size_drew] at hzw3); have hlw3_gx : gx < w3.heap.size := (by omega); have hlw3_gy : gy < w3.heap.size := (by omega); have hlw3_0 : w.heap.size < w3.heap.size := (by omega); have hlw3_1 : w.heap.size + 1 < w3.heap.size := (by omega)) | (go_at_call 30; refine ((M2 _).out).mono ?_; rintro e w4 ⟨rfl, hBw4⟩; obtain ⟨hcw4, hfw4⟩ := bcell hBw4; have hzw4 := hBw4.size; (try simp only [World.size_alloc, World.size_setCell, World.size_drew] at hzw4); have hlw4_gx : gx < w4.heap.size := (by omega); have hlw4_gy : gy < w4.heap.size := (by omega); have hlw4_w3 : w3.heap.size < w4.heap.size := (by omega); have hlw4_0 : w.heap.size < w4.heap.size := (by omega); have hlw4_1 : w.heap.size + 1 < w4.heap.size := (by omega)))
    refine wp_head_below 15 (by kernel_rfl) (by kernel_rfl) ?_; simp only [List.take_succ_cons, List.take_zero, List.drop_succ_cons, List.drop_zero]; (repeat (go_big_quiet_step (first | with_reducible exact quietly (fun W => (P1 W).out) | with_reducible exact quietly (fun W => (P2 W).out) | with_reducible exact quietly (fun W => (P3 W).out) | with_reducible exact quietly (fun W => (P4 W).out) | with_reducible exact quietly (fun W => (P5 W).out)))); refine wpQuiet_nil ?_; intro w5 hBw5; obtain ⟨hcw5, hfw5⟩ := bcell hBw5; have hzw5 := hBw5.size; (try simp only [World.size_alloc, World.size_setCell, World.size_drew] at hzw5); have hlw5_gx : gx < w5.heap.size := (by omega); have hlw5_gy : gy < w5.heap.size := (by omega); have hlw5_w3 : w3.heap.size < w5.heap.size := (by omega); have hlw5_w4 : w4.heap.size < w5.heap.size := (by omega); have hlw5_0 : w.heap.size < w5.heap.size := (by omega); have hlw5_1 : w.heap.size + 1 < w5.heap.size := (by omega)
    go_wp2
    refine wp_head_below 15 (by kernel_rfl) (by kernel_rfl) ?_; simp only [List.take_succ_cons, List.take_zero, List.drop_succ_cons, List.drop_zero]; (repeat (go_big_quiet_step (first | with_reducible exact quietly (fun W => (Q1 W).out) | with_reducible exact quietly (fun W => (Q2 W).out) | with_reducible exact quietly (fun W => (Q3 W).out) | with_reducible exact quietly (fun W => (Q4 W).out) | with_reducible exact quietly (fun W => (Q5 W).out)))); refine wpQuiet_nil ?_; intro w6 hBw6; obtain ⟨hcw6, hfw6⟩ := bcell hBw6; have hzw6 := hBw6.size; (try simp only [World.size_alloc, World.size_setCell, World.size_drew] at hzw6); have hlw6_gx : gx < w6.heap.size := (by omega); have hlw6_gy : gy < w6.heap.size := (by omega); have hlw6_w3 : w3.heap.size < w6.heap.size := (by omega); have hlw6_w4 : w4.heap.size < w6.heap.size := (by omega); have hlw6_w5 : w5.heap.size < w6.heap.size := (by omega); have hlw6_0 : w.heap.size < w6.heap.size := (by omega); have hlw6_1 : w.heap.size + 1 < w6.heap.size := (by omega)
    go_wp2
    have V1 := fun W => Lib.hid (ref_c m1 r1 W)
    have V2 := fun W => Lib.hid (ref_c m2 r2 W)
    have V3 := fun W => Lib.hid (ref_c m3 r3 W)
    have V4 := fun W => Lib.hid (ref_c m4 r4 W)
    have V5 := fun W => Lib.hid (ref_c m5 r5 W)
    have V6 := fun W => Lib.hid (ref_c m6 r6 W)
    have U1 := fun W => Lib.hid (right_c m1 r1 W)
    have U2 := fun W => Lib.hid (right_c m2 r2 W)
    have U3 := fun W => Lib.hid (right_c m3 r3 W)
    have U4 := fun W => Lib.hid (right_c m4 r4 W)
    have U5 := fun W => Lib.hid (right_c m5 r5 W)
    have U6 := fun W => Lib.hid (right_c m6 r6 W)
    rw [F1] at U1
    rw [F2] at U2
    rw [F3] at U3
    rw [F4] at U4
    rw [F5] at U5
    rw [F6] at U6
    have hneqr := run_neq_rcong
    clear P1 P2 P3 P4 P5 Q1 Q2 Q3 Q4 Q5 M1 M2 F1 F2 F3 F4 F5 F6 E1 E2
    have hL0 : (w6.alloc (.cells #[.int .u64 m1, .int .u64 r1, .int .u64 m2, .int .u64 r2, .int .u64 m3, .int .u64 r3, .int .u64 m4, .int .u64 r4, .int .u64 m5, .int .u64 r5, .int .u64 m6, .int .u64 r6] 61)).heap[w5.heap.size]? = some (.cells #[.int .u64 m1, .int .u64 r1, .int .u64 m2, .int .u64 r2, .int .u64 m3, .int .u64 r3, .int .u64 m4, .int .u64 r4, .int .u64 m5, .int .u64 r5, .int .u64 m6, .int .u64 r6] 59) := by
      rw [Below.heap_alloc _ _ _ hlw6_w5, hBw6.block _ (by simp), heap_new]
    have hR0 : (w6.alloc (.cells #[.int .u64 m1, .int .u64 r1, .int .u64 m2, .int .u64 r2, .int .u64 m3, .int .u64 r3, .int .u64 m4, .int .u64 r4, .int .u64 m5, .int .u64 r5, .int .u64 m6, .int .u64 r6] 61)).heap[w6.heap.size]? = some (.cells #[.int .u64 m1, .int .u64 r1, .int .u64 m2, .int .u64 r2, .int .u64 m3, .int .u64 r3, .int .u64 m4, .int .u64 r4, .int .u64 m5, .int .u64 r5, .int .u64 m6, .int .u64 r6] 61) := heap_new _ _
    have hBT : Below w.heap.size w (w6.alloc (.cells #[.int .u64 m1, .int .u64 r1, .int .u64 m2, .int .u64 r2, .int .u64 m3, .int .u64 r3, .int .u64 m4, .int .u64 r4, .int .u64 m5, .int .u64 r5, .int .u64 m6, .int .u64 r6] 61)) := by (repeat' (first | exact Below.refl _ _ | refine Below.setCell ?_ ?_ _ | refine Below.alloc ?_ ?_ _ | refine below_drewN ?_ _ | refine Below.trans ?_ (Below.mono (by assumption) ?_) | exact Nat.le_refl _ | omega | (simp only [World.size_alloc, World.size_setCell, World.size_drew] at *; omega)))
    go_loopw [13] (fun si wr => ∃ k : Nat, k ≤ 6 ∧ si = .int .i64 k ∧ wr.heap[w5.heap.size]? = some (.cells #[.int .u64 m1, .int .u64 r1, .int .u64 m2, .int .u64 r2, .int .u64 m3, .int .u64 r3, .int .u64 m4, .int .u64 r4, .int .u64 m5, .int .u64 r5, .int .u64 m6, .int .u64 r6] 59) ∧ wr.heap[w6.heap.size]? = some (.cells #[.int .u64 m1, .int .u64 r1, .int .u64 m2, .int .u64 r2, .int .u64 m3, .int .u64 r3, .int .u64 m4, .int .u64 r4, .int .u64 m5, .int .u64 r5, .int .u64 m6, .int .u64 r6] 61) ∧ Below w.heap.size w wr) (fun si _ => 6 - (intOf si).toNat)
    case atStart => exact ⟨0, by omega, rfl, hL0, hR0, hBT⟩
    case round =>
      obtain ⟨k, hk, rfl, hL, hR, hB⟩ := hrel
      have hLl := heap_lt hL
      have hRl := heap_lt hR
      have hkk : k = 0 ∨ k = 1 ∨ k = 2 ∨ k = 3 ∨ k = 4 ∨ k = 5 ∨ k = 6 := by omega
      clear hk hcw1 hfw1 hcw2 hfw2 hcw3 hfw3 hcw4 hfw4 hcw5 hfw5 hcw6 hfw6 hL0 hR0 hBT
      rcases hkk with rfl | rfl | rfl | rfl | rfl | rfl | rfl
      · have c1 : wr.cell? ⟨w5.heap.size, 0, none⟩ = some (.int .u64 m1) := by simp [World.cell?, hL]
        have c2 : wr.cell? ⟨w5.heap.size, 1, none⟩ = some (.int .u64 r1) := by simp [World.cell?, hL]
        have c3 : wr.cell? ⟨w6.heap.size, 0, none⟩ = some (.int .u64 m1) := by simp [World.cell?, hR]
        have c4 : wr.cell? ⟨w6.heap.size, 1, none⟩ = some (.int .u64 r1) := by simp [World.cell?, hR]
        go_wp2
        refine wp_all_below (by kernel_rfl) (by kernel_rfl) ?_; (repeat (go_big_quiet_step (first | with_reducible exact quietly (fun W => (V1 W).out) | with_reducible exact quietly (fun W => (U1 W).out)))); refine wpQuiet_nil ?_; intro wz hBwz; obtain ⟨hcwz, hfwz⟩ := bcell hBwz; have hzwz := hBwz.size; (try simp only [World.size_alloc, World.size_setCell, World.size_drew] at hzwz)
        go_wp2
        go_roundw
        case rel => exact ⟨1, by omega, rfl, by rw [hBwz.block _ hLl]; exact hL, by rw [hBwz.block _ hRl]; exact hR, hB.trans (hBwz.mono hB.size)⟩
        case measure => simp [intOf]
      · have c1 : wr.cell? ⟨w5.heap.size, 2, none⟩ = some (.int .u64 m2) := by simp [World.cell?, hL]
        have c2 : wr.cell? ⟨w5.heap.size, 3, none⟩ = some (.int .u64 r2) := by simp [World.cell?, hL]
        have c3 : wr.cell? ⟨w6.heap.size, 2, none⟩ = some (.int .u64 m2) := by simp [World.cell?, hR]
        have c4 : wr.cell? ⟨w6.heap.size, 3, none⟩ = some (.int .u64 r2) := by simp [World.cell?, hR]
        go_wp2
        refine wp_all_below (by kernel_rfl) (by kernel_rfl) ?_; (repeat (go_big_quiet_step (first | with_reducible exact quietly (fun W => (V2 W).out) | with_reducible exact quietly (fun W => (U2 W).out)))); refine wpQuiet_nil ?_; intro wz hBwz; obtain ⟨hcwz, hfwz⟩ := bcell hBwz; have hzwz := hBwz.size; (try simp only [World.size_alloc, World.size_setCell, World.size_drew] at hzwz)
        go_wp2
        go_roundw
        case rel => exact ⟨2, by omega, rfl, by rw [hBwz.block _ hLl]; exact hL, by rw [hBwz.block _ hRl]; exact hR, hB.trans (hBwz.mono hB.size)⟩
        case measure => simp [intOf]
      · have c1 : wr.cell? ⟨w5.heap.size, 4, none⟩ = some (.int .u64 m3) := by simp [World.cell?, hL]
        have c2 : wr.cell? ⟨w5.heap.size, 5, none⟩ = some (.int .u64 r3) := by simp [World.cell?, hL]
        have c3 : wr.cell? ⟨w6.heap.size, 4, none⟩ = some (.int .u64 m3) := by simp [World.cell?, hR]
        have c4 : wr.cell? ⟨w6.heap.size, 5, none⟩ = some (.int .u64 r3) := by simp [World.cell?, hR]
        go_wp2
        refine wp_all_below (by kernel_rfl) (by kernel_rfl) ?_; (repeat (go_big_quiet_step (first | with_reducible exact quietly (fun W => (V3 W).out) | with_reducible exact quietly (fun W => (U3 W).out)))); refine wpQuiet_nil ?_; intro wz hBwz; obtain ⟨hcwz, hfwz⟩ := bcell hBwz; have hzwz := hBwz.size; (try simp only [World.size_alloc, World.size_setCell, World.size_drew] at hzwz)
        go_wp2
        go_roundw
        case rel => exact ⟨3, by omega, rfl, by rw [hBwz.block _ hLl]; exact hL, by rw [hBwz.block _ hRl]; exact hR, hB.trans (hBwz.mono hB.size)⟩
        case measure => simp [intOf]
      · have c1 : wr.cell? ⟨w5.heap.size, 6, none⟩ = some (.int .u64 m4) := by simp [World.cell?, hL]
        have c2 : wr.cell? ⟨w5.heap.size, 7, none⟩ = some (.int .u64 r4) := by simp [World.cell?, hL]
        have c3 : wr.cell? ⟨w6.heap.size, 6, none⟩ = some (.int .u64 m4) := by simp [World.cell?, hR]
        have c4 : wr.cell? ⟨w6.heap.size, 7, none⟩ = some (.int .u64 r4) := by simp [World.cell?, hR]
        go_wp2
        refine wp_all_below (by kernel_rfl) (by kernel_rfl) ?_; (repeat (go_big_quiet_step (first | with_reducible exact quietly (fun W => (V4 W).out) | with_reducible exact quietly (fun W => (U4 W).out)))); refine wpQuiet_nil ?_; intro wz hBwz; obtain ⟨hcwz, hfwz⟩ := bcell hBwz; have hzwz := hBwz.size; (try simp only [World.size_alloc, World.size_setCell, World.size_drew] at hzwz)
        go_wp2
        go_roundw
        case rel => exact ⟨4, by omega, rfl, by rw [hBwz.block _ hLl]; exact hL, by rw [hBwz.block _ hRl]; exact hR, hB.trans (hBwz.mono hB.size)⟩
        case measure => simp [intOf]
      · have c1 : wr.cell? ⟨w5.heap.size, 8, none⟩ = some (.int .u64 m5) := by simp [World.cell?, hL]
        have c2 : wr.cell? ⟨w5.heap.size, 9, none⟩ = some (.int .u64 r5) := by simp [World.cell?, hL]
        have c3 : wr.cell? ⟨w6.heap.size, 8, none⟩ = some (.int .u64 m5) := by simp [World.cell?, hR]
        have c4 : wr.cell? ⟨w6.heap.size, 9, none⟩ = some (.int .u64 r5) := by simp [World.cell?, hR]
        go_wp2
        refine wp_all_below (by kernel_rfl) (by kernel_rfl) ?_; (repeat (go_big_quiet_step (first | with_reducible exact quietly (fun W => (V5 W).out) | with_reducible exact quietly (fun W => (U5 W).out)))); refine wpQuiet_nil ?_; intro wz hBwz; obtain ⟨hcwz, hfwz⟩ := bcell hBwz; have hzwz := hBwz.size; (try simp only [World.size_alloc, World.size_setCell, World.size_drew] at hzwz)
        go_wp2
        go_roundw
        case rel => exact ⟨5, by omega, rfl, by rw [hBwz.block _ hLl]; exact hL, by rw [hBwz.block _ hRl]; exact hR, hB.trans (hBwz.mono hB.size)⟩
        case measure => simp [intOf]
      · have c1 : wr.cell? ⟨w5.heap.size, 10, none⟩ = some (.int .u64 m6) := by simp [World.cell?, hL]
        have c2 : wr.cell? ⟨w5.heap.size, 11, none⟩ = some (.int .u64 r6) := by simp [World.cell?, hL]
        have c3 : wr.cell? ⟨w6.heap.size, 10, none⟩ = some (.int .u64 m6) := by simp [World.cell?, hR]
        have c4 : wr.cell? ⟨w6.heap.size, 11, none⟩ = some (.int .u64 r6) := by simp [World.cell?, hR]
        go_wp2
        refine wp_all_below (by kernel_rfl) (by kernel_rfl) ?_; (repeat (go_big_quiet_step (first | with_reducible exact quietly (fun W => (V6 W).out) | with_reducible exact quietly (fun W => (U6 W).out)))); refine wpQuiet_nil ?_; intro wz hBwz; obtain ⟨hcwz, hfwz⟩ := bcell hBwz; have hzwz := hBwz.size; (try simp only [World.size_alloc, World.size_setCell, World.size_drew] at hzwz)
        go_wp2
        go_roundw
        case rel => exact ⟨6, by omega, rfl, by rw [hBwz.block _ hLl]; exact hL, by rw [hBwz.block _ hRl]; exact hR, hB.trans (hBwz.mono hB.size)⟩
        case measure => simp [intOf]
      · go_wp2_with (go_at_call 24; refine (works_c _).mono ?_; rintro e wz ⟨rfl, hBwz⟩; obtain ⟨hcwz, hfwz⟩ := bcell hBwz; have hzwz := hBwz.size; (try simp only [World.size_alloc, World.size_setCell, World.size_drew] at hzwz))
        go_ret
        exact ⟨rfl, hB.trans (hBwz.mono hB.size)⟩

end Go.Proofs.Ytiefoahdikmilaa
