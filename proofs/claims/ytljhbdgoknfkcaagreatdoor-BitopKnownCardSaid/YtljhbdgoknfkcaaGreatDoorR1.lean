/- Contracts of the reference's small functions: the same values as the program's. -/
import Derived.Test.YtljhbdgoknfkcaaGreatDoorC3
namespace Go.Proofs.YtljhbdgoknfkcaaGreatDoor
open Go Go.RowKit Go.Sort
set_option linter.unusedVariables false
set_option linter.unusedSimpArgs false
set_option maxRecDepth 100000

theorem run_eql_rcong (m r m' r' : Int) (w : World) : (binOp .eql 41 (.agg #[.int .u64 m, .int .u64 r]) (.agg #[.int .u64 m', .int .u64 r'])).run Tryz.prog w = .ok (.bool (m == m' && r == r')) w := by
  have e3 : Tryz.prog.stoodInHeld 41 = false := by kernel_rfl
  rw [run_eql_struct, show (10000 : Nat) = 9999 + 1 from rfl, run_equalIn_agg w 9999 41 _ _ (by kernel_rfl) e3]
  by_cases h1 : m = m' <;> by_cases h2 : r = r' <;> simp [go_sem, h1, h2]
theorem run_neq_rcong (m r m' r' : Int) (w : World) : (binOp .neq 41 (.agg #[.int .u64 m, .int .u64 r]) (.agg #[.int .u64 m', .int .u64 r'])).run Tryz.prog w = .ok (.bool (!(m == m' && r == r'))) w := by
  have e3 : Tryz.prog.stoodInHeld 41 = false := by kernel_rfl
  rw [run_neq_struct, show (10000 : Nat) = 9999 + 1 from rfl, run_equalIn_agg w 9999 41 _ _ (by kernel_rfl) e3]
  by_cases h1 : m = m' <;> by_cases h2 : r = r' <;> simp [go_sem, h1, h2]

set_option maxHeartbeats 400000 in
theorem rminus_c (a b m : Int) (w : World) (ha : 0 ≤ a) (hb : 0 ≤ b) (hbm : b ≤ m) (ham : a ≤ m) (hm : m ≤ 18446744073709551615) :
    Calls Tryz.prog 210 #[.int .u64 a, .int .u64 b, .int .u64 m] w fun e w' => e = .returned (.int .u64 (cminus a b m)) ∧ w = w' := by
  by_cases h : a < b
  · go_enter Tryz.func210, Tryz.ntmps210
    go_wp2
    go_ret
    exact ⟨ret_int (by unfold cminus; rw [if_pos h]), rfl⟩
  · go_enter Tryz.func210, Tryz.ntmps210
    go_wp2
    go_ret
    exact ⟨ret_int (by unfold cminus; rw [if_neg (by omega)]), rfl⟩

set_option maxHeartbeats 400000 in
theorem rplus_c (a b m : Int) (w : World) (ha : 0 ≤ a) (hb : 0 ≤ b) (hbm : b < m) (ham : a < m) (hm : m ≤ 18446744073709551615) :
    Calls Tryz.prog 236 #[.int .u64 a, .int .u64 b, .int .u64 m] w fun e w' => e = .returned (.int .u64 ((a + b) % m)) ∧ w = w' := by
  by_cases h : m - b ≤ a
  · have Hc := Lib.hid (show (a + b) % m = a - (m - b) from emod_of (q := 1) (by omega) (by omega) (by omega))
    go_enter Tryz.func236, Tryz.ntmps236
    go_wp2
    go_ret
    exact ⟨ret_int Hc.out.symm, rfl⟩
  · have Hc := Lib.hid (show (a + b) % m = a + b from emod_of (q := 0) (by omega) (by omega) (by omega))
    go_enter Tryz.func236, Tryz.ntmps236
    go_wp2
    go_ret
    exact ⟨ret_int Hc.out.symm, rfl⟩

set_option maxHeartbeats 400000 in
theorem rrest_c (n m : Int) (w : World) (hn : -9223372036854775808 ≤ n) (hn' : n ≤ 9223372036854775807) (h0 : 0 < m) (hm : m ≤ 18446744073709551615) :
    Calls Tryz.prog 202 #[.int .i64 n, .int .u64 m] w fun e w' => e = .returned (.int .u64 (n % m)) ∧ w = w' := by
  by_cases h : 0 ≤ n
  · go_enter Tryz.func202, Tryz.ntmps202
    go_wp2
    go_ret
    exact ⟨rfl, rfl⟩
  · have e1 : IntKind.u64.wrap (-(n + 1)) = -(n + 1) := by simp only [IntKind.wrap_u64]; omega
    have Hc := Lib.hid (rest_neg' n m (by omega) h0)
    have r1 := emod_rng (-(n + 1)) m h0
    have hmn : m ≠ 0 := by omega
    obtain ⟨k, hk⟩ : ∃ k, -(n + 1) = k := ⟨_, rfl⟩
    rw [hk] at e1 Hc r1
    have hk0 : 0 ≤ k := by omega
    go_enter Tryz.func202, Tryz.ntmps202
    go_wp2
    go_ret
    exact ⟨ret_int Hc.out, rfl⟩

theorem rfar_c (a b : Int) (w : World) (ha : 0 ≤ a) (hb : 0 ≤ b) (ha' : a ≤ 18446744073709551615) (hb' : b ≤ 18446744073709551615) :
    Calls Tryz.prog 217 #[.int .u64 a, .int .u64 b] w fun e w' => e = .returned (.int .u64 (cdist a b)) ∧ w = w' := by
  by_cases h : a < b
  · have Hc := Lib.hid (show cdist a b = b - a by unfold cdist; rw [if_pos h])
    go_enter Tryz.func217, Tryz.ntmps217
    go_wp2
    go_ret
    exact ⟨ret_int Hc.out.symm, rfl⟩
  · have Hc := Lib.hid (show cdist a b = a - b by unfold cdist; rw [if_neg h])
    go_enter Tryz.func217, Tryz.ntmps217
    go_wp2
    go_ret
    exact ⟨ret_int Hc.out.symm, rfl⟩

set_option maxHeartbeats 400000 in
theorem rof_c (m r g : Int) (w : World) (hm : 0 ≤ m) (hm' : m ≤ 18446744073709551615) (hr : 0 ≤ r) (hr' : r ≤ 18446744073709551615) (h0 : 0 < g) (hg : g ≤ 18446744073709551615) :
    Calls Tryz.prog 211 #[.agg #[.int .u64 m, .int .u64 r], .int .u64 g] w fun e w' => e = .returned (.int .u64 (crest m r g)) ∧ Below w.heap.size w w' := by
  by_cases h : m = 0
  · have Hc := Lib.hid (show crest m r g = sg r % g from by unfold crest; rw [if_pos h])
    have e1 := sg_eq r
    have e1' := sg_eq' r
    have e2 := sg_rng r
    have hm0 : (m == 0) = true := by rw [h]; rfl
    clear h
    go_enter Tryz.func211, Tryz.ntmps211
    go_wp2_with (go_at_call 202; refine (rrest_c _ _ _ (by omega) (by omega) (by omega) (by omega)).mono ?_; rintro e w' ⟨rfl, rfl⟩)
    go_ret
    exact ⟨ret_int Hc.out.symm, (Below.refl _ _).alloc (Nat.le_refl _) _⟩
  · have Hc := Lib.hid (show crest m r g = r % g from by unfold crest; rw [if_neg h])
    have hm0 : (m == 0) = false := by simpa using h
    go_enter Tryz.func211, Tryz.ntmps211
    go_wp2_with fail
    go_ret
    exact ⟨ret_int Hc.out.symm, (Below.refl _ _).alloc (Nat.le_refl _) _⟩

theorem rgcd_any (k : Nat) : ∀ (a b : Int) (w : World), b.toNat ≤ k → 0 ≤ a → a ≤ 18446744073709551615 → 0 ≤ b → b ≤ 18446744073709551615 →
    Calls Tryz.prog 209 #[.int .u64 a, .int .u64 b] w fun e w' => e = .returned (.int .u64 (cg a b)) ∧ w = w' := by
  induction k with
  | zero =>
    intro a b w hk ha ha' hb hb'
    obtain rfl : b = 0 := by omega
    have Hc := Lib.hid (cg_zero a ha)
    go_enter Tryz.func209, Tryz.ntmps209
    go_wp2_with fail
    go_ret
    exact ⟨ret_int Hc.out.symm, rfl⟩
  | succ k ih =>
    intro a b w hk ha ha' hb hb'
    by_cases h : b = 0
    · subst h
      have Hc := Lib.hid (cg_zero a ha)
      clear ih
      go_enter Tryz.func209, Tryz.ntmps209
      go_wp2_with fail
      go_ret
      exact ⟨ret_int Hc.out.symm, rfl⟩
    · have hb0 : (b == 0) = false := by simpa using h
      have r1 := emod_rng a b (by omega)
      have hC := fun W => Lib.hid (ih b (a % b) W (by omega) hb hb' r1.1 (by omega))
      simp only [cg_step] at hC
      clear ih
      go_enter Tryz.func209, Tryz.ntmps209
      go_wp2_with (go_at_call 209; refine ((hC _).out).mono ?_; rintro e w1 ⟨rfl, rfl⟩)
      go_ret
      exact ⟨rfl, rfl⟩
theorem rgcd_c (a b : Int) (w : World) (ha : 0 ≤ a) (ha' : a ≤ 18446744073709551615) (hb : 0 ≤ b) (hb' : b ≤ 18446744073709551615) :
    Calls Tryz.prog 209 #[.int .u64 a, .int .u64 b] w fun e w' => e = .returned (.int .u64 (cg a b)) ∧ w = w' := rgcd_any _ a b w (Nat.le_refl _) ha ha' hb hb'

set_option maxHeartbeats 400000 in
theorem rmake_c (m n : Int) (w : World) (hm : 0 ≤ m) (hm' : m ≤ 18446744073709551615) (hn : -9223372036854775808 ≤ n) (hn' : n ≤ 9223372036854775807) :
    Calls Tryz.prog 116 #[.int .u64 m, .int .i64 n] w fun e w' => e = .returned (.agg #[.int .u64 m, .int .u64 (cmake m n)]) ∧ Below w.heap.size w w' := by
  by_cases h : m = 0
  · subst h
    have Hc := Lib.hid (show cmake 0 n = us n from rfl)
    have e1 := us_eq n
    go_enter Tryz.func116, Tryz.ntmps116
    go_wp2
    exact bodyPost_ret (v := .agg #[.int .u64 0, .int .u64 (us n)]) (by simp [results, Tryz.results116, go_sem, us_eq]) rfl ⟨by rw [Hc.out], by (repeat' (first | exact Below.refl _ _ | refine Below.setCell ?_ ?_ _ | refine Below.alloc ?_ ?_ _ | refine below_drewN ?_ _ | refine Below.trans ?_ (Below.mono (by assumption) ?_) | exact Nat.le_refl _ | omega | (simp only [World.size_alloc, World.size_setCell, World.size_drew] at *; omega)))⟩
  · have hm0 : (m == 0) = false := by simpa using h
    have Hc := Lib.hid (show cmake m n = n % m from by unfold cmake; rw [if_neg h])
    go_enter Tryz.func116, Tryz.ntmps116
    go_wp2_with (go_at_call 202; refine (rrest_c _ _ _ (by omega) (by omega) (by omega) (by omega)).mono ?_; rintro e w' ⟨rfl, rfl⟩)
    exact bodyPost_ret (v := .agg #[.int .u64 m, .int .u64 (n % m)]) (by simp [results, Tryz.results116, go_sem]) rfl ⟨by rw [Hc.out], by (repeat' (first | exact Below.refl _ _ | refine Below.setCell ?_ ?_ _ | refine Below.alloc ?_ ?_ _ | refine below_drewN ?_ _ | refine Below.trans ?_ (Below.mono (by assumption) ?_) | exact Nat.le_refl _ | omega | (simp only [World.size_alloc, World.size_setCell, World.size_drew] at *; omega)))⟩

set_option maxHeartbeats 400000 in
theorem rhas_c (m r n : Int) (w : World) (hm : 0 ≤ m) (hm' : m ≤ 18446744073709551615) (hn : -9223372036854775808 ≤ n) (hn' : n ≤ 9223372036854775807) :
    Calls Tryz.prog 102 #[.agg #[.int .u64 m, .int .u64 r], .int .i64 n] w fun e w' => e = .returned (.bool (chas m r n)) ∧ Below w.heap.size w w' := by
  have gc := grown_cell
  by_cases h : m = 0
  · subst h
    have Hc := Lib.hid (show chas 0 r n = (us n == r) from rfl)
    have e1 := us_eq n
    go_enter Tryz.func102, Tryz.ntmps102
    go_wp2
    go_ret
    exact ⟨bool_of _ _ Hc.out.symm, by (repeat' (first | exact Below.refl _ _ | refine Below.setCell ?_ ?_ _ | refine Below.alloc ?_ ?_ _ | refine below_drewN ?_ _ | refine Below.trans ?_ (Below.mono (by assumption) ?_) | exact Nat.le_refl _ | omega | (simp only [World.size_alloc, World.size_setCell, World.size_drew] at *; omega)))⟩
  · have hm0 : (m == 0) = false := by simpa using h
    have Hc := Lib.hid (show chas m r n = (n % m == r) from by unfold chas; rw [if_neg h])
    have C1 := fun W => Lib.hid (rrest_c n m W hn hn' (by omega) hm')
    generalize n % m = x at *
    go_enter Tryz.func102, Tryz.ntmps102
    go_wp2
    refine wp_all_below (by kernel_rfl) (by kernel_rfl) ?_; (repeat (go_big_quiet_step (first | with_reducible exact quietly_same (fun W => (C1 W).out)))); refine wpQuiet_nil ?_; intro w1 hBw1; obtain ⟨hcw1, hfw1⟩ := bcell hBw1; have hzw1 := hBw1.size; (try simp only [World.size_alloc, World.size_setCell, World.size_drew] at hzw1); have hlw1_0 : w.heap.size < w1.heap.size := (by omega)
    go_wp2
    go_ret
    exact ⟨bool_of _ _ Hc.out.symm, by (repeat' (first | exact Below.refl _ _ | refine Below.setCell ?_ ?_ _ | refine Below.alloc ?_ ?_ _ | refine below_drewN ?_ _ | refine Below.trans ?_ (Below.mono (by assumption) ?_) | exact Nat.le_refl _ | omega | (simp only [World.size_alloc, World.size_setCell, World.size_drew] at *; omega)))⟩

theorem cwithin_zero (am ar br : Int) (har : 0 ≤ ar) (har' : ar ≤ 18446744073709551615) : cwithin am ar 0 br = (am == 0 && ar == br) := by
  unfold cwithin chas
  by_cases h : am = 0
  · simp [h, us_sg ar har har']
  · simp [h]
theorem cwithin_pos (am ar bm br : Int) (hb : bm ≠ 0) : cwithin am ar bm br = (am % bm == 0 && crest am ar bm == br) := by
  unfold cwithin chas crest
  by_cases h : am = 0
  · subst h; simp [hb]
  · simp [h, hb]

set_option maxHeartbeats 400000 in
theorem rwithin_c (am ar bm br : Int) (w : World) (ha : 0 ≤ am) (ha' : am ≤ 18446744073709551615) (har : 0 ≤ ar) (har' : ar ≤ 18446744073709551615) (hb : 0 ≤ bm) (hb' : bm ≤ 18446744073709551615) :
    Calls Tryz.prog 218 #[.agg #[.int .u64 am, .int .u64 ar], .agg #[.int .u64 bm, .int .u64 br]] w fun e w' => e = .returned (.bool (cwithin am ar bm br)) ∧ Below w.heap.size w w' := by
  have gc := grown_cell
  have heq := run_eql_rcong
  by_cases h : bm = 0
  · subst h
    have Hc := Lib.hid (cwithin_zero am ar br har har')
    go_enter Tryz.func218, Tryz.ntmps218
    go_wp2
    go_ret
    exact ⟨bool_of _ _ Hc.out.symm, by (repeat' (first | exact Below.refl _ _ | refine Below.setCell ?_ ?_ _ | refine Below.alloc ?_ ?_ _ | refine below_drewN ?_ _ | refine Below.trans ?_ (Below.mono (by assumption) ?_) | exact Nat.le_refl _ | omega | (simp only [World.size_alloc, World.size_setCell, World.size_drew] at *; omega)))⟩
  · have hm0 : (bm == 0) = false := by simpa using h
    have Hc := Lib.hid (cwithin_pos am ar bm br h)
    have C1 := fun W => Lib.hid (rof_c am ar bm W ha ha' har har' (by omega) hb')
    generalize crest am ar bm = x at *
    have r1 := emod_rng am bm (by omega)
    by_cases h3 : am % bm = 0
    · have hm3 : (am % bm == 0) = true := by simpa using h3
      have Hc := Lib.hid (show cwithin am ar bm br = (x == br) by rw [Hc.out, hm3]; rfl)
      clear h3
      go_enter Tryz.func218, Tryz.ntmps218
      go_wp2
      refine wp_all_below (by kernel_rfl) (by kernel_rfl) ?_; (repeat (go_big_quiet_step (first | with_reducible exact quietly (fun W => (C1 W).out)))); refine wpQuiet_nil ?_; intro w1 hBw1; obtain ⟨hcw1, hfw1⟩ := bcell hBw1; have hzw1 := hBw1.size; (try simp only [World.size_alloc, World.size_setCell, World.size_drew] at hzw1); have hlw1_0 : w.heap.size < w1.heap.size := (by omega); have hlw1_1 : w.heap.size + 1 < w1.heap.size := (by omega)
      go_wp2
      go_ret
      exact ⟨bool_of _ _ Hc.out.symm, by (repeat' (first | exact Below.refl _ _ | refine Below.setCell ?_ ?_ _ | refine Below.alloc ?_ ?_ _ | refine below_drewN ?_ _ | refine Below.trans ?_ (Below.mono (by assumption) ?_) | exact Nat.le_refl _ | omega | (simp only [World.size_alloc, World.size_setCell, World.size_drew] at *; omega)))⟩
    · have hm3 : (am % bm == 0) = false := by simpa using h3
      have Hc := Lib.hid (show cwithin am ar bm br = false by rw [Hc.out, hm3]; rfl)
      clear h3
      go_enter Tryz.func218, Tryz.ntmps218
      go_wp2
      refine wp_all_below (by kernel_rfl) (by kernel_rfl) ?_; (repeat (go_big_quiet_step (first | with_reducible exact quietly (fun W => (C1 W).out)))); refine wpQuiet_nil ?_; intro w1 hBw1; obtain ⟨hcw1, hfw1⟩ := bcell hBw1; have hzw1 := hBw1.size; (try simp only [World.size_alloc, World.size_setCell, World.size_drew] at hzw1); have hlw1_0 : w.heap.size < w1.heap.size := (by omega); have hlw1_1 : w.heap.size + 1 < w1.heap.size := (by omega)
      go_wp2
      go_ret
      exact ⟨bool_of _ _ Hc.out.symm, by (repeat' (first | exact Below.refl _ _ | refine Below.setCell ?_ ?_ _ | refine Below.alloc ?_ ?_ _ | refine below_drewN ?_ _ | refine Below.trans ?_ (Below.mono (by assumption) ?_) | exact Nat.le_refl _ | omega | (simp only [World.size_alloc, World.size_setCell, World.size_drew] at *; omega)))⟩

/-! Contracts of the reference: least and greatest numbers, how many; sums, differences, products. -/
set_option maxHeartbeats 1000000 in
theorem rsub_c (am ar bm br : Int) (w : World) (ha : 0 ≤ am) (ha' : am ≤ 18446744073709551615) (har : 0 ≤ ar) (har' : ar ≤ 18446744073709551615) (hb : 0 ≤ bm) (hb' : bm ≤ 18446744073709551615) (hbr : 0 ≤ br) (hbr' : br ≤ 18446744073709551615) :
    Calls Tryz.prog 115 #[.agg #[.int .u64 am, .int .u64 ar], .agg #[.int .u64 bm, .int .u64 br]] w fun e w' => e = .returned (.agg #[.int .u64 (csub am ar bm br).1, .int .u64 (csub am ar bm br).2]) ∧ Below w.heap.size w w' := by
  have gc := grown_cell
  by_cases h : am = 0 ∧ bm = 0
  · obtain ⟨rfl, rfl⟩ := h
    have Hc := Lib.hid (show csub 0 ar 0 br = (0, us (ar - br)) from by simp [csub])
    have e1 := us_eq (ar - br)
    go_enter Tryz.func115, Tryz.ntmps115
    go_wp2
    exact bodyPost_ret (v := .agg #[.int .u64 0, .int .u64 (us (ar - br))]) (by simp [results, Tryz.results115, go_sem, us_eq]) rfl ⟨by rw [Hc.out], by (repeat' (first | exact Below.refl _ _ | refine Below.setCell ?_ ?_ _ | refine Below.alloc ?_ ?_ _ | refine below_drewN ?_ _ | refine Below.trans ?_ (Below.mono (by assumption) ?_) | exact Nat.le_refl _ | omega | (simp only [World.size_alloc, World.size_setCell, World.size_drew] at *; omega)))⟩
  · have Hc := Lib.hid (show csub am ar bm br = _ from by unfold csub; rw [if_neg h])
    have hg := cg_pos h
    have hgB : cg am bm ≤ 18446744073709551615 := cg_bd ha hb ha' hb'
    have hx := crest_rng am ar (cg am bm) hg
    have hy := crest_rng bm br (cg am bm) hg
    generalize hgg : cg am bm = g at *
    generalize hxx : crest am ar g = x at *
    generalize hyy : crest bm br g = y at *
    have C1 := fun W => Lib.hid (rgcd_c am bm W ha ha' hb hb')
    have C2 := fun W => Lib.hid (rof_c am ar g W ha ha' har har' hg hgB)
    have C3 := fun W => Lib.hid (rof_c bm br g W hb hb' hbr hbr' hg hgB)
    rw [hgg] at C1
    rw [hxx] at C2
    rw [hyy] at C3
    have C4 := fun W => Lib.hid (rminus_c x y g W hx.1 hy.1 (by omega) (by omega) hgB)
    have C5 := C4
    have hz2 := cminus_mod hx.1 hx.2 hy.1 hy.2
    generalize cminus x y g = z at *
    have Hz := Lib.hid (show (x - y) % g = z by rw [hz2])
    clear hz2
    have hguard : (am == 0) = false ∨ (am == 0) = true ∧ (bm == 0) = false := by
      by_cases h0 : am = 0
      · right; exact ⟨by simpa using h0, by simp; omega⟩
      · left; simpa using h0
    clear hgg hxx hyy h
    rcases hguard with hg0 | ⟨hg0, hg1⟩
    all_goals
      go_enter Tryz.func115, Tryz.ntmps115
      go_wp2_with (go_at_call 209; refine ((C1 _).out).mono ?_; rintro e w1 ⟨rfl, rfl⟩)
      refine wp_head_below 10 (by kernel_rfl) (by kernel_rfl) ?_; simp only [List.take_succ_cons, List.take_zero, List.drop_succ_cons, List.drop_zero]; (repeat (go_big_quiet_step (first | with_reducible exact quietly (fun W => (C2 W).out) | with_reducible exact quietly (fun W => (C3 W).out) | with_reducible exact quietly_same (fun W => (C4 W).out) | with_reducible exact quietly_same (fun W => (C5 W).out)))); refine wpQuiet_nil ?_; intro w2 hBw2; obtain ⟨hcw2, hfw2⟩ := bcell hBw2; have hzw2 := hBw2.size; (try simp only [World.size_alloc, World.size_setCell, World.size_drew] at hzw2); have hlw2_0 : w.heap.size < w2.heap.size := (by omega); have hlw2_1 : w.heap.size + 1 < w2.heap.size := (by omega); have hlw2_2 : w.heap.size + 1 + 1 < w2.heap.size := (by omega)
      go_wp2
      exact bodyPost_ret (v := .agg #[.int .u64 g, .int .u64 z]) (by simp [results, Tryz.results115, go_sem, hcw2, hfw2, hlw2_0, hlw2_1, hlw2_2]) rfl ⟨by rw [Hc.out, Hz.out], by (repeat' (first | exact Below.refl _ _ | refine Below.setCell ?_ ?_ _ | refine Below.alloc ?_ ?_ _ | refine below_drewN ?_ _ | refine Below.trans ?_ (Below.mono (by assumption) ?_) | exact Nat.le_refl _ | omega | (simp only [World.size_alloc, World.size_setCell, World.size_drew] at *; omega)))⟩

set_option maxHeartbeats 1000000 in
theorem radd_c (am ar bm br : Int) (w : World) (ha : 0 ≤ am) (ha' : am ≤ 18446744073709551615) (har : 0 ≤ ar) (har' : ar ≤ 18446744073709551615) (hb : 0 ≤ bm) (hb' : bm ≤ 18446744073709551615) (hbr : 0 ≤ br) (hbr' : br ≤ 18446744073709551615) :
    Calls Tryz.prog 173 #[.agg #[.int .u64 am, .int .u64 ar], .agg #[.int .u64 bm, .int .u64 br]] w fun e w' => e = .returned (.agg #[.int .u64 (cadd am ar bm br).1, .int .u64 (cadd am ar bm br).2]) ∧ Below w.heap.size w w' := by
  have gc := grown_cell
  by_cases h : am = 0 ∧ bm = 0
  · obtain ⟨rfl, rfl⟩ := h
    have Hc := Lib.hid (show cadd 0 ar 0 br = (0, us (ar + br)) from by simp [cadd])
    have e1 := us_eq (ar + br)
    go_enter Tryz.func173, Tryz.ntmps173
    go_wp2
    exact bodyPost_ret (v := .agg #[.int .u64 0, .int .u64 (us (ar + br))]) (by simp [results, Tryz.results173, go_sem, us_eq]) rfl ⟨by rw [Hc.out], by (repeat' (first | exact Below.refl _ _ | refine Below.setCell ?_ ?_ _ | refine Below.alloc ?_ ?_ _ | refine below_drewN ?_ _ | refine Below.trans ?_ (Below.mono (by assumption) ?_) | exact Nat.le_refl _ | omega | (simp only [World.size_alloc, World.size_setCell, World.size_drew] at *; omega)))⟩
  · have Hc := Lib.hid (show cadd am ar bm br = _ from by unfold cadd; rw [if_neg h])
    have hg := cg_pos h
    have hgB : cg am bm ≤ 18446744073709551615 := cg_bd ha hb ha' hb'
    have hx := crest_rng am ar (cg am bm) hg
    have hy := crest_rng bm br (cg am bm) hg
    generalize hgg : cg am bm = g at *
    generalize hxx : crest am ar g = x at *
    generalize hyy : crest bm br g = y at *
    have C1 := fun W => Lib.hid (rgcd_c am bm W ha ha' hb hb')
    have C2 := fun W => Lib.hid (rof_c am ar g W ha ha' har har' hg hgB)
    have C3 := fun W => Lib.hid (rof_c bm br g W hb hb' hbr hbr' hg hgB)
    rw [hgg] at C1
    rw [hxx] at C2
    rw [hyy] at C3
    have C4 := fun W => Lib.hid (rplus_c x y g W hx.1 hy.1 hy.2 hx.2 hgB)
    have C5 := C4
    generalize hzz : (x + y) % g = z at *
    have Hz := Lib.hid hzz
    clear hzz
    have hguard : (am == 0) = false ∨ (am == 0) = true ∧ (bm == 0) = false := by
      by_cases h0 : am = 0
      · right; exact ⟨by simpa using h0, by simp; omega⟩
      · left; simpa using h0
    clear hgg hxx hyy h
    rcases hguard with hg0 | ⟨hg0, hg1⟩
    all_goals
      go_enter Tryz.func173, Tryz.ntmps173
      go_wp2_with (go_at_call 209; refine ((C1 _).out).mono ?_; rintro e w1 ⟨rfl, rfl⟩)
      refine wp_head_below 10 (by kernel_rfl) (by kernel_rfl) ?_; simp only [List.take_succ_cons, List.take_zero, List.drop_succ_cons, List.drop_zero]; (repeat (go_big_quiet_step (first | with_reducible exact quietly (fun W => (C2 W).out) | with_reducible exact quietly (fun W => (C3 W).out) | with_reducible exact quietly_same (fun W => (C4 W).out) | with_reducible exact quietly_same (fun W => (C5 W).out)))); refine wpQuiet_nil ?_; intro w2 hBw2; obtain ⟨hcw2, hfw2⟩ := bcell hBw2; have hzw2 := hBw2.size; (try simp only [World.size_alloc, World.size_setCell, World.size_drew] at hzw2); have hlw2_0 : w.heap.size < w2.heap.size := (by omega); have hlw2_1 : w.heap.size + 1 < w2.heap.size := (by omega); have hlw2_2 : w.heap.size + 1 + 1 < w2.heap.size := (by omega)
      go_wp2
      exact bodyPost_ret (v := .agg #[.int .u64 g, .int .u64 z]) (by simp [results, Tryz.results173, go_sem, hcw2, hfw2, hlw2_0, hlw2_1, hlw2_2]) rfl ⟨by rw [Hc.out], by (repeat' (first | exact Below.refl _ _ | refine Below.setCell ?_ ?_ _ | refine Below.alloc ?_ ?_ _ | refine below_drewN ?_ _ | refine Below.trans ?_ (Below.mono (by assumption) ?_) | exact Nat.le_refl _ | omega | (simp only [World.size_alloc, World.size_setCell, World.size_drew] at *; omega)))⟩

end Go.Proofs.YtljhbdgoknfkcaaGreatDoor
