/- Contracts of package cong, one for each function that needs no product: whatever the congruences, in the ranges of their kinds. -/
import Derived.Test.YtcemohoigdninaaGreatDoorM
import Derived.Laws.StructEq
namespace Go.Proofs.YtcemohoigdninaaGreatDoor
open Go Go.RowKit Go.Sort
set_option linter.unusedVariables false
set_option linter.unusedSimpArgs false

theorem run_eql_cong (m r m' r' : Int) (w : World) : (binOp .eql 29 (.agg #[.int .u64 m, .int .u64 r]) (.agg #[.int .u64 m', .int .u64 r'])).run Tryz.prog w = .ok (.bool (m == m' && r == r')) w := by
  have e3 : Tryz.prog.stoodInHeld 29 = false := by kernel_rfl
  rw [run_eql_struct, show (10000 : Nat) = 9999 + 1 from rfl, run_equalIn_agg w 9999 29 _ _ (by kernel_rfl) e3]
  by_cases h1 : m = m' <;> by_cases h2 : r = r' <;> simp [go_sem, h1, h2]
theorem run_neq_cong (m r m' r' : Int) (w : World) : (binOp .neq 29 (.agg #[.int .u64 m, .int .u64 r]) (.agg #[.int .u64 m', .int .u64 r'])).run Tryz.prog w = .ok (.bool (!(m == m' && r == r'))) w := by
  have e3 : Tryz.prog.stoodInHeld 29 = false := by kernel_rfl
  rw [run_neq_struct, show (10000 : Nat) = 9999 + 1 from rfl, run_equalIn_agg w 9999 29 _ _ (by kernel_rfl) e3]
  by_cases h1 : m = m' <;> by_cases h2 : r = r' <;> simp [go_sem, h1, h2]

set_option maxHeartbeats 400000 in
theorem minus_c (a b m : Int) (w : World) (ha : 0 ≤ a) (hb : 0 ≤ b) (hbm : b ≤ m) (ham : a ≤ m) (hm : m ≤ 18446744073709551615) :
    Calls Tryz.prog 127 #[.int .u64 a, .int .u64 b, .int .u64 m] w fun e w' => e = .returned (.int .u64 (cminus a b m)) ∧ w = w' := by
  by_cases h : a < b
  · go_enter Tryz.func127, Tryz.ntmps127
    go_wp2
    go_ret
    exact ⟨ret_int (by unfold cminus; rw [if_pos h]), rfl⟩
  · go_enter Tryz.func127, Tryz.ntmps127
    go_wp2
    go_ret
    exact ⟨ret_int (by unfold cminus; rw [if_neg (by omega)]), rfl⟩

set_option maxHeartbeats 400000 in
theorem rest_c (n m : Int) (w : World) (hn : -9223372036854775808 ≤ n) (hn' : n ≤ 9223372036854775807) (h0 : 0 < m) (hm : m ≤ 18446744073709551615) :
    Calls Tryz.prog 62 #[.int .i64 n, .int .u64 m] w fun e w' => e = .returned (.int .u64 (n % m)) ∧ w = w' := by
  by_cases h : 0 ≤ n
  · go_enter Tryz.func62, Tryz.ntmps62
    go_wp2
    go_ret
    exact ⟨rfl, rfl⟩
  · have e1 : IntKind.u64.wrap (-IntKind.u64.wrap n) = -n := by simp only [IntKind.wrap_u64]; omega
    obtain ⟨q, hq, hq0, hq1, H⟩ := rest_neg n m (by omega) h0
    go_enter Tryz.func62, Tryz.ntmps62
    go_wp2_with (go_at_call 127; refine (minus_c _ _ _ _ (by omega) (by omega) (by omega) (by omega) (by omega)).mono ?_; rintro e w' ⟨rfl, rfl⟩)
    go_ret
    exact ⟨ret_int H.out, rfl⟩

set_option maxHeartbeats 400000 in
theorem crest_c (m r g : Int) (w : World) (hm : 0 ≤ m) (hm' : m ≤ 18446744073709551615) (hr : 0 ≤ r) (hr' : r ≤ 18446744073709551615) (h0 : 0 < g) (hg : g ≤ 18446744073709551615) :
    Calls Tryz.prog 203 #[.agg #[.int .u64 m, .int .u64 r], .int .u64 g] w fun e w' => e = .returned (.int .u64 (crest m r g)) ∧ Below w.heap.size w w' := by
  by_cases h : m = 0
  · have Hc := Lib.hid (show crest m r g = sg r % g from by unfold crest; rw [if_pos h])
    have e1 := sg_eq r
    have e1' := sg_eq' r
    have e2 := sg_rng r
    have hm0 : (m == 0) = true := by rw [h]; rfl
    clear h
    go_enter Tryz.func203, Tryz.ntmps203
    go_wp2_with (go_at_call 62; refine (rest_c _ _ _ (by omega) (by omega) (by omega) (by omega)).mono ?_; rintro e w' ⟨rfl, rfl⟩)
    go_ret
    exact ⟨ret_int Hc.out.symm, (Below.refl _ _).alloc (Nat.le_refl _) _⟩
  · have Hc := Lib.hid (show crest m r g = r % g from by unfold crest; rw [if_neg h])
    have hm0 : (m == 0) = false := by simpa using h
    go_enter Tryz.func203, Tryz.ntmps203
    go_wp2_with fail
    go_ret
    exact ⟨ret_int Hc.out.symm, (Below.refl _ _).alloc (Nat.le_refl _) _⟩

set_option maxHeartbeats 400000 in
theorem gcd_c (a b : Int) (w : World) (ha : 0 ≤ a) (ha' : a ≤ 18446744073709551615) (hb : 0 ≤ b) (hb' : b ≤ 18446744073709551615) :
    Calls Tryz.prog 202 #[.int .u64 a, .int .u64 b] w fun e w' => e = .returned (.int .u64 (cg a b)) ∧ Below w.heap.size w w' := by
  go_enter Tryz.func202, Tryz.ntmps202
  go_wp2
  go_step3
  go_wp2
  go_step3
  go_wp2
  go_loopw [0, 1] (fun x y wr => ∃ p q : Int, x = .int .u64 p ∧ y = .int .u64 q ∧ 0 ≤ p ∧ p ≤ 18446744073709551615 ∧ 0 ≤ q ∧ q ≤ 18446744073709551615 ∧ Hid (cg p q = cg a b) ∧ Below w.heap.size w wr) (fun _ y _ => (intOf y).toNat)
  case atStart => exact ⟨a, b, rfl, rfl, ha, ha', hb, hb', rfl, Below.refl _ _⟩
  case round =>
    obtain ⟨p, q, rfl, rfl, hp, hp', hq, hq', H, hB⟩ := hrel
    by_cases h : q = 0
    · have hq0 : (q == 0) = true := by rw [h]; rfl
      have Hc := Lib.hid (show p = cg a b from by have := H.out; rw [h, cg_zero p hp] at this; exact this)
      clear h H
      go_wp2
      rw [Exit.noGoto_ret]
      go_ret
      exact ⟨ret_int Hc.out, hB⟩
    · have hq0 : (q == 0) = false := by simpa using h
      have hm1 := emod_rng p q (by omega)
      have Hc := Lib.hid (show cg q (p % q) = cg a b from by rw [cg_step]; exact H.out)
      clear h H
      go_wp2
      go_quiet (fail)
      go_wp2
      go_roundw
      case rel => exact ⟨q, p % q, rfl, rfl, by omega, by omega, by omega, by omega, Hc, below_drewN hB _⟩
      case measure => simp [intOf]; omega

theorem bool_of (a b : Bool) (h : a = b) : Ending.returned (.bool a) = .returned (.bool b) := by rw [h]

set_option maxHeartbeats 400000 in
theorem top_c (w : World) : Calls Tryz.prog 60 #[] w fun e w' => e = .returned (.agg #[.int .u64 1, .int .u64 0]) ∧ Below w.heap.size w w' := by
  go_enter Tryz.func60, Tryz.ntmps60
  go_wp2
  exact bodyPost_ret (v := .agg #[.int .u64 1, .int .u64 0]) (by simp [results, Tryz.results60, go_sem]) rfl ⟨rfl, (Below.refl _ _).alloc (Nat.le_refl _) _⟩

set_option maxHeartbeats 400000 in
theorem const_c (n : Int) (w : World) : Calls Tryz.prog 61 #[.int .i64 n] w fun e w' => e = .returned (.agg #[.int .u64 0, .int .u64 (us n)]) ∧ Below w.heap.size w w' := by
  have e1 := us_eq n
  go_enter Tryz.func61, Tryz.ntmps61
  go_wp2
  exact bodyPost_ret (v := .agg #[.int .u64 0, .int .u64 (us n)]) (by simp [results, Tryz.results61, go_sem]) rfl ⟨rfl, (Below.refl _ _).alloc (Nat.le_refl _) _⟩

/-- the remainder of 'Make' -/
def cmake (m n : Int) : Int := if m = 0 then us n else n % m

set_option maxHeartbeats 400000 in
theorem make_c (m n : Int) (w : World) (hm : 0 ≤ m) (hm' : m ≤ 18446744073709551615) (hn : -9223372036854775808 ≤ n) (hn' : n ≤ 9223372036854775807) :
    Calls Tryz.prog 9 #[.int .u64 m, .int .i64 n] w fun e w' => e = .returned (.agg #[.int .u64 m, .int .u64 (cmake m n)]) ∧ Below w.heap.size w w' := by
  by_cases h : m = 0
  · subst h
    go_enter Tryz.func9, Tryz.ntmps9
    go_wp2_with (go_at_call 61; refine (const_c _ _).mono ?_; rintro e w1 ⟨rfl, hb⟩; obtain ⟨hc, hf⟩ := bcell hb; have hz := hb.size)
    exact bodyPost_ret (v := .agg #[.int .u64 0, .int .u64 (us n)]) (by simp [results, Tryz.results9, go_sem, hc, hf]) rfl ⟨rfl, by (repeat' (first | exact Below.refl _ _ | refine Below.setCell ?_ ?_ _ | refine Below.alloc ?_ ?_ _ | refine below_drewN ?_ _ | refine Below.trans ?_ (Below.mono (by assumption) ?_) | exact Nat.le_refl _ | omega | (simp only [World.size_alloc, World.size_setCell, World.size_drew] at *; omega)))⟩
  · have hm0 : (m == 0) = false := by simpa using h
    have Hc := Lib.hid (show cmake m n = n % m from by unfold cmake; rw [if_neg h])
    go_enter Tryz.func9, Tryz.ntmps9
    go_wp2_with (go_at_call 62; refine (rest_c _ _ _ (by omega) (by omega) (by omega) (by omega)).mono ?_; rintro e w' ⟨rfl, rfl⟩)
    exact bodyPost_ret (v := .agg #[.int .u64 m, .int .u64 (n % m)]) (by simp [results, Tryz.results9, go_sem]) rfl ⟨by rw [Hc.out], (Below.refl _ _).alloc (Nat.le_refl _) _⟩


theorem chas_make (m r n : Int) : (cmake m n == r) = chas m r n := by
  unfold cmake chas; split <;> rfl
theorem cright_of (m r : Int) (h : cright m r = true) : m = 0 ∨ r < m := by simpa [cright] using h

set_option maxHeartbeats 400000 in
theorem right_c (m r : Int) (w : World) : Calls Tryz.prog 108 #[.agg #[.int .u64 m, .int .u64 r]] w fun e w' => e = .returned (.bool (cright m r)) ∧ Below w.heap.size w w' := by
  by_cases h : m = 0
  · have hm0 : (m == 0) = true := by rw [h]; rfl
    have Hc := Lib.hid (show cright m r = true from by simp [cright, h])
    clear h
    go_enter Tryz.func108, Tryz.ntmps108
    go_wp2
    go_ret
    exact ⟨bool_of _ _ Hc.out.symm, by (repeat' (first | exact Below.refl _ _ | refine Below.setCell ?_ ?_ _ | refine Below.alloc ?_ ?_ _ | refine below_drewN ?_ _ | refine Below.trans ?_ (Below.mono (by assumption) ?_) | exact Nat.le_refl _ | omega | (simp only [World.size_alloc, World.size_setCell, World.size_drew] at *; omega)))⟩
  · have hm0 : (m == 0) = false := by simpa using h
    have Hc := Lib.hid (show cright m r = decide (r < m) from by simp [cright, h])
    go_enter Tryz.func108, Tryz.ntmps108
    go_wp2
    go_ret
    exact ⟨bool_of _ _ Hc.out.symm, by (repeat' (first | exact Below.refl _ _ | refine Below.setCell ?_ ?_ _ | refine Below.alloc ?_ ?_ _ | refine below_drewN ?_ _ | refine Below.trans ?_ (Below.mono (by assumption) ?_) | exact Nat.le_refl _ | omega | (simp only [World.size_alloc, World.size_setCell, World.size_drew] at *; omega)))⟩

set_option maxHeartbeats 400000 in
theorem has_c (m r n : Int) (w : World) (hm : 0 ≤ m) (hm' : m ≤ 18446744073709551615) (hn : -9223372036854775808 ≤ n) (hn' : n ≤ 9223372036854775807) :
    Calls Tryz.prog 117 #[.agg #[.int .u64 m, .int .u64 r], .int .i64 n] w fun e w' => e = .returned (.bool (chas m r n)) ∧ Below w.heap.size w w' := by
  have Hc := Lib.hid (chas_make m r n)
  have gc := grown_cell
  have heq := run_eql_cong
  go_enter Tryz.func117, Tryz.ntmps117
  go_wp2_with fail
  refine wp_all_below (by kernel_rfl) (by kernel_rfl) ?_
  repeat (go_big_quiet_step (exact quietly (fun W => make_c _ _ W (by omega) (by omega) (by omega) (by omega))))
  refine wpQuiet_nil ?_
  intro w1 hb
  go_wp2
  go_ret
  exact ⟨bool_of _ _ Hc.out, by (repeat' (first | exact Below.refl _ _ | refine Below.setCell ?_ ?_ _ | refine Below.alloc ?_ ?_ _ | refine below_drewN ?_ _ | refine Below.trans ?_ (Below.mono (by assumption) ?_) | exact Nat.le_refl _ | omega | (simp only [World.size_alloc, World.size_setCell, World.size_drew] at *; omega)))⟩

set_option maxHeartbeats 400000 in
theorem within_c (am ar bm br : Int) (w : World) (ha : 0 ≤ am) (ha' : am ≤ 18446744073709551615) (har : 0 ≤ ar) (har' : ar ≤ 18446744073709551615) (hb : 0 ≤ bm) (hb' : bm ≤ 18446744073709551615) :
    Calls Tryz.prog 144 #[.agg #[.int .u64 am, .int .u64 ar], .agg #[.int .u64 bm, .int .u64 br]] w fun e w' => e = .returned (.bool (cwithin am ar bm br)) ∧ Below w.heap.size w w' := by
  by_cases h : am = 0
  · have Hc := Lib.hid (show cwithin am ar bm br = chas bm br (sg ar) from by simp [cwithin, h])
    have hm0 : (am == 0) = true := by rw [h]; rfl
    have e1' := sg_eq' ar
    have e2 := sg_rng ar
    clear h
    go_enter Tryz.func144, Tryz.ntmps144
    go_wp2_with (go_at_call 117; refine (has_c _ _ _ _ (by omega) (by omega) (by omega) (by omega)).mono ?_; rintro e w1 ⟨rfl, hB⟩)
    go_ret
    exact ⟨bool_of _ _ Hc.out.symm, by (repeat' (first | exact Below.refl _ _ | refine Below.setCell ?_ ?_ _ | refine Below.alloc ?_ ?_ _ | refine below_drewN ?_ _ | refine Below.trans ?_ (Below.mono (by assumption) ?_) | exact Nat.le_refl _ | omega | (simp only [World.size_alloc, World.size_setCell, World.size_drew] at *; omega)))⟩
  have hm0 : (am == 0) = false := by simpa using h
  by_cases h2 : bm = 0
  · have Hc := Lib.hid (show cwithin am ar bm br = false from by simp [cwithin, h, h2])
    have hm1 : (bm == 0) = true := by rw [h2]; rfl
    clear h h2
    go_enter Tryz.func144, Tryz.ntmps144
    go_wp2
    go_ret
    exact ⟨bool_of _ _ Hc.out.symm, by (repeat' (first | exact Below.refl _ _ | refine Below.setCell ?_ ?_ _ | refine Below.alloc ?_ ?_ _ | refine below_drewN ?_ _ | refine Below.trans ?_ (Below.mono (by assumption) ?_) | exact Nat.le_refl _ | omega | (simp only [World.size_alloc, World.size_setCell, World.size_drew] at *; omega)))⟩
  have hm1 : (bm == 0) = false := by simpa using h2
  have gc := grown_cell
  by_cases h3 : am % bm = 0
  · have Hc := Lib.hid (show cwithin am ar bm br = (ar % bm == br) from by simp [cwithin, h, h2, h3])
    have hm3 : (am % bm == 0) = true := by rw [h3]; rfl
    clear h h3
    go_enter Tryz.func144, Tryz.ntmps144
    go_wp2
    refine wp_all_below (by kernel_rfl) (by kernel_rfl) ?_
    repeat (go_big_quiet_step (fail))
    refine wpQuiet_nil ?_
    intro w1 hb
    go_wp2
    go_ret
    exact ⟨bool_of _ _ Hc.out.symm, by (repeat' (first | exact Below.refl _ _ | refine Below.setCell ?_ ?_ _ | refine Below.alloc ?_ ?_ _ | refine below_drewN ?_ _ | refine Below.trans ?_ (Below.mono (by assumption) ?_) | exact Nat.le_refl _ | omega | (simp only [World.size_alloc, World.size_setCell, World.size_drew] at *; omega)))⟩
  · have Hc := Lib.hid (show cwithin am ar bm br = false from by simp [cwithin, h, h2, h3])
    have hm3 : (am % bm == 0) = false := by simpa using h3
    clear h h3
    go_enter Tryz.func144, Tryz.ntmps144
    go_wp2
    refine wp_all_below (by kernel_rfl) (by kernel_rfl) ?_
    repeat (go_big_quiet_step (fail))
    refine wpQuiet_nil ?_
    intro w1 hb
    go_wp2
    go_ret
    exact ⟨bool_of _ _ Hc.out.symm, by (repeat' (first | exact Below.refl _ _ | refine Below.setCell ?_ ?_ _ | refine Below.alloc ?_ ?_ _ | refine below_drewN ?_ _ | refine Below.trans ?_ (Below.mono (by assumption) ?_) | exact Nat.le_refl _ | omega | (simp only [World.size_alloc, World.size_setCell, World.size_drew] at *; omega)))⟩

end Go.Proofs.YtcemohoigdninaaGreatDoor
