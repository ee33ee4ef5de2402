/- Contracts of package cong, one for each function that needs no product: whatever the congruences, in the ranges of their kinds. -/
import Derived.Test.YtljhbdgoknfkcaaGreatDoorM
import Derived.Laws.StructEq
import Derived.Test.YtljhbdgoknfkcaaGreatDoorShelf
import Derived.Lib.ItoaNum
import Derived.Deep.DeepCutAuto
import Derived.Deep.CutBlock
namespace Go.Proofs.YtljhbdgoknfkcaaGreatDoor
open Go Go.RowKit Go.Sort
set_option linter.unusedVariables false
set_option linter.unusedSimpArgs false

theorem run_eql_cong (m r m' r' : Int) (w : World) : (binOp .eql 29 (.agg #[.int .u64 m, .int .u64 r]) (.agg #[.int .u64 m', .int .u64 r'])).run Tryz.prog w = .ok (.bool (m == m' && r == r')) w := by
  have e3 : Tryz.prog.stoodInHeld 29 = false := by kernel_rfl
  rw [run_eql_struct, show (10000 : Nat) = 9999 + 1 from rfl, run_equalIn_agg w 9999 29 _ _ (by kernel_rfl) e3]
  by_cases h1 : m = m' <;> by_cases h2 : r = r' <;> simp [go_sem, h1, h2]
theorem run_neq_cong (m r m' r' : Int) (w : World) : (binOp .neq 29 (.agg #[.int .u64 m, .int .u64 r]) (.agg #[.int .u64 m', .int .u64 r'])).run Tryz.prog w = .ok (.bool (!(m == m' && r == r'))) w := by
  have e3 : Tryz.prog.stoodInHeld 29 = false := by kernel_rfl
  rw [run_neq_struct, show (10000 : Nat) = 9999 + 1 from rfl, run_equalIn_agg w 9999 29 _ _ (by kernel_rfl) e3]
  by_cases h1 : m = m' <;> by_cases h2 : r = r' <;> simp [go_sem, h1, h2]

set_option maxHeartbeats 400000 in
theorem minus_c (a b m : Int) (w : World) (ha : 0 ≤ a) (hb : 0 ≤ b) (hbm : b ≤ m) (ham : a ≤ m) (hm : m ≤ 18446744073709551615) :
    Calls Tryz.prog 135 #[.int .u64 a, .int .u64 b, .int .u64 m] w fun e w' => e = .returned (.int .u64 (cminus a b m)) ∧ w = w' := by
  by_cases h : a < b
  · go_enter Tryz.func135, Tryz.ntmps135
    go_wp2
    go_ret
    exact ⟨ret_int (by unfold cminus; rw [if_pos h]), rfl⟩
  · go_enter Tryz.func135, Tryz.ntmps135
    go_wp2
    go_ret
    exact ⟨ret_int (by unfold cminus; rw [if_neg (by omega)]), rfl⟩

set_option maxHeartbeats 400000 in
theorem rest_c (n m : Int) (w : World) (hn : -9223372036854775808 ≤ n) (hn' : n ≤ 9223372036854775807) (h0 : 0 < m) (hm : m ≤ 18446744073709551615) :
    Calls Tryz.prog 59 #[.int .i64 n, .int .u64 m] w fun e w' => e = .returned (.int .u64 (n % m)) ∧ w = w' := by
  by_cases h : 0 ≤ n
  · go_enter Tryz.func59, Tryz.ntmps59
    go_wp2
    go_ret
    exact ⟨rfl, rfl⟩
  · have e1 : IntKind.u64.wrap (-IntKind.u64.wrap n) = -n := by simp only [IntKind.wrap_u64]; omega
    obtain ⟨q, hq, hq0, hq1, H⟩ := rest_neg n m (by omega) h0
    go_enter Tryz.func59, Tryz.ntmps59
    go_wp2_with (go_at_call 135; refine (minus_c _ _ _ _ (by omega) (by omega) (by omega) (by omega) (by omega)).mono ?_; rintro e w' ⟨rfl, rfl⟩)
    go_ret
    exact ⟨ret_int H.out, rfl⟩

set_option maxHeartbeats 400000 in
theorem crest_c (m r g : Int) (w : World) (hm : 0 ≤ m) (hm' : m ≤ 18446744073709551615) (hr : 0 ≤ r) (hr' : r ≤ 18446744073709551615) (h0 : 0 < g) (hg : g ≤ 18446744073709551615) :
    Calls Tryz.prog 222 #[.agg #[.int .u64 m, .int .u64 r], .int .u64 g] w fun e w' => e = .returned (.int .u64 (crest m r g)) ∧ Below w.heap.size w w' := by
  by_cases h : m = 0
  · have Hc := Lib.hid (show crest m r g = sg r % g from by unfold crest; rw [if_pos h])
    have e1 := sg_eq r
    have e1' := sg_eq' r
    have e2 := sg_rng r
    have hm0 : (m == 0) = true := by rw [h]; rfl
    clear h
    go_enter Tryz.func222, Tryz.ntmps222
    go_wp2_with (go_at_call 59; refine (rest_c _ _ _ (by omega) (by omega) (by omega) (by omega)).mono ?_; rintro e w' ⟨rfl, rfl⟩)
    go_ret
    exact ⟨ret_int Hc.out.symm, (Below.refl _ _).alloc (Nat.le_refl _) _⟩
  · have Hc := Lib.hid (show crest m r g = r % g from by unfold crest; rw [if_neg h])
    have hm0 : (m == 0) = false := by simpa using h
    go_enter Tryz.func222, Tryz.ntmps222
    go_wp2_with fail
    go_ret
    exact ⟨ret_int Hc.out.symm, (Below.refl _ _).alloc (Nat.le_refl _) _⟩

set_option maxHeartbeats 400000 in
theorem gcd_c (a b : Int) (w : World) (ha : 0 ≤ a) (ha' : a ≤ 18446744073709551615) (hb : 0 ≤ b) (hb' : b ≤ 18446744073709551615) :
    Calls Tryz.prog 221 #[.int .u64 a, .int .u64 b] w fun e w' => e = .returned (.int .u64 (cg a b)) ∧ Below w.heap.size w w' := by
  go_enter Tryz.func221, Tryz.ntmps221
  go_wp2
  go_step3
  go_wp2
  go_step3
  go_wp2
  go_loopw [0, 1] (fun x y wr => ∃ p q : Int, x = .int .u64 p ∧ y = .int .u64 q ∧ 0 ≤ p ∧ p ≤ 18446744073709551615 ∧ 0 ≤ q ∧ q ≤ 18446744073709551615 ∧ Hid (cg p q = cg a b) ∧ Below w.heap.size w wr) (fun _ y _ => (intOf y).toNat)
  case atStart => exact ⟨a, b, rfl, rfl, ha, ha', hb, hb', rfl, Below.refl _ _⟩
  case round =>
    obtain ⟨p, q, rfl, rfl, hp, hp', hq, hq', H, hB⟩ := hrel
    by_cases h : q = 0
    · have hq0 : (q == 0) = true := by rw [h]; rfl
      have Hc := Lib.hid (show p = cg a b from by have := H.out; rw [h, cg_zero p hp] at this; exact this)
      clear h H
      go_wp2
      rw [Exit.noGoto_ret]
      go_ret
      exact ⟨ret_int Hc.out, hB⟩
    · have hq0 : (q == 0) = false := by simpa using h
      have hm1 := emod_rng p q (by omega)
      have Hc := Lib.hid (show cg q (p % q) = cg a b from by rw [cg_step]; exact H.out)
      clear h H
      go_wp2
      go_quiet (fail)
      go_wp2
      go_roundw
      case rel => exact ⟨q, p % q, rfl, rfl, by omega, by omega, by omega, by omega, Hc, below_drewN hB _⟩
      case measure => simp [intOf]; omega

theorem bool_of (a b : Bool) (h : a = b) : Ending.returned (.bool a) = .returned (.bool b) := by rw [h]

set_option maxHeartbeats 400000 in
theorem top_c (w : World) : Calls Tryz.prog 57 #[] w fun e w' => e = .returned (.agg #[.int .u64 1, .int .u64 0]) ∧ Below w.heap.size w w' := by
  go_enter Tryz.func57, Tryz.ntmps57
  go_wp2
  exact bodyPost_ret (v := .agg #[.int .u64 1, .int .u64 0]) (by simp [results, Tryz.results57, go_sem]) rfl ⟨rfl, (Below.refl _ _).alloc (Nat.le_refl _) _⟩

set_option maxHeartbeats 400000 in
theorem const_c (n : Int) (w : World) : Calls Tryz.prog 58 #[.int .i64 n] w fun e w' => e = .returned (.agg #[.int .u64 0, .int .u64 (us n)]) ∧ Below w.heap.size w w' := by
  have e1 := us_eq n
  go_enter Tryz.func58, Tryz.ntmps58
  go_wp2
  exact bodyPost_ret (v := .agg #[.int .u64 0, .int .u64 (us n)]) (by simp [results, Tryz.results58, go_sem]) rfl ⟨rfl, (Below.refl _ _).alloc (Nat.le_refl _) _⟩

/-- the remainder of 'Make' -/
def cmake (m n : Int) : Int := if m = 0 then us n else n % m

set_option maxHeartbeats 400000 in
theorem make_c (m n : Int) (w : World) (hm : 0 ≤ m) (hm' : m ≤ 18446744073709551615) (hn : -9223372036854775808 ≤ n) (hn' : n ≤ 9223372036854775807) :
    Calls Tryz.prog 11 #[.int .u64 m, .int .i64 n] w fun e w' => e = .returned (.agg #[.int .u64 m, .int .u64 (cmake m n)]) ∧ Below w.heap.size w w' := by
  by_cases h : m = 0
  · subst h
    go_enter Tryz.func11, Tryz.ntmps11
    go_wp2_with (go_at_call 58; refine (const_c _ _).mono ?_; rintro e w1 ⟨rfl, hb⟩; obtain ⟨hc, hf⟩ := bcell hb; have hz := hb.size)
    exact bodyPost_ret (v := .agg #[.int .u64 0, .int .u64 (us n)]) (by simp [results, Tryz.results11, go_sem, hc, hf]) rfl ⟨rfl, by (repeat' (first | exact Below.refl _ _ | refine Below.setCell ?_ ?_ _ | refine Below.alloc ?_ ?_ _ | refine below_drewN ?_ _ | refine Below.trans ?_ (Below.mono (by assumption) ?_) | exact Nat.le_refl _ | omega | (simp only [World.size_alloc, World.size_setCell, World.size_drew] at *; omega)))⟩
  · have hm0 : (m == 0) = false := by simpa using h
    have Hc := Lib.hid (show cmake m n = n % m from by unfold cmake; rw [if_neg h])
    go_enter Tryz.func11, Tryz.ntmps11
    go_wp2_with (go_at_call 59; refine (rest_c _ _ _ (by omega) (by omega) (by omega) (by omega)).mono ?_; rintro e w' ⟨rfl, rfl⟩)
    exact bodyPost_ret (v := .agg #[.int .u64 m, .int .u64 (n % m)]) (by simp [results, Tryz.results11, go_sem]) rfl ⟨by rw [Hc.out], (Below.refl _ _).alloc (Nat.le_refl _) _⟩


theorem chas_make (m r n : Int) : (cmake m n == r) = chas m r n := by
  unfold cmake chas; split <;> rfl
theorem cright_of (m r : Int) (h : cright m r = true) : m = 0 ∨ r < m := by simpa [cright] using h

set_option maxHeartbeats 400000 in
theorem right_c (m r : Int) (w : World) : Calls Tryz.prog 123 #[.agg #[.int .u64 m, .int .u64 r]] w fun e w' => e = .returned (.bool (cright m r)) ∧ Below w.heap.size w w' := by
  by_cases h : m = 0
  · have hm0 : (m == 0) = true := by rw [h]; rfl
    have Hc := Lib.hid (show cright m r = true from by simp [cright, h])
    clear h
    go_enter Tryz.func123, Tryz.ntmps123
    go_wp2
    go_ret
    exact ⟨bool_of _ _ Hc.out.symm, by (repeat' (first | exact Below.refl _ _ | refine Below.setCell ?_ ?_ _ | refine Below.alloc ?_ ?_ _ | refine below_drewN ?_ _ | refine Below.trans ?_ (Below.mono (by assumption) ?_) | exact Nat.le_refl _ | omega | (simp only [World.size_alloc, World.size_setCell, World.size_drew] at *; omega)))⟩
  · have hm0 : (m == 0) = false := by simpa using h
    have Hc := Lib.hid (show cright m r = decide (r < m) from by simp [cright, h])
    go_enter Tryz.func123, Tryz.ntmps123
    go_wp2
    go_ret
    exact ⟨bool_of _ _ Hc.out.symm, by (repeat' (first | exact Below.refl _ _ | refine Below.setCell ?_ ?_ _ | refine Below.alloc ?_ ?_ _ | refine below_drewN ?_ _ | refine Below.trans ?_ (Below.mono (by assumption) ?_) | exact Nat.le_refl _ | omega | (simp only [World.size_alloc, World.size_setCell, World.size_drew] at *; omega)))⟩

set_option maxHeartbeats 400000 in
theorem has_c (m r n : Int) (w : World) (hm : 0 ≤ m) (hm' : m ≤ 18446744073709551615) (hn : -9223372036854775808 ≤ n) (hn' : n ≤ 9223372036854775807) :
    Calls Tryz.prog 118 #[.agg #[.int .u64 m, .int .u64 r], .int .i64 n] w fun e w' => e = .returned (.bool (chas m r n)) ∧ Below w.heap.size w w' := by
  have Hc := Lib.hid (chas_make m r n)
  have gc := grown_cell
  have heq := run_eql_cong
  go_enter Tryz.func118, Tryz.ntmps118
  go_wp2_with fail
  refine wp_all_below (by kernel_rfl) (by kernel_rfl) ?_
  repeat (go_big_quiet_step (exact quietly (fun W => make_c _ _ W (by omega) (by omega) (by omega) (by omega))))
  refine wpQuiet_nil ?_
  intro w1 hb
  go_wp2
  go_ret
  exact ⟨bool_of _ _ Hc.out, by (repeat' (first | exact Below.refl _ _ | refine Below.setCell ?_ ?_ _ | refine Below.alloc ?_ ?_ _ | refine below_drewN ?_ _ | refine Below.trans ?_ (Below.mono (by assumption) ?_) | exact Nat.le_refl _ | omega | (simp only [World.size_alloc, World.size_setCell, World.size_drew] at *; omega)))⟩

set_option maxHeartbeats 400000 in
theorem within_c (am ar bm br : Int) (w : World) (ha : 0 ≤ am) (ha' : am ≤ 18446744073709551615) (har : 0 ≤ ar) (har' : ar ≤ 18446744073709551615) (hb : 0 ≤ bm) (hb' : bm ≤ 18446744073709551615) :
    Calls Tryz.prog 152 #[.agg #[.int .u64 am, .int .u64 ar], .agg #[.int .u64 bm, .int .u64 br]] w fun e w' => e = .returned (.bool (cwithin am ar bm br)) ∧ Below w.heap.size w w' := by
  by_cases h : am = 0
  · have Hc := Lib.hid (show cwithin am ar bm br = chas bm br (sg ar) from by simp [cwithin, h])
    have hm0 : (am == 0) = true := by rw [h]; rfl
    have e1' := sg_eq' ar
    have e2 := sg_rng ar
    clear h
    go_enter Tryz.func152, Tryz.ntmps152
    go_wp2_with (go_at_call 118; refine (has_c _ _ _ _ (by omega) (by omega) (by omega) (by omega)).mono ?_; rintro e w1 ⟨rfl, hB⟩)
    go_ret
    exact ⟨bool_of _ _ Hc.out.symm, by (repeat' (first | exact Below.refl _ _ | refine Below.setCell ?_ ?_ _ | refine Below.alloc ?_ ?_ _ | refine below_drewN ?_ _ | refine Below.trans ?_ (Below.mono (by assumption) ?_) | exact Nat.le_refl _ | omega | (simp only [World.size_alloc, World.size_setCell, World.size_drew] at *; omega)))⟩
  have hm0 : (am == 0) = false := by simpa using h
  by_cases h2 : bm = 0
  · have Hc := Lib.hid (show cwithin am ar bm br = false from by simp [cwithin, h, h2])
    have hm1 : (bm == 0) = true := by rw [h2]; rfl
    clear h h2
    go_enter Tryz.func152, Tryz.ntmps152
    go_wp2
    go_ret
    exact ⟨bool_of _ _ Hc.out.symm, by (repeat' (first | exact Below.refl _ _ | refine Below.setCell ?_ ?_ _ | refine Below.alloc ?_ ?_ _ | refine below_drewN ?_ _ | refine Below.trans ?_ (Below.mono (by assumption) ?_) | exact Nat.le_refl _ | omega | (simp only [World.size_alloc, World.size_setCell, World.size_drew] at *; omega)))⟩
  have hm1 : (bm == 0) = false := by simpa using h2
  have gc := grown_cell
  by_cases h3 : am % bm = 0
  · have Hc := Lib.hid (show cwithin am ar bm br = (ar % bm == br) from by simp [cwithin, h, h2, h3])
    have hm3 : (am % bm == 0) = true := by rw [h3]; rfl
    clear h h3
    go_enter Tryz.func152, Tryz.ntmps152
    go_wp2
    refine wp_all_below (by kernel_rfl) (by kernel_rfl) ?_
    repeat (go_big_quiet_step (fail))
    refine wpQuiet_nil ?_
    intro w1 hb
    go_wp2
    go_ret
    exact ⟨bool_of _ _ Hc.out.symm, by (repeat' (first | exact Below.refl _ _ | refine Below.setCell ?_ ?_ _ | refine Below.alloc ?_ ?_ _ | refine below_drewN ?_ _ | refine Below.trans ?_ (Below.mono (by assumption) ?_) | exact Nat.le_refl _ | omega | (simp only [World.size_alloc, World.size_setCell, World.size_drew] at *; omega)))⟩
  · have Hc := Lib.hid (show cwithin am ar bm br = false from by simp [cwithin, h, h2, h3])
    have hm3 : (am % bm == 0) = false := by simpa using h3
    clear h h3
    go_enter Tryz.func152, Tryz.ntmps152
    go_wp2
    refine wp_all_below (by kernel_rfl) (by kernel_rfl) ?_
    repeat (go_big_quiet_step (fail))
    refine wpQuiet_nil ?_
    intro w1 hb
    go_wp2
    go_ret
    exact ⟨bool_of _ _ Hc.out.symm, by (repeat' (first | exact Below.refl _ _ | refine Below.setCell ?_ ?_ _ | refine Below.alloc ?_ ?_ _ | refine below_drewN ?_ _ | refine Below.trans ?_ (Below.mono (by assumption) ?_) | exact Nat.le_refl _ | omega | (simp only [World.size_alloc, World.size_setCell, World.size_drew] at *; omega)))⟩

/-! math/bits.Div64 and Rem64, and the products of cong: for every y above hi. -/
theorem tup2 {a b c d : Value} (h : a = c) (h' : b = d) : Ending.returned (.tuple #[a, b]) = .returned (.tuple #[c, d]) := by rw [h, h']

theorem lead_c (y : Int) (w : World) (h0 : 0 < y) (h1 : y ≤ 18446744073709551615) :
    ∃ k : Nat, k ≤ 63 ∧ Hid (9223372036854775808 ≤ y * (2:Int)^k ∧ y * (2:Int)^k ≤ 18446744073709551615) ∧ Calls Tryz.prog 264 #[.int .u64 y] w fun e w' => e = .returned (.int .i64 (k : Int)) ∧ w = w' := by
  obtain ⟨n, rfl⟩ := Int.eq_ofNat_of_zero_le (show 0 ≤ y by omega)
  have hb := Lib.bitLenAux_bounds 64 n (by omega) (by omega)
  have hle := Lib.bitLen_le n 64 (by omega) (by omega)
  have hb' : 1 ≤ Lib.bitLen n ∧ 2 ^ (Lib.bitLen n - 1) ≤ n ∧ n < 2 ^ Lib.bitLen n := hb
  obtain ⟨L, hL⟩ : ∃ L, L = Lib.bitLen n := ⟨_, rfl⟩
  rw [← hL] at hb' hle
  refine ⟨64 - L, by omega, ?_, ?_⟩
  · have e1 : (2:Nat)^63 = 2^(L-1) * 2^(64-L) := by rw [← Nat.pow_add]; congr 1; omega
    have e2 : (2:Nat)^64 = 2^L * 2^(64-L) := by rw [← Nat.pow_add]; congr 1; omega
    have e3 := Nat.mul_le_mul_right (2^(64-L)) hb'.2.1
    have e4 := Nat.mul_lt_mul_of_pos_right hb'.2.2 (show 0 < 2^(64-L) from Nat.two_pow_pos _)
    rw [← e1] at e3
    rw [← e2] at e4
    have e5 : (n : Int) * 2 ^ (64 - L) = ((n * 2 ^ (64 - L) : Nat) : Int) := by push_cast; rfl
    show 9223372036854775808 ≤ (n : Int) * 2 ^ (64 - L) ∧ (n : Int) * 2 ^ (64 - L) ≤ 18446744073709551615
    rw [e5]
    omega
  · refine (Tryz.bits_LeadingZeros64 (n : Int) w (by omega) h1).mono ?_
    rintro e w' ⟨rfl, rfl⟩
    rw [Int.toNat_natCast, ← hL]
    exact ⟨ret_int (by omega), rfl⟩

set_option maxHeartbeats 1000000 in
theorem div_c (hi lo y : Int) (w : World) (h0 : 0 ≤ hi) (h1 : hi < y) (h2 : y ≤ 18446744073709551615) (h3 : 0 ≤ lo) (h4 : lo ≤ 18446744073709551615) :
    Calls Tryz.prog 261 #[.int .u64 hi, .int .u64 lo, .int .u64 y] w fun e w' => e = .returned (.tuple #[.int .u64 ((hi * 18446744073709551616 + lo) / y), .int .u64 ((hi * 18446744073709551616 + lo) % y)]) ∧ Below w.heap.size w w' := by
  by_cases hz : hi = 0
  · have Hc := Lib.hid (show hi * 18446744073709551616 + lo = lo by omega)
    have hm0 : (hi == 0) = true := by rw [hz]; rfl
    have hy0 : (y == 0) = false := by simp; omega
    have hyn : y ≠ 0 := by omega
    clear hz
    go_enter Tryz.func261, Tryz.ntmps261
    go_wp2
    go_quiet (fail)
    go_wp2
    go_ret2
    rw [Hc.out]
    exact ⟨rfl, by (repeat' (first | exact Below.refl _ _ | refine Below.setCell ?_ ?_ _ | refine Below.alloc ?_ ?_ _ | refine below_drewN ?_ _ | refine Below.trans ?_ (Below.mono (by assumption) ?_) | exact Nat.le_refl _ | omega | (simp only [World.size_alloc, World.size_setCell, World.size_drew] at *; omega)))⟩
  · have hm0 : (hi == 0) = false := by simpa using hz
    have hy0 : (y == 0) = false := by simp; omega
    obtain ⟨k, hk, Hk, Hl⟩ := lead_c y w (by omega) h2
    have Hl := Lib.hid Hl
    obtain ⟨hyk, hyk'⟩ := Hk.out
    obtain ⟨nu1, nu2, nu3, nu4⟩ := kd_norm hk h0 h1 h3 h4 hyk'
    obtain ⟨S, hS⟩ : ∃ S, S = (2:Int)^k := ⟨_, rfl⟩
    have hS0 : 0 < S := by rw [hS]; exact Int.pow_pos (by omega)
    obtain ⟨u, hu⟩ : ∃ u, u = hi * 2 ^ k + lo / 2 ^ (64 - k) := ⟨_, rfl⟩
    obtain ⟨v, hv⟩ : ∃ v, v = y * 2 ^ k := ⟨_, rfl⟩
    obtain ⟨t, ht⟩ : ∃ t, t = us (lo * 2 ^ k) := ⟨_, rfl⟩
    have htr := us_rng (lo * 2 ^ k)
    rw [← ht] at nu2 htr
    rw [← hu] at nu1 nu2 nu3 nu4
    rw [← hv] at hyk hyk' nu4
    have ev : IntKind.u64.wrap (y * 2 ^ k) = v := by rw [us_eq, ← hv]; exact us_in _ (by omega) hyk'
    have et : IntKind.u64.wrap (lo * 2 ^ k) = t := by rw [us_eq, ht]
    have eu : bits .or .u64 (IntKind.u64.wrap (hi * 2 ^ k)) (lo / 2 ^ (64 - k)) = u := by rw [us_eq]; exact nu1
    obtain ⟨a, ha⟩ : ∃ a, v / 4294967296 = a := ⟨_, rfl⟩
    obtain ⟨b, hb⟩ : ∃ b, v % 4294967296 = b := ⟨_, rfl⟩
    obtain ⟨t1, ht1⟩ : ∃ t1, t / 4294967296 = t1 := ⟨_, rfl⟩
    obtain ⟨t0, ht0⟩ : ∃ t0, t % 4294967296 = t0 := ⟨_, rfl⟩
    have hb' : bits .and .u64 v 4294967295 = b := by rw [and_low v (by omega) hyk', hb]
    have ht0' : bits .and .u64 t 4294967295 = t0 := by rw [and_low t (by omega) (by omega), ht0]
    have F1 : KF a b v u t1 := ⟨by omega, by omega, by omega, by omega, by omega, nu3, nu4, by omega, by omega⟩
    obtain ⟨x, hx⟩ : ∃ x, x = (u * 4294967296 + t1) % v := ⟨_, rfl⟩
    have hxr := emod_rng (u * 4294967296 + t1) v (by omega)
    rw [← hx] at hxr
    have F0 : KF a b v x t0 := ⟨by omega, by omega, by omega, by omega, by omega, hxr.1, hxr.2, by omega, by omega⟩
    have Hend := Lib.hid (kd_end (N := hi * 18446744073709551616 + lo) (y := y) (v := v) hS0 (by omega) (by rw [hv, hS]) (by rw [hS, ← nu2]; omega) (t1 := t1) (t0 := t0) (u := u) (by omega) (by omega) nu3 (by omega))
    have Hx := Lib.hid hx
    have HS := Lib.hid hS
    clear hS hu hv ht hb ht0 hx nu1 nu2 Hk hz
    have ha0 := F1.a0
    have ha1 := F1.a1
    have hb0 := F1.b0
    have hb1 := F1.b1
    have ht10 := F1.t0
    have ht11 := F1.t1
    obtain ⟨Q1, hQ1⟩ : ∃ q, q = (u * 4294967296 + t1) / v := ⟨_, rfl⟩
    have hQ10 := F1.nonneg
    have hQ11 := F1.lt
    rw [← hQ1] at hQ10 hQ11
    have HQ1 := Lib.hid hQ1
    clear hQ1
    obtain ⟨Q0, hQ0⟩ : ∃ q, q = (x * 4294967296 + t0) / v := ⟨_, rfl⟩
    have hQ00 := F0.nonneg
    have hQ01 := F0.lt
    rw [← hQ0] at hQ00 hQ01
    have HQ0 := Lib.hid hQ0
    clear hQ0
    have ht00 := F0.t0
    have ht01 := F0.t1
    obtain ⟨D1, hr1, hm0, hm1⟩ := F1.start
    have e16 : IntKind.u64.wrap (u - IntKind.u64.wrap (u / a * a)) = u - u / a * a := by
      simp only [us_eq]; rw [us_in _ hm0 (by omega)]; exact us_in _ (by omega) (by omega)
    obtain ⟨D0, hr0, hn0, hn1⟩ := F0.start
    have e26 : IntKind.u64.wrap (x - IntKind.u64.wrap (x / a * a)) = x - x / a * a := by
      simp only [us_eq]; rw [us_in _ hn0 (by omega)]; exact us_in _ (by omega) (by omega)
    have e17 : IntKind.u64.wrap (IntKind.u64.wrap (IntKind.u64.wrap (u * 4294967296) + t1) - IntKind.u64.wrap (Q1 * v)) = x := by
      simp only [us_eq]; rw [HQ1.out, Hx.out]; exact F1.next
    go_enter Tryz.func261, Tryz.ntmps261
    go_upto_block 0 with (go_at_call 264; refine (Hl.out).mono ?_; rintro e w' ⟨rfl, rfl⟩)
    go_cut [15] (fun s wx => s = .int .u64 Q1 ∧ w = wx)
    case first =>
      go_wp2
      go_loop [15, 16] (fun xq xr => ∃ q r : Int, xq = .int .u64 q ∧ xr = .int .u64 r ∧ r ≤ 4294967295 ∧ KD a b v u t1 q r) (fun xq _ => (intOf xq).toNat)
      case atStart => exact ⟨_, _, rfl, rfl, by omega, D1⟩
      case round =>
        obtain ⟨q, r, rfl, rfl, hr, D⟩ := hrel
        obtain ⟨p, hp⟩ : ∃ p, q * b = p := ⟨_, rfl⟩
        have hp1 := D.prod F1
        have dr0 := D.r0
        have dq0 := D.q0
        have dqB := D.qB
        rw [hp] at hp1
        have ep : IntKind.u64.wrap (q * b) = p := by rw [us_eq, hp]; exact us_in _ hp1.1 hp1.2
        by_cases c1 : 4294967296 ≤ q
        · have D' := D.down_ge F1 c1
          by_cases c2 : 4294967296 ≤ r + a
          · have E := Lib.hid (D'.broke F1 (by omega) c2)
            clear hp
            go_wp2
            go_meet
            exact ⟨congrArg (Value.int .u64) (E.out.trans HQ1.out.symm), rfl⟩
          · clear hp
            go_wp2
            go_round
            case rel => exact ⟨q - 1, r + a, rfl, rfl, by omega, D'⟩
            case measure => simp [intOf]; omega
        by_cases c3 : 4294967296 * r + t1 < p
        · have D' := D.down_gt F1 (by omega)
          have dq1 := D'.q0
          by_cases c2 : 4294967296 ≤ r + a
          · have E := Lib.hid (D'.broke F1 (by omega) c2)
            clear hp
            go_wp2
            go_meet
            exact ⟨congrArg (Value.int .u64) (E.out.trans HQ1.out.symm), rfl⟩
          · clear hp
            go_wp2
            go_round
            case rel => exact ⟨q - 1, r + a, rfl, rfl, by omega, D'⟩
            case measure => simp [intOf]; omega
        · have E := Lib.hid (D.done F1 (by omega))
          clear hp
          go_wp2
          go_meet
          exact ⟨congrArg (Value.int .u64) (E.out.trans HQ1.out.symm), rfl⟩
    case rest =>
      obtain ⟨rfl, rfl⟩ := hcut
      go_upto_block 2 with fail
      go_cut [18] (fun s wx => s = .int .u64 Q0 ∧ w = wx)
      case first =>
        go_wp2
        go_loop [18, 16] (fun xq xr => ∃ q r : Int, xq = .int .u64 q ∧ xr = .int .u64 r ∧ r ≤ 4294967295 ∧ KD a b v x t0 q r) (fun xq _ => (intOf xq).toNat)
        case atStart => exact ⟨_, _, rfl, rfl, by omega, D0⟩
        case round =>
          obtain ⟨q, r, rfl, rfl, hr, D⟩ := hrel
          obtain ⟨p, hp⟩ : ∃ p, q * b = p := ⟨_, rfl⟩
          have hp1 := D.prod F0
          have dr0 := D.r0
          have dq0 := D.q0
          have dqB := D.qB
          rw [hp] at hp1
          have ep : IntKind.u64.wrap (q * b) = p := by rw [us_eq, hp]; exact us_in _ hp1.1 hp1.2
          by_cases c1 : 4294967296 ≤ q
          · have D' := D.down_ge F0 c1
            by_cases c2 : 4294967296 ≤ r + a
            · have E := Lib.hid (D'.broke F0 (by omega) c2)
              clear hp
              go_wp2
              go_meet
              exact ⟨congrArg (Value.int .u64) (E.out.trans HQ0.out.symm), rfl⟩
            · clear hp
              go_wp2
              go_round
              case rel => exact ⟨q - 1, r + a, rfl, rfl, by omega, D'⟩
              case measure => simp [intOf]; omega
          by_cases c3 : 4294967296 * r + t0 < p
          · have D' := D.down_gt F0 (by omega)
            have dq1 := D'.q0
            by_cases c2 : 4294967296 ≤ r + a
            · have E := Lib.hid (D'.broke F0 (by omega) c2)
              clear hp
              go_wp2
              go_meet
              exact ⟨congrArg (Value.int .u64) (E.out.trans HQ0.out.symm), rfl⟩
            · clear hp
              go_wp2
              go_round
              case rel => exact ⟨q - 1, r + a, rfl, rfl, by omega, D'⟩
              case measure => simp [intOf]; omega
          · have E := Lib.hid (D.done F0 (by omega))
            clear hp
            go_wp2
            go_meet
            exact ⟨congrArg (Value.int .u64) (E.out.trans HQ0.out.symm), rfl⟩
      case rest =>
        obtain ⟨rfl, rfl⟩ := hcut
        go_wp2
        go_ret2
        have H := Hend.out
        rw [← HQ1.out, ← Hx.out, ← HQ0.out, HS.out] at H
        refine ⟨tup2 (congrArg (Value.int .u64) H.1) (congrArg (Value.int .u64) ?_), by (repeat' (first | exact Below.refl _ _ | refine Below.setCell ?_ ?_ _ | refine Below.alloc ?_ ?_ _ | refine below_drewN ?_ _ | refine Below.trans ?_ (Below.mono (by assumption) ?_) | exact Nat.le_refl _ | omega | (simp only [World.size_alloc, World.size_setCell, World.size_drew] at *; omega)))⟩
        rw [← H.2, ← F0.next, ← HQ0.out]
        simp only [us_eq]


set_option maxHeartbeats 1000000 in
theorem rem_c (hi lo y : Int) (w : World) (h0 : 0 ≤ hi) (h1 : hi < y) (h2 : y ≤ 18446744073709551615) (h3 : 0 ≤ lo) (h4 : lo ≤ 18446744073709551615) :
    Calls Tryz.prog 252 #[.int .u64 hi, .int .u64 lo, .int .u64 y] w fun e w' => e = .returned (.int .u64 ((hi * 18446744073709551616 + lo) % y)) ∧ Below w.heap.size w w' := by
  have e1 : hi.tmod y = hi := by rw [Int.tmod_eq_emod_of_nonneg h0]; exact Int.emod_eq_of_lt h0 h1
  have e2 : hi % y = hi := Int.emod_eq_of_lt h0 h1
  have hyn : y ≠ 0 := by omega
  go_enter Tryz.func252, Tryz.ntmps252
  go_wp2_with (go_at_call 261; refine (div_c _ _ _ _ h0 h1 h2 h3 h4).mono ?_; rintro e w1 ⟨rfl, hb⟩)
  go_ret
  exact ⟨rfl, hb⟩

set_option maxHeartbeats 1000000 in
/-- the product of two remainders, by a modulus above both -/
theorem times_c (a b m : Int) (w : World) (ha : 0 ≤ a) (ha' : a < m) (hb : 0 ≤ b) (hb' : b < m) (hm : m ≤ 18446744073709551615) :
    Calls Tryz.prog 226 #[.int .u64 a, .int .u64 b, .int .u64 m] w fun e w' => e = .returned (.int .u64 (a * b % m)) ∧ Below w.heap.size w w' := by
  obtain ⟨x, rfl⟩ := Int.eq_ofNat_of_zero_le ha
  obtain ⟨y, rfl⟩ := Int.eq_ofNat_of_zero_le hb
  have hM := fun W => Lib.hid (Tryz.bits_Mul64 x y (by omega) (by omega) W)
  have hlt : ((x * y / 18446744073709551616 : Nat) : Int) < m := by
    have h1 : (x : Int) * (y : Int) ≤ (m - 1) * (m - 1) := Int.mul_le_mul (by omega) (by omega) hb (by omega)
    have h2 : (m - 1) * (m - 1) ≤ (m - 1) * 18446744073709551615 := Int.mul_le_mul_of_nonneg_left (by omega) (by omega)
    have h3 : ((x * y : Nat) : Int) = (x : Int) * (y : Int) := Int.natCast_mul ..
    generalize x * y = p at *
    generalize (x : Int) * (y : Int) = q at *
    omega
  have hmod : ((x * y / 18446744073709551616 : Nat) : Int) * 18446744073709551616 + ((x * y % 18446744073709551616 : Nat) : Int) = (x : Int) * (y : Int) := by
    have h3 : ((x * y : Nat) : Int) = (x : Int) * (y : Int) := Int.natCast_mul ..
    generalize x * y = p at *
    omega
  have hl1 : ((x * y % 18446744073709551616 : Nat) : Int) ≤ 18446744073709551615 := by omega
  have hh0 : 0 ≤ ((x * y / 18446744073709551616 : Nat) : Int) := Int.natCast_nonneg _
  have hl0 : 0 ≤ ((x * y % 18446744073709551616 : Nat) : Int) := Int.natCast_nonneg _
  generalize ((x * y / 18446744073709551616 : Nat) : Int) = h at *
  generalize ((x * y % 18446744073709551616 : Nat) : Int) = l at *
  have Hm := Lib.hid hmod
  clear hmod
  go_enter Tryz.func226, Tryz.ntmps226
  go_wp2_with (first | (go_at_call 156; refine ((hM _).out).mono ?_; rintro e w1 ⟨rfl, rfl⟩) | (go_at_call 252; refine (rem_c _ _ _ _ hh0 hlt hm hl0 hl1).mono ?_; rintro e w1 ⟨rfl, hb⟩))
  go_ret
  rw [← Hm.out]
  exact ⟨rfl, by assumption⟩

/-- a product, and whether it is below 2^64 -/
def csmall (a b : Int) : Int × Bool := (us (a * b), decide (a * b ≤ 18446744073709551615))

set_option maxHeartbeats 1000000 in
theorem small_c (a b : Int) (w : World) (ha : 0 ≤ a) (ha' : a ≤ 18446744073709551615) (hb : 0 ≤ b) (hb' : b ≤ 18446744073709551615) :
    Calls Tryz.prog 225 #[.int .u64 a, .int .u64 b] w fun e w' => e = .returned (.tuple #[.int .u64 (csmall a b).1, .bool (csmall a b).2]) ∧ Below w.heap.size w w' := by
  obtain ⟨x, rfl⟩ := Int.eq_ofNat_of_zero_le ha
  obtain ⟨y, rfl⟩ := Int.eq_ofNat_of_zero_le hb
  have hM := fun W => Lib.hid (Tryz.bits_Mul64 x y (by omega) (by omega) W)
  have h3 : ((x * y : Nat) : Int) = (x : Int) * (y : Int) := Int.natCast_mul ..
  have hs1 : ((x * y % 18446744073709551616 : Nat) : Int) = (csmall x y).1 := by
    unfold csmall us
    show _ = (x : Int) * (y : Int) % 18446744073709551616
    rw [← h3]; omega
  by_cases hc : x * y ≤ 18446744073709551615
  · have hs2 : (csmall x y).2 = true := by unfold csmall; show decide ((x : Int) * (y : Int) ≤ 18446744073709551615) = true; rw [← h3]; simp; omega
    have hz : ((x * y / 18446744073709551616 : Nat) : Int) = 0 := by omega
    simp only [hz, hs1] at hM
    rw [hs2]
    clear hz hs1 hs2 h3 hc
    generalize (csmall x y).1 = p at *
    go_enter Tryz.func225, Tryz.ntmps225
    go_wp2_with (go_at_call 156; refine ((hM _).out).mono ?_; rintro e w1 ⟨rfl, rfl⟩)
    go_ret2
    exact ⟨rfl, Below.refl _ _⟩
  · have hs2 : (csmall x y).2 = false := by unfold csmall; show decide ((x : Int) * (y : Int) ≤ 18446744073709551615) = false; rw [← h3]; simp; omega
    have hz : ((x * y / 18446744073709551616 : Nat) : Int) ≠ 0 := by omega
    rw [hs2]
    simp only [hs1] at hM
    clear hs1 hs2 h3 hc
    generalize (csmall x y).1 = p at *
    generalize ((x * y / 18446744073709551616 : Nat) : Int) = q at *
    have hq : (q == 0) = false := by simpa using hz
    go_enter Tryz.func225, Tryz.ntmps225
    go_wp2_with (go_at_call 156; refine ((hM _).out).mono ?_; rintro e w1 ⟨rfl, rfl⟩)
    go_ret2
    exact ⟨rfl, Below.refl _ _⟩

end Go.Proofs.YtljhbdgoknfkcaaGreatDoor
