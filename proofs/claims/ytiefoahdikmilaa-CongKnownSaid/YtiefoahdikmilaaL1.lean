/- The chapter's examples in the statements of layer 20: true in whatever memory. -/
import Derived.Test.YtiefoahdikmilaaR5
import Derived.Test.YtiefoahdikmilaaC2
namespace Go.Proofs.Ytiefoahdikmilaa
open Go Go.RowKit Go.Sort
set_option linter.unusedVariables false
set_option linter.unusedSimpArgs false
set_option maxRecDepth 100000

theorem k_const (n : Int) (v : Int) (h : us n = v) (W : World) : Hid (Calls Try.prog 19 #[.int .i64 n] W fun e w' => e = .returned (.agg #[.int .u64 0, .int .u64 v]) ∧ Below W.heap.size W w') := by
  rw [← h]; exact const_c n W
theorem k_make (m n v : Int) (h : cmake m n = v) (hm : 0 ≤ m) (hm' : m ≤ 18446744073709551615) (hn : -9223372036854775808 ≤ n) (hn' : n ≤ 9223372036854775807) (W : World) :
    Hid (Calls Try.prog 21 #[.int .u64 m, .int .i64 n] W fun e w' => e = .returned (.agg #[.int .u64 m, .int .u64 v]) ∧ Below W.heap.size W w') := by
  rw [← h]; exact make_c m n W hm hm' hn hn'
theorem k_two {f : FuncId} {args : Array Value} {x : Int × Int} {p q : Int} (W : World) (h : x = (p, q)) (hc : Calls Try.prog f args W fun e w' => e = .returned (.agg #[.int .u64 x.1, .int .u64 x.2]) ∧ Below W.heap.size W w') :
    Hid (Calls Try.prog f args W fun e w' => e = .returned (.agg #[.int .u64 p, .int .u64 q]) ∧ Below W.heap.size W w') := by subst h; exact hc
theorem k_meet {f : FuncId} {args : Array Value} {x : (Int × Int) × Bool} {p q : Int} {b : Bool} (W : World) (h : x = ((p, q), b)) (hc : Calls Try.prog f args W fun e w' => e = .returned (.tuple #[.agg #[.int .u64 x.1.1, .int .u64 x.1.2], .bool x.2]) ∧ Below W.heap.size W w') :
    Hid (Calls Try.prog f args W fun e w' => e = .returned (.tuple #[.agg #[.int .u64 p, .int .u64 q], .bool b]) ∧ Below W.heap.size W w') := by subst h; exact hc
theorem k_least {f : FuncId} {args : Array Value} {x : Int × Bool} {p : Int} {b : Bool} (W : World) (h : x = (p, b)) (hc : Calls Try.prog f args W fun e w' => e = .returned (.tuple #[.int .i64 x.1, .bool x.2]) ∧ Below W.heap.size W w') :
    Hid (Calls Try.prog f args W fun e w' => e = .returned (.tuple #[.int .i64 p, .bool b]) ∧ Below W.heap.size W w') := by subst h; exact hc

set_option maxHeartbeats 4000000 in
theorem works_c (w : World) : Calls Try.prog 24 #[] w fun e w' => e = .returned (.bool true) ∧ Below w.heap.size w w' := by
  have gc := grown_cell
  have heq := run_eql_cong
  have K1 := k_const 3 3 rfl
  have K2 := k_const 11 11 rfl
  have K3 := fun W => k_two W (show cjoin 0 3 0 11 = (8, 3) by decide +kernel) (join_c 0 3 0 11 W (by omega) (by omega) (by omega) (by omega) (by omega) (by omega) (by omega) (by omega))
  have K4 := k_make 4 1 1 rfl (by omega) (by omega) (by omega) (by omega)
  have K5 := k_make 8 3 3 rfl (by omega) (by omega) (by omega) (by omega)
  have K6 := fun W => k_meet W (show cmeet 4 1 8 3 = ((0, 0), false) by decide +kernel) (meet_c 4 1 8 3 W (by omega) (by omega) (by omega) (by omega) (by omega) (by omega) (by omega) (by omega))
  have K7 := k_make 2 1 1 rfl (by omega) (by omega) (by omega) (by omega)
  have K8 := k_make 6 3 3 rfl (by omega) (by omega) (by omega) (by omega)
  have K9 := fun W => k_meet W (show cmeet 2 1 6 3 = ((6, 3), true) by decide +kernel) (meet_c 2 1 6 3 W (by omega) (by omega) (by omega) (by omega) (by omega) (by omega) (by omega) (by omega))
  have K10 := k_make 12 1 1 rfl (by omega) (by omega) (by omega) (by omega)
  have K11 := fun W => k_least W (show cleast 12 1 (-5) = (1, true) by decide +kernel) (least_c 12 1 (-5) W (by omega) (by omega) (by omega) (by omega) (by omega) (by omega))
  have J1 := k_const 4 4 rfl
  have J2 := fun W => k_two W (show cjoin 8 3 0 4 = (1, 0) by decide +kernel) (join_c 8 3 0 4 W (by omega) (by omega) (by omega) (by omega) (by omega) (by omega) (by omega) (by omega))
  have J3 := fun W => Lib.hid (top_c W)
  have J4 := fun W => k_two W (show cadd 4 1 6 3 = (2, 0) by decide +kernel) (add_c 4 1 6 3 W (by omega) (by omega) (by omega) (by omega) (by omega) (by omega) (by omega) (by omega))
  have J5 := k_const (-2) 18446744073709551614 rfl
  have J6 := fun W => k_two W (show cmul 0 18446744073709551614 4 1 = (8, 6) by decide +kernel) (mul_c 0 18446744073709551614 4 1 W (by omega) (by omega) (by omega) (by omega) (by omega) (by omega) (by omega) (by omega))
  have J7 := k_make 4 0 0 rfl (by omega) (by omega) (by omega) (by omega)
  have J8 := k_make 6 0 0 rfl (by omega) (by omega) (by omega) (by omega)
  have J9 := fun W => k_two W (show cmul 4 0 6 0 = (24, 0) by decide +kernel) (mul_c 4 0 6 0 W (by omega) (by omega) (by omega) (by omega) (by omega) (by omega) (by omega) (by omega))
  have J10 := fun W => k_two W (show cwrapped 12 1 = (4, 1) by decide +kernel) (wrapped_c 12 1 W (by omega) (by omega) (by omega) (by omega))
  go_enter Try.func24, Try.ntmps24
  go_wp2_with (first | (go_at_call 19; first | ((with_reducible refine ((K1 _).out).mono ?_); rintro e w1 ⟨rfl, hBw1⟩; obtain ⟨hcw1, hfw1⟩ := bcell hBw1; have hzw1 := hBw1.size; (try simp only [World.size_alloc, World.size_setCell, World.size_drew] at hzw1)) | ((with_reducible refine ((K2 _).out).mono ?_); rintro e w2 ⟨rfl, hBw2⟩; obtain ⟨hcw2, hfw2⟩ := bcell hBw2; have hzw2 := hBw2.size; (try simp only [World.size_alloc, World.size_setCell, World.size_drew] at hzw2))) | (go_at_call 31; ((with_reducible refine ((K3 _).out).mono ?_); rintro e w3 ⟨rfl, hBw3⟩; obtain ⟨hcw3, hfw3⟩ := bcell hBw3; have hzw3 := hBw3.size; (try simp only [World.size_alloc, World.size_setCell, World.size_drew] at hzw3))) | (go_at_call 21; first | ((with_reducible refine ((K4 _).out).mono ?_); rintro e w4 ⟨rfl, hBw4⟩; obtain ⟨hcw4, hfw4⟩ := bcell hBw4; have hzw4 := hBw4.size; (try simp only [World.size_alloc, World.size_setCell, World.size_drew] at hzw4); have hlw4_w3 : w3.heap.size < w4.heap.size := (by omega)) | ((with_reducible refine ((K5 _).out).mono ?_); rintro e w5 ⟨rfl, hBw5⟩; obtain ⟨hcw5, hfw5⟩ := bcell hBw5; have hzw5 := hBw5.size; (try simp only [World.size_alloc, World.size_setCell, World.size_drew] at hzw5); have hlw5_w3 : w3.heap.size < w5.heap.size := (by omega)) | ((with_reducible refine ((K7 _).out).mono ?_); rintro e w7 ⟨rfl, hBw7⟩; obtain ⟨hcw7, hfw7⟩ := bcell hBw7; have hzw7 := hBw7.size; (try simp only [World.size_alloc, World.size_setCell, World.size_drew] at hzw7); have hlw7_w3 : w3.heap.size < w7.heap.size := (by omega); have hlw7_w6 : w6.heap.size < w7.heap.size := (by omega)) | ((with_reducible refine ((K8 _).out).mono ?_); rintro e w8 ⟨rfl, hBw8⟩; obtain ⟨hcw8, hfw8⟩ := bcell hBw8; have hzw8 := hBw8.size; (try simp only [World.size_alloc, World.size_setCell, World.size_drew] at hzw8); have hlw8_w3 : w3.heap.size < w8.heap.size := (by omega); have hlw8_w6 : w6.heap.size < w8.heap.size := (by omega)) | ((with_reducible refine ((K10 _).out).mono ?_); rintro e w10 ⟨rfl, hBw10⟩; obtain ⟨hcw10, hfw10⟩ := bcell hBw10; have hzw10 := hBw10.size; (try simp only [World.size_alloc, World.size_setCell, World.size_drew] at hzw10); have hlw10_w3 : w3.heap.size < w10.heap.size := (by omega); have hlw10_w6 : w6.heap.size < w10.heap.size := (by omega); have hlw10_w9 : w9.heap.size < w10.heap.size := (by omega))) | (go_at_call 29; first | ((with_reducible refine ((K6 _).out).mono ?_); rintro e w6 ⟨rfl, hBw6⟩; obtain ⟨hcw6, hfw6⟩ := bcell hBw6; have hzw6 := hBw6.size; (try simp only [World.size_alloc, World.size_setCell, World.size_drew] at hzw6); have hlw6_w3 : w3.heap.size < w6.heap.size := (by omega)) | ((with_reducible refine ((K9 _).out).mono ?_); rintro e w9 ⟨rfl, hBw9⟩; obtain ⟨hcw9, hfw9⟩ := bcell hBw9; have hzw9 := hBw9.size; (try simp only [World.size_alloc, World.size_setCell, World.size_drew] at hzw9); have hlw9_w3 : w3.heap.size < w9.heap.size := (by omega); have hlw9_w6 : w6.heap.size < w9.heap.size := (by omega))) | (go_at_call 42; ((with_reducible refine ((K11 _).out).mono ?_); rintro e w11 ⟨rfl, hBw11⟩; obtain ⟨hcw11, hfw11⟩ := bcell hBw11; have hzw11 := hBw11.size; (try simp only [World.size_alloc, World.size_setCell, World.size_drew] at hzw11); have hlw11_w3 : w3.heap.size < w11.heap.size := (by omega); have hlw11_w6 : w6.heap.size < w11.heap.size := (by omega); have hlw11_w9 : w9.heap.size < w11.heap.size := (by omega); have hlw11_w10 : w10.heap.size < w11.heap.size := (by omega))))
  refine wp_all_below (by kernel_rfl) (by kernel_rfl) ?_; (repeat (go_big_quiet_step (first | with_reducible exact quietly (fun W => (J1 W).out) | with_reducible exact quietly (fun W => (J2 W).out) | with_reducible exact quietly (fun W => (J3 W).out) | with_reducible exact quietly (fun W => (K4 W).out) | with_reducible exact quietly (fun W => (K8 W).out) | with_reducible exact quietly (fun W => (J4 W).out) | with_reducible exact quietly (fun W => (J5 W).out) | with_reducible exact quietly (fun W => (J6 W).out) | with_reducible exact quietly (fun W => (J7 W).out) | with_reducible exact quietly (fun W => (J8 W).out) | with_reducible exact quietly (fun W => (J9 W).out) | with_reducible exact quietly (fun W => (J10 W).out)))); refine wpQuiet_nil ?_; intro w12 hBw12; obtain ⟨hcw12, hfw12⟩ := bcell hBw12; have hzw12 := hBw12.size; (try simp only [World.size_alloc, World.size_setCell, World.size_drew] at hzw12); have hlw12_w3 : w3.heap.size < w12.heap.size := (by omega)
  go_wp2
  go_ret
  exact ⟨rfl, by (repeat' (first | exact Below.refl _ _ | refine Below.setCell ?_ ?_ _ | refine Below.alloc ?_ ?_ _ | refine below_drewN ?_ _ | refine Below.trans ?_ (Below.mono (by assumption) ?_) | exact Nat.le_refl _ | omega | (simp only [World.size_alloc, World.size_setCell, World.size_drew] at *; omega)))⟩

end Go.Proofs.Ytiefoahdikmilaa
