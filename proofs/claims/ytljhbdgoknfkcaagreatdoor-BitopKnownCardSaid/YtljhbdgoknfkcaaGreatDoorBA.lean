/- Contracts of package word: what all operators make of numbers. -/
import Derived.Test.YtljhbdgoknfkcaaGreatDoorZ5
namespace Go.Proofs.YtljhbdgoknfkcaaGreatDoor
open Go Go.RowKit Go.Sort
set_option linter.unusedVariables false
set_option linter.unusedSimpArgs false
set_option maxRecDepth 100000

theorem band63 (b : Int) : IntKind.u64.wrap (IntKind.i64.wrap ((BitVec.ofInt 64 b &&& BitVec.ofInt 64 63).toNat : Int)) = b % 64 := by
  have h : (BitVec.ofInt 64 b &&& BitVec.ofInt 64 63).toNat = (BitVec.ofInt 64 b).toNat % 64 := by
    rw [BitVec.toNat_and]
    have : (BitVec.ofInt 64 63).toNat = 2 ^ 6 - 1 := by decide
    rw [this, Nat.and_two_pow_sub_one_eq_mod]
  have h2 : (((BitVec.ofInt 64 b).toNat : Nat) : Int) = b % 18446744073709551616 := by
    rw [BitVec.toNat_ofInt]
    have : 0 ≤ b % 18446744073709551616 := Int.emod_nonneg _ (by decide)
    have e : (((2 ^ 64 : Nat)) : Int) = 18446744073709551616 := by decide
    rw [e, Int.toNat_of_nonneg this]
  rw [h]
  generalize (BitVec.ofInt 64 b).toNat = n at *
  simp only [us_eq, sg_eq]
  unfold us sg
  omega
theorem wShift_d (b : Int) : Den Tryz.prog 195 #[.int .i64 b] noFacts (.int .u64 (b % 64)) := by
  refine den_of_body (args := [.int .i64 b]) hmix Tryz.func195 ?_
  (repeat' ((conv => whnf); first | refine AdN.mk _ _ rfl ?_ | refine DrawN.a (Ob.mk (by decide +kernel) ?_) | refine DrawN.c (Ob.mk (by decide +kernel) ?_) | refine DrawN.b (Ob.mk (by decide +kernel) ?_) | refine Ob.mk (by kernel_rfl) ?_ | (refine Br.mk (fun h => ?_) (fun h => ?_) <;> (first | (exfalso; exact Bool.false_ne_true h) | (exfalso; exact Bool.false_ne_true h.symm) | skip)) | refine SeqN.go ?_)); all_goals (conv => whnf)
  all_goals exact congrArg (Value.int _) (band63 b)
theorem shl_val (a b : Int) : IntKind.i64.wrap (a * 2 ^ min (b % 64).toNat IntKind.i64.bits) = IntKind.i64.wrap (a * 2 ^ (b % 64).toNat) := by
  have : min (b % 64).toNat IntKind.i64.bits = (b % 64).toNat := Nat.min_eq_left (by show (b % 64).toNat ≤ 64; omega)
  rw [this]
theorem shr_val (a b : Int) : a.fdiv (2 ^ min (b % 64).toNat IntKind.i64.bits) = a / 2 ^ (b % 64).toNat := by
  have : min (b % 64).toNat IntKind.i64.bits = (b % 64).toNat := Nat.min_eq_left (by show (b % 64).toNat ≤ 64; omega)
  rw [this, Int.fdiv_eq_ediv_of_nonneg _ (Int.le_of_lt (p2pos _))]
theorem wF8_d : Den Tryz.prog 97 #[.int .i64 8] noFacts (.tuple #[.func (.func 191) #[] #[], .bool true]) := by
  refine den_of_body (args := [.int .i64 8]) hmix Tryz.func97 ?_
  (repeat' ((conv => whnf); first | refine AdN.mk _ _ rfl ?_ | refine DrawN.a (Ob.mk (by decide +kernel) ?_) | refine DrawN.c (Ob.mk (by decide +kernel) ?_) | refine DrawN.b (Ob.mk (by decide +kernel) ?_) | refine Ob.mk (by kernel_rfl) ?_ | (refine Br.mk (fun h => ?_) (fun h => ?_) <;> (first | (exfalso; exact Bool.false_ne_true h) | (exfalso; exact Bool.false_ne_true h.symm) | skip)) | refine SeqN.go ?_)); all_goals (conv => whnf)
  all_goals first | rfl | (exfalso; simp at *; done)
theorem wG8_d (a b : Int) : Den Tryz.prog 191 #[.int .i64 a, .int .i64 b] noFacts (.int .i64 (bor a b)) := by
  refine den_of_body (args := [.int .i64 a, .int .i64 b]) hmix Tryz.func191 ?_
  (repeat' ((conv => whnf); first | refine AdN.mk _ _ rfl ?_ | refine DrawN.a (Ob.mk (by decide +kernel) ?_) | refine DrawN.c (Ob.mk (by decide +kernel) ?_) | refine DrawN.b (Ob.mk (by decide +kernel) ?_) | refine Ob.mk (by kernel_rfl) ?_ | (refine Br.mk (fun h => ?_) (fun h => ?_) <;> (first | (exfalso; exact Bool.false_ne_true h) | (exfalso; exact Bool.false_ne_true h.symm) | skip)) | refine SeqN.go ?_)); all_goals (conv => whnf)
  all_goals rfl
theorem wH8_d (a b : Int) : Den Tryz.prog 31 #[.int .i64 8, .int .i64 a, .int .i64 b] noFacts (.tuple #[.int .i64 (bor a b), .bool true]) := by
  refine den_of_body (args := [.int .i64 8, .int .i64 a, .int .i64 b]) hmix Tryz.func31 ?_
  (repeat' ((conv => whnf); first | refine CallN.any _ (wTraps_d _) ?_ | refine CallN.any _ wF8_d ?_ | refine CallN.any _ (wG8_d a b) ?_ | refine AdN.mk _ _ rfl ?_ | refine DrawN.a (Ob.mk (by decide +kernel) ?_) | refine DrawN.c (Ob.mk (by decide +kernel) ?_) | refine DrawN.b (Ob.mk (by decide +kernel) ?_) | refine Ob.mk (by kernel_rfl) ?_ | (refine Br.mk (fun h => ?_) (fun h => ?_) <;> (first | (exfalso; exact Bool.false_ne_true h) | (exfalso; exact Bool.false_ne_true h.symm) | skip)) | refine SeqN.go ?_)); all_goals (conv => whnf)
  all_goals first | rfl | (exfalso; simp at *; done) | (exfalso; simp_all; done)
theorem wF9_d : Den Tryz.prog 97 #[.int .i64 9] noFacts (.tuple #[.func (.func 192) #[] #[], .bool true]) := by
  refine den_of_body (args := [.int .i64 9]) hmix Tryz.func97 ?_
  (repeat' ((conv => whnf); first | refine AdN.mk _ _ rfl ?_ | refine DrawN.a (Ob.mk (by decide +kernel) ?_) | refine DrawN.c (Ob.mk (by decide +kernel) ?_) | refine DrawN.b (Ob.mk (by decide +kernel) ?_) | refine Ob.mk (by kernel_rfl) ?_ | (refine Br.mk (fun h => ?_) (fun h => ?_) <;> (first | (exfalso; exact Bool.false_ne_true h) | (exfalso; exact Bool.false_ne_true h.symm) | skip)) | refine SeqN.go ?_)); all_goals (conv => whnf)
  all_goals first | rfl | (exfalso; simp at *; done)
theorem wG9_d (a b : Int) : Den Tryz.prog 192 #[.int .i64 a, .int .i64 b] noFacts (.int .i64 (bxor a b)) := by
  refine den_of_body (args := [.int .i64 a, .int .i64 b]) hmix Tryz.func192 ?_
  (repeat' ((conv => whnf); first | refine AdN.mk _ _ rfl ?_ | refine DrawN.a (Ob.mk (by decide +kernel) ?_) | refine DrawN.c (Ob.mk (by decide +kernel) ?_) | refine DrawN.b (Ob.mk (by decide +kernel) ?_) | refine Ob.mk (by kernel_rfl) ?_ | (refine Br.mk (fun h => ?_) (fun h => ?_) <;> (first | (exfalso; exact Bool.false_ne_true h) | (exfalso; exact Bool.false_ne_true h.symm) | skip)) | refine SeqN.go ?_)); all_goals (conv => whnf)
  all_goals rfl
theorem wH9_d (a b : Int) : Den Tryz.prog 31 #[.int .i64 9, .int .i64 a, .int .i64 b] noFacts (.tuple #[.int .i64 (bxor a b), .bool true]) := by
  refine den_of_body (args := [.int .i64 9, .int .i64 a, .int .i64 b]) hmix Tryz.func31 ?_
  (repeat' ((conv => whnf); first | refine CallN.any _ (wTraps_d _) ?_ | refine CallN.any _ wF9_d ?_ | refine CallN.any _ (wG9_d a b) ?_ | refine AdN.mk _ _ rfl ?_ | refine DrawN.a (Ob.mk (by decide +kernel) ?_) | refine DrawN.c (Ob.mk (by decide +kernel) ?_) | refine DrawN.b (Ob.mk (by decide +kernel) ?_) | refine Ob.mk (by kernel_rfl) ?_ | (refine Br.mk (fun h => ?_) (fun h => ?_) <;> (first | (exfalso; exact Bool.false_ne_true h) | (exfalso; exact Bool.false_ne_true h.symm) | skip)) | refine SeqN.go ?_)); all_goals (conv => whnf)
  all_goals first | rfl | (exfalso; simp at *; done) | (exfalso; simp_all; done)
theorem wF10_d : Den Tryz.prog 97 #[.int .i64 10] noFacts (.tuple #[.func (.func 193) #[] #[], .bool true]) := by
  refine den_of_body (args := [.int .i64 10]) hmix Tryz.func97 ?_
  (repeat' ((conv => whnf); first | refine AdN.mk _ _ rfl ?_ | refine DrawN.a (Ob.mk (by decide +kernel) ?_) | refine DrawN.c (Ob.mk (by decide +kernel) ?_) | refine DrawN.b (Ob.mk (by decide +kernel) ?_) | refine Ob.mk (by kernel_rfl) ?_ | (refine Br.mk (fun h => ?_) (fun h => ?_) <;> (first | (exfalso; exact Bool.false_ne_true h) | (exfalso; exact Bool.false_ne_true h.symm) | skip)) | refine SeqN.go ?_)); all_goals (conv => whnf)
  all_goals first | rfl | (exfalso; simp at *; done)
theorem wG10_d (a b : Int) : Den Tryz.prog 193 #[.int .i64 a, .int .i64 b] noFacts (.int .i64 (band a b)) := by
  refine den_of_body (args := [.int .i64 a, .int .i64 b]) hmix Tryz.func193 ?_
  (repeat' ((conv => whnf); first | refine AdN.mk _ _ rfl ?_ | refine DrawN.a (Ob.mk (by decide +kernel) ?_) | refine DrawN.c (Ob.mk (by decide +kernel) ?_) | refine DrawN.b (Ob.mk (by decide +kernel) ?_) | refine Ob.mk (by kernel_rfl) ?_ | (refine Br.mk (fun h => ?_) (fun h => ?_) <;> (first | (exfalso; exact Bool.false_ne_true h) | (exfalso; exact Bool.false_ne_true h.symm) | skip)) | refine SeqN.go ?_)); all_goals (conv => whnf)
  all_goals rfl
theorem wH10_d (a b : Int) : Den Tryz.prog 31 #[.int .i64 10, .int .i64 a, .int .i64 b] noFacts (.tuple #[.int .i64 (band a b), .bool true]) := by
  refine den_of_body (args := [.int .i64 10, .int .i64 a, .int .i64 b]) hmix Tryz.func31 ?_
  (repeat' ((conv => whnf); first | refine CallN.any _ (wTraps_d _) ?_ | refine CallN.any _ wF10_d ?_ | refine CallN.any _ (wG10_d a b) ?_ | refine AdN.mk _ _ rfl ?_ | refine DrawN.a (Ob.mk (by decide +kernel) ?_) | refine DrawN.c (Ob.mk (by decide +kernel) ?_) | refine DrawN.b (Ob.mk (by decide +kernel) ?_) | refine Ob.mk (by kernel_rfl) ?_ | (refine Br.mk (fun h => ?_) (fun h => ?_) <;> (first | (exfalso; exact Bool.false_ne_true h) | (exfalso; exact Bool.false_ne_true h.symm) | skip)) | refine SeqN.go ?_)); all_goals (conv => whnf)
  all_goals first | rfl | (exfalso; simp at *; done) | (exfalso; simp_all; done)
theorem wF11_d : Den Tryz.prog 97 #[.int .i64 11] noFacts (.tuple #[.func (.func 194) #[] #[], .bool true]) := by
  refine den_of_body (args := [.int .i64 11]) hmix Tryz.func97 ?_
  (repeat' ((conv => whnf); first | refine AdN.mk _ _ rfl ?_ | refine DrawN.a (Ob.mk (by decide +kernel) ?_) | refine DrawN.c (Ob.mk (by decide +kernel) ?_) | refine DrawN.b (Ob.mk (by decide +kernel) ?_) | refine Ob.mk (by kernel_rfl) ?_ | (refine Br.mk (fun h => ?_) (fun h => ?_) <;> (first | (exfalso; exact Bool.false_ne_true h) | (exfalso; exact Bool.false_ne_true h.symm) | skip)) | refine SeqN.go ?_)); all_goals (conv => whnf)
  all_goals first | rfl | (exfalso; simp at *; done)
theorem wG11_d (a b : Int) : Den Tryz.prog 194 #[.int .i64 a, .int .i64 b] noFacts (.int .i64 (IntKind.i64.wrap (a * 2 ^ (b % 64).toNat))) := by
  refine den_of_body (args := [.int .i64 a, .int .i64 b]) hmix Tryz.func194 ?_
  (repeat' ((conv => whnf); first | refine CallN.any _ (wShift_d b) ?_ | refine Ob.mk (Int.emod_nonneg b (by decide)) ?_ | refine AdN.mk _ _ rfl ?_ | refine DrawN.a (Ob.mk (by decide +kernel) ?_) | refine DrawN.c (Ob.mk (by decide +kernel) ?_) | refine DrawN.b (Ob.mk (by decide +kernel) ?_) | refine Ob.mk (by kernel_rfl) ?_ | (refine Br.mk (fun h => ?_) (fun h => ?_) <;> (first | (exfalso; exact Bool.false_ne_true h) | (exfalso; exact Bool.false_ne_true h.symm) | skip)) | refine SeqN.go ?_)); all_goals (conv => whnf)
  all_goals exact congrArg (Value.int _) (shl_val a b)
theorem wH11_d (a b : Int) : Den Tryz.prog 31 #[.int .i64 11, .int .i64 a, .int .i64 b] noFacts (.tuple #[.int .i64 (IntKind.i64.wrap (a * 2 ^ (b % 64).toNat)), .bool true]) := by
  refine den_of_body (args := [.int .i64 11, .int .i64 a, .int .i64 b]) hmix Tryz.func31 ?_
  (repeat' ((conv => whnf); first | refine CallN.any _ (wTraps_d _) ?_ | refine CallN.any _ wF11_d ?_ | refine CallN.any _ (wG11_d a b) ?_ | refine AdN.mk _ _ rfl ?_ | refine DrawN.a (Ob.mk (by decide +kernel) ?_) | refine DrawN.c (Ob.mk (by decide +kernel) ?_) | refine DrawN.b (Ob.mk (by decide +kernel) ?_) | refine Ob.mk (by kernel_rfl) ?_ | (refine Br.mk (fun h => ?_) (fun h => ?_) <;> (first | (exfalso; exact Bool.false_ne_true h) | (exfalso; exact Bool.false_ne_true h.symm) | skip)) | refine SeqN.go ?_)); all_goals (conv => whnf)
  all_goals first | rfl | (exfalso; simp at *; done) | (exfalso; simp_all; done)
theorem wF12_d : Den Tryz.prog 97 #[.int .i64 12] noFacts (.tuple #[.func (.func 196) #[] #[], .bool true]) := by
  refine den_of_body (args := [.int .i64 12]) hmix Tryz.func97 ?_
  (repeat' ((conv => whnf); first | refine AdN.mk _ _ rfl ?_ | refine DrawN.a (Ob.mk (by decide +kernel) ?_) | refine DrawN.c (Ob.mk (by decide +kernel) ?_) | refine DrawN.b (Ob.mk (by decide +kernel) ?_) | refine Ob.mk (by kernel_rfl) ?_ | (refine Br.mk (fun h => ?_) (fun h => ?_) <;> (first | (exfalso; exact Bool.false_ne_true h) | (exfalso; exact Bool.false_ne_true h.symm) | skip)) | refine SeqN.go ?_)); all_goals (conv => whnf)
  all_goals first | rfl | (exfalso; simp at *; done)
theorem wG12_d (a b : Int) : Den Tryz.prog 196 #[.int .i64 a, .int .i64 b] noFacts (.int .i64 (a / 2 ^ (b % 64).toNat)) := by
  refine den_of_body (args := [.int .i64 a, .int .i64 b]) hmix Tryz.func196 ?_
  (repeat' ((conv => whnf); first | refine CallN.any _ (wShift_d b) ?_ | refine Ob.mk (Int.emod_nonneg b (by decide)) ?_ | refine AdN.mk _ _ rfl ?_ | refine DrawN.a (Ob.mk (by decide +kernel) ?_) | refine DrawN.c (Ob.mk (by decide +kernel) ?_) | refine DrawN.b (Ob.mk (by decide +kernel) ?_) | refine Ob.mk (by kernel_rfl) ?_ | (refine Br.mk (fun h => ?_) (fun h => ?_) <;> (first | (exfalso; exact Bool.false_ne_true h) | (exfalso; exact Bool.false_ne_true h.symm) | skip)) | refine SeqN.go ?_)); all_goals (conv => whnf)
  all_goals exact congrArg (Value.int _) (shr_val a b)
theorem wH12_d (a b : Int) : Den Tryz.prog 31 #[.int .i64 12, .int .i64 a, .int .i64 b] noFacts (.tuple #[.int .i64 (a / 2 ^ (b % 64).toNat), .bool true]) := by
  refine den_of_body (args := [.int .i64 12, .int .i64 a, .int .i64 b]) hmix Tryz.func31 ?_
  (repeat' ((conv => whnf); first | refine CallN.any _ (wTraps_d _) ?_ | refine CallN.any _ wF12_d ?_ | refine CallN.any _ (wG12_d a b) ?_ | refine AdN.mk _ _ rfl ?_ | refine DrawN.a (Ob.mk (by decide +kernel) ?_) | refine DrawN.c (Ob.mk (by decide +kernel) ?_) | refine DrawN.b (Ob.mk (by decide +kernel) ?_) | refine Ob.mk (by kernel_rfl) ?_ | (refine Br.mk (fun h => ?_) (fun h => ?_) <;> (first | (exfalso; exact Bool.false_ne_true h) | (exfalso; exact Bool.false_ne_true h.symm) | skip)) | refine SeqN.go ?_)); all_goals (conv => whnf)
  all_goals first | rfl | (exfalso; simp at *; done) | (exfalso; simp_all; done)
theorem wF16_d : Den Tryz.prog 98 #[.int .i64 16] noFacts (.tuple #[.func (.func 200) #[] #[], .bool true]) := by
  refine den_of_body (args := [.int .i64 16]) hmix Tryz.func98 ?_
  (repeat' ((conv => whnf); first | refine AdN.mk _ _ rfl ?_ | refine DrawN.a (Ob.mk (by decide +kernel) ?_) | refine DrawN.c (Ob.mk (by decide +kernel) ?_) | refine DrawN.b (Ob.mk (by decide +kernel) ?_) | refine Ob.mk (by kernel_rfl) ?_ | (refine Br.mk (fun h => ?_) (fun h => ?_) <;> (first | (exfalso; exact Bool.false_ne_true h) | (exfalso; exact Bool.false_ne_true h.symm) | skip)) | refine SeqN.go ?_)); all_goals (conv => whnf)
  all_goals first | rfl | (exfalso; simp at *; done)
theorem wG16_d (a b : Int) (h0 : b ≠ 0) : Den Tryz.prog 200 #[.int .i64 a, .int .i64 b] noFacts (.int .i64 (quo a b)) := by
  refine den_of_body (args := [.int .i64 a, .int .i64 b]) hmix Tryz.func200 ?_
  (repeat' ((conv => whnf); first | refine Ob.mk h0 ?_ | refine AdN.mk _ _ rfl ?_ | refine DrawN.a (Ob.mk (by decide +kernel) ?_) | refine DrawN.c (Ob.mk (by decide +kernel) ?_) | refine DrawN.b (Ob.mk (by decide +kernel) ?_) | refine Ob.mk (by kernel_rfl) ?_ | (refine Br.mk (fun h => ?_) (fun h => ?_) <;> (first | (exfalso; exact Bool.false_ne_true h) | (exfalso; exact Bool.false_ne_true h.symm) | skip)) | refine SeqN.go ?_)); all_goals (conv => whnf)
  all_goals rfl
theorem wH16_d (a b : Int) (h0 : b ≠ 0) : Den Tryz.prog 31 #[.int .i64 16, .int .i64 a, .int .i64 b] noFacts (.tuple #[.int .i64 (quo a b), .bool true]) := by
  refine den_of_body (args := [.int .i64 16, .int .i64 a, .int .i64 b]) hmix Tryz.func31 ?_
  (repeat' ((conv => whnf); first | refine CallN.any _ (wTraps_d _) ?_ | refine CallN.any _ wF16_d ?_ | refine CallN.any _ (wG16_d a b h0) ?_ | refine AdN.mk _ _ rfl ?_ | refine DrawN.a (Ob.mk (by decide +kernel) ?_) | refine DrawN.c (Ob.mk (by decide +kernel) ?_) | refine DrawN.b (Ob.mk (by decide +kernel) ?_) | refine Ob.mk (by kernel_rfl) ?_ | (refine Br.mk (fun h => ?_) (fun h => ?_) <;> (first | (exfalso; exact Bool.false_ne_true h) | (exfalso; exact Bool.false_ne_true h.symm) | skip)) | refine SeqN.go ?_)); all_goals (conv => whnf)
  all_goals first | rfl | (exfalso; simp at *; done) | (exfalso; simp_all; done)
theorem wF17_d : Den Tryz.prog 98 #[.int .i64 17] noFacts (.tuple #[.func (.func 201) #[] #[], .bool true]) := by
  refine den_of_body (args := [.int .i64 17]) hmix Tryz.func98 ?_
  (repeat' ((conv => whnf); first | refine AdN.mk _ _ rfl ?_ | refine DrawN.a (Ob.mk (by decide +kernel) ?_) | refine DrawN.c (Ob.mk (by decide +kernel) ?_) | refine DrawN.b (Ob.mk (by decide +kernel) ?_) | refine Ob.mk (by kernel_rfl) ?_ | (refine Br.mk (fun h => ?_) (fun h => ?_) <;> (first | (exfalso; exact Bool.false_ne_true h) | (exfalso; exact Bool.false_ne_true h.symm) | skip)) | refine SeqN.go ?_)); all_goals (conv => whnf)
  all_goals first | rfl | (exfalso; simp at *; done)
theorem wG17_d (a b : Int) (h0 : b ≠ 0) : Den Tryz.prog 201 #[.int .i64 a, .int .i64 b] noFacts (.int .i64 (a.tmod b)) := by
  refine den_of_body (args := [.int .i64 a, .int .i64 b]) hmix Tryz.func201 ?_
  (repeat' ((conv => whnf); first | refine Ob.mk h0 ?_ | refine AdN.mk _ _ rfl ?_ | refine DrawN.a (Ob.mk (by decide +kernel) ?_) | refine DrawN.c (Ob.mk (by decide +kernel) ?_) | refine DrawN.b (Ob.mk (by decide +kernel) ?_) | refine Ob.mk (by kernel_rfl) ?_ | (refine Br.mk (fun h => ?_) (fun h => ?_) <;> (first | (exfalso; exact Bool.false_ne_true h) | (exfalso; exact Bool.false_ne_true h.symm) | skip)) | refine SeqN.go ?_)); all_goals (conv => whnf)
  all_goals rfl
theorem wH17_d (a b : Int) (h0 : b ≠ 0) : Den Tryz.prog 31 #[.int .i64 17, .int .i64 a, .int .i64 b] noFacts (.tuple #[.int .i64 (a.tmod b), .bool true]) := by
  refine den_of_body (args := [.int .i64 17, .int .i64 a, .int .i64 b]) hmix Tryz.func31 ?_
  (repeat' ((conv => whnf); first | refine CallN.any _ (wTraps_d _) ?_ | refine CallN.any _ wF17_d ?_ | refine CallN.any _ (wG17_d a b h0) ?_ | refine AdN.mk _ _ rfl ?_ | refine DrawN.a (Ob.mk (by decide +kernel) ?_) | refine DrawN.c (Ob.mk (by decide +kernel) ?_) | refine DrawN.b (Ob.mk (by decide +kernel) ?_) | refine Ob.mk (by kernel_rfl) ?_ | (refine Br.mk (fun h => ?_) (fun h => ?_) <;> (first | (exfalso; exact Bool.false_ne_true h) | (exfalso; exact Bool.false_ne_true h.symm) | skip)) | refine SeqN.go ?_)); all_goals (conv => whnf)
  all_goals first | rfl | (exfalso; simp at *; done) | (exfalso; simp_all; done)
theorem wH0_d (op a : Int) (ho : op = 16 ∨ op = 17) : Den Tryz.prog 31 #[.int .i64 op, .int .i64 a, .int .i64 0] noFacts (.tuple #[.int .i64 0, .bool false]) := by
  refine den_of_body (args := [.int .i64 op, .int .i64 a, .int .i64 0]) hmix Tryz.func31 ?_
  rcases ho with rfl | rfl
  all_goals
    (repeat' ((conv => whnf); first | refine CallN.any _ (wTraps_d _) ?_ | refine AdN.mk _ _ rfl ?_ | refine DrawN.a (Ob.mk (by decide +kernel) ?_) | refine DrawN.c (Ob.mk (by decide +kernel) ?_) | refine DrawN.b (Ob.mk (by decide +kernel) ?_) | refine Ob.mk (by kernel_rfl) ?_ | (refine Br.mk (fun h => ?_) (fun h => ?_) <;> (first | (exfalso; exact Bool.false_ne_true h) | (exfalso; exact Bool.false_ne_true h.symm) | skip)) | refine SeqN.go ?_)); all_goals (conv => whnf)
    all_goals first | rfl | (exfalso; simp at *; done)
/-- What an operator makes of two numbers, whichever it is. -/
theorem wAll_d (op a b : Int) (ho : 0 ≤ op ∧ op ≤ 17) : Den Tryz.prog 31 #[.int .i64 op, .int .i64 a, .int .i64 b] noFacts (.tuple #[.int .i64 (wopV op a b), .bool (wopB op b)]) := by
  have cases : op = 0 ∨ op = 1 ∨ (2 ≤ op ∧ op ≤ 7) ∨ op = 8 ∨ op = 9 ∨ op = 10 ∨ op = 11 ∨ op = 12 ∨ op = 13 ∨ op = 14 ∨ op = 15 ∨ op = 16 ∨ op = 17 := by omega
  rcases cases with rfl | rfl | ⟨h1, h2⟩ | rfl | rfl | rfl | rfl | rfl | rfl | rfl | rfl | rfl | rfl
  · exact wDo0_d a b
  · exact wDo1_d a b
  · refine (wDo_c op a b h1 h2).eq ?_
    have e1 : wopV op a b = wdo op a b := by
      unfold wopV
      rw [if_neg (by omega), if_neg (by omega), if_neg (by omega), if_neg (by omega), if_neg (by omega), if_neg (by omega), if_neg (by omega), if_pos (by omega)]
    have e2 : wopB op b = true := by
      unfold wopB
      have c1 : (op == 16) = false := by simp; omega
      have c2 : (op == 17) = false := by simp; omega
      rw [c1, c2, decide_eq_true (show 0 ≤ op by omega), decide_eq_true (show op ≤ 17 by omega)]
      rfl
    rw [e1, e2]
  · exact wH8_d a b
  · exact wH9_d a b
  · exact wH10_d a b
  · exact wH11_d a b
  · exact wH12_d a b
  · exact wDo13_d a b
  · exact wDo14_d a b
  · exact wDo15_d a b
  · by_cases h0 : b = 0
    · subst h0; exact wH0_d 16 a (.inl rfl)
    · refine (wH16_d a b h0).eq ?_
      simp [wopV, wopB, h0]
  · by_cases h0 : b = 0
    · subst h0; exact wH0_d 17 a (.inr rfl)
    · refine (wH17_d a b h0).eq ?_
      simp [wopV, wopB, h0]
end Go.Proofs.YtljhbdgoknfkcaaGreatDoor
