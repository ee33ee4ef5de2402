/- Rows of bytes as numbers, the least one first, in plain numbers. -/
import Derived.Test.YtljhbdgoknfkcaaGreatDoorV8
namespace Go.Proofs.YtljhbdgoknfkcaaGreatDoor
open Go Go.RowKit Go.Sort
set_option linter.unusedVariables false
set_option linter.unusedSimpArgs false

/-- A number's bytes, without noughts at the end. -/
def byt (n : Nat) : List Int := if h : n = 0 then [] else ((n % 256 : Nat) : Int) :: byt (n / 256)
termination_by n
decreasing_by omega
/-- The number of a row of bytes. -/
def bval : List Int → Nat
  | [] => 0
  | x :: l => x.toNat + 256 * bval l
abbrev BY (l : List Int) : Prop := ∀ x ∈ l, 0 ≤ x ∧ x < 256
theorem byt_zero : byt 0 = [] := by unfold byt; simp
theorem byt_pos {n : Nat} (h : n ≠ 0) : byt n = ((n % 256 : Nat) : Int) :: byt (n / 256) := by rw [byt]; simp [h]
theorem byt_by (n : Nat) : BY (byt n) := by
  induction n using Nat.strongRecOn with
  | ind n ih =>
    by_cases h : n = 0
    · subst h; rw [byt_zero]; intro x hx; cases hx
    · rw [byt_pos h]
      intro x hx
      rcases List.mem_cons.1 hx with rfl | hx
      · omega
      · exact ih (n / 256) (by omega) x hx
theorem bval_byt (n : Nat) : bval (byt n) = n := by
  induction n using Nat.strongRecOn with
  | ind n ih =>
    by_cases h : n = 0
    · subst h; rw [byt_zero]; rfl
    · rw [byt_pos h]
      show (((n % 256 : Nat) : Int)).toNat + 256 * bval (byt (n / 256)) = n
      rw [ih (n / 256) (by omega)]
      omega
theorem byt_cons {x : Int} {n : Nat} (h0 : 0 ≤ x) (h1 : x < 256) (h : x.toNat + 256 * n ≠ 0) : byt (x.toNat + 256 * n) = x :: byt n := by
  rw [byt_pos h]
  have e1 : (x.toNat + 256 * n) % 256 = x.toNat := by omega
  have e2 : (x.toNat + 256 * n) / 256 = n := by omega
  rw [e1, e2]
  congr 1
  omega
/-- Without noughts at the end. -/
def trimL : List Int → List Int
  | [] => []
  | x :: l => if x = 0 ∧ trimL l = [] then [] else x :: trimL l
theorem trimL_eq {l : List Int} (h : BY l) : trimL l = byt (bval l) := by
  induction l with
  | nil => rw [show bval [] = 0 from rfl, byt_zero]; rfl
  | cons x l ih =>
    have hx := h x (List.mem_cons_self ..)
    have hl := ih fun y hy => h y (List.mem_cons_of_mem _ hy)
    have hz : trimL l = [] ↔ bval l = 0 := by
      rw [hl]
      constructor
      · intro e
        have := bval_byt (bval l)
        rw [e] at this
        exact this.symm
      · intro e; rw [e, byt_zero]
    unfold trimL bval
    by_cases c : x = 0 ∧ trimL l = []
    · rw [if_pos c, c.1, hz.1 c.2, show (0 : Int).toNat + 256 * 0 = 0 from rfl, byt_zero]
    · rw [if_neg c, hl, byt_cons hx.1 hx.2]
      intro e
      exact c ⟨by omega, hz.2 (by omega)⟩
theorem bval_app (l m : List Int) : bval (l ++ m) = bval l + 256 ^ l.length * bval m := by
  induction l with
  | nil => simp [bval]
  | cons x l ih =>
    show x.toNat + 256 * bval (l ++ m) = x.toNat + 256 * bval l + 256 ^ (l.length + 1) * bval m
    rw [ih, Nat.pow_succ, Nat.mul_add, Nat.mul_comm (256 ^ l.length) 256, Nat.mul_assoc]
    omega
theorem bval_lt {l : List Int} (h : BY l) : bval l < 256 ^ l.length := by
  induction l with
  | nil => simp [bval]
  | cons x l ih =>
    have hx := h x (List.mem_cons_self ..)
    have hl := ih fun y hy => h y (List.mem_cons_of_mem _ hy)
    show x.toNat + 256 * bval l < 256 ^ (l.length + 1)
    rw [Nat.pow_succ]
    omega
theorem byt_len {n k : Nat} (h : n < 256 ^ k) : (byt n).length ≤ k := by
  induction k generalizing n with
  | zero =>
    have : n = 0 := by simpa using h
    subst this; rw [byt_zero]; simp
  | succ k ih =>
    by_cases h0 : n = 0
    · subst h0; rw [byt_zero]; simp
    · rw [byt_pos h0]
      have := ih (n := n / 256) (by rw [Nat.pow_succ] at h; exact Nat.div_lt_of_lt_mul (by omega))
      simp
      omega
theorem byt_nil {n : Nat} : byt n = [] ↔ n = 0 := by
  constructor
  · intro e
    have := bval_byt n
    rw [e] at this
    exact this.symm
  · intro e; rw [e, byt_zero]
theorem trimL_zero (l : List Int) : trimL (l ++ [0]) = trimL l := by
  induction l with
  | nil => simp [trimL]
  | cons x l ih =>
    show (if x = 0 ∧ trimL (l ++ [0]) = [] then [] else x :: trimL (l ++ [0])) = _
    rw [ih]; rfl
theorem trimL_last (l : List Int) {x : Int} (h : x ≠ 0) : trimL (l ++ [x]) = l ++ [x] := by
  induction l with
  | nil => simp [trimL, h]
  | cons y l ih =>
    show (if y = 0 ∧ trimL (l ++ [x]) = [] then [] else y :: trimL (l ++ [x])) = _
    rw [ih, if_neg]
    · rfl
    · intro q
      have := q.2
      simp at this
/-! Rows of numbers, weighed: what a product of two rows of bytes comes to; which of two numbers is less. -/
/-- Rows of numbers, weighed. -/
def wv : List Int → Int
  | [] => 0
  | x :: l => x + 256 * wv l
def sumI : List Int → Int
  | [] => 0
  | x :: l => x + sumI l
abbrev NN (l : List Int) : Prop := ∀ x ∈ l, 0 ≤ x
theorem NN.getD {l : List Int} (h : NN l) (j : Nat) : 0 ≤ l.getD j 0 := by
  by_cases hj : j < l.length
  · simp only [List.getD, List.getElem?_eq_getElem hj, Option.getD_some]; exact h _ (List.getElem_mem hj)
  · simp [List.getD, List.getElem?_eq_none (by omega : l.length ≤ j)]
theorem NN.set {l : List Int} (h : NN l) (j : Nat) {x : Int} (hx : 0 ≤ x) : NN (l.set j x) := fun y hy => by
  rcases List.mem_or_eq_of_mem_set hy with hy | rfl
  · exact h y hy
  · exact hx
theorem NN.sum {l : List Int} (h : NN l) : 0 ≤ sumI l := by
  induction l with
  | nil => exact Int.le_refl _
  | cons x l ih =>
    have := h x (List.mem_cons_self ..)
    have := ih fun y hy => h y (List.mem_cons_of_mem _ hy)
    show 0 ≤ x + sumI l
    omega
theorem NN.le {l : List Int} (h : NN l) (j : Nat) : l.getD j 0 ≤ sumI l := by
  induction l generalizing j with
  | nil => simp [sumI]
  | cons x l ih =>
    have h1 := h x (List.mem_cons_self ..)
    have h2 : NN l := fun y hy => h y (List.mem_cons_of_mem _ hy)
    show (x :: l).getD j 0 ≤ x + sumI l
    cases j with
    | zero => have := h2.sum; simp; omega
    | succ j => have := ih h2 j; simp at this ⊢; omega
theorem sum_set {l : List Int} {j : Nat} {x : Int} (h : j < l.length) : sumI (l.set j x) = sumI l + (x - l.getD j 0) := by
  induction l generalizing j with
  | nil => simp at h
  | cons y l ih =>
    cases j with
    | zero => simp [sumI]; omega
    | succ j =>
      have := ih (j := j) (by simpa using h)
      simp [sumI] at this ⊢
      omega
theorem wv_set {l : List Int} {j : Nat} {x : Int} (h : j < l.length) : wv (l.set j x) = wv l + (x - l.getD j 0) * 256 ^ j := by
  induction l generalizing j with
  | nil => simp at h
  | cons y l ih =>
    cases j with
    | zero => simp [wv]; omega
    | succ j =>
      have := ih (j := j) (by simpa using h)
      simp [wv] at this ⊢
      rw [this, Int.pow_succ, Int.mul_add, ← Int.mul_assoc, Int.mul_comm (256 ^ j) 256, ← Int.mul_assoc, Int.mul_comm 256 (x - _)]
      omega
theorem wv_nonneg {l : List Int} (h : NN l) : 0 ≤ wv l := by
  induction l with
  | nil => exact Int.le_refl _
  | cons x l ih =>
    have := h x (List.mem_cons_self ..)
    have := ih fun y hy => h y (List.mem_cons_of_mem _ hy)
    show 0 ≤ x + 256 * wv l
    omega
theorem wv_drop {l : List Int} {j : Nat} (h : j < l.length) : wv (l.drop j) = l.getD j 0 + 256 * wv (l.drop (j + 1)) := by
  rw [List.drop_eq_getElem_cons h]
  simp [wv, List.getD, h]
theorem wv_zero (n : Nat) : wv (List.replicate n 0) = 0 := by
  induction n with
  | zero => rfl
  | succ n ih => rw [List.replicate_succ]; simp [wv, ih]
theorem sum_zero (n : Nat) : sumI (List.replicate n 0) = 0 := by
  induction n with
  | zero => rfl
  | succ n ih => rw [List.replicate_succ]; simp [sumI, ih]
/-- A step of a product. -/
def mulSt (s : List Int) (j : Nat) (p : Int) : List Int := (s.set j ((s.getD j 0 + p) % 256)).set (j + 1) ((s.set j ((s.getD j 0 + p) % 256)).getD (j + 1) 0 + (s.getD j 0 + p) / 256)
theorem mulSt_len (s : List Int) (j : Nat) (p : Int) : (mulSt s j p).length = s.length := by simp [mulSt]
theorem mulSt_nn {s : List Int} {j : Nat} {p : Int} (h : NN s) (hp : 0 ≤ p) : NN (mulSt s j p) := by
  have h1 := h.getD j
  have h2 := h.set j (show 0 ≤ (s.getD j 0 + p) % 256 by omega)
  refine h2.set _ ?_
  have := h2.getD (j + 1)
  omega
theorem mulSt_wv {s : List Int} {j : Nat} {p : Int} (hj : j + 1 < s.length) : wv (mulSt s j p) = wv s + p * 256 ^ j := by
  unfold mulSt
  rw [wv_set (by simpa using hj), wv_set (by omega), Int.pow_succ]
  have e : (s.getD j 0 + p) % 256 = s.getD j 0 + p - 256 * ((s.getD j 0 + p) / 256) := by omega
  generalize (s.getD j 0 + p) / 256 = q at *
  rw [e]
  generalize (s.set j (s.getD j 0 + p - 256 * q)).getD (j + 1) 0 = y
  generalize s.getD j 0 = x
  generalize (256 : Int) ^ j = t
  rw [Int.mul_comm t 256, ← Int.mul_assoc]
  have : (x + p - 256 * q - x) * t = p * t - (256 * q) * t := by rw [← Int.sub_mul]; congr 1; omega
  rw [this]
  have : (y + q - y) * 256 * t = 256 * q * t := by congr 1; omega
  rw [this]
  omega
theorem mulSt_sum {s : List Int} {j : Nat} {p : Int} (h : NN s) (hp : 0 ≤ p) (hj : j + 1 < s.length) : sumI (mulSt s j p) ≤ sumI s + p := by
  unfold mulSt
  rw [sum_set (by simpa using hj), sum_set (by omega)]
  have := h.getD j
  omega
theorem byte_mul {A B i k : Nat} : 0 ≤ ((A / 256 ^ i % 256 : Nat) : Int) * ((B / 256 ^ k % 256 : Nat) : Int) ∧ ((A / 256 ^ i % 256 : Nat) : Int) * ((B / 256 ^ k % 256 : Nat) : Int) ≤ 65025 := by
  have h1 : A / 256 ^ i % 256 ≤ 255 := by omega
  have h2 : B / 256 ^ k % 256 ≤ 255 := by omega
  have := Nat.mul_le_mul h1 h2
  generalize A / 256 ^ i % 256 = x at *
  generalize B / 256 ^ k % 256 = y at *
  have e : (x : Int) * (y : Int) = ((x * y : Nat) : Int) := by simp
  rw [e]
  omega
theorem mod_step (A i : Nat) : A % 256 ^ (i + 1) = A % 256 ^ i + 256 ^ i * (A / 256 ^ i % 256) := by rw [Nat.pow_succ, Nat.mod_mul]

/-- Which of two numbers is less. -/
def cmpN (a b : Nat) : Int := if a < b then -1 else if a = b then 0 else 1

theorem byt_lt (n : Nat) : n < 256 ^ (byt n).length := by
  have := bval_lt (byt_by n)
  rwa [bval_byt] at this
theorem byt_big {n i : Nat} (h : (byt n).length ≤ i) : n / 256 ^ i = 0 := Nat.div_eq_of_lt (Nat.lt_of_lt_of_le (byt_lt n) (Nat.pow_le_pow_right (by decide) h))
theorem byt_getD (n i : Nat) : (byt n).getD i 0 = ((n / 256 ^ i % 256 : Nat) : Int) := by
  induction i generalizing n with
  | zero =>
    by_cases h : n = 0
    · subst h; rw [byt_zero]; rfl
    · rw [byt_pos h]; simp
  | succ i ih =>
    by_cases h : n = 0
    · subst h; rw [byt_zero]; simp
    · rw [byt_pos h, List.getD_cons_succ, ih, Nat.div_div_eq_div_mul, Nat.pow_succ, Nat.mul_comm 256]
theorem byt_pow {n k : Nat} (h : k < (byt n).length) : 256 ^ k ≤ n := by
  refine Nat.le_of_not_lt fun c => ?_
  have := byt_len c
  omega
theorem byt_len_eq {n k : Nat} (h1 : 256 ^ k ≤ n) (h2 : n < 256 ^ (k + 1)) : (byt n).length = k + 1 := by
  have := byt_len h2
  by_cases c : (byt n).length ≤ k
  · have := byt_lt n
    have := Nat.pow_le_pow_right (show 0 < 256 by decide) c
    omega
  · omega
theorem cmpN_len {a b : Nat} (h : (byt a).length < (byt b).length) : a < b := Nat.lt_of_lt_of_le (byt_lt a) (byt_pow h)
theorem cmpN_lt {a b : Nat} (h : a < b) : cmpN a b = -1 := if_pos h
theorem cmpN_gt {a b : Nat} (h : b < a) : cmpN a b = 1 := by unfold cmpN; rw [if_neg (by omega), if_neg (by omega)]
theorem cmpN_eq (a : Nat) : cmpN a a = 0 := by unfold cmpN; rw [if_neg (by omega), if_pos rfl]
/-- The first digit that differs tells. -/
theorem cmp_step {a b i : Nat} (h : a / 256 ^ (i + 1) = b / 256 ^ (i + 1)) (hl : a / 256 ^ i % 256 < b / 256 ^ i % 256) : a < b := by
  rw [Nat.pow_succ, ← Nat.div_div_eq_div_mul, ← Nat.div_div_eq_div_mul] at h
  have : a / 256 ^ i < b / 256 ^ i := by omega
  exact Nat.lt_of_not_le fun c => by
    have := Nat.div_le_div_right (c := 256 ^ i) c
    omega
theorem cmp_same {a b i : Nat} (h : a / 256 ^ (i + 1) = b / 256 ^ (i + 1)) (hl : a / 256 ^ i % 256 = b / 256 ^ i % 256) : a / 256 ^ i = b / 256 ^ i := by
  rw [Nat.pow_succ, ← Nat.div_div_eq_div_mul, ← Nat.div_div_eq_div_mul] at h
  omega
end Go.Proofs.YtljhbdgoknfkcaaGreatDoor
