/- Rows of bytes as numbers, the least one first, in plain numbers. -/
import Derived.Test.YtljhbdgoknfkcaaGreatDoorV8
namespace Go.Proofs.YtljhbdgoknfkcaaGreatDoor
open Go Go.RowKit Go.Sort
set_option linter.unusedVariables false
set_option linter.unusedSimpArgs false

/-- A number's bytes, without noughts at the end. -/
def byt (n : Nat) : List Int := if h : n = 0 then [] else ((n % 256 : Nat) : Int) :: byt (n / 256)
termination_by n
decreasing_by omega
/-- The number of a row of bytes. -/
def bval : List Int → Nat
  | [] => 0
  | x :: l => x.toNat + 256 * bval l
abbrev BY (l : List Int) : Prop := ∀ x ∈ l, 0 ≤ x ∧ x < 256
theorem byt_zero : byt 0 = [] := by unfold byt; simp
theorem byt_pos {n : Nat} (h : n ≠ 0) : byt n = ((n % 256 : Nat) : Int) :: byt (n / 256) := by rw [byt]; simp [h]
theorem byt_by (n : Nat) : BY (byt n) := by
  induction n using Nat.strongRecOn with
  | ind n ih =>
    by_cases h : n = 0
    · subst h; rw [byt_zero]; intro x hx; cases hx
    · rw [byt_pos h]
      intro x hx
      rcases List.mem_cons.1 hx with rfl | hx
      · omega
      · exact ih (n / 256) (by omega) x hx
theorem bval_byt (n : Nat) : bval (byt n) = n := by
  induction n using Nat.strongRecOn with
  | ind n ih =>
    by_cases h : n = 0
    · subst h; rw [byt_zero]; rfl
    · rw [byt_pos h]
      show (((n % 256 : Nat) : Int)).toNat + 256 * bval (byt (n / 256)) = n
      rw [ih (n / 256) (by omega)]
      omega
theorem byt_cons {x : Int} {n : Nat} (h0 : 0 ≤ x) (h1 : x < 256) (h : x.toNat + 256 * n ≠ 0) : byt (x.toNat + 256 * n) = x :: byt n := by
  rw [byt_pos h]
  have e1 : (x.toNat + 256 * n) % 256 = x.toNat := by omega
  have e2 : (x.toNat + 256 * n) / 256 = n := by omega
  rw [e1, e2]
  congr 1
  omega
/-- Without noughts at the end. -/
def trimL : List Int → List Int
  | [] => []
  | x :: l => if x = 0 ∧ trimL l = [] then [] else x :: trimL l
theorem trimL_eq {l : List Int} (h : BY l) : trimL l = byt (bval l) := by
  induction l with
  | nil => rw [show bval [] = 0 from rfl, byt_zero]; rfl
  | cons x l ih =>
    have hx := h x (List.mem_cons_self ..)
    have hl := ih fun y hy => h y (List.mem_cons_of_mem _ hy)
    have hz : trimL l = [] ↔ bval l = 0 := by
      rw [hl]
      constructor
      · intro e
        have := bval_byt (bval l)
        rw [e] at this
        exact this.symm
      · intro e; rw [e, byt_zero]
    unfold trimL bval
    by_cases c : x = 0 ∧ trimL l = []
    · rw [if_pos c, c.1, hz.1 c.2, show (0 : Int).toNat + 256 * 0 = 0 from rfl, byt_zero]
    · rw [if_neg c, hl, byt_cons hx.1 hx.2]
      intro e
      exact c ⟨by omega, hz.2 (by omega)⟩
theorem bval_app (l m : List Int) : bval (l ++ m) = bval l + 256 ^ l.length * bval m := by
  induction l with
  | nil => simp [bval]
  | cons x l ih =>
    show x.toNat + 256 * bval (l ++ m) = x.toNat + 256 * bval l + 256 ^ (l.length + 1) * bval m
    rw [ih, Nat.pow_succ, Nat.mul_add, Nat.mul_comm (256 ^ l.length) 256, Nat.mul_assoc]
    omega
theorem bval_lt {l : List Int} (h : BY l) : bval l < 256 ^ l.length := by
  induction l with
  | nil => simp [bval]
  | cons x l ih =>
    have hx := h x (List.mem_cons_self ..)
    have hl := ih fun y hy => h y (List.mem_cons_of_mem _ hy)
    show x.toNat + 256 * bval l < 256 ^ (l.length + 1)
    rw [Nat.pow_succ]
    omega
theorem byt_len {n k : Nat} (h : n < 256 ^ k) : (byt n).length ≤ k := by
  induction k generalizing n with
  | zero =>
    have : n = 0 := by simpa using h
    subst this; rw [byt_zero]; simp
  | succ k ih =>
    by_cases h0 : n = 0
    · subst h0; rw [byt_zero]; simp
    · rw [byt_pos h0]
      have := ih (n := n / 256) (by rw [Nat.pow_succ] at h; exact Nat.div_lt_of_lt_mul (by omega))
      simp
      omega
theorem byt_nil {n : Nat} : byt n = [] ↔ n = 0 := by
  constructor
  · intro e
    have := bval_byt n
    rw [e] at this
    exact this.symm
  · intro e; rw [e, byt_zero]
theorem trimL_zero (l : List Int) : trimL (l ++ [0]) = trimL l := by
  induction l with
  | nil => simp [trimL]
  | cons x l ih =>
    show (if x = 0 ∧ trimL (l ++ [0]) = [] then [] else x :: trimL (l ++ [0])) = _
    rw [ih]; rfl
theorem trimL_last (l : List Int) {x : Int} (h : x ≠ 0) : trimL (l ++ [x]) = l ++ [x] := by
  induction l with
  | nil => simp [trimL, h]
  | cons y l ih =>
    show (if y = 0 ∧ trimL (l ++ [x]) = [] then [] else y :: trimL (l ++ [x])) = _
    rw [ih, if_neg]
    · rfl
    · intro q
      have := q.2
      simp at this
end Go.Proofs.YtljhbdgoknfkcaaGreatDoor
