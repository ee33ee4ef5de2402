/- CondKeeps as a call. -/
import Derived.Test.YtljhbdgoknfkcaaGreatDoorPK
import Derived.Test.YtljhbdgoknfkcaaGreatDoorG4
namespace Go.Proofs.YtljhbdgoknfkcaaGreatDoor
open Go Go.RowKit Go.Sort
set_option linter.unusedVariables false
set_option linter.unusedSimpArgs false
set_option maxRecDepth 100000

theorem mod8 (op : Int) : 0 ≤ (IntKind.i64.wrap (op.tmod 8 + 8)).tmod 8 ∧ (IntKind.i64.wrap (op.tmod 8 + 8)).tmod 8 ≤ 7 := by
  have h1 := Int.tmod_lt_of_pos op (show (0 : Int) < 8 by decide)
  have h2 : -8 < op.tmod 8 := Int.lt_tmod_of_pos op (by decide)
  rw [wrap_id ⟨by omega, by omega⟩]
  have h3 := Int.tmod_nonneg 8 (show 0 ≤ op.tmod 8 + 8 by omega)
  have h4 := Int.tmod_lt_of_pos (op.tmod 8 + 8) (show (0 : Int) < 8 by decide)
  omega
theorem within_r {x y : VV} (h : RV x) (k : RV y) (hs : vwithin x y = true) : Den Tryz.prog 68 #[VVal x, VVal y] noFacts (.bool true) := by
  have := vWithin_d x y h.inn k.inn
  rwa [h.fix, k.fix, hs] at this
theorem within_i {x y : VV} (h : RV x) (k : InV y) (hs : vwithin x (vmake y) = true) : Den Tryz.prog 68 #[VVal x, VVal y] noFacts (.bool true) := by
  have := vWithin_d x y h.inn k
  rwa [h.fix, hs] at this
/-- Brought into a value's bounds. -/
def clamp (m : VV) (n : Int) : Int := if m.hi < (if n < m.lo then m.lo else n) then m.hi else (if n < m.lo then m.lo else n)
def cnr (m : VV) (n : Int) : Int := if (cleast m.m m.r (clamp m n)).2 = false ∨ (cleast m.m m.r (clamp m n)).1 > m.hi then m.lo else (cleast m.m m.r (clamp m n)).1
theorem clamp_rng {m : VV} (h : RV m) (hb : m ≠ vbot) (n : Int) : m.lo ≤ clamp m n ∧ clamp m n ≤ m.hi := by
  have := h.le hb
  unfold clamp
  split <;> split <;> omega
theorem near_least {m : VV} (h : RV m) (hb : m ≠ vbot) {z : Int} (h1 : m.lo ≤ z) (h2 : z ≤ m.hi) (k1 : (cleast m.m m.r z).2 = true) (k2 : (cleast m.m m.r z).1 ≤ m.hi) : vin m (cleast m.m m.r z).1 := by
  have hl := h.inn.lo
  unfold cleast at *
  rcases h.way with w | ⟨w1, w2, w3⟩ | ⟨w1, w2, w3, w4, w5, w6⟩
  · exact absurd w hb
  · rw [if_pos w2] at *
    have e : sg m.r = m.lo := by rw [w3]; exact sg_us m.lo hl.1 hl.2
    split at k1
    · cases k1
    · rename_i q
      rw [if_neg q]
      show vin m (sg m.r)
      rw [e]
      exact h.lo_in hb
  · rw [if_neg (by omega)] at *
    split at k1
    · cases k1
    · rename_i q
      rw [if_neg q] at *
      have g := emod_rng (m.r - z) m.m w2
      refine ⟨by dsimp only; omega, k2, ?_⟩
      refine chas_pos (by omega) ?_
      dsimp only
      rw [Int.add_emod_emod, show z + (m.r - z) = m.r by omega]
      exact Int.emod_eq_of_lt w3 w4
theorem cnr_in {m : VV} (h : RV m) (hb : m ≠ vbot) (n : Int) : vin m (cnr m n) := by
  have c := clamp_rng h hb n
  unfold cnr
  split
  · exact h.lo_in hb
  · rename_i q
    refine near_least h hb c.1 c.2 ?_ ?_
    · cases e : (cleast m.m m.r (clamp m n)).2 with
      | true => rfl
      | false => exact absurd (.inl e) q
    · have : ¬ (cleast m.m m.r (clamp m n)).1 > m.hi := fun e => q (.inr e)
      omega
theorem vin_is {m : VV} (h : RV m) {n : Int} (v : vin m n) : IS n := by
  have h1 := h.inn.lo; have h2 := h.inn.hi; have h3 := v.1; have h4 := v.2.1
  exact ⟨by omega, by omega⟩
theorem wDo_d (op a b : Int) (h1 : 0 ≤ op) (h2 : op ≤ 7) : Den Tryz.prog 31 #[.int .i64 op, .int .i64 a, .int .i64 b] noFacts (.tuple #[.int .i64 (wdo op a b), .bool true]) := by
  by_cases e0 : op = 0
  · subst e0; exact wDo0_d a b
  by_cases e1 : op = 1
  · subst e1; exact wDo1_d a b
  exact wDo_c op a b (by omega) h2
theorem wdo_01 {op x y : Int} (h1 : 0 ≤ op) (h2 : op ≤ 7) : wdo op x y = 0 ∨ wdo op x y = 1 := by
  rcases op_cases h1 h2 with rfl | rfl | rfl | rfl | rfl | rfl | rfl | rfl <;> (unfold wdo; grind)
theorem ctold_has (y n : Bool) : (y = true → vhas (ctold y n) 1 = true) ∧ (n = true → vhas (ctold y n) 0 = true) := by
  cases y <;> cases n <;> decide +kernel
theorem do_has {op x y : Int} {a b : VV} (ha : RV a) (hb : RV b) (hx : IS x) (hy : IS y) (vx : vin a x) (vy : vin b y) (h1 : 0 ≤ op) (h2 : op ≤ 7) : vhas (cdo op a b) (wdo op x y) = true := by
  have na := RV.ne vx
  have nb := RV.ne vy
  have e : cdo op a b = ctold (cmay op a b).1 (cmay op a b).2 := by
    unfold cdo
    rw [if_neg (by rw [veq_iff, veq_iff]; exact fun q => q.elim na nb), if_neg (by omega)]
  have m := may_sound ha hb hx hy vx vy h1 h2
  have c := ctold_has (cmay op a b).1 (cmay op a b).2
  rw [e]
  rcases wdo_01 (x := x) (y := y) h1 h2 with r | r
  · rw [r]; exact c.2 (m.2 r)
  · rw [r]; exact c.1 (m.1 (by rw [r]; decide))
end Go.Proofs.YtljhbdgoknfkcaaGreatDoor
