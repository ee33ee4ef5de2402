/- Plain arithmetic: what congruences are made of has 64 binary digits. No program. -/
import Derived.Test.YtcemohoigdninaaGreatDoorM2
namespace Go.Proofs.YtcemohoigdninaaGreatDoor
open Go Go.RowKit
set_option linter.unusedVariables false
set_option linter.unusedSimpArgs false

/-- both parts have 64 binary digits -/
def In2 (p : Int × Int) : Prop := (0 ≤ p.1 ∧ p.1 ≤ 18446744073709551615) ∧ 0 ≤ p.2 ∧ p.2 ≤ 18446744073709551615
theorem in2_mod {g x : Int} (h : 0 < g) (h' : g ≤ 18446744073709551615) : In2 (g, x % g) := by
  have := emod_rng x g h
  exact ⟨⟨by show 0 ≤ g; omega, h'⟩, this.1, by show x % g ≤ _; omega⟩
theorem in2_zero {r : Int} (h : 0 ≤ r) (h' : r ≤ 18446744073709551615) : In2 (0, r) := ⟨⟨Int.le_refl 0, show (0:Int) ≤ 18446744073709551615 by decide⟩, h, h'⟩
theorem cjoin_in {am ar bm br : Int} (ha : 0 ≤ am) (ha' : am ≤ 18446744073709551615) (har : 0 ≤ ar) (har' : ar ≤ 18446744073709551615) (hb : 0 ≤ bm) (hb' : bm ≤ 18446744073709551615) (hbr : 0 ≤ br) (hbr' : br ≤ 18446744073709551615) : In2 (cjoin am ar bm br) := by
  unfold cjoin
  by_cases h : am = 0 ∧ bm = 0
  · rw [if_pos h]
    by_cases h2 : ar = br
    · rw [if_pos h2]; exact in2_zero har har'
    · rw [if_neg h2]
      have hne : sg ar ≠ sg br := fun e => h2 (sg_inj har har' hbr hbr' e)
      have r1 := sg_rng ar
      have r2 := sg_rng br
      exact in2_mod (by unfold cdist; split <;> omega) (by unfold cdist; split <;> omega)
  · rw [if_neg h]
    have hg := cg_pos h
    have hx := crest_rng am ar (cg am bm) hg
    have hy := crest_rng bm br (cg am bm) hg
    have hgb := cg_bd ha hb ha' hb'
    refine in2_mod (cg_pos (by omega)) (cg_bd (by omega) cdist_rng hgb ?_)
    unfold cdist; split <;> omega
theorem cadd_in {am ar bm br : Int} (ha : 0 ≤ am) (ha' : am ≤ 18446744073709551615) (har : 0 ≤ ar) (har' : ar ≤ 18446744073709551615) (hb : 0 ≤ bm) (hb' : bm ≤ 18446744073709551615) (hbr : 0 ≤ br) (hbr' : br ≤ 18446744073709551615) : In2 (cadd am ar bm br) := by
  unfold cadd
  by_cases h : am = 0 ∧ bm = 0
  · rw [if_pos h]; exact in2_zero (us_rng _).1 (us_rng _).2
  · rw [if_neg h]; exact in2_mod (cg_pos h) (cg_bd ha hb ha' hb')
theorem csub_in {am ar bm br : Int} (ha : 0 ≤ am) (ha' : am ≤ 18446744073709551615) (har : 0 ≤ ar) (har' : ar ≤ 18446744073709551615) (hb : 0 ≤ bm) (hb' : bm ≤ 18446744073709551615) (hbr : 0 ≤ br) (hbr' : br ≤ 18446744073709551615) : In2 (csub am ar bm br) := by
  unfold csub
  by_cases h : am = 0 ∧ bm = 0
  · rw [if_pos h]; exact in2_zero (us_rng _).1 (us_rng _).2
  · rw [if_neg h]; exact in2_mod (cg_pos h) (cg_bd ha hb ha' hb')
theorem cscale_in {n m r : Int} (hm : 0 < m) (hm' : m ≤ 18446744073709551615) : In2 (cscale n m r) := by
  unfold cscale
  by_cases h : n = 0
  · rw [if_pos h]; exact in2_zero (Int.le_refl 0) (by decide)
  · rw [if_neg h]
    split
    · exact in2_mod (Int.mul_pos (cabs_rng h) hm) (by assumption)
    · exact in2_mod hm hm'
theorem cmul_in {am ar bm br : Int} (ha : 0 ≤ am) (ha' : am ≤ 18446744073709551615) (har : 0 ≤ ar) (har' : ar ≤ 18446744073709551615) (hb : 0 ≤ bm) (hb' : bm ≤ 18446744073709551615) (hbr : 0 ≤ br) (hbr' : br ≤ 18446744073709551615) : In2 (cmul am ar bm br) := by
  unfold cmul
  by_cases h : am = 0
  · rw [if_pos h]
    by_cases h2 : bm = 0
    · rw [if_pos h2]; exact in2_zero (us_rng _).1 (us_rng _).2
    · rw [if_neg h2]; exact cscale_in (by omega) hb'
  · rw [if_neg h]
    by_cases h2 : bm = 0
    · rw [if_pos h2]; exact cscale_in (by omega) ha'
    · rw [if_neg h2]
      split
      · rename_i hh
        have p1 : 0 < cg am ar := cg_pos (by omega)
        have p2 : 0 < cg bm br := cg_pos (by omega)
        have := Int.mul_pos p1 p2
        exact ⟨⟨by show 0 ≤ cg am ar * cg bm br; omega, hh.1⟩, Int.le_refl 0, show (0:Int) ≤ 18446744073709551615 by decide⟩
      · exact in2_mod (cg_pos (by omega)) (cg_bd ha hb ha' hb')
theorem cmeet_in {am ar bm br : Int} (ha : 0 ≤ am) (ha' : am ≤ 18446744073709551615) (har : 0 ≤ ar) (har' : ar ≤ 18446744073709551615) (hb : 0 ≤ bm) (hb' : bm ≤ 18446744073709551615) (hbr : 0 ≤ br) (hbr' : br ≤ 18446744073709551615) : In2 (cmeet am ar bm br).1 := by
  unfold cmeet
  split
  · exact in2_zero (Int.le_refl 0) (by decide)
  · split
    · exact ⟨⟨hb, hb'⟩, hbr, hbr'⟩
    · exact ⟨⟨ha, ha'⟩, har, har'⟩
theorem cwrapped_in {m r : Int} (hm : 0 ≤ m) (hm' : m ≤ 18446744073709551615) (hr : 0 ≤ r) (hr' : r ≤ 18446744073709551615) : In2 (cwrapped m r) := by
  unfold cwrapped
  by_cases h : m = 0
  · rw [if_pos h]; exact in2_zero hr hr'
  · rw [if_neg h]
    have := clow_rng m (by omega) hm'
    exact in2_mod this.1 (by omega)

end Go.Proofs.YtcemohoigdninaaGreatDoor
