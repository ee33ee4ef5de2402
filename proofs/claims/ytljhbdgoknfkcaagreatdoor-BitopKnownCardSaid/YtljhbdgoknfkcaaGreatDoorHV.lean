/- Rows of values: what is read off them. -/
import Derived.Test.YtljhbdgoknfkcaaGreatDoorPV
namespace Go.Proofs.YtljhbdgoknfkcaaGreatDoor
open Go Go.RowKit Go.Sort
set_option linter.unusedVariables false
set_option linter.unusedSimpArgs false

theorem VCs_app (a b : List VV) : VCs (a ++ b) = VCs a ++ VCs b := by simp [VCs]
theorem VCs_one (p : VV) : VCs [p] = VC p := by simp [VCs]
theorem rowVV {l : List VV} {K : List Value → Prop} (n : Int) (h0 : 0 ≤ n) (h : n < (l.length : Int)) (k : K (VC (l.getD n.toNat vbot))) : RowN (VCs l) (n.toNat * 4) 4 K := .mk _ (VCs_drop l n.toNat (by omega)) rfl k
theorem cmake_iu {m n : Int} (hm : IU m) : IU (cmake m n) := by
  unfold cmake
  by_cases h : m = 0
  · rw [if_pos h]; exact us_rng n
  · rw [if_neg h]
    have := emod_rng n m (by have := hm.1; omega)
    have := hm.2
    exact ⟨by omega, by omega⟩
theorem rowV4 {l : List VV} {j : Nat} (h : j < l.length) : ∃ rest, (VCs l).drop (j * 4) = .int .i64 (l.getD j vbot).lo :: .int .i64 (l.getD j vbot).hi :: .int .u64 (l.getD j vbot).m :: .int .u64 (l.getD j vbot).r :: rest := by
  have e := VCs_drop l j h
  generalize (VCs l).drop (j * 4) = X at e
  rcases X with _ | ⟨a, _ | ⟨b, _ | ⟨c, _ | ⟨d, X⟩⟩⟩⟩
  all_goals first
    | (simp [VC] at e; done)
    | (simp [VC] at e; obtain ⟨rfl, rfl, rfl, rfl⟩ := e; exact ⟨X, rfl⟩)
theorem rowLo {l : List VV} {K : List Value → Prop} (n : Int) (h0 : 0 ≤ n) (h : n < (l.length : Int)) (k : K [.int .i64 (l.getD n.toNat vbot).lo]) : RowN (VCs l) (n.toNat * 4 + 0) 1 K := by
  obtain ⟨rest, e⟩ := rowV4 (l := l) (j := n.toNat) (by omega)
  exact .mk _ (by rw [Nat.add_zero, e]; rfl) rfl k
theorem rowHi {l : List VV} {K : List Value → Prop} (n : Int) (h0 : 0 ≤ n) (h : n < (l.length : Int)) (k : K [.int .i64 (l.getD n.toNat vbot).hi]) : RowN (VCs l) (n.toNat * 4 + 1) 1 K := by
  obtain ⟨rest, e⟩ := rowV4 (l := l) (j := n.toNat) (by omega)
  exact .mk _ (by rw [← List.drop_drop, e]; rfl) rfl k
end Go.Proofs.YtljhbdgoknfkcaaGreatDoor
