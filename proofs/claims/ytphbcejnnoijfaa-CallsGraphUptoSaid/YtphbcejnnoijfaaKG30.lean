
import Derived.Test.YtphbcejnnoijfaaKG25
import Derived.Test.YtphbcejnnoijfaaKG29
namespace Go.Proofs.Ytphbcejnnoijfaa
open Go Go.RowKit Go.Sort U
set_option linter.unusedVariables false
set_option linter.unusedSimpArgs false
set_option maxRecDepth 100000
set_option maxHeartbeats 4000000
end Go.Proofs.Ytphbcejnnoijfaa
namespace Go.Proofs.Ytphbcejnnoijfaa
open Go Go.RowKit Go.Sort U
set_option linter.unusedVariables false
set_option linter.unusedSimpArgs false
end Go.Proofs.Ytphbcejnnoijfaa
namespace Go.Proofs.Ytphbcejnnoijfaa.U
open Go Go.RowKit Go.Sort
set_option linter.unusedVariables false
set_option linter.unusedSimpArgs false
end Go.Proofs.Ytphbcejnnoijfaa.U
namespace Go.Proofs.Ytphbcejnnoijfaa
open Go Go.RowKit Go.Sort U
set_option linter.unusedVariables false
set_option linter.unusedSimpArgs false
set_option maxRecDepth 100000
set_option maxHeartbeats 4000000
theorem src1 {sh : Tr U.Blk} {l : List (Option U.Blk)} (h : ∀ p, Tr.at (.r (.l p)) sh = Tr.at p (gTr 256 l)) (hl : l.length ≤ 65280) {j : Nat} (hj : j < l.length) : sh.get (257 + j) = l[j]?.join := by
  unfold Tr.get
  rw [pt_g1 (by omega) (by omega), h, gTr_at, if_pos (by omega), show 257 + j - 1 - 256 = j by omega]
theorem src2 {sh : Tr U.Blk} {l : List (Option U.Blk)} (h : ∀ p, Tr.at (.r (.r (.r (.r (.l p))))) sh = Tr.at p (gTr 65792 l)) (hl : l.length ≤ 65280) {j : Nat} (hj : j < l.length) : sh.get (65793 + j) = l[j]?.join := by
  unfold Tr.get
  rw [pt_g2 (by omega) (by omega), h, gTr_at, if_pos (by omega), show 65793 + j - 1 - 65792 = j by omega]
def cellsN (n : Nat) (R : Nat → List Int) (nm : Nat → Nat) : List Value := (List.range n).map fun k => rowS (nm k) (iL (R k))
structure RowsAt (sh : Tr U.Blk) (n : Nat) (R : Nat → List Int) (nm : Nat → Nat) : Prop where
  cells : sh.get 0 = some (.cells 54 (cellsN n R nm) false)
  at_ : ∀ k, k < n → R k ≠ [] → sh.get (nm k) = some (.cells 3 (iL (R k)) true)
  inj : ∀ k k', k < n → k' < n → R k ≠ [] → R k' ≠ [] → nm k = nm k' → k = k'
  nz : ∀ k, k < n → R k ≠ [] → nm k ≠ 0
theorem rowO_some {T : TypeId} {l : List Int} {b : U.Blk} (h : rowO T (iL l) = some b) : l ≠ [] ∧ b = .cells T (iL l) true := by
  cases l with
  | nil => cases h
  | cons x l =>
    refine ⟨by simp, ?_⟩
    have : rowO T (iL (x :: l)) = some (.cells T (cellsAll (iL (x :: l))) true) := rfl
    rw [this, cellsI] at h
    exact (Option.some.inj h).symm
def famR (n : Nat) (R : Nat → List Int) (t : Nat) : List (Option U.Blk) := (List.range n).map fun k => if k = t then none else rowO 3 (iL (R k))
theorem famR_len (n : Nat) (R : Nat → List Int) (t : Nat) : (famR n R t).length = n := by simp [famR]
theorem famR_at {n : Nat} {R : Nat → List Int} {t j : Nat} {b : U.Blk} (h : (famR n R t)[j]? = some (some b)) : j < n ∧ j ≠ t ∧ R j ≠ [] ∧ b = .cells 3 (iL (R j)) true := by
  have hj : j < n := by have := (List.getElem?_eq_some_iff.1 h).1; rwa [famR_len] at this
  simp only [famR, List.getElem?_map, List.getElem?_range hj, Option.map_some, Option.some.injEq] at h
  split at h
  · cases h
  · rename_i hne
    obtain ⟨q1, q2⟩ := rowO_some h
    exact ⟨hj, hne, q1, q2⟩
theorem famR_to {n : Nat} {R : Nat → List Int} {t j : Nat} (hj : j < n) (ht : j ≠ t) (hr : R j ≠ []) : (famR n R t)[j]?.join = some (.cells 3 (iL (R j)) true) := by
  simp only [famR, List.getElem?_map, List.getElem?_range hj, Option.map_some, if_neg ht]
  cases hx : R j with
  | nil => exact absurd hx hr
  | cons x l =>
    show some (U.Blk.cells 3 (cellsAll (iL (x :: l))) true) = _
    rw [cellsI]
def nmO (k : Nat) : Nat := 257 + k
theorem cellsN_nth {n j : Nat} {R : Nat → List Int} {nm : Nat → Nat} (hj : j < n) : nth (cellsN n R nm) (0 + j * 1) = some (rowS (nm j) (iL (R j))) := by
  rw [Nat.zero_add, Nat.mul_one, nth_eq]
  simp [cellsN, hj]
end Go.Proofs.Ytphbcejnnoijfaa
