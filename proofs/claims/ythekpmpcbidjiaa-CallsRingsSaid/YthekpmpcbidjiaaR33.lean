
import Derived.Test.YthekpmpcbidjiaaR32
/- Layer 11: the reference's has, Right, Order. -/
namespace Go.Proofs.Ythekpmpcbidjiaa
open Go Go.RowKit Go.Sort U
set_option linter.unusedVariables false
set_option linter.unusedSimpArgs false
set_option maxRecDepth 100000
set_option maxHeartbeats 4000000
theorem find_congr {α : Type} {p q : α → Bool} : ∀ {l : List α}, (∀ v ∈ l, p v = q v) → l.find? p = l.find? q
  | [], _ => rfl
  | a :: l, h => by
    rw [List.find?_cons, List.find?_cons, h a (by simp), find_congr fun v hv => h v (by simp [hv])]
/-- A row that grows, by its length. -/
def slV (b : Nat) (l : List Int) : Value := .slice (match l with
  | [] => none
  | _ :: _ => some ⟨b, 0, none⟩) l.length l.length
theorem slV_ren {n : Nat} {ρ : Ren} {b b' : Nat} {l l' : List Int} (hb : b < n) (e : ρ b = b') (e2 : l = l') : U.RenV n ρ (slV b l) (slV b' l') := by
  subst e2
  cases l with
  | nil => exact .clean _ _ (.flat _ rfl) rfl
  | cons y l => exact .sl _ _ _ _ _ _ _ hb e rfl rfl
theorem slV_grown {n : Nat} {ρ : Ren} {b b' m c : Nat} {l : List Int} (hb : b < n) (e : ρ b = b') (h0 : l ≠ []) (e2 : l.length = m) (e3 : l.length = c) : U.RenV n ρ (slV b l) (.slice (some ⟨b', 0, none⟩) m c) := by
  cases l with
  | nil => exact absurd rfl h0
  | cons y l => exact .sl _ _ _ _ _ _ _ hb e e2 e3
theorem slV_frz {P : Program} {s : AS} {b : Nat} {T : TypeId} {l : List Int} (hlo : s.lo ≤ b) (hk : Tr.at (pt b) s.heap = rowO T (iL l)) : U.FrzV P s (slV b l) (imS (iL l)) := by
  cases l with
  | nil => exact .nil
  | cons y l => exact .rowL hlo hk rfl iL_1 (by rw [iL_len]) (Nat.le_refl _) (cleanIC _)
end Go.Proofs.Ythekpmpcbidjiaa
