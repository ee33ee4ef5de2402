
import Derived.Test.YthekpmpcbidjiaaK14
/- The abstract machine: from a closed run that comes to 'true' to a contract. No condition. -/
namespace Go.Proofs.Ythekpmpcbidjiaa.U
open Go Go.RowKit Go.Sort
set_option linter.unusedVariables false
set_option linter.unusedSimpArgs false
/-- The package variables that are told, with their cells. -/
def gHeap (Ts : Nat → TypeId) : List (Nat × List Value) → Tr Blk
  | [] => .e
  | x :: l => (gHeap Ts l).set x.1 (some (.cells (Ts x.1) x.2 false))
def gTop : List (Nat × List Value) → Nat
  | [] => 0
  | x :: l => match Nat.ble (gTop l) x.1 with
    | true => x.1 + 1
    | false => gTop l
def gOk (l : List (Nat × List Value)) : Bool := l.all fun x => x.2.all fun u => flat1 u && u.oneCell'
theorem gHeap_get {Ts : Nat → TypeId} : ∀ {l : List (Nat × List Value)} {k : Nat} {b : Blk}, (gHeap Ts l).get k = some b → ∃ xs, (k, xs) ∈ l ∧ b = .cells (Ts k) xs false
  | [], k, b, h => by rw [gHeap, Tr.get_e] at h; cases h
  | x :: l, k, b, h => by
    rw [gHeap, Tr.get_set] at h
    split at h
    · rename_i e
      subst e
      cases h
      exact ⟨x.2, by simp, rfl⟩
    · obtain ⟨xs, h1, h2⟩ := gHeap_get h
      exact ⟨xs, by simp [h1], h2⟩
theorem gTop_lt : ∀ {l : List (Nat × List Value)} {k : Nat}, k < gTop l → ∃ x ∈ l, k ≤ x.1
  | [], k, h => by simp [gTop] at h
  | x :: l, k, h => by
    unfold gTop at h
    split at h
    · exact ⟨x, by simp, by omega⟩
    · obtain ⟨y, h1, h2⟩ := gTop_lt (l := l) (k := k) h
      exact ⟨y, by simp [h1], h2⟩
theorem gTop_mem : ∀ {l : List (Nat × List Value)} {x : Nat × List Value}, x ∈ l → x.1 < gTop l
  | y :: l, x, h => by
    unfold gTop
    split
    · rename_i hb
      have hb := Nat.le_of_ble_eq_true hb
      rcases List.mem_cons.1 h with rfl | h
      · exact Nat.lt_succ_self _
      · have := gTop_mem h; omega
    · rename_i hb
      rcases List.mem_cons.1 h with rfl | h
      · exact Nat.lt_of_not_le fun hle => by rw [Nat.ble_eq_true_of_le hle] at hb; cases hb
      · exact gTop_mem h
def typeAt (W : World) (g : Nat) : TypeId :=
  match W.heap[g]? with
  | some (.cells _ T _) => T
  | _ => 0
def start (l : List (Nat × List Value)) (Ts : Nat → TypeId) : AS := ⟨gHeap Ts l, gTop l, gTop l, gTop l⟩
def gSet (l : List (Nat × List Value)) (W : World) : Prop := ∀ x ∈ l, ∃ T fz, W.heap[x.1]? = some (.cells ⟨x.2⟩ T fz)
theorem start_rel {P : Program} {l : List (Nat × List Value)} {W : World} (hl : gOk l = true) (h : gSet l W) : Rel P W ⟨fun k => if k < gTop l then some (k, 0) else none, fun _ _ => none⟩ (start l (typeAt W)) W := by
  have inv : ∀ {k r sp : Nat}, (if k < gTop l then some (k, 0) else none) = some (r, sp) → k < gTop l ∧ r = k ∧ sp = 0 := fun {k r sp} h => by
    split at h
    · cases h; exact ⟨by assumption, rfl, rfl⟩
    · cases h
  refine ⟨fun k b r sp hb hr => ?_, fun k k' r sp sp' _ _ _ hr hr' => ?_, fun k hk => ?_, fun k r sp hr => ?_, fun k r sp hk hr hlo => ?_, .refl _ _, fun g hg => (by simp [start] at hg; simp [hg]), fun r o v hv => by cases hv⟩
  · obtain ⟨hk, rfl, rfl⟩ := inv hr
    obtain ⟨xs, h1, rfl⟩ := gHeap_get hb
    obtain ⟨T, fz, h2⟩ := h _ h1
    have hT : typeAt W r = T := by unfold typeAt; rw [h2]
    refine ⟨⟨xs⟩, fz, by rw [hT]; exact h2, fun hlo => absurd hk (Nat.not_lt.2 hlo), fun _ => rfl, by simp, fun i u hu => ?_⟩
    have := List.all_eq_true.1 (List.all_eq_true.1 hl _ h1) u (List.mem_of_getElem? hu)
    simp only [Bool.and_eq_true] at this
    exact ⟨this.2, u, by simpa using hu, .flat _ this.1⟩
  · obtain ⟨_, rfl, _⟩ := inv hr
    obtain ⟨_, h2, _⟩ := inv hr'
    exact h2
  · cases hb : (start l (typeAt W)).heap.get k with
    | none => exact absurd hb hk
    | some b =>
      obtain ⟨xs, h1, _⟩ := gHeap_get hb
      exact gTop_mem h1
  · obtain ⟨hk, rfl, _⟩ := inv hr
    obtain ⟨x, h1, h2⟩ := gTop_lt hk
    obtain ⟨T, fz, h3⟩ := h x h1
    have := (Array.getElem?_eq_some_iff.1 h3).1
    omega
  · obtain ⟨hk', rfl, _⟩ := inv hr
    exact absurd hk' (Nat.not_lt.2 hlo)
end Go.Proofs.Ythekpmpcbidjiaa.U
