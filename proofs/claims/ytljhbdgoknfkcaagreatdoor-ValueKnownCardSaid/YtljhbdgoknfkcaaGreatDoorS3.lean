/- value.Some as a contract: a fresh row. -/
import Derived.Test.YtljhbdgoknfkcaaGreatDoorS2
namespace Go.Proofs.YtljhbdgoknfkcaaGreatDoor
open Go Go.RowKit Go.Sort
set_option linter.unusedVariables false
set_option linter.unusedSimpArgs false
set_option maxRecDepth 100000

/-- A row of the call's own, as what is new. -/
theorem reg_row {F : Facts} {W w' : World} {T : TypeId} {z n : Nat} {u : Value} {xs : List Value} (hF : Sat F W) (hrow : w'.ownsRow W.heap.size T z u n xs) (h1 : ∀ v ∈ xs, v.oneCell' = true) (hB : Below W.heap.size W w') :
    ∃ σ : Sg, Reg W F σ [.row T z n xs] w' ∧ (∀ k, k < 1 → σ k ≠ none) ∧ FrIs σ [.s 0] #[u] := by
  refine ⟨fun k => if k = 0 then some ⟨u, fun g => u.ownBlock = some g⟩ else none, ⟨⟨fun k b m hk hm => ?_, fun k m b hm hb => ?_, hF.stay fun b hb => hB.block b (hF.lt hb)⟩, fun k m hm => ?_, fun k k' m m' b hm hm' hb hb' => ?_, fun k m b hm hb => ?_, fun b hb => hF.lt hb, hB⟩, fun k hk => ?_, ⟨rfl, fun i x hx => ?_⟩⟩
  · have hk0 : k = 0 := by
      have := (List.getElem?_eq_some_iff.1 hk).1
      simpa using this
    subst hk0
    simp only [List.getElem?_cons_zero, Option.some.injEq] at hk
    simp only [if_true, Option.some.injEq] at hm
    subst hk hm
    exact ⟨⟨hrow, h1⟩, fun g => Iff.rfl⟩
  · by_cases hk0 : k = 0
    · subst hk0
      simp only [if_true, Option.some.injEq] at hm
      subst hm
      exact (hrow.lt b hb).2
    · simp [hk0] at hm
  · by_cases hk0 : k = 0
    · subst hk0; simp
    · simp [hk0] at hm
  · by_cases hk0 : k = 0
    · by_cases hk1 : k' = 0
      · rw [hk0, hk1]
      · simp [hk1] at hm'
    · simp [hk0] at hm
  · by_cases hk0 : k = 0
    · subst hk0
      simp only [if_true, Option.some.injEq] at hm
      subst hm
      exact (hrow.lt b hb).1
    · simp [hk0] at hm
  · have hk0 : k = 0 := by omega
    simp [hk0]
  · have hi0 : i = 0 := by
      have := (List.getElem?_eq_some_iff.1 hx).1
      simpa using this
    subst hi0
    simp only [List.getElem?_cons_zero, Option.some.injEq] at hx
    subst hx
    refine ⟨u, rfl, _, rfl, rfl, ?_⟩
    rcases hrow.2 with ⟨rfl, _⟩ | ⟨g, cap, cur, rfl, _⟩
    · exact ⟨_, _, _, rfl⟩
    · exact ⟨_, _, _, rfl⟩
theorem IVl_one (l : List Int) : ∀ v ∈ IVl l, v.oneCell' = true := by
  intro v hv
  unfold IVl at hv
  obtain ⟨i, _, rfl⟩ := List.mem_map.1 hv
  rfl
theorem some_v (x : VV) (most : Int) (hx : InV x) (h1 : 0 < most) (h2 : most ≤ 1000) : DenV Tryz.prog 49 noFacts [VVal x, .int .i64 most] [.s 0] [.row 2 1 (min most.toNat (vcnt (vmake x))) (IVl (vnums (vmake x) (min most.toNat (vcnt (vmake x)))))] := by
  constructor
  intro W hF
  refine (callsIn_wide.1 (some_in 4 (Nat.le_refl _) x most hx h1 h2 W)).mono ?_
  rintro e w' ⟨u, k, rfl, rfl, hrow, hB⟩
  obtain ⟨σ, q1, q2, q3⟩ := reg_row hF hrow (IVl_one _) hB
  exact ⟨σ, [u], rfl, q1, q2, q3⟩
theorem some_f (x : VV) (most : Int) (hx : InV x) (h1 : 0 < most) (h2 : most ≤ 1000) : DenF Tryz.prog 49 noFacts [.v (VVal x), .v (.int .i64 most)] [.s 0] [.row 2 1 (min most.toNat (vcnt (vmake x))) (IVl (vnums (vmake x) (min most.toNat (vcnt (vmake x)))))] := DenF.fam rfl (some_v x most hx h1 h2)
theorem some_no (x : VV) (most : Int) (h1 : most ≤ 0) : Den Tryz.prog 49 #[VVal x, .int .i64 most] noFacts (.slice none 0 0) := by
  refine den_of_body (args := [VVal x, .int .i64 most]) hmix Tryz.func49 ?_
  (repeat' ((conv => whnf); first | refine AdN.mk _ _ rfl ?_ | refine DrawN.a (Ob.mk (by decide +kernel) ?_) | refine DrawN.c (Ob.mk (by decide +kernel) ?_) | refine DrawN.b (Ob.mk (by decide +kernel) ?_) | refine Ob.mk (by kernel_rfl) ?_ | (refine Br.mk (fun h => ?_) (fun h => ?_) <;> (first | (exfalso; exact Bool.false_ne_true h) | (exfalso; exact Bool.false_ne_true h.symm) | (exfalso; have := of_decide_eq_false ‹decide (most ≤ 0) = false›; omega) | skip)) | refine SeqN.go ?_)); all_goals (conv => whnf)
  all_goals rfl
end Go.Proofs.YtljhbdgoknfkcaaGreatDoor
