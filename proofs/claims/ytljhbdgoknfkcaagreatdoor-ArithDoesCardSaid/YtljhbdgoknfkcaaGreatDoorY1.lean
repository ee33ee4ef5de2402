/- Rows of bytes of the reference: without noughts at the end. -/
import Derived.Test.YtljhbdgoknfkcaaGreatDoorPY
import Derived.Test.YtljhbdgoknfkcaaGreatDoorI1
namespace Go.Proofs.YtljhbdgoknfkcaaGreatDoor
open Go Go.RowKit Go.Sort
set_option linter.unusedVariables false
set_option linter.unusedSimpArgs false
set_option maxRecDepth 100000

def BVs (l : List Int) : List Value := l.map fun x => Value.int .u8 x
theorem BVs_one (l : List Int) : ∀ v ∈ BVs l, v.oneCell' = true := by
  intro v hv
  obtain ⟨i, _, rfl⟩ := List.mem_map.1 hv
  rfl
theorem rowB {l : List Int} {K : List Value → Prop} (n : Int) (h0 : 0 ≤ n) (h : n < (l.length : Int)) (k : K [.int .u8 (l.getD n.toNat 0)]) : RowN (BVs l) (n.toNat * 1) 1 K := by
  refine .mk _ ?_ rfl k
  have h2 : n.toNat < l.length := by omega
  rw [Nat.mul_one]
  unfold BVs
  have h3 : l.getD n.toNat 0 = l[n.toNat] := by simp [List.getD, h2]
  rw [h3, ← List.map_drop, ← List.map_take, List.drop_eq_getElem_cons h2]
  rfl
theorem rowB0 {l : List Int} {K : List Value → Prop} (n : Int) (h0 : 0 ≤ n) (h : n < (l.length : Int)) (k : K [.int .u8 (l.getD n.toNat 0)]) : RowN (BVs l) (0 + n.toNat * 1) 1 K := by
  rw [Nat.zero_add]; exact rowB n h0 h k
theorem trimL_len (l : List Int) : (trimL l).length ≤ l.length := by
  induction l with
  | nil => simp [trimL]
  | cons x l ih => unfold trimL; split <;> simp; exact ih
theorem take_last {l : List Int} {j : Nat} (h : j + 1 ≤ l.length) : l.take (j + 1) = l.take j ++ [l.getD j 0] := by
  have e : l.getD j 0 = l[j] := by simp [List.getD, show j < l.length by omega]
  rw [e]
  exact (List.take_append_getElem (by omega)).symm
/-- Cut at its end, a row is trimmed to what it was. -/
theorem trim_cut {l : List Int} {j : Nat} (hj : j + 1 ≤ l.length) (h : l.getD j 0 = 0) : trimL (l.take j) = trimL (l.take (j + 1)) := by
  rw [take_last hj, h, trimL_zero]
theorem trim_end {l : List Int} {j : Nat} (hj : j + 1 ≤ l.length) (h : l.getD j 0 ≠ 0) : trimL (l.take (j + 1)) = l.take (j + 1) := by
  rw [take_last hj, trimL_last _ h]
set_option maxHeartbeats 2000000 in
theorem trim_f (l : List Int) (hl : l.length ≤ 1000000) : DenF Tryz.prog 235 noFacts [.r 1 l.length (BVs l)] [.sub 0 0 (trimL l).length] [.row 5 1 l.length (BVs l)] := by
  refine DenF.fam rfl ?_
  intro ad b off c hs _
  refine denV_of_body (args := [.slice ad l.length c]) hmix Tryz.func235 ?_
  (repeat' ((conv => whnf); first | refine AdN.mk b off (hs (by have := of_decide_eq_false ‹decide (l.length = 0) = false›; omega)) ?_ | refine CellsN.mk (BVs l) (fun j v hj => .inr ⟨rfl, j, rfl, hj⟩) (by simp [BVs]) ?_ | refine Ob.mk (BVs_one l) ?_ | refine Ob.mk ⟨(by have := of_decide_eq_false ‹decide (l.length = 0) = false›; omega), (by show (0 + l.length) * 1 ≤ 140737488355328; omega), (by show 0 + l.length ≤ 140737488355328; omega)⟩ ?_ | refine AdN.mk _ _ rfl ?_ | refine DrawN.a (Ob.mk (by decide +kernel) ?_) | refine DrawN.c (Ob.mk (by decide +kernel) ?_) | refine DrawN.b (Ob.mk (by decide +kernel) ?_) | refine Ob.mk (by kernel_rfl) ?_ | (refine Br.mk (fun h => ?_) (fun h => ?_) <;> (first | (exfalso; exact Bool.false_ne_true h) | (exfalso; exact Bool.false_ne_true h.symm) | skip)))); all_goals (conv => whnf)
  · have h0 : l.length = 0 := of_decide_eq_true ‹_›
    obtain rfl : l = [] := List.length_eq_zero_iff.1 h0
    refine SeqN.cutRow 3 0 5 (0 + 1) 0 [] rfl rfl ?_
    (conv => whnf)
    refine SeqN.go ?_
    (repeat' ((conv => whnf); first | refine AdN.mk _ _ rfl ?_ | refine DrawN.a (Ob.mk (by decide +kernel) ?_) | refine DrawN.c (Ob.mk (by decide +kernel) ?_) | refine DrawN.b (Ob.mk (by decide +kernel) ?_) | refine Ob.mk (by kernel_rfl) ?_ | (refine Br.mk (fun h => ?_) (fun h => ?_) <;> (first | (exfalso; exact Bool.false_ne_true h) | (exfalso; exact Bool.false_ne_true h.symm) | skip)))); all_goals (conv => whnf)
    refine LoopN.roll 1 ?_
    (repeat' ((conv => whnf); first | refine AdN.mk _ _ rfl ?_ | refine DrawN.a (Ob.mk (by decide +kernel) ?_) | refine DrawN.c (Ob.mk (by decide +kernel) ?_) | refine DrawN.b (Ob.mk (by decide +kernel) ?_) | refine Ob.mk (by kernel_rfl) ?_ | (refine Br.mk (fun h => ?_) (fun h => ?_) <;> (first | (exfalso; exact Bool.false_ne_true h) | (exfalso; exact Bool.false_ne_true h.symm) | skip)) | refine SeqN.go ?_)); all_goals (conv => whnf)
    all_goals first | (exfalso; simp at *; done) | (refine RetN.mk [0] (by decide) rfl ?_ ?_ <;> (conv => whnf); (repeat' (first | exact True.intro | exact rfl | refine And.intro ?_ ?_ | decide)))
  · have hne : l.length ≠ 0 := of_decide_eq_false ‹_›
    refine SeqN.cutRow 3 0 5 (0 + 1) (0 + l.length) ([] ++ BVs l) rfl rfl ?_
    (conv => whnf)
    refine SeqN.go ?_
    (repeat' ((conv => whnf); first | refine AdN.mk _ _ rfl ?_ | refine DrawN.a (Ob.mk (by decide +kernel) ?_) | refine DrawN.c (Ob.mk (by decide +kernel) ?_) | refine DrawN.b (Ob.mk (by decide +kernel) ?_) | refine Ob.mk (by kernel_rfl) ?_ | (refine Br.mk (fun h => ?_) (fun h => ?_) <;> (first | (exfalso; exact Bool.false_ne_true h) | (exfalso; exact Bool.false_ne_true h.symm) | skip)))); all_goals (conv => whnf)
    refine LoopN.mk {j : Nat // j ≤ l.length ∧ trimL (l.take j) = trimL l} (fun j => [(3, .sub 0 0 j.1)]) (fun _ => [.row 5 1 l.length (BVs l)]) (fun j => j.1) ⟨l.length, Nat.le_refl _, by rw [List.take_length]⟩ ?_ ?_
    · (conv => whnf); (repeat' (first | exact True.intro | exact rfl | refine And.intro ?_ ?_ | decide))
      all_goals first | (dsimp only; omega) | (exact Nat.zero_add _) | trace_state
    (conv => whnf)
    rintro ⟨j, hj, ht⟩
    have e1 : decide ((j : Int) > 0) = true → IntKind.i64.wrap ((j : Int) - 1) = ((j - 1 : Nat) : Int) := fun h => by
      have := of_decide_eq_true h
      have e : ((j : Int) - 1) = ((j - 1 : Nat) : Int) := by omega
      rw [e, sg_eq]
      exact sg_in _ (by omega) (by omega)
    have o1 : decide ((j : Int) > 0) = true → 0 ≤ IntKind.i64.wrap ((j : Int) - 1) ∧ IntKind.i64.wrap ((j : Int) - 1) < (j : Int) := fun h => by
      have := of_decide_eq_true h
      rw [e1 h]; omega
    (repeat' ((conv => whnf); first | refine Ob.mk (o1 ‹_›) ?_ | refine rowB0 (IntKind.i64.wrap ((j : Int) - 1)) (o1 ‹_›).1 (by have := (o1 ‹_›).2; omega) ?_ | refine Ob.mk ⟨Int.le_refl 0, (o1 ‹_›).1, Int.le_of_lt (o1 ‹_›).2⟩ ?_ | refine AdN.mk _ _ rfl ?_ | refine DrawN.a (Ob.mk (by decide +kernel) ?_) | refine DrawN.c (Ob.mk (by decide +kernel) ?_) | refine DrawN.b (Ob.mk (by decide +kernel) ?_) | refine Ob.mk (by kernel_rfl) ?_ | (refine Br.mk (fun h => ?_) (fun h => ?_) <;> (first | (exfalso; exact Bool.false_ne_true h) | (exfalso; exact Bool.false_ne_true h.symm) | skip)) | refine SeqN.go ?_)); all_goals (conv => whnf)
    · have hp : decide ((j : Int) > 0) = true := ‹_›
      have hp0 := of_decide_eq_true hp
      have he := e1 hp
      have hz : l.getD (j - 1) 0 = 0 := by
        have h' : (l.getD (IntKind.i64.wrap ((j : Int) - 1)).toNat 0 == 0) = true := ‹_›
        rw [he, Int.toNat_natCast] at h'
        simpa using h'
      obtain ⟨j, rfl⟩ : ∃ i, j = i + 1 := ⟨j - 1, by omega⟩
      refine RoundN.mk ⟨j, by omega, by rw [trim_cut hj hz]; exact ht⟩ (by show j < j + 1; omega) ?_
      (conv => whnf); (repeat' (first | exact True.intro | exact rfl | refine And.intro ?_ ?_ | decide))
      all_goals first | (show (IntKind.i64.wrap (((j + 1 : Nat) : Int) - 1)).toNat - Int.toNat 0 = j; rw [he]; simp; done) | trace_state
    · have hp : decide ((j : Int) > 0) = true := ‹_›
      have hp0 := of_decide_eq_true hp
      have he := e1 hp
      have hz : l.getD (j - 1) 0 ≠ 0 := by
        have h' : (l.getD (IntKind.i64.wrap ((j : Int) - 1)).toNat 0 == 0) = false := ‹_›
        rw [he, Int.toNat_natCast] at h'
        simpa using h'
      obtain ⟨j, rfl⟩ : ∃ i, j = i + 1 := ⟨j - 1, by omega⟩
      have hlen : (trimL l).length = j + 1 := by rw [← ht, trim_end hj hz]; simp; omega
      refine RetN.mk [0] (by decide) rfl ?_ ?_ <;> (conv => whnf); (repeat' (first | exact True.intro | exact rfl | refine And.intro ?_ ?_ | decide))
      all_goals first | exact hlen | exact hlen.symm | trace_state
    · have hp : decide ((j : Int) > 0) = false := ‹_›
      have hp0 := of_decide_eq_false hp
      obtain rfl : j = 0 := by omega
      have hlen : (trimL l).length = 0 := by rw [← ht]; simp [trimL]
      refine RetN.mk [0] (by decide) rfl ?_ ?_ <;> (conv => whnf); (repeat' (first | exact True.intro | exact rfl | refine And.intro ?_ ?_ | decide))
      all_goals first | exact hlen | exact hlen.symm | trace_state
/-- What is trimmed stands at the row's beginning. -/
theorem trim_take : ∀ (l : List Int), l.take (trimL l).length = trimL l
  | [] => rfl
  | x :: l => by
    unfold trimL
    split
    · simp
    · simp [trim_take l]
end Go.Proofs.YtljhbdgoknfkcaaGreatDoor
