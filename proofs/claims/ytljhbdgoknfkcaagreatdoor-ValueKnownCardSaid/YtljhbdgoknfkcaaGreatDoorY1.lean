/- Rows of bytes of the reference: without noughts at the end. -/
import Derived.Test.YtljhbdgoknfkcaaGreatDoorPY
import Derived.Test.YtljhbdgoknfkcaaGreatDoorI1
namespace Go.Proofs.YtljhbdgoknfkcaaGreatDoor
open Go Go.RowKit Go.Sort
set_option linter.unusedVariables false
set_option linter.unusedSimpArgs false
set_option maxRecDepth 100000

def BVs (l : List Int) : List Value := l.map fun x => Value.int .u8 x
theorem BVs_one (l : List Int) : ∀ v ∈ BVs l, v.oneCell' = true := by
  intro v hv
  obtain ⟨i, _, rfl⟩ := List.mem_map.1 hv
  rfl
theorem rowB {l : List Int} {K : List Value → Prop} (n : Int) (h0 : 0 ≤ n) (h : n < (l.length : Int)) (k : K [.int .u8 (l.getD n.toNat 0)]) : RowN (BVs l) (n.toNat * 1) 1 K := by
  refine .mk _ ?_ rfl k
  have h2 : n.toNat < l.length := by omega
  rw [Nat.mul_one]
  unfold BVs
  have h3 : l.getD n.toNat 0 = l[n.toNat] := by simp [List.getD, h2]
  rw [h3, ← List.map_drop, ← List.map_take, List.drop_eq_getElem_cons h2]
  rfl
theorem rowB0 {l : List Int} {K : List Value → Prop} (n : Int) (h0 : 0 ≤ n) (h : n < (l.length : Int)) (k : K [.int .u8 (l.getD n.toNat 0)]) : RowN (BVs l) (0 + n.toNat * 1) 1 K := by
  rw [Nat.zero_add]; exact rowB n h0 h k
theorem trimL_len (l : List Int) : (trimL l).length ≤ l.length := by
  induction l with
  | nil => simp [trimL]
  | cons x l ih => unfold trimL; split <;> simp; exact ih
theorem take_last {l : List Int} {j : Nat} (h : j + 1 ≤ l.length) : l.take (j + 1) = l.take j ++ [l.getD j 0] := by
  have e : l.getD j 0 = l[j] := by simp [List.getD, show j < l.length by omega]
  rw [e]
  exact (List.take_append_getElem (by omega)).symm
/-- Cut at its end, a row is trimmed to what it was. -/
theorem trim_cut {l : List Int} {j : Nat} (hj : j + 1 ≤ l.length) (h : l.getD j 0 = 0) : trimL (l.take j) = trimL (l.take (j + 1)) := by
  rw [take_last hj, h, trimL_zero]
theorem trim_end {l : List Int} {j : Nat} (hj : j + 1 ≤ l.length) (h : l.getD j 0 ≠ 0) : trimL (l.take (j + 1)) = l.take (j + 1) := by
  rw [take_last hj, trimL_last _ h]
set_option maxHeartbeats 2000000 in
theorem trim_f (l : List Int) (hl : l.length ≤ 1000000) : DenF Tryz.prog 235 noFacts [.r 1 l.length (BVs l)] [.sub 0 0 (trimL l).length] [.row 5 1 l.length (BVs l)] := by
  refine DenF.fam rfl ?_
  intro ad b off c hs _
  refine denV_of_body (args := [.slice ad l.length c]) hmix Tryz.func235 ?_
  (repeat' ((conv => whnf); first | refine AdN.mk b off (hs (by have := of_decide_eq_false ‹decide (l.length = 0) = false›; omega)) ?_ | refine CellsN.mk (BVs l) (fun j v hj => .inr ⟨rfl, j, rfl, hj⟩) (by simp [BVs]) ?_ | refine Ob.mk (BVs_one l) ?_ | refine Ob.mk ⟨(by have := of_decide_eq_false ‹decide (l.length = 0) = false›; omega), (by show (0 + l.length) * 1 ≤ 140737488355328; omega), (by show 0 + l.length ≤ 140737488355328; omega)⟩ ?_ | refine AdN.mk _ _ rfl ?_ | refine DrawN.a (Ob.mk (by decide +kernel) ?_) | refine DrawN.c (Ob.mk (by decide +kernel) ?_) | refine DrawN.b (Ob.mk (by decide +kernel) ?_) | refine Ob.mk (by kernel_rfl) ?_ | (refine Br.mk (fun h => ?_) (fun h => ?_) <;> (first | (exfalso; exact Bool.false_ne_true h) | (exfalso; exact Bool.false_ne_true h.symm) | skip)))); all_goals (conv => whnf)
  · have h0 : l.length = 0 := of_decide_eq_true ‹_›
    obtain rfl : l = [] := List.length_eq_zero_iff.1 h0
    refine SeqN.cutRow 3 0 5 (0 + 1) 0 [] rfl rfl ?_
    (conv => whnf)
    refine SeqN.go ?_
    (repeat' ((conv => whnf); first | refine AdN.mk _ _ rfl ?_ | refine DrawN.a (Ob.mk (by decide +kernel) ?_) | refine DrawN.c (Ob.mk (by decide +kernel) ?_) | refine DrawN.b (Ob.mk (by decide +kernel) ?_) | refine Ob.mk (by kernel_rfl) ?_ | (refine Br.mk (fun h => ?_) (fun h => ?_) <;> (first | (exfalso; exact Bool.false_ne_true h) | (exfalso; exact Bool.false_ne_true h.symm) | skip)))); all_goals (conv => whnf)
    refine LoopN.roll 1 ?_
    (repeat' ((conv => whnf); first | refine AdN.mk _ _ rfl ?_ | refine DrawN.a (Ob.mk (by decide +kernel) ?_) | refine DrawN.c (Ob.mk (by decide +kernel) ?_) | refine DrawN.b (Ob.mk (by decide +kernel) ?_) | refine Ob.mk (by kernel_rfl) ?_ | (refine Br.mk (fun h => ?_) (fun h => ?_) <;> (first | (exfalso; exact Bool.false_ne_true h) | (exfalso; exact Bool.false_ne_true h.symm) | skip)) | refine SeqN.go ?_)); all_goals (conv => whnf)
    all_goals first | (exfalso; simp at *; done) | (refine RetN.mk [0] (by decide) rfl ?_ ?_ <;> (conv => whnf); (repeat' (first | exact True.intro | exact rfl | refine And.intro ?_ ?_ | decide)))
  · have hne : l.length ≠ 0 := of_decide_eq_false ‹_›
    refine SeqN.cutRow 3 0 5 (0 + 1) (0 + l.length) ([] ++ BVs l) rfl rfl ?_
    (conv => whnf)
    refine SeqN.go ?_
    (repeat' ((conv => whnf); first | refine AdN.mk _ _ rfl ?_ | refine DrawN.a (Ob.mk (by decide +kernel) ?_) | refine DrawN.c (Ob.mk (by decide +kernel) ?_) | refine DrawN.b (Ob.mk (by decide +kernel) ?_) | refine Ob.mk (by kernel_rfl) ?_ | (refine Br.mk (fun h => ?_) (fun h => ?_) <;> (first | (exfalso; exact Bool.false_ne_true h) | (exfalso; exact Bool.false_ne_true h.symm) | skip)))); all_goals (conv => whnf)
    refine LoopN.mk {j : Nat // j ≤ l.length ∧ trimL (l.take j) = trimL l} (fun j => [(3, .sub 0 0 j.1)]) (fun _ => [.row 5 1 l.length (BVs l)]) (fun j => j.1) ⟨l.length, Nat.le_refl _, by rw [List.take_length]⟩ ?_ ?_
    · (conv => whnf); (repeat' (first | exact True.intro | exact rfl | refine And.intro ?_ ?_ | decide))
      all_goals first | (dsimp only; omega) | (exact Nat.zero_add _) | trace_state
    (conv => whnf)
    rintro ⟨j, hj, ht⟩
    have e1 : decide ((j : Int) > 0) = true → IntKind.i64.wrap ((j : Int) - 1) = ((j - 1 : Nat) : Int) := fun h => by
      have := of_decide_eq_true h
      have e : ((j : Int) - 1) = ((j - 1 : Nat) : Int) := by omega
      rw [e, sg_eq]
      exact sg_in _ (by omega) (by omega)
    have o1 : decide ((j : Int) > 0) = true → 0 ≤ IntKind.i64.wrap ((j : Int) - 1) ∧ IntKind.i64.wrap ((j : Int) - 1) < (j : Int) := fun h => by
      have := of_decide_eq_true h
      rw [e1 h]; omega
    (repeat' ((conv => whnf); first | refine Ob.mk (o1 ‹_›) ?_ | refine rowB0 (IntKind.i64.wrap ((j : Int) - 1)) (o1 ‹_›).1 (by have := (o1 ‹_›).2; omega) ?_ | refine Ob.mk ⟨Int.le_refl 0, (o1 ‹_›).1, Int.le_of_lt (o1 ‹_›).2⟩ ?_ | refine AdN.mk _ _ rfl ?_ | refine DrawN.a (Ob.mk (by decide +kernel) ?_) | refine DrawN.c (Ob.mk (by decide +kernel) ?_) | refine DrawN.b (Ob.mk (by decide +kernel) ?_) | refine Ob.mk (by kernel_rfl) ?_ | (refine Br.mk (fun h => ?_) (fun h => ?_) <;> (first | (exfalso; exact Bool.false_ne_true h) | (exfalso; exact Bool.false_ne_true h.symm) | skip)) | refine SeqN.go ?_)); all_goals (conv => whnf)
    · have hp : decide ((j : Int) > 0) = true := ‹_›
      have hp0 := of_decide_eq_true hp
      have he := e1 hp
      have hz : l.getD (j - 1) 0 = 0 := by
        have h' : (l.getD (IntKind.i64.wrap ((j : Int) - 1)).toNat 0 == 0) = true := ‹_›
        rw [he, Int.toNat_natCast] at h'
        simpa using h'
      obtain ⟨j, rfl⟩ : ∃ i, j = i + 1 := ⟨j - 1, by omega⟩
      refine RoundN.mk ⟨j, by omega, by rw [trim_cut hj hz]; exact ht⟩ (by show j < j + 1; omega) ?_
      (conv => whnf); (repeat' (first | exact True.intro | exact rfl | refine And.intro ?_ ?_ | decide))
      all_goals first | (show (IntKind.i64.wrap (((j + 1 : Nat) : Int) - 1)).toNat - Int.toNat 0 = j; rw [he]; simp; done) | trace_state
    · have hp : decide ((j : Int) > 0) = true := ‹_›
      have hp0 := of_decide_eq_true hp
      have he := e1 hp
      have hz : l.getD (j - 1) 0 ≠ 0 := by
        have h' : (l.getD (IntKind.i64.wrap ((j : Int) - 1)).toNat 0 == 0) = false := ‹_›
        rw [he, Int.toNat_natCast] at h'
        simpa using h'
      obtain ⟨j, rfl⟩ : ∃ i, j = i + 1 := ⟨j - 1, by omega⟩
      have hlen : (trimL l).length = j + 1 := by rw [← ht, trim_end hj hz]; simp; omega
      refine RetN.mk [0] (by decide) rfl ?_ ?_ <;> (conv => whnf); (repeat' (first | exact True.intro | exact rfl | refine And.intro ?_ ?_ | decide))
      all_goals first | exact hlen | exact hlen.symm | trace_state
    · have hp : decide ((j : Int) > 0) = false := ‹_›
      have hp0 := of_decide_eq_false hp
      obtain rfl : j = 0 := by omega
      have hlen : (trimL l).length = 0 := by rw [← ht]; simp [trimL]
      refine RetN.mk [0] (by decide) rfl ?_ ?_ <;> (conv => whnf); (repeat' (first | exact True.intro | exact rfl | refine And.intro ?_ ?_ | decide))
      all_goals first | exact hlen | exact hlen.symm | trace_state
/-- What is trimmed stands at the row's beginning. -/
theorem trim_take : ∀ (l : List Int), l.take (trimL l).length = trimL l
  | [] => rfl
  | x :: l => by
    unfold trimL
    split
    · simp
    · simp [trim_take l]
/-! Rows of bytes of the reference: of limbs, and back. -/
def UVs (l : List Int) : List Value := l.map fun x => Value.int .u64 x
theorem cellsU {l : List Int} {b off : Nat} {K : List Value → Prop} (n : Int) (h0 : 0 ≤ n) (h : n < (l.length : Int)) (k : K [.int .u64 (l.getD n.toNat 0)]) : CellsN (orF noFacts (rowF b off (UVs l))) b (off + n.toNat * 1) 1 K := by
  refine .mk _ (fun j v hj => .inr ⟨rfl, n.toNat + j, by omega, ?_⟩) rfl k
  have h2 : n.toNat < l.length := by omega
  rcases j with _ | j
  · simp at hj
    subst hj
    unfold UVs
    rw [Nat.add_zero, List.getElem?_map, List.getElem?_eq_getElem h2]
    simp [List.getD, h2]
  · simp at hj
/-- So many bytes of a number. -/
def b8 : Nat → Int → List Int
  | 0, _ => []
  | k + 1, x => x % 256 :: b8 k (x / 256)
theorem b8_len : ∀ (k : Nat) (x : Int), (b8 k x).length = k
  | 0, _ => rfl
  | k + 1, x => by simp [b8, b8_len k]
theorem b8_by : ∀ (k : Nat) (x : Int), BY (b8 k x)
  | 0, _ => by intro y hy; cases hy
  | k + 1, x => by
    intro y hy
    rcases List.mem_cons.1 hy with rfl | hy
    · omega
    · exact b8_by k _ y hy
theorem b8_val : ∀ (k : Nat) (x : Int), 0 ≤ x → bval (b8 k x) = x.toNat % 256 ^ k
  | 0, x, h => by simp [b8, bval, Nat.mod_one]
  | k + 1, x, h => by
    show (x % 256).toNat + 256 * bval (b8 k (x / 256)) = _
    rw [b8_val k (x / 256) (by omega), Nat.pow_succ, Nat.mul_comm (256 ^ k) 256, Nat.mod_mul]
    have e1 : (x % 256).toNat = x.toNat % 256 := by omega
    have e2 : (x / 256).toNat = x.toNat / 256 := by omega
    rw [e1, e2]
def flat8 (l : List Int) : List Int := l.flatMap (b8 8)
def lval : List Int → Nat
  | [] => 0
  | x :: l => x.toNat + 18446744073709551616 * lval l
theorem flat8_len (l : List Int) : (flat8 l).length = 8 * l.length := by
  induction l with
  | nil => rfl
  | cons x l ih =>
    show (b8 8 x ++ flat8 l).length = _
    rw [List.length_append, b8_len, ih, List.length_cons]; omega
theorem flat8_by (l : List Int) : BY (flat8 l) := by
  intro y hy
  obtain ⟨x, _, h⟩ := List.mem_flatMap.1 hy
  exact b8_by 8 x y h
theorem flat8_val : ∀ (l : List Int), (∀ x ∈ l, (0 ≤ x ∧ x ≤ 18446744073709551615)) → bval (flat8 l) = lval l
  | [], _ => rfl
  | x :: l, h => by
    show bval (b8 8 x ++ flat8 l) = _
    have hx := h x (List.mem_cons_self ..)
    rw [bval_app, b8_len, b8_val 8 x hx.1, flat8_val l fun y hy => h y (List.mem_cons_of_mem _ hy)]
    have : x.toNat % 256 ^ 8 = x.toNat := Nat.mod_eq_of_lt (by have := hx.2; omega)
    rw [this]
    rfl
theorem flat8_trim {l : List Int} (h : ∀ x ∈ l, (0 ≤ x ∧ x ≤ 18446744073709551615)) : trimL (flat8 l) = byt (lval l) := by rw [trimL_eq (flat8_by l), flat8_val l h]
theorem flat8_take {l : List Int} {i : Nat} (h : i < l.length) : flat8 (l.take (i + 1)) = flat8 (l.take i) ++ b8 8 (l.getD i 0) := by
  rw [take_last h]
  simp [flat8]
set_option maxHeartbeats 2000000 in
theorem of_v (l : List Int) (hu : ∀ x ∈ l, (0 ≤ x ∧ x ≤ 18446744073709551615)) (hl : l.length ≤ 1000) : DenF Tryz.prog 172 noFacts [.r 1 l.length (UVs l)] [.sub 0 0 (byt (lval l)).length] [.row 5 1 (8 * l.length) (BVs (flat8 l))] := by
  refine DenF.fam rfl ?_
  intro ad b off c hs _
  refine denV_of_body (args := [.slice ad l.length c]) hmix Tryz.func172 ?_
  (repeat' ((conv => whnf); first | refine AdN.mk _ _ rfl ?_ | refine DrawN.a (Ob.mk (by decide +kernel) ?_) | refine DrawN.c (Ob.mk (by decide +kernel) ?_) | refine DrawN.b (Ob.mk (by decide +kernel) ?_) | refine Ob.mk (by kernel_rfl) ?_ | (refine Br.mk (fun h => ?_) (fun h => ?_) <;> (first | (exfalso; exact Bool.false_ne_true h) | (exfalso; exact Bool.false_ne_true h.symm) | skip)))); all_goals (conv => whnf)
  refine SeqN.nilRow 3 5 1 rfl ?_
  (conv => whnf)
  refine SeqN.go ?_
  (repeat' ((conv => whnf); first | refine AdN.mk _ _ rfl ?_ | refine DrawN.a (Ob.mk (by decide +kernel) ?_) | refine DrawN.c (Ob.mk (by decide +kernel) ?_) | refine DrawN.b (Ob.mk (by decide +kernel) ?_) | refine Ob.mk (by kernel_rfl) ?_ | (refine Br.mk (fun h => ?_) (fun h => ?_) <;> (first | (exfalso; exact Bool.false_ne_true h) | (exfalso; exact Bool.false_ne_true h.symm) | skip)))); all_goals (conv => whnf)
  refine LoopN.mk {i : Nat // i ≤ l.length} (fun i => [(4, .v (.int .i64 i.1)), (3, .s 0)]) (fun i => [.row 5 1 (8 * i.1) (BVs (flat8 (l.take i.1)))]) (fun i => l.length - i.1) ⟨0, Nat.zero_le _⟩ ?_ ?_
  · (conv => whnf); (repeat' (first | exact True.intro | exact rfl | refine And.intro ?_ ?_ | decide))
  (conv => whnf)
  rintro ⟨i, hi⟩
  have o1 : decide ((i : Int) < (l.length : Int)) = true → 0 ≤ (i : Int) ∧ (i : Int) < (l.length : Int) := fun h => ⟨Int.natCast_nonneg _, of_decide_eq_true h⟩
  (repeat' ((conv => whnf); first | refine AdN.mk _ _ rfl ?_ | refine DrawN.a (Ob.mk (by decide +kernel) ?_) | refine DrawN.c (Ob.mk (by decide +kernel) ?_) | refine DrawN.b (Ob.mk (by decide +kernel) ?_) | refine Ob.mk (by kernel_rfl) ?_ | (refine Br.mk (fun h => ?_) (fun h => ?_) <;> (first | (exfalso; exact Bool.false_ne_true h) | (exfalso; exact Bool.false_ne_true h.symm) | skip)))); all_goals (conv => whnf)
  refine SeqN.go ?_
  (repeat' ((conv => whnf); first | refine Ob.mk (o1 ‹_›) ?_ | refine AdN.mk b off (hs (by have := (o1 ‹_›).2; omega)) ?_ | refine cellsU (i : Int) (o1 ‹_›).1 (o1 ‹_›).2 ?_ | refine AdN.mk _ _ rfl ?_ | refine DrawN.a (Ob.mk (by decide +kernel) ?_) | refine DrawN.c (Ob.mk (by decide +kernel) ?_) | refine DrawN.b (Ob.mk (by decide +kernel) ?_) | refine Ob.mk (by kernel_rfl) ?_ | (refine Br.mk (fun h => ?_) (fun h => ?_) <;> (first | (exfalso; exact Bool.false_ne_true h) | (exfalso; exact Bool.false_ne_true h.symm) | skip)))); all_goals (conv => whnf)
  · have hil := (o1 ‹_›).2
    have hx := hu (l.getD i 0) (by have h2 : i < l.length := by omega
                                   simp [List.getD, h2])
    refine SeqN.go ?_
    (repeat' ((conv => whnf); first | refine Ob.mk (o1 ‹_›) ?_ | refine AdN.mk b off (hs (by have := (o1 ‹_›).2; omega)) ?_ | refine cellsU (i : Int) (o1 ‹_›).1 (o1 ‹_›).2 ?_ | refine AdN.mk _ _ rfl ?_ | refine DrawN.a (Ob.mk (by decide +kernel) ?_) | refine DrawN.c (Ob.mk (by decide +kernel) ?_) | refine DrawN.b (Ob.mk (by decide +kernel) ?_) | refine Ob.mk (by kernel_rfl) ?_ | (refine Br.mk (fun h => ?_) (fun h => ?_) <;> (first | (exfalso; exact Bool.false_ne_true h) | (exfalso; exact Bool.false_ne_true h.symm) | skip)))); all_goals (conv => whnf)
    (try (refine SeqN.go ?_; (repeat' ((conv => whnf); first | refine AdN.mk _ _ rfl ?_ | refine DrawN.a (Ob.mk (by decide +kernel) ?_) | refine DrawN.c (Ob.mk (by decide +kernel) ?_) | refine DrawN.b (Ob.mk (by decide +kernel) ?_) | refine Ob.mk (by kernel_rfl) ?_ | (refine Br.mk (fun h => ?_) (fun h => ?_) <;> (first | (exfalso; exact Bool.false_ne_true h) | (exfalso; exact Bool.false_ne_true h.symm) | skip)))); all_goals (conv => whnf)))
    refine LoopN.mk {x : Nat × Int × List Int // x.1 ≤ 8 ∧ (0 ≤ x.2.1 ∧ x.2.1 ≤ 18446744073709551615) ∧ x.2.2.length = x.1 ∧ x.2.2 ++ b8 (8 - x.1) x.2.1 = b8 8 (l.getD i 0)} (fun x => [(6, .v (.int .i64 x.1.1)), (5, .v (.int .u64 x.1.2.1)), (3, .s 0)]) (fun x => [.row 5 1 (8 * i + x.1.1) (BVs (flat8 (l.take i) ++ x.1.2.2))]) (fun x => 8 - x.1.1) ⟨(0, l.getD i 0, []), Nat.zero_le _, hx, rfl, rfl⟩ ?_ ?_
    · (conv => whnf); (repeat' (first | exact True.intro | exact rfl | refine And.intro ?_ ?_ | decide))
      all_goals first | (dsimp only; simp; done) | trace_state
    (conv => whnf)
    rintro ⟨⟨k, n, o⟩, hk, hn, ho, he⟩
    dsimp only at hk hn ho he
    (repeat' ((conv => whnf); first | refine Ob.mk (by decide) ?_ | refine Ob.mk ⟨by omega, (by show (8 * i + k + 1) * 1 ≤ 140737488355328; omega), (by show 8 * i + k + 1 ≤ 140737488355328; omega)⟩ ?_ | refine AdN.mk _ _ rfl ?_ | refine DrawN.a (Ob.mk (by decide +kernel) ?_) | refine DrawN.c (Ob.mk (by decide +kernel) ?_) | refine DrawN.b (Ob.mk (by decide +kernel) ?_) | refine Ob.mk (by kernel_rfl) ?_ | (refine Br.mk (fun h => ?_) (fun h => ?_) <;> (first | (exfalso; exact Bool.false_ne_true h) | (exfalso; exact Bool.false_ne_true h.symm) | skip)) | refine SeqN.go ?_)); all_goals (conv => whnf)
    · have hk8 : (k : Int) < 8 := of_decide_eq_true ‹decide ((k : Int) < 8) = true›
      have hb : b8 (8 - k) n = n % 256 :: b8 (8 - (k + 1)) (n / 256) := by
        rw [show 8 - k = (8 - (k + 1)) + 1 by omega]; rfl
      refine RoundN.mk ⟨(k + 1, n / 256, o ++ [n % 256]), by omega, (show 0 ≤ n / 256 ∧ n / 256 ≤ 18446744073709551615 from ⟨by omega, by omega⟩), by simp [ho], ?_⟩ (by show 8 - (k + 1) < 8 - k; omega) ?_
      · dsimp only
        rw [← he, hb]; simp
      (conv => whnf); (repeat' (first | exact True.intro | exact rfl | refine And.intro ?_ ?_ | decide))
      all_goals first
        | (refine congrArg (Value.int _) ?_; dsimp only; rw [sg_eq]; exact sg_in _ (by omega) (by omega))
        | (refine congrArg (Value.int _) ?_; dsimp only; rw [us_eq, Int.tdiv_eq_ediv_of_nonneg hn.1]; exact us_in _ (by omega) (by omega))
        | (dsimp only; rw [Int.tmod_eq_emod_of_nonneg hn.1, IntKind.wrap_u8, Int.emod_emod]; simp [BVs]; done)
        | trace_state
    · have hk8 : ¬ (k : Int) < 8 := of_decide_eq_false ‹decide ((k : Int) < 8) = false›
      obtain rfl : k = 8 := by omega
      have he2 : o = b8 8 (l.getD i 0) := by rw [← he]; simp [b8]
      refine RoundN.mk ⟨i + 1, by omega⟩ (by show l.length - (i + 1) < l.length - i; omega) ?_
      (conv => whnf); (repeat' (first | exact True.intro | exact rfl | refine And.intro ?_ ?_ | decide))
      all_goals first
        | (refine congrArg (Value.int _) ?_; dsimp only; rw [sg_eq]; exact sg_in _ (by omega) (by omega))
        | (dsimp only; rw [flat8_take (by omega), he2]; done)
        | (dsimp only; omega)
        | trace_state
  · have hil : ¬ (i : Int) < (l.length : Int) := of_decide_eq_false ‹decide ((i : Int) < (l.length : Int)) = false›
    obtain rfl : i = l.length := by omega
    have hfl : flat8 (l.take l.length) = flat8 l := by rw [List.take_length]
    have T := trim_f (flat8 (l.take l.length)) (by rw [hfl, flat8_len]; omega)
    rw [flat8_len, List.length_take, Nat.min_self] at T
    refine CallA.anyFresh _ _ T ?_
    (repeat' ((conv => whnf); first | refine AdN.mk _ _ rfl ?_ | refine DrawN.a (Ob.mk (by decide +kernel) ?_) | refine DrawN.c (Ob.mk (by decide +kernel) ?_) | refine DrawN.b (Ob.mk (by decide +kernel) ?_) | refine Ob.mk (by kernel_rfl) ?_ | (refine Br.mk (fun h => ?_) (fun h => ?_) <;> (first | (exfalso; exact Bool.false_ne_true h) | (exfalso; exact Bool.false_ne_true h.symm) | skip)) | refine SeqN.go ?_)); all_goals (conv => whnf)
    refine RetN.mk [1] (by decide) rfl ?_ ?_ <;> (conv => whnf); (repeat' (first | exact True.intro | exact rfl | refine And.intro ?_ ?_ | decide))
    all_goals first | (rw [hfl, flat8_trim hu]; done) | (rw [hfl]; done) | trace_state
/-! Rows of bytes of the reference: a number's limbs. -/
/-- A row's limb, by its place. -/
def limb (l : List Int) (i : Nat) : Int := (bval ((l.drop (8 * i)).take 8) : Int)
def limbsL (l : List Int) (c : Nat) : List Int := (List.range c).map (limb l)
theorem limbsL_succ (l : List Int) (c : Nat) : limbsL l (c + 1) = limbsL l c ++ [limb l c] := by unfold limbsL; rw [List.range_succ]; simp
theorem limbsL_len (l : List Int) (c : Nat) : (limbsL l c).length = c := by unfold limbsL; simp
theorem limb_rng {l : List Int} (h : BY l) (i : Nat) : 0 ≤ limb l i ∧ limb l i ≤ 18446744073709551615 := by
  have hb : BY ((l.drop (8 * i)).take 8) := fun x hx => h x (List.mem_of_mem_drop (List.mem_of_mem_take hx))
  have h1 := bval_lt hb
  have h2 : ((l.drop (8 * i)).take 8).length ≤ 8 := by simp; omega
  have h3 : (256 : Nat) ^ ((l.drop (8 * i)).take 8).length ≤ 256 ^ 8 := Nat.pow_le_pow_right (by decide) h2
  unfold limb
  omega
theorem lval_app (l m : List Int) : lval (l ++ m) = lval l + 18446744073709551616 ^ l.length * lval m := by
  induction l with
  | nil => simp [lval]
  | cons x l ih =>
    show x.toNat + 18446744073709551616 * lval (l ++ m) = x.toNat + 18446744073709551616 * lval l + 18446744073709551616 ^ (l.length + 1) * lval m
    rw [ih, Nat.pow_succ, Nat.mul_add, Nat.mul_comm (18446744073709551616 ^ l.length) 18446744073709551616, Nat.mul_assoc]
    omega
/-- The limbs are the number's. -/
theorem limbsL_val (l : List Int) : ∀ (c : Nat), lval (limbsL l c) = bval (l.take (8 * c))
  | 0 => by simp [limbsL, lval, bval]
  | c + 1 => by
    rw [limbsL_succ, lval_app, limbsL_val l c, limbsL_len]
    show bval (l.take (8 * c)) + 18446744073709551616 ^ c * ((limb l c).toNat + 18446744073709551616 * 0) = _
    rw [show 8 * (c + 1) = 8 * c + 8 by omega, List.take_add, bval_app]
    have e : (limb l c).toNat = bval ((l.drop (8 * c)).take 8) := by unfold limb; simp
    rw [e, Nat.mul_zero, Nat.add_zero]
    by_cases hl : 8 * c ≤ l.length
    · rw [List.length_take, Nat.min_eq_left hl, Nat.pow_mul]
    · rw [List.drop_eq_nil_of_le (by omega)]
      simp [bval]
theorem cellsB {l : List Int} {b off : Nat} {K : List Value → Prop} (n : Int) (h0 : 0 ≤ n) (h : n < (l.length : Int)) (k : K [.int .u8 (l.getD n.toNat 0)]) : CellsN (orF noFacts (rowF b off (BVs l))) b (off + n.toNat * 1) 1 K := by
  refine .mk _ (fun j v hj => .inr ⟨rfl, n.toNat + j, by omega, ?_⟩) rfl k
  have h2 : n.toNat < l.length := by omega
  rcases j with _ | j
  · simp at hj
    subst hj
    unfold BVs
    rw [Nat.add_zero, List.getElem?_map, List.getElem?_eq_getElem h2]
    simp [List.getD, h2]
  · simp at hj
set_option maxHeartbeats 2000000 in
theorem limbs_f (l : List Int) (hb : BY l) (hl : l.length ≤ 1000) : DenF Tryz.prog 171 noFacts [.r 1 l.length (BVs l)] [.s 0] [.row 23 1 ((l.length + 7) / 8) (UVs (limbsL l ((l.length + 7) / 8)))] := by
  refine DenF.fam rfl ?_
  intro ad b off c hs _
  refine denV_of_body (args := [.slice ad l.length c]) hmix Tryz.func171 ?_
  (repeat' ((conv => whnf); first | refine AdN.mk _ _ rfl ?_ | refine DrawN.a (Ob.mk (by decide +kernel) ?_) | refine DrawN.c (Ob.mk (by decide +kernel) ?_) | refine DrawN.b (Ob.mk (by decide +kernel) ?_) | refine Ob.mk (by kernel_rfl) ?_ | (refine Br.mk (fun h => ?_) (fun h => ?_) <;> (first | (exfalso; exact Bool.false_ne_true h) | (exfalso; exact Bool.false_ne_true h.symm) | skip)))); all_goals (conv => whnf)
  refine SeqN.nilRow 3 23 1 rfl ?_
  (conv => whnf)
  refine SeqN.go ?_
  (repeat' ((conv => whnf); first | refine AdN.mk _ _ rfl ?_ | refine DrawN.a (Ob.mk (by decide +kernel) ?_) | refine DrawN.c (Ob.mk (by decide +kernel) ?_) | refine DrawN.b (Ob.mk (by decide +kernel) ?_) | refine Ob.mk (by kernel_rfl) ?_ | (refine Br.mk (fun h => ?_) (fun h => ?_) <;> (first | (exfalso; exact Bool.false_ne_true h) | (exfalso; exact Bool.false_ne_true h.symm) | skip)))); all_goals (conv => whnf)
  refine LoopN.mk {i : Nat // i ≤ (l.length + 7) / 8} (fun i => [(4, .v (.int .i64 (8 * i.1 : Nat))), (3, .s 0)]) (fun i => [.row 23 1 i.1 (UVs (limbsL l i.1))]) (fun i => (l.length + 7) / 8 - i.1) ⟨0, Nat.zero_le _⟩ ?_ ?_
  · (conv => whnf); (repeat' (first | exact True.intro | exact rfl | refine And.intro ?_ ?_ | decide))
  (conv => whnf)
  rintro ⟨i, hi⟩
  (repeat' ((conv => whnf); first | refine AdN.mk _ _ rfl ?_ | refine DrawN.a (Ob.mk (by decide +kernel) ?_) | refine DrawN.c (Ob.mk (by decide +kernel) ?_) | refine DrawN.b (Ob.mk (by decide +kernel) ?_) | refine Ob.mk (by kernel_rfl) ?_ | (refine Br.mk (fun h => ?_) (fun h => ?_) <;> (first | (exfalso; exact Bool.false_ne_true h) | (exfalso; exact Bool.false_ne_true h.symm) | skip)))); all_goals (conv => whnf)
  refine SeqN.go ?_
  (repeat' ((conv => whnf); first | refine AdN.mk _ _ rfl ?_ | refine DrawN.a (Ob.mk (by decide +kernel) ?_) | refine DrawN.c (Ob.mk (by decide +kernel) ?_) | refine DrawN.b (Ob.mk (by decide +kernel) ?_) | refine Ob.mk (by kernel_rfl) ?_ | (refine Br.mk (fun h => ?_) (fun h => ?_) <;> (first | (exfalso; exact Bool.false_ne_true h) | (exfalso; exact Bool.false_ne_true h.symm) | skip)))); all_goals (conv => whnf)
  · have h8 : ((8 * i : Nat) : Int) < (l.length : Int) := of_decide_eq_true ‹_›
    obtain ⟨m, hm⟩ : ∃ m, m = min l.length (8 * i + 8) := ⟨_, rfl⟩
    have e8 : IntKind.i64.wrap (((8 * i : Nat) : Int) + 8) = ((8 * i : Nat) : Int) + 8 := by rw [sg_eq]; exact sg_in _ (by omega) (by omega)
    (repeat' ((conv => whnf); first | refine AdN.mk _ _ rfl ?_ | refine DrawN.a (Ob.mk (by decide +kernel) ?_) | refine DrawN.c (Ob.mk (by decide +kernel) ?_) | refine DrawN.b (Ob.mk (by decide +kernel) ?_) | refine Ob.mk (by kernel_rfl) ?_ | (refine Br.mk (fun h => ?_) (fun h => ?_) <;> (first | (exfalso; exact Bool.false_ne_true h) | (exfalso; exact Bool.false_ne_true h.symm) | skip)) | refine SeqN.go ?_)); all_goals (conv => whnf)
    refine LoopN.mk {j : Nat // 8 * i ≤ j ∧ j ≤ m} (fun j => [(6, .v (.int .i64 ((j.1 : Int) - 1))), (5, .v (.int .u64 (bval ((l.take m).drop j.1) : Int))), (3, .s 0)]) (fun _ => [.row 23 1 i (UVs (limbsL l i))]) (fun j => j.1 - 8 * i) ⟨m, by omega, Nat.le_refl _⟩ ?_ ?_
    · (conv => whnf); (repeat' (first | exact True.intro | exact rfl | refine And.intro ?_ ?_ | decide))
      · show Value.int .u64 0 = Value.int .u64 _
        rw [List.drop_eq_nil_of_le (by simp; omega)]
        rfl
      · show Value.int .i64 (IntKind.i64.wrap ((if IntKind.i64.wrap (((8 * i : Nat) : Int) + 8) < (l.length : Int) then IntKind.i64.wrap (((8 * i : Nat) : Int) + 8) else (l.length : Int)) - 1)) = Value.int .i64 ((m : Int) - 1)
        refine congrArg (Value.int _) ?_
        rw [e8]
        split <;> (rw [sg_eq, sg_in _ (by omega) (by omega)]; omega)
    (conv => whnf)
    rintro ⟨j, hj1, hj2⟩
    have p1 : decide ((j : Int) - 1 ≥ ((8 * i : Nat) : Int)) = true → 8 * i + 1 ≤ j := fun h => by have := of_decide_eq_true h; omega
    have o1 : decide ((j : Int) - 1 ≥ ((8 * i : Nat) : Int)) = true → 0 ≤ (j : Int) - 1 ∧ (j : Int) - 1 < (l.length : Int) := fun h => by have := p1 h; omega
    (repeat' ((conv => whnf); first | refine Ob.mk (o1 ‹_›) ?_ | refine AdN.mk b off (hs (by have := (o1 ‹_›).2; omega)) ?_ | refine cellsB ((j : Int) - 1) (o1 ‹_›).1 (o1 ‹_›).2 ?_ | refine Ob.mk ⟨by omega, (by show (i + 1) * 8 ≤ 140737488355328; omega), (by show i + 1 ≤ 140737488355328; omega)⟩ ?_ | refine AdN.mk _ _ rfl ?_ | refine DrawN.a (Ob.mk (by decide +kernel) ?_) | refine DrawN.c (Ob.mk (by decide +kernel) ?_) | refine DrawN.b (Ob.mk (by decide +kernel) ?_) | refine Ob.mk (by kernel_rfl) ?_ | (refine Br.mk (fun h => ?_) (fun h => ?_) <;> (first | (exfalso; exact Bool.false_ne_true h) | (exfalso; exact Bool.false_ne_true h.symm) | skip)) | refine SeqN.go ?_)); all_goals (conv => whnf)
    · have hp := p1 ‹_›
      obtain ⟨j, rfl⟩ : ∃ t, j = t + 1 := ⟨j - 1, by omega⟩
      have hd : (l.take m).drop j = l.getD j 0 :: (l.take m).drop (j + 1) := by
        have hjl : j < l.length := by omega
        have hjm : j < (l.take m).length := by rw [List.length_take]; omega
        rw [List.drop_eq_getElem_cons hjm]
        congr 1
        rw [List.getElem_take]
        simp [List.getD, hjl]
      have hx := hb (l.getD j 0) (by have hjl : j < l.length := by omega
                                     simp [List.getD, hjl])
      have hv : bval ((l.take m).drop j) = (l.getD j 0).toNat + 256 * bval ((l.take m).drop (j + 1)) := by rw [hd]; rfl
      have hB : BY ((l.take m).drop j) := fun y hy => hb y (List.mem_of_mem_take (List.mem_of_mem_drop hy))
      have h1 := bval_lt hB
      have h2 : ((l.take m).drop j).length ≤ 8 := by rw [List.length_drop, List.length_take]; omega
      have h3 : (256 : Nat) ^ ((l.take m).drop j).length ≤ 256 ^ 8 := Nat.pow_le_pow_right (by decide) h2
      refine RoundN.mk ⟨j, by omega, by omega⟩ (by show j - 8 * i < j + 1 - 8 * i; omega) ?_
      (conv => whnf); (repeat' (first | exact True.intro | exact rfl | refine And.intro ?_ ?_ | decide))
      all_goals first
        | (refine congrArg (Value.int _) ?_; dsimp only; rw [sg_eq, sg_in _ (by omega) (by omega)]; omega)
        | (refine congrArg (Value.int _) ?_
           show IntKind.u64.wrap (IntKind.u64.wrap ((bval ((l.take m).drop (j + 1)) : Int) * 256) + IntKind.u64.wrap (l.getD (((j + 1 : Nat) : Int) - 1).toNat 0)) = (bval ((l.take m).drop j) : Int)
           rw [show (((j + 1 : Nat) : Int) - 1).toNat = j by omega, hv]
           simp only [us_eq]
           unfold us
           omega)
        | trace_state
    · have hp : ¬ (j : Int) - 1 ≥ ((8 * i : Nat) : Int) := of_decide_eq_false ‹_›
      obtain rfl : j = 8 * i := by omega
      have hx : (bval ((l.take m).drop (8 * i)) : Int) = limb l i := by
        unfold limb
        rw [List.drop_take]
        congr 2
        by_cases hc : 8 * i + 8 ≤ l.length
        · rw [show m - 8 * i = 8 by omega]
        · rw [List.take_of_length_le (by rw [List.length_drop]; omega), List.take_of_length_le (by rw [List.length_drop]; omega)]
      refine RoundN.mk ⟨i + 1, by omega⟩ (by show (l.length + 7) / 8 - (i + 1) < (l.length + 7) / 8 - i; omega) ?_
      (conv => whnf); (repeat' (first | exact True.intro | exact rfl | refine And.intro ?_ ?_ | decide))
      all_goals first
        | (refine congrArg (Value.int _) ?_; dsimp only; rw [e8]; omega)
        | (dsimp only; rw [hx, limbsL_succ]; simp [UVs]; done)
        | trace_state
  · have h8 : ¬ ((8 * i : Nat) : Int) < (l.length : Int) := of_decide_eq_false ‹_›
    have hc : i = (l.length + 7) / 8 := by omega
    refine RetN.mk [0] (by decide) rfl ?_ ?_ <;> (conv => whnf); (repeat' (first | exact True.intro | exact rfl | refine And.intro ?_ ?_ | decide))
    all_goals first | exact hc | (dsimp only; rw [hc]) | trace_state
end Go.Proofs.YtljhbdgoknfkcaaGreatDoor
