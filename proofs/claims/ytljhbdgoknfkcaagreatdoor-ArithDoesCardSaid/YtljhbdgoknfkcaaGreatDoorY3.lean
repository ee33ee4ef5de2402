/- Rows of bytes of the reference: a number's limbs. -/
import Derived.Test.YtljhbdgoknfkcaaGreatDoorY2
namespace Go.Proofs.YtljhbdgoknfkcaaGreatDoor
open Go Go.RowKit Go.Sort
set_option linter.unusedVariables false
set_option linter.unusedSimpArgs false
set_option maxRecDepth 100000

/-- A row's limb, by its place. -/
def limb (l : List Int) (i : Nat) : Int := (bval ((l.drop (8 * i)).take 8) : Int)
def limbsL (l : List Int) (c : Nat) : List Int := (List.range c).map (limb l)
theorem limbsL_succ (l : List Int) (c : Nat) : limbsL l (c + 1) = limbsL l c ++ [limb l c] := by unfold limbsL; rw [List.range_succ]; simp
theorem limbsL_len (l : List Int) (c : Nat) : (limbsL l c).length = c := by unfold limbsL; simp
theorem limb_rng {l : List Int} (h : BY l) (i : Nat) : 0 ≤ limb l i ∧ limb l i ≤ 18446744073709551615 := by
  have hb : BY ((l.drop (8 * i)).take 8) := fun x hx => h x (List.mem_of_mem_drop (List.mem_of_mem_take hx))
  have h1 := bval_lt hb
  have h2 : ((l.drop (8 * i)).take 8).length ≤ 8 := by simp; omega
  have h3 : (256 : Nat) ^ ((l.drop (8 * i)).take 8).length ≤ 256 ^ 8 := Nat.pow_le_pow_right (by decide) h2
  unfold limb
  omega
theorem lval_app (l m : List Int) : lval (l ++ m) = lval l + 18446744073709551616 ^ l.length * lval m := by
  induction l with
  | nil => simp [lval]
  | cons x l ih =>
    show x.toNat + 18446744073709551616 * lval (l ++ m) = x.toNat + 18446744073709551616 * lval l + 18446744073709551616 ^ (l.length + 1) * lval m
    rw [ih, Nat.pow_succ, Nat.mul_add, Nat.mul_comm (18446744073709551616 ^ l.length) 18446744073709551616, Nat.mul_assoc]
    omega
/-- The limbs are the number's. -/
theorem limbsL_val (l : List Int) : ∀ (c : Nat), lval (limbsL l c) = bval (l.take (8 * c))
  | 0 => by simp [limbsL, lval, bval]
  | c + 1 => by
    rw [limbsL_succ, lval_app, limbsL_val l c, limbsL_len]
    show bval (l.take (8 * c)) + 18446744073709551616 ^ c * ((limb l c).toNat + 18446744073709551616 * 0) = _
    rw [show 8 * (c + 1) = 8 * c + 8 by omega, List.take_add, bval_app]
    have e : (limb l c).toNat = bval ((l.drop (8 * c)).take 8) := by unfold limb; simp
    rw [e, Nat.mul_zero, Nat.add_zero]
    by_cases hl : 8 * c ≤ l.length
    · rw [List.length_take, Nat.min_eq_left hl, Nat.pow_mul]
    · rw [List.drop_eq_nil_of_le (by omega)]
      simp [bval]
theorem cellsB {l : List Int} {b off : Nat} {K : List Value → Prop} (n : Int) (h0 : 0 ≤ n) (h : n < (l.length : Int)) (k : K [.int .u8 (l.getD n.toNat 0)]) : CellsN (orF noFacts (rowF b off (BVs l))) b (off + n.toNat * 1) 1 K := by
  refine .mk _ (fun j v hj => .inr ⟨rfl, n.toNat + j, by omega, ?_⟩) rfl k
  have h2 : n.toNat < l.length := by omega
  rcases j with _ | j
  · simp at hj
    subst hj
    unfold BVs
    rw [Nat.add_zero, List.getElem?_map, List.getElem?_eq_getElem h2]
    simp [List.getD, h2]
  · simp at hj
set_option maxHeartbeats 2000000 in
theorem limbs_f (l : List Int) (hb : BY l) (hl : l.length ≤ 1000) : DenF Tryz.prog 171 noFacts [.r 1 l.length (BVs l)] [.s 0] [.row 23 1 ((l.length + 7) / 8) (UVs (limbsL l ((l.length + 7) / 8)))] := by
  refine DenF.fam rfl ?_
  intro ad b off c hs _
  refine denV_of_body (args := [.slice ad l.length c]) hmix Tryz.func171 ?_
  (repeat' ((conv => whnf); first | refine AdN.mk _ _ rfl ?_ | refine DrawN.a (Ob.mk (by decide +kernel) ?_) | refine DrawN.c (Ob.mk (by decide +kernel) ?_) | refine DrawN.b (Ob.mk (by decide +kernel) ?_) | refine Ob.mk (by kernel_rfl) ?_ | (refine Br.mk (fun h => ?_) (fun h => ?_) <;> (first | (exfalso; exact Bool.false_ne_true h) | (exfalso; exact Bool.false_ne_true h.symm) | skip)))); all_goals (conv => whnf)
  refine SeqN.nilRow 3 23 1 rfl ?_
  (conv => whnf)
  refine SeqN.go ?_
  (repeat' ((conv => whnf); first | refine AdN.mk _ _ rfl ?_ | refine DrawN.a (Ob.mk (by decide +kernel) ?_) | refine DrawN.c (Ob.mk (by decide +kernel) ?_) | refine DrawN.b (Ob.mk (by decide +kernel) ?_) | refine Ob.mk (by kernel_rfl) ?_ | (refine Br.mk (fun h => ?_) (fun h => ?_) <;> (first | (exfalso; exact Bool.false_ne_true h) | (exfalso; exact Bool.false_ne_true h.symm) | skip)))); all_goals (conv => whnf)
  refine LoopN.mk {i : Nat // i ≤ (l.length + 7) / 8} (fun i => [(4, .v (.int .i64 (8 * i.1 : Nat))), (3, .s 0)]) (fun i => [.row 23 1 i.1 (UVs (limbsL l i.1))]) (fun i => (l.length + 7) / 8 - i.1) ⟨0, Nat.zero_le _⟩ ?_ ?_
  · (conv => whnf); (repeat' (first | exact True.intro | exact rfl | refine And.intro ?_ ?_ | decide))
  (conv => whnf)
  rintro ⟨i, hi⟩
  (repeat' ((conv => whnf); first | refine AdN.mk _ _ rfl ?_ | refine DrawN.a (Ob.mk (by decide +kernel) ?_) | refine DrawN.c (Ob.mk (by decide +kernel) ?_) | refine DrawN.b (Ob.mk (by decide +kernel) ?_) | refine Ob.mk (by kernel_rfl) ?_ | (refine Br.mk (fun h => ?_) (fun h => ?_) <;> (first | (exfalso; exact Bool.false_ne_true h) | (exfalso; exact Bool.false_ne_true h.symm) | skip)))); all_goals (conv => whnf)
  refine SeqN.go ?_
  (repeat' ((conv => whnf); first | refine AdN.mk _ _ rfl ?_ | refine DrawN.a (Ob.mk (by decide +kernel) ?_) | refine DrawN.c (Ob.mk (by decide +kernel) ?_) | refine DrawN.b (Ob.mk (by decide +kernel) ?_) | refine Ob.mk (by kernel_rfl) ?_ | (refine Br.mk (fun h => ?_) (fun h => ?_) <;> (first | (exfalso; exact Bool.false_ne_true h) | (exfalso; exact Bool.false_ne_true h.symm) | skip)))); all_goals (conv => whnf)
  · have h8 : ((8 * i : Nat) : Int) < (l.length : Int) := of_decide_eq_true ‹_›
    obtain ⟨m, hm⟩ : ∃ m, m = min l.length (8 * i + 8) := ⟨_, rfl⟩
    have e8 : IntKind.i64.wrap (((8 * i : Nat) : Int) + 8) = ((8 * i : Nat) : Int) + 8 := by rw [sg_eq]; exact sg_in _ (by omega) (by omega)
    (repeat' ((conv => whnf); first | refine AdN.mk _ _ rfl ?_ | refine DrawN.a (Ob.mk (by decide +kernel) ?_) | refine DrawN.c (Ob.mk (by decide +kernel) ?_) | refine DrawN.b (Ob.mk (by decide +kernel) ?_) | refine Ob.mk (by kernel_rfl) ?_ | (refine Br.mk (fun h => ?_) (fun h => ?_) <;> (first | (exfalso; exact Bool.false_ne_true h) | (exfalso; exact Bool.false_ne_true h.symm) | skip)) | refine SeqN.go ?_)); all_goals (conv => whnf)
    refine LoopN.mk {j : Nat // 8 * i ≤ j ∧ j ≤ m} (fun j => [(6, .v (.int .i64 ((j.1 : Int) - 1))), (5, .v (.int .u64 (bval ((l.take m).drop j.1) : Int))), (3, .s 0)]) (fun _ => [.row 23 1 i (UVs (limbsL l i))]) (fun j => j.1 - 8 * i) ⟨m, by omega, Nat.le_refl _⟩ ?_ ?_
    · (conv => whnf); (repeat' (first | exact True.intro | exact rfl | refine And.intro ?_ ?_ | decide))
      · show Value.int .u64 0 = Value.int .u64 _
        rw [List.drop_eq_nil_of_le (by simp; omega)]
        rfl
      · show Value.int .i64 (IntKind.i64.wrap ((if IntKind.i64.wrap (((8 * i : Nat) : Int) + 8) < (l.length : Int) then IntKind.i64.wrap (((8 * i : Nat) : Int) + 8) else (l.length : Int)) - 1)) = Value.int .i64 ((m : Int) - 1)
        refine congrArg (Value.int _) ?_
        rw [e8]
        split <;> (rw [sg_eq, sg_in _ (by omega) (by omega)]; omega)
    (conv => whnf)
    rintro ⟨j, hj1, hj2⟩
    have p1 : decide ((j : Int) - 1 ≥ ((8 * i : Nat) : Int)) = true → 8 * i + 1 ≤ j := fun h => by have := of_decide_eq_true h; omega
    have o1 : decide ((j : Int) - 1 ≥ ((8 * i : Nat) : Int)) = true → 0 ≤ (j : Int) - 1 ∧ (j : Int) - 1 < (l.length : Int) := fun h => by have := p1 h; omega
    (repeat' ((conv => whnf); first | refine Ob.mk (o1 ‹_›) ?_ | refine AdN.mk b off (hs (by have := (o1 ‹_›).2; omega)) ?_ | refine cellsB ((j : Int) - 1) (o1 ‹_›).1 (o1 ‹_›).2 ?_ | refine Ob.mk ⟨by omega, (by show (i + 1) * 8 ≤ 140737488355328; omega), (by show i + 1 ≤ 140737488355328; omega)⟩ ?_ | refine AdN.mk _ _ rfl ?_ | refine DrawN.a (Ob.mk (by decide +kernel) ?_) | refine DrawN.c (Ob.mk (by decide +kernel) ?_) | refine DrawN.b (Ob.mk (by decide +kernel) ?_) | refine Ob.mk (by kernel_rfl) ?_ | (refine Br.mk (fun h => ?_) (fun h => ?_) <;> (first | (exfalso; exact Bool.false_ne_true h) | (exfalso; exact Bool.false_ne_true h.symm) | skip)) | refine SeqN.go ?_)); all_goals (conv => whnf)
    · have hp := p1 ‹_›
      obtain ⟨j, rfl⟩ : ∃ t, j = t + 1 := ⟨j - 1, by omega⟩
      have hd : (l.take m).drop j = l.getD j 0 :: (l.take m).drop (j + 1) := by
        have hjl : j < l.length := by omega
        have hjm : j < (l.take m).length := by rw [List.length_take]; omega
        rw [List.drop_eq_getElem_cons hjm]
        congr 1
        rw [List.getElem_take]
        simp [List.getD, hjl]
      have hx := hb (l.getD j 0) (by have hjl : j < l.length := by omega
                                     simp [List.getD, hjl])
      have hv : bval ((l.take m).drop j) = (l.getD j 0).toNat + 256 * bval ((l.take m).drop (j + 1)) := by rw [hd]; rfl
      have hB : BY ((l.take m).drop j) := fun y hy => hb y (List.mem_of_mem_take (List.mem_of_mem_drop hy))
      have h1 := bval_lt hB
      have h2 : ((l.take m).drop j).length ≤ 8 := by rw [List.length_drop, List.length_take]; omega
      have h3 : (256 : Nat) ^ ((l.take m).drop j).length ≤ 256 ^ 8 := Nat.pow_le_pow_right (by decide) h2
      refine RoundN.mk ⟨j, by omega, by omega⟩ (by show j - 8 * i < j + 1 - 8 * i; omega) ?_
      (conv => whnf); (repeat' (first | exact True.intro | exact rfl | refine And.intro ?_ ?_ | decide))
      all_goals first
        | (refine congrArg (Value.int _) ?_; dsimp only; rw [sg_eq, sg_in _ (by omega) (by omega)]; omega)
        | (refine congrArg (Value.int _) ?_
           show IntKind.u64.wrap (IntKind.u64.wrap ((bval ((l.take m).drop (j + 1)) : Int) * 256) + IntKind.u64.wrap (l.getD (((j + 1 : Nat) : Int) - 1).toNat 0)) = (bval ((l.take m).drop j) : Int)
           rw [show (((j + 1 : Nat) : Int) - 1).toNat = j by omega, hv]
           simp only [us_eq]
           unfold us
           omega)
        | trace_state
    · have hp : ¬ (j : Int) - 1 ≥ ((8 * i : Nat) : Int) := of_decide_eq_false ‹_›
      obtain rfl : j = 8 * i := by omega
      have hx : (bval ((l.take m).drop (8 * i)) : Int) = limb l i := by
        unfold limb
        rw [List.drop_take]
        congr 2
        by_cases hc : 8 * i + 8 ≤ l.length
        · rw [show m - 8 * i = 8 by omega]
        · rw [List.take_of_length_le (by rw [List.length_drop]; omega), List.take_of_length_le (by rw [List.length_drop]; omega)]
      refine RoundN.mk ⟨i + 1, by omega⟩ (by show (l.length + 7) / 8 - (i + 1) < (l.length + 7) / 8 - i; omega) ?_
      (conv => whnf); (repeat' (first | exact True.intro | exact rfl | refine And.intro ?_ ?_ | decide))
      all_goals first
        | (refine congrArg (Value.int _) ?_; dsimp only; rw [e8]; omega)
        | (dsimp only; rw [hx, limbsL_succ]; simp [UVs]; done)
        | trace_state
  · have h8 : ¬ ((8 * i : Nat) : Int) < (l.length : Int) := of_decide_eq_false ‹_›
    have hc : i = (l.length + 7) / 8 := by omega
    refine RetN.mk [0] (by decide) rfl ?_ ?_ <;> (conv => whnf); (repeat' (first | exact True.intro | exact rfl | refine And.intro ?_ ?_ | decide))
    all_goals first | exact hc | (dsimp only; rw [hc]) | trace_state
end Go.Proofs.YtljhbdgoknfkcaaGreatDoor
