/- Contracts of the reference's numbers by their digits: shifts, quotients; what operators make. -/
import Derived.Test.YtljhbdgoknfkcaaGreatDoorZ3
import Derived.Test.YtljhbdgoknfkcaaGreatDoorG5
namespace Go.Proofs.YtljhbdgoknfkcaaGreatDoor
open Go Go.RowKit Go.Sort
set_option linter.unusedVariables false
set_option linter.unusedSimpArgs false
set_option maxRecDepth 100000

theorem rBit_d (b : Bool) : Den Tryz.prog 161 #[.bool b] noFacts (.int .i64 (if b then 1 else 0)) := by
  refine den_of_body (args := [.bool b]) hmix Tryz.func161 ?_
  (repeat' ((conv => whnf); first | refine AdN.mk _ _ rfl ?_ | refine DrawN.a (Ob.mk (by decide +kernel) ?_) | refine DrawN.c (Ob.mk (by decide +kernel) ?_) | refine DrawN.b (Ob.mk (by decide +kernel) ?_) | refine Ob.mk (by kernel_rfl) ?_ | (refine Br.mk (fun h => ?_) (fun h => ?_) <;> (first | (exfalso; exact Bool.false_ne_true h) | (exfalso; exact Bool.false_ne_true h.symm) | skip)) | refine SeqN.go ?_)); all_goals (conv => whnf)
  all_goals (cases b <;> first | rfl | (exfalso; grind))
/-- Towards 0. -/
def quo (a b : Int) : Int := IntKind.i64.wrap (a.tdiv b)
theorem rSize_d (a : Int) (ha : IS a) : Den Tryz.prog 230 #[.int .i64 a] noFacts (.int .u64 (a.natAbs : Int)) := by
  refine den_of_body (args := [.int .i64 a]) hmix Tryz.func230 ?_
  have A := rNeg_d a
  (repeat' ((conv => whnf); first | refine CallN.any _ A ?_ | refine AdN.mk _ _ rfl ?_ | refine DrawN.a (Ob.mk (by decide +kernel) ?_) | refine DrawN.c (Ob.mk (by decide +kernel) ?_) | refine DrawN.b (Ob.mk (by decide +kernel) ?_) | refine Ob.mk (by kernel_rfl) ?_ | (refine Br.mk (fun h => ?_) (fun h => ?_) <;> (first | (exfalso; exact Bool.false_ne_true h) | (exfalso; exact Bool.false_ne_true h.symm) | skip)) | refine SeqN.go ?_)); all_goals (conv => whnf)
  · have h := of_decide_eq_true ‹decide (a < 0) = true›
    refine congrArg (Value.int _) ?_
    have h1 := ha.1
    simp only [us_eq, sg_eq]; unfold us sg; omega
  · have h := of_decide_eq_false ‹decide (a < 0) = false›
    refine congrArg (Value.int _) ?_
    have h1 := ha.2
    simp only [us_eq]; unfold us; omega
theorem quo_same {a b : Int} (ha : IS a) (hb : IS b) (h0 : b ≠ 0) (h : (decide (a < 0)) = (decide (b < 0))) : IntKind.i64.wrap (IntKind.u64.wrap (((a.natAbs : Nat) : Int).tdiv ((b.natAbs : Nat) : Int))) = quo a b := by
  unfold quo
  have e : ((a.natAbs : Nat) : Int).tdiv ((b.natAbs : Nat) : Int) = a.tdiv b := by
    by_cases c1 : a < 0 <;> by_cases c2 : b < 0 <;> simp [c1, c2] at h
    · rw [show ((a.natAbs : Nat) : Int) = -a by omega, show ((b.natAbs : Nat) : Int) = -b by omega, Int.neg_tdiv, Int.tdiv_neg, Int.neg_neg]
    · rw [show ((a.natAbs : Nat) : Int) = a by omega, show ((b.natAbs : Nat) : Int) = b by omega]
  rw [e, us_eq, sg_eq, sg_eq]
  unfold us sg
  omega
theorem quo_other {a b : Int} (ha : IS a) (hb : IS b) (h0 : b ≠ 0) (h : (decide (a < 0)) ≠ (decide (b < 0))) : IntKind.i64.wrap (-(IntKind.i64.wrap (IntKind.u64.wrap (((a.natAbs : Nat) : Int).tdiv ((b.natAbs : Nat) : Int))))) = quo a b := by
  unfold quo
  have e : ((a.natAbs : Nat) : Int).tdiv ((b.natAbs : Nat) : Int) = -(a.tdiv b) := by
    by_cases c1 : a < 0 <;> by_cases c2 : b < 0 <;> simp [c1, c2] at h
    · rw [show ((a.natAbs : Nat) : Int) = -a by omega, show ((b.natAbs : Nat) : Int) = b by omega, Int.neg_tdiv]
    · rw [show ((a.natAbs : Nat) : Int) = a by omega, show ((b.natAbs : Nat) : Int) = -b by omega, Int.tdiv_neg]
  rw [e, us_eq, sg_eq, sg_eq, sg_eq]
  unfold us sg
  omega
theorem bneB {x y : Bool} (h : (!(x == y)) = true) : x ≠ y := by simpa using h
theorem beqB {x y : Bool} (h : (!(x == y)) = false) : x = y := by simpa using h
theorem rQuot_d (a b : Int) (ha : IS a) (hb : IS b) (h0 : b ≠ 0) : Den Tryz.prog 169 #[.int .i64 a, .int .i64 b] noFacts (.int .i64 (quo a b)) := by
  refine den_of_body (args := [.int .i64 a, .int .i64 b]) hmix Tryz.func169 ?_
  have A := rSize_d a ha
  have B := rSize_d b hb
  have N := rNeg_d (IntKind.i64.wrap (IntKind.u64.wrap (((a.natAbs : Nat) : Int).tdiv ((b.natAbs : Nat) : Int))))
  (repeat' ((conv => whnf); first | refine CallN.any _ A ?_ | refine CallN.any _ B ?_ | refine CallN.any _ N ?_ | refine Ob.mk (show ((b.natAbs : Nat) : Int) ≠ 0 by omega) ?_ | refine AdN.mk _ _ rfl ?_ | refine DrawN.a (Ob.mk (by decide +kernel) ?_) | refine DrawN.c (Ob.mk (by decide +kernel) ?_) | refine DrawN.b (Ob.mk (by decide +kernel) ?_) | refine Ob.mk (by kernel_rfl) ?_ | (refine Br.mk (fun h => ?_) (fun h => ?_) <;> (first | (exfalso; exact Bool.false_ne_true h) | (exfalso; exact Bool.false_ne_true h.symm) | skip)) | refine SeqN.go ?_)); all_goals (conv => whnf)
  · exact congrArg (Value.int _) (quo_other ha hb h0 (bneB ‹_›))
  · exact congrArg (Value.int _) (quo_same ha hb h0 (beqB ‹_›))
theorem shf_set {a s v : Int} {i : Nat} (j : Nat) (hv : v = shf a s i) : (if j = i then v else if j < i then shf a s j else 0) = if j < i + 1 then shf a s j else 0 := set_dig j hv
theorem shf_keep {a s : Int} {i : Nat} (j : Nat) (hv : shf a s i = 0) : (if j < i then shf a s j else 0) = if j < i + 1 then shf a s j else 0 := by
  by_cases h2 : j < i
  · rw [if_pos h2, if_pos (by omega)]
  · by_cases e : j = i
    · subst e; rw [if_neg h2, if_pos (Nat.lt_succ_self _), hv]
    · rw [if_neg h2, if_neg (by omega)]
theorem sh_ix {i : Nat} {s z : Int} (e : z = (i : Int) - s) (h : decide (z > 63) = false) (k : decide (z ≥ 0) = true) : 0 ≤ z ∧ z < ((64 : Nat) : Int) := by
  have := of_decide_eq_false h
  have := of_decide_eq_true k
  omega
theorem sh_e {i : Nat} {s z : Int} (e : z = (i : Int) - s) (k : decide (z ≥ 0) = true) : z = ((((i : Int) - s).toNat : Nat) : Int) := by
  have := of_decide_eq_true k
  omega
theorem sh_lt {i : Nat} {s z : Int} (e : z = (i : Int) - s) (h : decide (z > 63) = false) (k : decide (z ≥ 0) = true) : ((i : Int) - s).toNat < 64 := by
  have := of_decide_eq_false h
  have := of_decide_eq_true k
  omega
theorem sh_v1 {a : Int} {i : Nat} {s z : Int} (e : z = (i : Int) - s) (h : decide (z > 63) = true) : dg a 63 = shf a s i := by
  have h := of_decide_eq_true h
  rw [e] at h
  unfold shf
  dsimp only
  rw [if_pos h, if_pos (by decide)]
  rfl
theorem sh_v2 {a : Int} {i : Nat} {s z : Int} (e : z = (i : Int) - s) (h : decide (z > 63) = false) (k : decide (z ≥ 0) = true) : dg a ((i : Int) - s).toNat = shf a s i := by
  have h := of_decide_eq_false h
  have k := of_decide_eq_true k
  rw [e] at h k
  unfold shf
  dsimp only
  rw [if_neg h, if_pos k]
theorem sh_v3 {a : Int} {i : Nat} {s z : Int} (e : z = (i : Int) - s) (h : decide (z > 63) = false) (k : decide (z ≥ 0) = false) : shf a s i = 0 := by
  have h := of_decide_eq_false h
  have k := of_decide_eq_false k
  rw [e] at h k
  unfold shf
  dsimp only
  rw [if_neg h, if_neg k]
set_option maxHeartbeats 4000000 in
theorem rShf_d (a s : Int) (hs : -63 ≤ s ∧ s ≤ 63) : Den Tryz.prog 164 #[.int .i64 a, .int .i64 s] noFacts (.int .i64 (IntKind.i64.wrap (vb (shf a s) 64))) := by
  refine den_of_body (args := [.int .i64 a, .int .i64 s]) hmix Tryz.func164 ?_
  have A := rDigits_d a
  have N := rNumber_d (fun j => if j < 64 then shf a s j else 0) (fun j => by split; exact shf_in _ _ _; decide)
  have e : IntKind.i64.wrap (vb (fun j => if j < 64 then shf a s j else 0) 64) = IntKind.i64.wrap (vb (shf a s) 64) := congrArg IntKind.i64.wrap (vb_congr 64 fun j hj => if_pos hj)
  rw [e] at N
  clear e
  (repeat' ((conv => whnf); first | refine CallN.big _ A ?_ | refine Ob.mk (okA0 _ rfl) ?_ | refine AdN.mk _ _ rfl ?_ | refine DrawN.a (Ob.mk (by decide +kernel) ?_) | refine DrawN.c (Ob.mk (by decide +kernel) ?_) | refine DrawN.b (Ob.mk (by decide +kernel) ?_) | refine Ob.mk (by kernel_rfl) ?_ | (refine Br.mk (fun h => ?_) (fun h => ?_) <;> (first | (exfalso; exact Bool.false_ne_true h) | (exfalso; exact Bool.false_ne_true h.symm) | skip)))); all_goals (conv => whnf)
  refine SeqN.go ?_
  (repeat' ((conv => whnf); first | refine AdN.mk _ _ rfl ?_ | refine DrawN.a (Ob.mk (by decide +kernel) ?_) | refine DrawN.c (Ob.mk (by decide +kernel) ?_) | refine DrawN.b (Ob.mk (by decide +kernel) ?_) | refine Ob.mk (by kernel_rfl) ?_ | (refine Br.mk (fun h => ?_) (fun h => ?_) <;> (first | (exfalso; exact Bool.false_ne_true h) | (exfalso; exact Bool.false_ne_true h.symm) | skip)))); all_goals (conv => whnf)
  refine LoopN.mk {i : Nat // i ≤ 64} (fun i => [(7, .v (.int .i64 i.1))]) (fun i => [.arr (arrL (dg a)), .arr (arrL fun j => if j < i.1 then shf a s j else 0)]) (fun i => 64 - i.1) ⟨0, Nat.zero_le _⟩ ?_ ?_
  · (conv => whnf); (repeat' (first | exact True.intro | exact rfl | refine And.intro ?_ ?_ | decide))
  (conv => whnf)
  rintro ⟨i, hi⟩
  by_cases hl : i < 64
  · have ew : IntKind.i64.wrap ((i : Int) - s) = (i : Int) - s := by rw [sg_eq]; exact sg_in _ (by omega) (by omega)
    (repeat' ((conv => whnf); first | refine Ob.mk (idxI hl) ?_ | refine Ob.mk (by decide) ?_ | refine Ob.mk (fitA i rfl hl) ?_ | refine rowA0 63 rfl (by decide) ?_ | refine Ob.mk (sh_ix ew ‹_› ‹_›) ?_ | refine rowA0 ((i : Int) - s).toNat (sh_e ew ‹_›) (sh_lt ew ‹decide (IntKind.i64.wrap ((i : Int) - s) > 63) = false› ‹_›) ?_ | refine AdN.mk _ _ rfl ?_ | refine DrawN.a (Ob.mk (by decide +kernel) ?_) | refine DrawN.c (Ob.mk (by decide +kernel) ?_) | refine DrawN.b (Ob.mk (by decide +kernel) ?_) | refine Ob.mk (by kernel_rfl) ?_ | (refine Br.mk (fun h => ?_) (fun h => ?_) <;> (first | (exfalso; exact Bool.false_ne_true h) | (exfalso; exact Bool.false_ne_true h.symm) | (exfalso; exact absurd (Int.ofNat_lt.2 hl) (of_decide_eq_false ‹_›)) | skip)) | refine SeqN.go ?_)); all_goals (conv => whnf)
    · refine RoundN.mk ⟨i + 1, hl⟩ (Nat.sub_succ_lt_self _ _ hl) ?_
      have hv := sh_v1 (a := a) ew ‹_›
      (conv => whnf); (repeat' (first | exact True.intro | exact rfl | refine And.intro ?_ ?_ | decide))
      all_goals first
        | exact congrArg (Value.int _) (wi64 hl)
        | exact (storeA i rfl hl).trans (arrL_congr fun j hj => shf_set j hv)
        | trace_state
    · refine RoundN.mk ⟨i + 1, hl⟩ (Nat.sub_succ_lt_self _ _ hl) ?_
      have hv := sh_v2 (a := a) ew ‹decide (IntKind.i64.wrap ((i : Int) - s) > 63) = false› ‹_›
      (conv => whnf); (repeat' (first | exact True.intro | exact rfl | refine And.intro ?_ ?_ | decide))
      all_goals first
        | exact congrArg (Value.int _) (wi64 hl)
        | exact (storeA i rfl hl).trans (arrL_congr fun j hj => shf_set j hv)
        | trace_state
    · refine RoundN.mk ⟨i + 1, hl⟩ (Nat.sub_succ_lt_self _ _ hl) ?_
      have hv := sh_v3 (a := a) ew ‹decide (IntKind.i64.wrap ((i : Int) - s) > 63) = false› ‹_›
      (conv => whnf); (repeat' (first | exact True.intro | exact rfl | refine And.intro ?_ ?_ | decide))
      all_goals first
        | exact congrArg (Value.int _) (wi64 hl)
        | exact arrL_congr fun j hj => shf_keep j hv
        | trace_state
  · obtain rfl : i = 64 := Nat.le_antisymm hi (Nat.le_of_not_lt hl)
    (repeat' ((conv => whnf); first | refine CallN.any _ N ?_ | refine allA ?_ | refine AdN.mk _ _ rfl ?_ | refine DrawN.a (Ob.mk (by decide +kernel) ?_) | refine DrawN.c (Ob.mk (by decide +kernel) ?_) | refine DrawN.b (Ob.mk (by decide +kernel) ?_) | refine Ob.mk (by kernel_rfl) ?_ | (refine Br.mk (fun h => ?_) (fun h => ?_) <;> (first | (exfalso; exact Bool.false_ne_true h) | (exfalso; exact Bool.false_ne_true h.symm) | (exfalso; exact absurd (Int.ofNat_lt.1 (of_decide_eq_true ‹_›)) hl) | skip)) | refine SeqN.go ?_)); all_goals (conv => whnf)
    rfl
end Go.Proofs.YtljhbdgoknfkcaaGreatDoor
