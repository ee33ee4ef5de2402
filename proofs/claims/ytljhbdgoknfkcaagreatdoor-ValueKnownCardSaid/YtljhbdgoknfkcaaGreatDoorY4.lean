/- The reference's division of a row of bytes by ten. -/
import Derived.Test.YtljhbdgoknfkcaaGreatDoorY1
namespace Go.Proofs.YtljhbdgoknfkcaaGreatDoor
open Go Go.RowKit Go.Sort
set_option linter.unusedVariables false
set_option linter.unusedSimpArgs false
set_option maxRecDepth 100000

/-- A row divided by ten: its digits and what is left. -/
def quo : List Int → List Int × Int
  | [] => ([], 0)
  | x :: l => (((quo l).2 * 256 + x) / 10 :: (quo l).1, ((quo l).2 * 256 + x) % 10)
theorem quo_len : ∀ (l : List Int), (quo l).1.length = l.length
  | [] => rfl
  | x :: l => by simp [quo, quo_len l]
theorem quo_rem : ∀ (l : List Int), BY l → 0 ≤ (quo l).2 ∧ (quo l).2 < 10
  | [], _ => by decide
  | x :: l, h => by show 0 ≤ ((quo l).2 * 256 + x) % 10 ∧ ((quo l).2 * 256 + x) % 10 < 10; omega
theorem quo_by : ∀ (l : List Int), BY l → BY (quo l).1
  | [], _ => by intro y hy; cases hy
  | x :: l, h => by
    have hl : BY l := fun y hy => h y (List.mem_cons_of_mem _ hy)
    have hx := h x (List.mem_cons_self ..)
    have hr := quo_rem l hl
    intro y hy
    rcases List.mem_cons.1 hy with rfl | hy
    · omega
    · exact quo_by l hl y hy
theorem quo_val : ∀ (l : List Int), BY l → bval (quo l).1 = bval l / 10 ∧ (quo l).2 = ((bval l % 10 : Nat) : Int)
  | [], _ => by constructor <;> rfl
  | x :: l, h => by
    have hl : BY l := fun y hy => h y (List.mem_cons_of_mem _ hy)
    have hx := h x (List.mem_cons_self ..)
    have hr := quo_rem l hl
    have ih := quo_val l hl
    constructor
    · show (((quo l).2 * 256 + x) / 10).toNat + 256 * bval (quo l).1 = (x.toNat + 256 * bval l) / 10
      omega
    · show ((quo l).2 * 256 + x) % 10 = (((x.toNat + 256 * bval l) % 10 : Nat) : Int)
      omega
theorem BVs_zero (n : Nat) : repX n [Value.int .u8 0] = BVs (List.replicate n 0) := by
  induction n with
  | zero => rfl
  | succ n ih =>
    show [Value.int .u8 0] ++ repX n _ = _
    rw [ih]; rfl
theorem getD_mid (j : Nat) (o : Int) (qs : List Int) : (List.replicate j (0 : Int) ++ o :: qs).getD j 0 = o := by simp [List.getD]
theorem storeV_mid (j : Nat) (o o' : Int) (qs : List Int) : storeV (BVs (List.replicate j 0 ++ o :: qs)) (j * 1) [Value.int .u8 o'] = BVs (List.replicate j 0 ++ o' :: qs) := by
  rw [Nat.mul_one]
  induction j with
  | zero => rfl
  | succ j ih =>
    have e : ∀ (x : Value) (l : List Value) (n : Nat) (v : Value), storeV (x :: l) (n + 1) [v] = x :: storeV l n [v] := fun x l n v => rfl
    show storeV (Value.int .u8 0 :: BVs (List.replicate j 0 ++ o :: qs)) (j + 1) _ = _
    rw [e, ih]
    rfl
/-- The weights of a byte's digits, from the greatest on. -/
def wt (t : Nat) : Int := [256, 128, 64, 32, 16, 8, 4, 2, 1].getD t 1
def dg (t : Nat) : Int := [128, 64, 32, 16, 8, 4, 2, 1, 0].getD t 0
theorem dg_rng {t : Nat} (ht : t < 8) : 1 ≤ dg t ∧ dg t ≤ 128 := by
  rcases t with _ | _ | _ | _ | _ | _ | _ | _ | t
  all_goals first | decide | omega
theorem dg_half {t : Nat} (ht : t < 8) : IntKind.i64.wrap ((dg t).tdiv 2) = dg (t + 1) := by
  rcases t with _ | _ | _ | _ | _ | _ | _ | _ | t
  all_goals first | decide +kernel | omega
theorem bitE {t : Nat} {left xb : Int} (ht : t < 8) (hx : 0 ≤ xb ∧ xb < 256) (hl : 0 ≤ left ∧ left < 10) : IntKind.u64.wrap (IntKind.u64.wrap (left * 2) + IntKind.u64.wrap ((IntKind.i64.wrap ((IntKind.i64.wrap xb).tdiv (dg t))).tmod 2)) = left * 2 + xb / dg t % 2 := by
  have hd := dg_rng ht
  have e1 : IntKind.i64.wrap xb = xb := by rw [sg_eq]; exact sg_in _ (by omega) (by omega)
  have h1 := Int.ediv_nonneg hx.1 (show 0 ≤ dg t by omega)
  have h2 := Int.ediv_le_self (dg t) hx.1
  rw [e1, Int.tdiv_eq_ediv_of_nonneg hx.1]
  have e2 : IntKind.i64.wrap (xb / dg t) = xb / dg t := by rw [sg_eq]; exact sg_in _ (by omega) (by omega)
  rw [e2, Int.tmod_eq_emod_of_nonneg h1]
  generalize xb / dg t = z at *
  simp only [us_eq]
  unfold us
  omega
theorem bits_step {t : Nat} {left o xb r0 : Int} (ht : t < 8) (hx : 0 ≤ xb ∧ xb < 256) (hl : 0 ≤ left ∧ left < 10) (he : r0 * 256 + xb = 10 * o + left * wt t + xb % wt t) :
    (0 ≤ left * 2 + xb / dg t % 2 ∧ left * 2 + xb / dg t % 2 < 20) ∧ r0 * 256 + xb = 10 * (o + dg t) + (left * 2 + xb / dg t % 2 - 10) * wt (t + 1) + xb % wt (t + 1) ∧ r0 * 256 + xb = 10 * o + (left * 2 + xb / dg t % 2) * wt (t + 1) + xb % wt (t + 1) := by
  rcases t with _ | _ | _ | _ | _ | _ | _ | _ | t
  all_goals first | omega | (simp only [wt, dg, List.getD_cons_zero, List.getD_cons_succ, Nat.reduceAdd] at *; omega)
set_option maxHeartbeats 2000000 in
theorem div10_f (l : List Int) (hb : BY l) (hl : l.length ≤ 1000) : DenF Tryz.prog 251 noFacts [.r 1 l.length (BVs l), .v (.int .u64 10)] [.sub 0 0 (byt (bval l / 10)).length, .v (.int .u64 (bval l % 10 : Nat)), .v (.int .i64 0)] [.row 5 1 (8 * ((l.length + 7) / 8)) (BVs (flat8 (limbsL (quo l).1 ((l.length + 7) / 8))))] := by
  refine DenF.fam rfl ?_
  intro ad b off c hs _
  refine denV_of_body (args := [.slice ad l.length c, .int .u64 10]) hmix Tryz.func251 ?_
  (repeat' ((conv => whnf); first | refine AdN.mk _ _ rfl ?_ | refine DrawN.a (Ob.mk (by decide +kernel) ?_) | refine DrawN.c (Ob.mk (by decide +kernel) ?_) | refine DrawN.b (Ob.mk (by decide +kernel) ?_) | refine Ob.mk (by kernel_rfl) ?_ | (refine Br.mk (fun h => ?_) (fun h => ?_) <;> (first | (exfalso; exact Bool.false_ne_true h) | (exfalso; exact Bool.false_ne_true h.symm) | skip)))); all_goals (conv => whnf)
  refine SeqN.go ?_
  (repeat' ((conv => whnf); first | refine Ob.mk ⟨by omega, by omega, (by show (l.length : Int) * 1 ≤ 140737488355328; omega), by omega⟩ ?_ | refine AdN.mk _ _ rfl ?_ | refine DrawN.a (Ob.mk (by decide +kernel) ?_) | refine DrawN.c (Ob.mk (by decide +kernel) ?_) | refine DrawN.b (Ob.mk (by decide +kernel) ?_) | refine Ob.mk (by kernel_rfl) ?_ | (refine Br.mk (fun h => ?_) (fun h => ?_) <;> (first | (exfalso; exact Bool.false_ne_true h) | (exfalso; exact Bool.false_ne_true h.symm) | skip)))); all_goals (conv => whnf)
  refine SeqN.go ?_
  (repeat' ((conv => whnf); first | refine AdN.mk _ _ rfl ?_ | refine DrawN.a (Ob.mk (by decide +kernel) ?_) | refine DrawN.c (Ob.mk (by decide +kernel) ?_) | refine DrawN.b (Ob.mk (by decide +kernel) ?_) | refine Ob.mk (by kernel_rfl) ?_ | (refine Br.mk (fun h => ?_) (fun h => ?_) <;> (first | (exfalso; exact Bool.false_ne_true h) | (exfalso; exact Bool.false_ne_true h.symm) | skip)))); all_goals (conv => whnf)
  refine LoopN.mk {i : Nat // i ≤ l.length} (fun i => [(9, .v (.int .i64 ((i.1 : Int) - 1))), (8, .v (.int .u64 (quo (l.drop i.1)).2))]) (fun i => [.row 5 1 l.length (BVs (List.replicate i.1 0 ++ (quo (l.drop i.1)).1))]) (fun i => i.1) ⟨l.length, Nat.le_refl _⟩ ?_ ?_
  · (conv => whnf); (repeat' (first | exact True.intro | exact rfl | refine And.intro ?_ ?_ | decide))
    · show Value.int .u64 0 = Value.int .u64 _
      rw [show l.drop l.length = [] from List.drop_length]; rfl
    · show Value.int .i64 (IntKind.i64.wrap ((l.length : Int) - 1)) = Value.int .i64 ((l.length : Int) - 1)
      rw [sg_eq, sg_in _ (by omega) (by omega)]
    · show repX (l.length : Int).toNat [Value.int .u8 0] = BVs (List.replicate l.length 0 ++ (quo (l.drop l.length)).1)
      rw [show l.drop l.length = [] from List.drop_length, Int.toNat_natCast, BVs_zero]
      simp [quo]
  (conv => whnf)
  rintro ⟨i, hi⟩
  (repeat' ((conv => whnf); first | refine AdN.mk _ _ rfl ?_ | refine DrawN.a (Ob.mk (by decide +kernel) ?_) | refine DrawN.c (Ob.mk (by decide +kernel) ?_) | refine DrawN.b (Ob.mk (by decide +kernel) ?_) | refine Ob.mk (by kernel_rfl) ?_ | (refine Br.mk (fun h => ?_) (fun h => ?_) <;> (first | (exfalso; exact Bool.false_ne_true h) | (exfalso; exact Bool.false_ne_true h.symm) | skip)) | refine SeqN.go ?_)); all_goals (conv => whnf)
  · have hp : (i : Int) - 1 ≥ 0 := of_decide_eq_true ‹decide ((i : Int) - 1 ≥ 0) = true›
    obtain ⟨i, rfl⟩ : ∃ t, i = t + 1 := ⟨i - 1, by omega⟩
    have hx := hb (l.getD i 0) (by have hjl : i < l.length := by omega
                                   simp [List.getD, hjl])
    have hd : l.drop i = l.getD i 0 :: l.drop (i + 1) := by
      have hjl : i < l.length := by omega
      rw [List.drop_eq_getElem_cons hjl]
      simp [List.getD, hjl]
    have hdb : BY (l.drop (i + 1)) := fun y hy => hb y (List.mem_of_mem_drop hy)
    have hr := quo_rem _ hdb
    have hql := quo_len (l.drop (i + 1))
    rw [List.length_drop] at hql
    have hq : quo (l.drop i) = (((quo (l.drop (i + 1))).2 * 256 + l.getD i 0) / 10 :: (quo (l.drop (i + 1))).1, ((quo (l.drop (i + 1))).2 * 256 + l.getD i 0) % 10) := by rw [hd]; rfl
    have hi1 : (((i + 1 : Nat) : Int) - 1) = (i : Int) := by omega
    generalize hr0 : (quo (l.drop (i + 1))).2 = r0 at *
    generalize hq0 : (quo (l.drop (i + 1))).1 = q0 at *
    generalize hx0 : l.getD i 0 = xb at *
    refine LoopN.mk {x : Nat × Int × Int // x.1 ≤ 8 ∧ (0 ≤ x.2.1 ∧ x.2.1 < 10) ∧ 0 ≤ x.2.2 ∧ r0 * 256 + xb = 10 * x.2.2 + x.2.1 * wt x.1 + xb % wt x.1} (fun x => [(10, .v (.int .i64 (dg x.1.1))), (8, .v (.int .u64 x.1.2.1))]) (fun x => [.row 5 1 l.length (BVs (List.replicate i 0 ++ x.1.2.2 :: q0))]) (fun x => 8 - x.1.1) ⟨(0, r0, 0), Nat.zero_le _, hr, Int.le_refl 0, by show r0 * 256 + xb = 10 * 0 + r0 * 256 + xb % 256; omega⟩ ?_ ?_
    · (conv => whnf); (repeat' (first | exact True.intro | exact rfl | refine And.intro ?_ ?_ | decide))
      all_goals (show BVs (List.replicate (i + 1) 0 ++ q0) = BVs (List.replicate i 0 ++ 0 :: q0); rw [List.replicate_succ']; simp)
    (conv => whnf)
    rintro ⟨⟨t, left, o⟩, ht, hl1, ho, he⟩
    dsimp only at ht hl1 ho he
    have hlen : (List.replicate i (0 : Int) ++ o :: q0).length = l.length := by simp [hql]; omega
    have o1 : 0 ≤ (((i + 1 : Nat) : Int) - 1) ∧ (((i + 1 : Nat) : Int) - 1) < (l.length : Int) := by omega
    have d1 : decide (dg t > 0) = true → dg t ≠ 0 := fun h => by have := of_decide_eq_true h; omega
    (repeat' ((conv => whnf); first | refine Ob.mk o1 ?_ | refine Ob.mk (d1 ‹_›) ?_ | refine Ob.mk (by decide) ?_ | refine AdN.mk b off (hs (by omega)) ?_ | refine cellsB (((i + 1 : Nat) : Int) - 1) o1.1 o1.2 ?_ | refine rowB (((i + 1 : Nat) : Int) - 1) o1.1 (by rw [hlen]; exact o1.2) ?_ | refine Ob.mk (show (((i + 1 : Nat) : Int) - 1).toNat * 1 + 1 ≤ (BVs (List.replicate i 0 ++ o :: q0)).length by rw [show (BVs (List.replicate i 0 ++ o :: q0)).length = l.length by unfold BVs; rw [List.length_map, hlen]]; omega) ?_ | refine AdN.mk _ _ rfl ?_ | refine DrawN.a (Ob.mk (by decide +kernel) ?_) | refine DrawN.c (Ob.mk (by decide +kernel) ?_) | refine DrawN.b (Ob.mk (by decide +kernel) ?_) | refine Ob.mk (by kernel_rfl) ?_ | (refine Br.mk (fun h => ?_) (fun h => ?_) <;> (first | (exfalso; exact Bool.false_ne_true h) | (exfalso; exact Bool.false_ne_true h.symm) | skip)) | refine SeqN.go ?_)); all_goals (conv => whnf)
    · exfalso
      have : left ≥ 9223372036854775808 := of_decide_eq_true ‹decide (left ≥ 9223372036854775808) = true›
      omega
    · have hdp : dg t > 0 := of_decide_eq_true ‹decide (dg t > 0) = true›
      have ht8 : t < 8 := by
        rcases Nat.lt_or_eq_of_le ht with h8 | h8
        · exact h8
        · subst h8; exact absurd hdp (by decide)
      have hg : l.getD (((i + 1 : Nat) : Int) - 1).toNat 0 = xb := by rw [show (((i + 1 : Nat) : Int) - 1).toNat = i by omega]; exact hx0
      have hE := bitE ht8 hx hl1
      have hS := bits_step ht8 hx hl1 he
      have hd8 := dg_rng ht8
      have hL : decide (IntKind.u64.wrap (IntKind.u64.wrap (left * 2) + IntKind.u64.wrap ((IntKind.i64.wrap ((IntKind.i64.wrap (l.getD (((i + 1 : Nat) : Int) - 1).toNat 0)).tdiv (dg t))).tmod 2)) ≥ 10) = true := ‹_›
      rw [hg, hE] at hL
      have hL := of_decide_eq_true hL
      have ho2 : o + dg t < 256 := by have := Int.emod_nonneg xb (show wt (t + 1) ≠ 0 by rcases t with _ | _ | _ | _ | _ | _ | _ | _ | t <;> first | decide | omega); have := Int.mul_nonneg (show 0 ≤ left * 2 + xb / dg t % 2 - 10 by omega) (show 0 ≤ wt (t + 1) by rcases t with _ | _ | _ | _ | _ | _ | _ | _ | t <;> first | decide | omega); omega
      refine RoundN.mk ⟨(t + 1, left * 2 + xb / dg t % 2 - 10, o + dg t), by omega, ⟨show 0 ≤ left * 2 + xb / dg t % 2 - 10 by omega, show left * 2 + xb / dg t % 2 - 10 < 10 by omega⟩, show 0 ≤ o + dg t by omega, hS.2.1⟩ (by show 8 - (t + 1) < 8 - t; omega) ?_
      (conv => whnf); (repeat' (first | exact True.intro | exact rfl | refine And.intro ?_ ?_ | decide))
      all_goals first
        | (exact congrArg (Value.int _) (dg_half ht8))
        | (refine congrArg (Value.int _) ?_
           show IntKind.u64.wrap (IntKind.u64.wrap (IntKind.u64.wrap (left * 2) + IntKind.u64.wrap ((IntKind.i64.wrap ((IntKind.i64.wrap (l.getD (((i + 1 : Nat) : Int) - 1).toNat 0)).tdiv (dg t))).tmod 2)) - 10) = left * 2 + xb / dg t % 2 - 10
           rw [hg, hE, us_eq]; exact us_in _ (by omega) (by omega))
        | (show storeV (BVs (List.replicate i 0 ++ o :: q0)) ((((i + 1 : Nat) : Int) - 1).toNat * 1) [Value.int .u8 (IntKind.u8.wrap ((List.replicate i 0 ++ o :: q0).getD (((i + 1 : Nat) : Int) - 1).toNat 0 + IntKind.u8.wrap (dg t)))] = BVs (List.replicate i 0 ++ (o + dg t) :: q0)
           rw [show (((i + 1 : Nat) : Int) - 1).toNat = i by omega, getD_mid, storeV_mid, IntKind.wrap_u8, IntKind.wrap_u8, show (o + dg t % 256) % 256 = o + dg t by omega])
        | trace_state
    · have hdp : dg t > 0 := of_decide_eq_true ‹decide (dg t > 0) = true›
      have ht8 : t < 8 := by
        rcases Nat.lt_or_eq_of_le ht with h8 | h8
        · exact h8
        · subst h8; exact absurd hdp (by decide)
      have hg : l.getD (((i + 1 : Nat) : Int) - 1).toNat 0 = xb := by rw [show (((i + 1 : Nat) : Int) - 1).toNat = i by omega]; exact hx0
      have hE := bitE ht8 hx hl1
      have hS := bits_step ht8 hx hl1 he
      have hL : decide (IntKind.u64.wrap (IntKind.u64.wrap (left * 2) + IntKind.u64.wrap ((IntKind.i64.wrap ((IntKind.i64.wrap (l.getD (((i + 1 : Nat) : Int) - 1).toNat 0)).tdiv (dg t))).tmod 2)) ≥ 10) = false := ‹_›
      rw [hg, hE] at hL
      have hL := of_decide_eq_false hL
      refine RoundN.mk ⟨(t + 1, left * 2 + xb / dg t % 2, o), by omega, ⟨hS.1.1, show left * 2 + xb / dg t % 2 < 10 by omega⟩, ho, hS.2.2⟩ (by show 8 - (t + 1) < 8 - t; omega) ?_
      (conv => whnf); (repeat' (first | exact True.intro | exact rfl | refine And.intro ?_ ?_ | decide))
      all_goals first
        | (exact congrArg (Value.int _) (dg_half ht8))
        | (refine congrArg (Value.int _) ?_
           show IntKind.u64.wrap (IntKind.u64.wrap (left * 2) + IntKind.u64.wrap ((IntKind.i64.wrap ((IntKind.i64.wrap (l.getD (((i + 1 : Nat) : Int) - 1).toNat 0)).tdiv (dg t))).tmod 2)) = left * 2 + xb / dg t % 2
           rw [hg, hE])
        | trace_state
    · have hdp : ¬ dg t > 0 := of_decide_eq_false ‹decide (dg t > 0) = false›
      have ht8 : t = 8 := by
        rcases Nat.lt_or_eq_of_le ht with h8 | h8
        · have := dg_rng h8; omega
        · exact h8
      subst ht8
      have he2 : r0 * 256 + xb = 10 * o + left := by
        have : r0 * 256 + xb = 10 * o + left * 1 + xb % 1 := he
        omega
      have ho2 : o = (r0 * 256 + xb) / 10 := by omega
      have hl2 : left = (r0 * 256 + xb) % 10 := by omega
      refine RoundN.mk ⟨i, by omega⟩ (by show i < i + 1; omega) ?_
      (conv => whnf); (repeat' (first | exact True.intro | exact rfl | refine And.intro ?_ ?_ | decide))
      all_goals first
        | (refine congrArg (Value.int _) ?_; dsimp only; rw [sg_eq, sg_in _ (by omega) (by omega)]; omega)
        | (refine congrArg (Value.int _) ?_; show left = (quo (l.drop i)).2; rw [hq]; exact hl2)
        | (show BVs (List.replicate i 0 ++ o :: q0) = BVs (List.replicate i 0 ++ (quo (l.drop i)).1); rw [hq, ho2])
        | trace_state
  · have hp : ¬ (i : Int) - 1 ≥ 0 := of_decide_eq_false ‹decide ((i : Int) - 1 ≥ 0) = false›
    obtain rfl : i = 0 := by omega
    have qb := quo_by l hb
    have T1 := limbs_f (quo l).1 qb (by rw [quo_len]; exact hl)
    rw [quo_len] at T1
    have T2 := of_v (limbsL (quo l).1 ((l.length + 7) / 8)) (fun x hx => by
      unfold limbsL at hx
      obtain ⟨k, _, rfl⟩ := List.mem_map.1 hx
      exact limb_rng qb k) (by rw [limbsL_len]; omega)
    rw [limbsL_len] at T2
    (repeat' ((conv => whnf); first | refine CallA.anyFresh _ _ T1 ?_ | refine CallA.anyFresh _ _ T2 ?_ | refine AdN.mk _ _ rfl ?_ | refine DrawN.a (Ob.mk (by decide +kernel) ?_) | refine DrawN.c (Ob.mk (by decide +kernel) ?_) | refine DrawN.b (Ob.mk (by decide +kernel) ?_) | refine Ob.mk (by kernel_rfl) ?_ | (refine Br.mk (fun h => ?_) (fun h => ?_) <;> (first | (exfalso; exact Bool.false_ne_true h) | (exfalso; exact Bool.false_ne_true h.symm) | skip)) | refine SeqN.go ?_)); all_goals (conv => whnf)
    have qv := quo_val l hb
    have hv : lval (limbsL (quo l).1 ((l.length + 7) / 8)) = bval l / 10 := by
      rw [limbsL_val, List.take_of_length_le (by rw [quo_len]; omega), qv.1]
    refine RetN.mk [2] (by decide) rfl ?_ ?_ <;> (conv => whnf); (repeat' (first | exact True.intro | exact rfl | refine And.intro ?_ ?_ | decide))
    all_goals first | (rw [hv]; done) | (refine congrArg (Value.int _) ?_; exact qv.2) | (exact congrArg (Value.int _) qv.2.symm) | trace_state
end Go.Proofs.YtljhbdgoknfkcaaGreatDoor
