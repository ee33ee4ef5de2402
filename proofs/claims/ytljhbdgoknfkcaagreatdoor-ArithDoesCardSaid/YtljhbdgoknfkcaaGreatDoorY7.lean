/- Rows of bytes of the reference: differences; which is less. -/
import Derived.Test.YtljhbdgoknfkcaaGreatDoorY6
namespace Go.Proofs.YtljhbdgoknfkcaaGreatDoor
open Go Go.RowKit Go.Sort
set_option linter.unusedVariables false
set_option linter.unusedSimpArgs false
set_option maxRecDepth 100000

theorem sub_step {A B D i w : Nat} (h : B / 256 ^ i + w + D / 256 ^ i = A / 256 ^ i) (hw : w ≤ 1) :
    (A / 256 ^ i % 256 < B / 256 ^ i % 256 + w → D / 256 ^ i % 256 = A / 256 ^ i % 256 + 256 - (B / 256 ^ i % 256 + w) ∧ B / 256 ^ (i + 1) + 1 + D / 256 ^ (i + 1) = A / 256 ^ (i + 1)) ∧
    (¬ A / 256 ^ i % 256 < B / 256 ^ i % 256 + w → D / 256 ^ i % 256 = A / 256 ^ i % 256 - (B / 256 ^ i % 256 + w) ∧ B / 256 ^ (i + 1) + 0 + D / 256 ^ (i + 1) = A / 256 ^ (i + 1)) := by
  rw [Nat.pow_succ, ← Nat.div_div_eq_div_mul, ← Nat.div_div_eq_div_mul, ← Nat.div_div_eq_div_mul]
  generalize A / 256 ^ i = x at *
  generalize B / 256 ^ i = y at *
  generalize D / 256 ^ i = z at *
  constructor <;> intro c <;> omega
theorem w4 {x y c : Nat} (hx : x < 256) (hy : y < 256) (hc : c ≤ 1) : IntKind.i64.wrap (IntKind.i64.wrap ((x : Int) - (y : Int)) - (c : Int)) = (x : Int) - ((y + c : Nat) : Int) := by
  have q : sg ((x : Int) - (y : Int)) = (x : Int) - (y : Int) := sg_in _ (by omega) (by omega)
  simp only [sg_eq]; rw [q, sg_in _ (by omega) (by omega)]; omega
theorem w4a {x y c d : Nat} (hx : x < 256) (hy : y < 256) (hc : c ≤ 1) (h : x < y + c) (hd : d = x + 256 - (y + c)) : IntKind.u8.wrap (IntKind.i64.wrap ((x : Int) - ((y + c : Nat) : Int) + 256)) = (d : Int) := by
  rw [IntKind.wrap_u8, sg_eq, sg_in _ (by omega) (by omega)]; omega
theorem w4b {x y c d : Nat} (hx : x < 256) (hy : y < 256) (hc : c ≤ 1) (h : ¬ x < y + c) (hd : d = x - (y + c)) : IntKind.u8.wrap ((x : Int) - ((y + c : Nat) : Int)) = (d : Int) := by
  rw [IntKind.wrap_u8]; omega
theorem eq_of_le {i n : Nat} (h : i ≤ n) (k : ¬ (i : Int) < (n : Int)) : i = n := by omega
theorem lt_of_neg {x y c : Nat} {z : Int} (e : z = (x : Int) - ((y + c : Nat) : Int)) (h : decide (z < 0) = true) : x < y + c := by
  have := of_decide_eq_true h
  omega
theorem ge_of_neg {x y c : Nat} {z : Int} (e : z = (x : Int) - ((y + c : Nat) : Int)) (h : decide (z < 0) = false) : ¬ x < y + c := by
  have := of_decide_eq_false h
  omega
set_option maxHeartbeats 2000000 in
theorem sub_f (A B : Nat) (hle : B ≤ A) (ha : (byt A).length ≤ 500) : DenF Tryz.prog 254 noFacts [.r 1 (byt A).length (BVs (byt A)), .r 1 (byt B).length (BVs (byt B))] [.sub 0 0 (byt (A - B)).length] [.row 5 1 (byt A).length (BVs (b8 (byt A).length ((A - B : Nat) : Int)))] := by
  refine DenF.fam rfl ?_
  intro ad1 b1 off1 c1 hs1 _ ad2 b2 off2 c2 hs2 _
  have F1 : FLe (rowF b1 off1 (BVs (byt A))) (orF (orF noFacts (rowF b1 off1 (BVs (byt A)))) (rowF b2 off2 (BVs (byt B)))) := le_orR.trans le_orL
  have F2 : FLe (rowF b2 off2 (BVs (byt B))) (orF (orF noFacts (rowF b1 off1 (BVs (byt A)))) (rowF b2 off2 (BVs (byt B)))) := le_orR
  generalize orF (orF noFacts (rowF b1 off1 (BVs (byt A)))) (rowF b2 off2 (BVs (byt B))) = F at *
  obtain ⟨D, rfl⟩ : ∃ D, A = B + D := ⟨A - B, by omega⟩
  rw [show B + D - B = D by omega]
  generalize hA : B + D = A at *
  refine denV_of_body (args := [.slice ad1 (byt A).length c1, .slice ad2 (byt B).length c2]) hmix Tryz.func254 ?_
  obtain ⟨N, hN⟩ : ∃ N, N = (byt A).length := ⟨_, rfl⟩
  (repeat' ((conv => whnf); first | refine AdN.mk _ _ rfl ?_ | refine DrawN.a (Ob.mk (by decide +kernel) ?_) | refine DrawN.c (Ob.mk (by decide +kernel) ?_) | refine DrawN.b (Ob.mk (by decide +kernel) ?_) | refine Ob.mk (by kernel_rfl) ?_ | (refine Br.mk (fun h => ?_) (fun h => ?_) <;> (first | (exfalso; exact Bool.false_ne_true h) | (exfalso; exact Bool.false_ne_true h.symm) | skip)))); all_goals (conv => whnf)
  refine SeqN.nilRow 5 5 1 rfl ?_
  (conv => whnf)
  refine SeqN.go ?_
  (repeat' ((conv => whnf); first | refine AdN.mk _ _ rfl ?_ | refine DrawN.a (Ob.mk (by decide +kernel) ?_) | refine DrawN.c (Ob.mk (by decide +kernel) ?_) | refine DrawN.b (Ob.mk (by decide +kernel) ?_) | refine Ob.mk (by kernel_rfl) ?_ | (refine Br.mk (fun h => ?_) (fun h => ?_) <;> (first | (exfalso; exact Bool.false_ne_true h) | (exfalso; exact Bool.false_ne_true h.symm) | skip)))); all_goals (conv => whnf)
  refine LoopN.mk {x : Nat × Nat // x.1 ≤ (byt A).length ∧ x.2 ≤ 1 ∧ B / 256 ^ x.1 + x.2 + D / 256 ^ x.1 = A / 256 ^ x.1} (fun x => [(7, .v (.int .i64 x.1.1)), (6, .v (.int .i64 x.1.2)), (5, .s 0)]) (fun x => [.row 5 1 x.1.1 (BVs (b8 x.1.1 (D : Int)))]) (fun x => (byt A).length - x.1.1) ⟨(0, 0), by simp; omega⟩ ?_ ?_
  · (conv => whnf); (repeat' (first | exact True.intro | exact rfl | refine And.intro ?_ ?_ | decide))
  (conv => whnf)
  rintro ⟨⟨i, w⟩, hi, hw, he⟩
  dsimp only at hi hw he
  have D1 := (at_m (byt A) (i : Int) (Int.natCast_nonneg _) (byt_by A) ad1 b1 off1 c1 hs1).mono F1
  have D2 := (at_m (byt B) (i : Int) (Int.natCast_nonneg _) (byt_by B) ad2 b2 off2 c2 hs2).mono F2
  rw [Int.toNat_natCast, byt_getD] at D1 D2
  obtain ⟨sY, sN⟩ := sub_step he hw
  have a1 : A / 256 ^ i % 256 < 256 := Nat.mod_lt _ (by decide)
  have b1 : B / 256 ^ i % 256 < 256 := Nat.mod_lt _ (by decide)
  have hsn := b8_snoc i (D : Int)
  have hd : (D : Int) / 256 ^ i % 256 = ((D / 256 ^ i % 256 : Nat) : Int) := by simp
  rw [hd] at hsn
  clear hd
  generalize A / 256 ^ i % 256 = x at *
  generalize B / 256 ^ i % 256 = y at *
  generalize D / 256 ^ i % 256 = d at *
  have e1 := w4 a1 b1 hw
  (repeat' ((conv => whnf); first | refine CallN.mk _ D1 ?_ | refine CallN.mk _ D2 ?_ | refine Ob.mk (by decide) ?_ | refine Ob.mk ⟨by decide, (by show (i + 1) * 1 ≤ 140737488355328; rw [← hN] at *; omega), (by show i + 1 ≤ 140737488355328; rw [← hN] at *; omega)⟩ ?_ | refine AdN.mk _ _ rfl ?_ | refine DrawN.a (Ob.mk (by decide +kernel) ?_) | refine DrawN.c (Ob.mk (by decide +kernel) ?_) | refine DrawN.b (Ob.mk (by decide +kernel) ?_) | refine Ob.mk (by kernel_rfl) ?_ | (refine Br.mk (fun h => ?_) (fun h => ?_) <;> (first | (exfalso; exact Bool.false_ne_true h) | (exfalso; exact Bool.false_ne_true h.symm) | skip)) | refine SeqN.go ?_)); all_goals (conv => whnf)
  all_goals clear D1 D2
  rotate_left 2
  · have h1 : ¬ (i : Int) < ((byt A).length : Int) := of_decide_eq_false ‹_›
    obtain rfl : i = (byt A).length := eq_of_le hi h1
    have hlt : D < 256 ^ (byt A).length := Nat.lt_of_le_of_lt (by rw [← hA]; exact Nat.le_add_left _ _) (byt_lt A)
    have T := trim_f (b8 (byt A).length (D : Int)) (by rw [b8_len]; exact Nat.le_trans ha (by decide))
    rw [b8_len] at T
    refine CallA.anyFresh _ _ T ?_
    (repeat' ((conv => whnf); first | refine AdN.mk _ _ rfl ?_ | refine DrawN.a (Ob.mk (by decide +kernel) ?_) | refine DrawN.c (Ob.mk (by decide +kernel) ?_) | refine DrawN.b (Ob.mk (by decide +kernel) ?_) | refine Ob.mk (by kernel_rfl) ?_ | (refine Br.mk (fun h => ?_) (fun h => ?_) <;> (first | (exfalso; exact Bool.false_ne_true h) | (exfalso; exact Bool.false_ne_true h.symm) | skip)) | refine SeqN.go ?_)); all_goals (conv => whnf)
    refine RetN.mk [1] (by decide) rfl ?_ ?_ <;> (conv => whnf); (repeat' (first | exact True.intro | exact rfl | refine And.intro ?_ ?_ | decide))
    all_goals first | (rw [b8_trim hlt]; done) | trace_state
  · have hlt : i < (byt A).length := Int.ofNat_lt.1 (of_decide_eq_true ‹decide ((i : Int) < ((byt A).length : Int)) = true›)
    have hc : x < y + w := lt_of_neg e1 ‹_›
    obtain ⟨s1, s2⟩ := sY hc
    refine RoundN.mk ⟨(i + 1, 1), hlt, Nat.le_refl 1, s2⟩ (Nat.sub_succ_lt_self _ _ hlt) ?_
    (conv => whnf); (repeat' (first | exact True.intro | exact rfl | refine And.intro ?_ ?_ | decide))
    all_goals first
      | exact congrArg (Value.int _) (wi hlt (Nat.le_trans ha (by decide)))
      | (dsimp only; rw [hsn, e1, w4a a1 b1 hw hc s1]; simp [BVs]; done)
      | trace_state
  · have hlt : i < (byt A).length := Int.ofNat_lt.1 (of_decide_eq_true ‹decide ((i : Int) < ((byt A).length : Int)) = true›)
    have hc : ¬ x < y + w := ge_of_neg e1 ‹_›
    obtain ⟨s1, s2⟩ := sN hc
    refine RoundN.mk ⟨(i + 1, 0), hlt, Nat.zero_le 1, s2⟩ (Nat.sub_succ_lt_self _ _ hlt) ?_
    (conv => whnf); (repeat' (first | exact True.intro | exact rfl | refine And.intro ?_ ?_ | decide))
    all_goals first
      | exact congrArg (Value.int _) (wi hlt (Nat.le_trans ha (by decide)))
      | (dsimp only; rw [hsn, e1, w4b a1 b1 hw hc s1]; simp [BVs]; done)
      | trace_state

/-- Which is less. -/
theorem cellsF {F : Facts} {l : List Int} {b off : Nat} {K : List Value → Prop} (hF : FLe (rowF b off (BVs l)) F) (n : Int) (h0 : 0 ≤ n) (h : n < (l.length : Int)) (k : K [.int .u8 (l.getD n.toNat 0)]) : CellsN F b (off + n.toNat * 1) 1 K := by
  obtain ⟨vs, h1, h2, h3⟩ := cellsB' (b := b) (off := off) n h0 h k
  exact .mk vs (fun j v hj => hF.1 _ _ _ (h1 j v hj)) h2 h3
theorem ge_one {i n : Nat} (hi : i ≤ n) (h : decide ((i : Int) - 1 ≥ 0) = true) : 0 ≤ (i : Int) - 1 ∧ (i : Int) - 1 < (n : Int) := by
  have := of_decide_eq_true h
  omega
theorem cmp_a {A B i : Nat} (he : A / 256 ^ i = B / 256 ^ i) (hp : decide ((i : Int) - 1 ≥ 0) = true) (h : decide ((byt A).getD ((i : Int) - 1).toNat 0 < (byt B).getD ((i : Int) - 1).toNat 0) = true) : cmpN A B = -1 := by
  obtain ⟨j, rfl⟩ : ∃ j, i = j + 1 := ⟨i - 1, by have := of_decide_eq_true hp; omega⟩
  have h := of_decide_eq_true h
  rw [show (((j + 1 : Nat) : Int) - 1).toNat = j by omega, byt_getD, byt_getD] at h
  exact cmpN_lt (cmp_step he (Int.ofNat_lt.1 h))
theorem cmp_b {A B i : Nat} (he : A / 256 ^ i = B / 256 ^ i) (hp : decide ((i : Int) - 1 ≥ 0) = true) (h : decide ((byt A).getD ((i : Int) - 1).toNat 0 > (byt B).getD ((i : Int) - 1).toNat 0) = true) : cmpN A B = 1 := by
  obtain ⟨j, rfl⟩ : ∃ j, i = j + 1 := ⟨i - 1, by have := of_decide_eq_true hp; omega⟩
  have h := of_decide_eq_true h
  rw [show (((j + 1 : Nat) : Int) - 1).toNat = j by omega, byt_getD, byt_getD] at h
  exact cmpN_gt (cmp_step he.symm (Int.ofNat_lt.1 h))
theorem cmp_c {A B i : Nat} (he : A / 256 ^ i = B / 256 ^ i) (hp : decide ((i : Int) - 1 ≥ 0) = true) (h : decide ((byt A).getD ((i : Int) - 1).toNat 0 < (byt B).getD ((i : Int) - 1).toNat 0) = false) (k : decide ((byt A).getD ((i : Int) - 1).toNat 0 > (byt B).getD ((i : Int) - 1).toNat 0) = false) : ∃ j, i = j + 1 ∧ A / 256 ^ j = B / 256 ^ j := by
  obtain ⟨j, rfl⟩ : ∃ j, i = j + 1 := ⟨i - 1, by have := of_decide_eq_true hp; omega⟩
  have h := of_decide_eq_false h
  have k := of_decide_eq_false k
  rw [show (((j + 1 : Nat) : Int) - 1).toNat = j by omega, byt_getD, byt_getD] at h k
  exact ⟨j, rfl, cmp_same he (by clear he; omega)⟩
theorem cmp_z {A B i : Nat} (he : A / 256 ^ i = B / 256 ^ i) (hp : decide ((i : Int) - 1 ≥ 0) = false) : cmpN A B = 0 := by
  obtain rfl : i = 0 := by have := of_decide_eq_false hp; omega
  obtain rfl : A = B := by simpa using he
  exact cmpN_eq A
theorem wd {n : Nat} (j : Nat) (h : j + 1 ≤ n) (hn : n ≤ 1000) : IntKind.i64.wrap (((j + 1 : Nat) : Int) - 1 - 1) = (j : Int) - 1 := by rw [sg_eq, sg_in _ (by omega) (by omega)]; omega
theorem pos_of {x : Int} {n : Nat} (h : 0 ≤ x ∧ x < (n : Int)) : 0 < n := by omega
set_option maxHeartbeats 2000000 in
theorem cmp_d (A B : Nat) (ha : (byt A).length ≤ 1000) (hb : (byt B).length ≤ 1000) : DenA Tryz.prog 83 noFacts [.r 1 (byt A).length (BVs (byt A)), .r 1 (byt B).length (BVs (byt B))] (.int .i64 (cmpN A B)) := by
  refine DenA.fam ?_
  intro ad1 b1 off1 c1 hs1 _ ad2 b2 off2 c2 hs2 _
  have F1 : FLe (rowF b1 off1 (BVs (byt A))) (orF (orF noFacts (rowF b1 off1 (BVs (byt A)))) (rowF b2 off2 (BVs (byt B)))) := le_orR.trans le_orL
  have F2 : FLe (rowF b2 off2 (BVs (byt B))) (orF (orF noFacts (rowF b1 off1 (BVs (byt A)))) (rowF b2 off2 (BVs (byt B)))) := le_orR
  generalize orF (orF noFacts (rowF b1 off1 (BVs (byt A)))) (rowF b2 off2 (BVs (byt B))) = F at *
  refine den_of_body (args := [.slice ad1 (byt A).length c1, .slice ad2 (byt B).length c2]) hmix Tryz.func83 ?_
  (repeat' ((conv => whnf); first | refine AdN.mk _ _ rfl ?_ | refine DrawN.a (Ob.mk (by decide +kernel) ?_) | refine DrawN.c (Ob.mk (by decide +kernel) ?_) | refine DrawN.b (Ob.mk (by decide +kernel) ?_) | refine Ob.mk (by kernel_rfl) ?_ | (refine Br.mk (fun h => ?_) (fun h => ?_) <;> (first | (exfalso; exact Bool.false_ne_true h) | (exfalso; exact Bool.false_ne_true h.symm) | skip)))); all_goals (conv => whnf)
  refine SeqN.go ?_
  (repeat' ((conv => whnf); first | refine AdN.mk _ _ rfl ?_ | refine DrawN.a (Ob.mk (by decide +kernel) ?_) | refine DrawN.c (Ob.mk (by decide +kernel) ?_) | refine DrawN.b (Ob.mk (by decide +kernel) ?_) | refine Ob.mk (by kernel_rfl) ?_ | (refine Br.mk (fun h => ?_) (fun h => ?_) <;> (first | (exfalso; exact Bool.false_ne_true h) | (exfalso; exact Bool.false_ne_true h.symm) | skip)))); all_goals (conv => whnf)
  · have hn : (byt A).length ≠ (byt B).length := fun e => by simp [e] at *
    refine SeqN.go ?_
    (repeat' ((conv => whnf); first | refine AdN.mk _ _ rfl ?_ | refine DrawN.a (Ob.mk (by decide +kernel) ?_) | refine DrawN.c (Ob.mk (by decide +kernel) ?_) | refine DrawN.b (Ob.mk (by decide +kernel) ?_) | refine Ob.mk (by kernel_rfl) ?_ | (refine Br.mk (fun h => ?_) (fun h => ?_) <;> (first | (exfalso; exact Bool.false_ne_true h) | (exfalso; exact Bool.false_ne_true h.symm) | skip)) | refine SeqN.go ?_)); all_goals (conv => whnf)
    · have h1 : ((byt A).length : Int) < ((byt B).length : Int) := of_decide_eq_true ‹_›
      show Value.int .i64 (-1) = _
      rw [cmpN_lt (cmpN_len (by omega))]
    · have h1 : ¬ ((byt A).length : Int) < ((byt B).length : Int) := of_decide_eq_false ‹_›
      show Value.int .i64 1 = _
      rw [cmpN_gt (cmpN_len (by omega))]
  · have hl : (byt A).length = (byt B).length := by simp at *; omega
    refine SeqN.go ?_
    (repeat' ((conv => whnf); first | refine AdN.mk _ _ rfl ?_ | refine DrawN.a (Ob.mk (by decide +kernel) ?_) | refine DrawN.c (Ob.mk (by decide +kernel) ?_) | refine DrawN.b (Ob.mk (by decide +kernel) ?_) | refine Ob.mk (by kernel_rfl) ?_ | (refine Br.mk (fun h => ?_) (fun h => ?_) <;> (first | (exfalso; exact Bool.false_ne_true h) | (exfalso; exact Bool.false_ne_true h.symm) | skip)))); all_goals (conv => whnf)
    refine LoopN.mk {i : Nat // i ≤ (byt A).length ∧ A / 256 ^ i = B / 256 ^ i} (fun i => [(5, .v (.int .i64 ((i.1 : Int) - 1)))]) (fun _ => []) (fun i => i.1) ⟨(byt A).length, Nat.le_refl _, by rw [byt_big (Nat.le_refl _), byt_big (Nat.le_of_eq hl.symm)]⟩ ?_ ?_
    · (conv => whnf); (repeat' (first | exact True.intro | exact rfl | refine And.intro ?_ ?_ | decide))
      all_goals first | (refine congrArg (Value.int _) ?_; dsimp only; rw [sg_eq]; exact sg_in _ (by omega) (by omega)) | trace_state
    (conv => whnf)
    rintro ⟨i, hi, he⟩
    have o1 : decide ((i : Int) - 1 ≥ 0) = true → 0 ≤ (i : Int) - 1 ∧ (i : Int) - 1 < ((byt A).length : Int) := fun h => ge_one hi h
    have o2 : decide ((i : Int) - 1 ≥ 0) = true → 0 ≤ (i : Int) - 1 ∧ (i : Int) - 1 < ((byt B).length : Int) := fun h => hl ▸ ge_one hi h
    (repeat' ((conv => whnf); first | refine Ob.mk (o1 ‹_›) ?_ | refine Ob.mk (o2 ‹_›) ?_ | refine AdN.mk b1 off1 (hs1 (pos_of (o1 ‹_›))) ?_ | refine AdN.mk b2 off2 (hs2 (pos_of (o2 ‹_›))) ?_ | refine cellsF F1 ((i : Int) - 1) (o1 ‹_›).1 (o1 ‹_›).2 ?_ | refine cellsF F2 ((i : Int) - 1) (o2 ‹_›).1 (o2 ‹_›).2 ?_ | refine AdN.mk _ _ rfl ?_ | refine DrawN.a (Ob.mk (by decide +kernel) ?_) | refine DrawN.c (Ob.mk (by decide +kernel) ?_) | refine DrawN.b (Ob.mk (by decide +kernel) ?_) | refine Ob.mk (by kernel_rfl) ?_ | (refine Br.mk (fun h => ?_) (fun h => ?_) <;> (first | (exfalso; exact Bool.false_ne_true h) | (exfalso; exact Bool.false_ne_true h.symm) | skip)) | refine SeqN.go ?_)); all_goals (conv => whnf)
    · exact congrArg (Value.int _) (cmp_a he ‹_› ‹_›).symm
    · exact congrArg (Value.int _) (cmp_b he ‹decide ((i : Int) - 1 ≥ 0) = true› ‹_›).symm
    · obtain ⟨j, rfl, hj⟩ := cmp_c he ‹decide ((i : Int) - 1 ≥ 0) = true› ‹decide ((byt A).getD ((i : Int) - 1).toNat 0 < (byt B).getD ((i : Int) - 1).toNat 0) = false› ‹_›
      refine RoundN.mk ⟨j, Nat.le_of_succ_le hi, hj⟩ (Nat.lt_succ_self j) ?_
      (conv => whnf); (repeat' (first | exact True.intro | exact rfl | refine And.intro ?_ ?_ | decide))
      all_goals first | exact congrArg (Value.int _) (wd j hi ha) | trace_state
    · exact congrArg (Value.int _) (cmp_z he ‹_›).symm
end Go.Proofs.YtljhbdgoknfkcaaGreatDoor
