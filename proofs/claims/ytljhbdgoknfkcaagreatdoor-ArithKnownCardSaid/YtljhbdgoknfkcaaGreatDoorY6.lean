/- Rows of bytes of the reference: sums, differences, which is less. -/
import Derived.Test.YtljhbdgoknfkcaaGreatDoorY1
import Derived.Test.YtljhbdgoknfkcaaGreatDoorPY
namespace Go.Proofs.YtljhbdgoknfkcaaGreatDoor
open Go Go.RowKit Go.Sort
set_option linter.unusedVariables false
set_option linter.unusedSimpArgs false
set_option maxRecDepth 100000

theorem b8_snoc : ∀ (k : Nat) (x : Int), b8 (k + 1) x = b8 k x ++ [x / 256 ^ k % 256]
  | 0, x => by simp [b8]
  | k + 1, x => by
    show x % 256 :: b8 (k + 1) (x / 256) = (x % 256 :: b8 k (x / 256)) ++ [x / 256 ^ (k + 1) % 256]
    rw [b8_snoc k (x / 256), Int.ediv_ediv_of_nonneg (by decide), Int.pow_succ, Int.mul_comm (256 ^ k) 256]
    rfl
theorem b8_trim {k n : Nat} (h : n < 256 ^ k) : trimL (b8 k (n : Int)) = byt n := by
  rw [trimL_eq (b8_by k _), b8_val k _ (by omega), Int.toNat_natCast, Nat.mod_eq_of_lt h]
theorem cellsB' {l : List Int} {b off : Nat} {K : List Value → Prop} (n : Int) (h0 : 0 ≤ n) (h : n < (l.length : Int)) (k : K [.int .u8 (l.getD n.toNat 0)]) : CellsN (rowF b off (BVs l)) b (off + n.toNat * 1) 1 K := by
  refine .mk _ (fun j v hj => ⟨rfl, n.toNat + j, by omega, ?_⟩) rfl k
  have h2 : n.toNat < l.length := by omega
  rcases j with _ | j
  · simp at hj
    subst hj
    unfold BVs
    rw [Nat.add_zero, List.getElem?_map, List.getElem?_eq_getElem h2]
    simp [List.getD, h2]
  · simp at hj
theorem at_m (l : List Int) (i : Int) (h0 : 0 ≤ i) (hb : BY l) (ad : Option Addr) (b off c : Nat) (hs : 0 < l.length → ad = some ⟨b, off, none⟩) : Den Tryz.prog 253 #[.slice ad l.length c, .int .i64 i] (rowF b off (BVs l)) (.int .i64 (l.getD i.toNat 0)) := by
  refine den_of_body (args := [.slice ad l.length c, .int .i64 i]) hmix Tryz.func253 ?_
  have o1 : decide (i < (l.length : Int)) = true → 0 ≤ i ∧ i < (l.length : Int) := fun h => ⟨h0, of_decide_eq_true h⟩
  (repeat' ((conv => whnf); first | refine Ob.mk (o1 ‹_›) ?_ | refine AdN.mk b off (hs (by have := (o1 ‹_›).2; omega)) ?_ | refine cellsB' i h0 (o1 ‹_›).2 ?_ | refine AdN.mk _ _ rfl ?_ | refine DrawN.a (Ob.mk (by decide +kernel) ?_) | refine DrawN.c (Ob.mk (by decide +kernel) ?_) | refine DrawN.b (Ob.mk (by decide +kernel) ?_) | refine Ob.mk (by kernel_rfl) ?_ | (refine Br.mk (fun h => ?_) (fun h => ?_) <;> (first | (exfalso; exact Bool.false_ne_true h) | (exfalso; exact Bool.false_ne_true h.symm) | skip)) | refine SeqN.go ?_)); all_goals (conv => whnf)
  · have h := o1 ‹_›
    have hx := hb (l.getD i.toNat 0) (by have hjl : i.toNat < l.length := by omega
                                         simp [List.getD, hjl])
    refine congrArg (Value.int _) ?_
    rw [sg_eq]; exact (sg_in _ (by omega) (by omega))
  · have h : ¬ i < (l.length : Int) := of_decide_eq_false ‹_›
    refine congrArg (Value.int _) ?_
    rw [show l.getD i.toNat 0 = 0 by simp [List.getD, show l.length ≤ i.toNat by omega]]
def addM (A B : Nat) : Nat := max (byt A).length (byt B).length
def addN (A B : Nat) : Nat := if A + B < 256 ^ addM A B then addM A B else addM A B + 1
def addR (A B : Nat) : List Int := b8 (addN A B) ((A + B : Nat) : Int)
theorem add_lt (A B : Nat) : A + B < 256 ^ addN A B := by
  unfold addN
  split
  · assumption
  · have h1 : A < 256 ^ addM A B := Nat.lt_of_lt_of_le (byt_lt A) (Nat.pow_le_pow_right (by decide) (Nat.le_max_left _ _))
    have h2 : B < 256 ^ addM A B := Nat.lt_of_lt_of_le (byt_lt B) (Nat.pow_le_pow_right (by decide) (Nat.le_max_right _ _))
    rw [Nat.pow_succ]
    omega
theorem addR_trim (A B : Nat) : trimL (addR A B) = byt (A + B) := b8_trim (add_lt A B)
theorem addR_len (A B : Nat) : (addR A B).length = addN A B := b8_len _ _
theorem addR_part (A B : Nat) : partRow 1 0 (byt (A + B)).length (BVs (addR A B)) = BVs (byt (A + B)) := by
  have e := addR_trim A B
  unfold partRow BVs
  rw [List.drop_zero, Nat.mul_one, ← List.map_take, ← e, trim_take]
/-- A step of a sum. -/
theorem add_step {A B S i c : Nat} (hS : c + A / 256 ^ i + B / 256 ^ i = S / 256 ^ i) :
    (A / 256 ^ i % 256 + B / 256 ^ i % 256 + c) % 256 = S / 256 ^ i % 256 ∧ (A / 256 ^ i % 256 + B / 256 ^ i % 256 + c) / 256 + A / 256 ^ (i + 1) + B / 256 ^ (i + 1) = S / 256 ^ (i + 1) := by
  rw [Nat.pow_succ, ← Nat.div_div_eq_div_mul, ← Nat.div_div_eq_div_mul, ← Nat.div_div_eq_div_mul]
  omega
theorem w3 {x y c : Nat} (hx : x < 256) (hy : y < 256) (hc : c ≤ 1) : IntKind.i64.wrap (IntKind.i64.wrap ((x : Int) + (y : Int)) + (c : Int)) = ((x + y + c : Nat) : Int) := by
  have q : sg ((x : Int) + (y : Int)) = (x : Int) + (y : Int) := sg_in _ (by omega) (by omega)
  simp only [sg_eq]; rw [q, sg_in _ (by omega) (by omega)]; omega
theorem w3a {x y c : Nat} (hx : x < 256) (hy : y < 256) (hc : c ≤ 1) : (x + y + c) / 256 ≤ 1 := by omega
theorem w3b {x y c : Nat} (hx : x < 256) (hy : y < 256) (hc : c ≤ 1) : IntKind.i64.wrap ((IntKind.i64.wrap (IntKind.i64.wrap ((x : Int) + (y : Int)) + (c : Int))).tdiv 256) = (((x + y + c) / 256 : Nat) : Int) := by
  rw [w3 hx hy hc, sg_eq, Int.tdiv_eq_ediv_of_nonneg (by omega)]
  rw [sg_in _ (by omega) (by omega)]
  omega
theorem wi {i n : Nat} (h : i < n) (hn : n ≤ 1000000000) : IntKind.i64.wrap ((i : Int) + 1) = ((i + 1 : Nat) : Int) := by rw [sg_eq, sg_in _ (by omega) (by omega)]; omega
theorem nz3 {c x y : Nat} (h : c + x + y = 0) : c = 0 := by omega
set_option maxHeartbeats 2000000 in
theorem add_f (A B : Nat) (ha : (byt A).length ≤ 500) (hb : (byt B).length ≤ 500) : DenF Tryz.prog 231 noFacts [.r 1 (byt A).length (BVs (byt A)), .r 1 (byt B).length (BVs (byt B))] [.sub 0 0 (byt (A + B)).length] [.row 5 1 (addN A B) (BVs (addR A B))] := by
  refine DenF.fam rfl ?_
  intro ad1 b1 off1 c1 hs1 _ ad2 b2 off2 c2 hs2 _
  have F1 : FLe (rowF b1 off1 (BVs (byt A))) (orF (orF noFacts (rowF b1 off1 (BVs (byt A)))) (rowF b2 off2 (BVs (byt B)))) := le_orR.trans le_orL
  have F2 : FLe (rowF b2 off2 (BVs (byt B))) (orF (orF noFacts (rowF b1 off1 (BVs (byt A)))) (rowF b2 off2 (BVs (byt B)))) := le_orR
  generalize orF (orF noFacts (rowF b1 off1 (BVs (byt A)))) (rowF b2 off2 (BVs (byt B))) = F at *
  refine denV_of_body (args := [.slice ad1 (byt A).length c1, .slice ad2 (byt B).length c2]) hmix Tryz.func231 ?_
  have hN : addN A B ≤ 501 := by unfold addN addM; split <;> omega
  have hM1 : (byt A).length ≤ addM A B := Nat.le_max_left _ _
  have hM2 : (byt B).length ≤ addM A B := Nat.le_max_right _ _
  (repeat' ((conv => whnf); first | refine AdN.mk _ _ rfl ?_ | refine DrawN.a (Ob.mk (by decide +kernel) ?_) | refine DrawN.c (Ob.mk (by decide +kernel) ?_) | refine DrawN.b (Ob.mk (by decide +kernel) ?_) | refine Ob.mk (by kernel_rfl) ?_ | (refine Br.mk (fun h => ?_) (fun h => ?_) <;> (first | (exfalso; exact Bool.false_ne_true h) | (exfalso; exact Bool.false_ne_true h.symm) | skip)))); all_goals (conv => whnf)
  refine SeqN.nilRow 5 5 1 rfl ?_
  (conv => whnf)
  refine SeqN.go ?_
  (repeat' ((conv => whnf); first | refine AdN.mk _ _ rfl ?_ | refine DrawN.a (Ob.mk (by decide +kernel) ?_) | refine DrawN.c (Ob.mk (by decide +kernel) ?_) | refine DrawN.b (Ob.mk (by decide +kernel) ?_) | refine Ob.mk (by kernel_rfl) ?_ | (refine Br.mk (fun h => ?_) (fun h => ?_) <;> (first | (exfalso; exact Bool.false_ne_true h) | (exfalso; exact Bool.false_ne_true h.symm) | skip)))); all_goals (conv => whnf)
  refine LoopN.mk {x : Nat × Nat // x.1 ≤ addN A B ∧ x.2 ≤ 1 ∧ x.2 + A / 256 ^ x.1 + B / 256 ^ x.1 = (A + B) / 256 ^ x.1} (fun x => [(7, .v (.int .i64 x.1.1)), (6, .v (.int .i64 x.1.2)), (5, .s 0)]) (fun x => [.row 5 1 x.1.1 (BVs (b8 x.1.1 ((A + B : Nat) : Int)))]) (fun x => addN A B - x.1.1) ⟨(0, 0), by simp⟩ ?_ ?_
  · (conv => whnf); (repeat' (first | exact True.intro | exact rfl | refine And.intro ?_ ?_ | decide))
  (conv => whnf)
  rintro ⟨⟨i, c⟩, hi, hc, he⟩
  dsimp only at hi hc he
  have D1 := (at_m (byt A) (i : Int) (by omega) (byt_by A) ad1 b1 off1 c1 hs1).mono F1
  have D2 := (at_m (byt B) (i : Int) (by omega) (byt_by B) ad2 b2 off2 c2 hs2).mono F2
  rw [Int.toNat_natCast, byt_getD] at D1 D2
  (repeat' ((conv => whnf); first | refine CallN.mk _ D1 ?_ | refine CallN.mk _ D2 ?_ | refine Ob.mk (by decide) ?_ | refine Ob.mk ⟨by omega, (by show (i + 1) * 1 ≤ 140737488355328; omega), (by show i + 1 ≤ 140737488355328; omega)⟩ ?_ | refine AdN.mk _ _ rfl ?_ | refine DrawN.a (Ob.mk (by decide +kernel) ?_) | refine DrawN.c (Ob.mk (by decide +kernel) ?_) | refine DrawN.b (Ob.mk (by decide +kernel) ?_) | refine Ob.mk (by kernel_rfl) ?_ | (refine Br.mk (fun h => ?_) (fun h => ?_) <;> (first | (exfalso; exact Bool.false_ne_true h) | (exfalso; exact Bool.false_ne_true h.symm) | skip)) | refine SeqN.go ?_)); all_goals (conv => whnf)
  all_goals clear D1 D2
  rotate_left 3
  · have h1 : ¬ (i : Int) < ((byt A).length : Int) := of_decide_eq_false ‹_›
    have h2 : ¬ (i : Int) < ((byt B).length : Int) := of_decide_eq_false ‹decide ((i : Int) < ((byt B).length : Int)) = false›
    have h3 : ¬ (c : Int) > 0 := of_decide_eq_false ‹decide ((c : Int) > 0) = false›
    have hz : (A + B) / 256 ^ i = 0 := by rw [← he, byt_big (by omega), byt_big (by omega)]; omega
    obtain rfl : i = addN A B := by
      have hm : addM A B ≤ i := by unfold addM; omega
      have hS : A + B < 256 ^ i := by
        have := Nat.pow_pos (n := i) (show 0 < 256 by decide)
        rcases Nat.div_eq_zero_iff.1 hz with h | h
        · omega
        · exact h
      by_cases hs : A + B < 256 ^ addM A B
      · have e : addN A B = addM A B := if_pos hs
        omega
      · have e : addN A B = addM A B + 1 := if_neg hs
        by_cases hc : i = addM A B
        · exact absurd (hc ▸ hS) hs
        · omega
    have T := trim_f (addR A B) (by rw [addR_len]; omega)
    rw [addR_len] at T
    refine CallA.anyFresh _ _ T ?_
    (repeat' ((conv => whnf); first | refine AdN.mk _ _ rfl ?_ | refine DrawN.a (Ob.mk (by decide +kernel) ?_) | refine DrawN.c (Ob.mk (by decide +kernel) ?_) | refine DrawN.b (Ob.mk (by decide +kernel) ?_) | refine Ob.mk (by kernel_rfl) ?_ | (refine Br.mk (fun h => ?_) (fun h => ?_) <;> (first | (exfalso; exact Bool.false_ne_true h) | (exfalso; exact Bool.false_ne_true h.symm) | skip)) | refine SeqN.go ?_)); all_goals (conv => whnf)
    refine RetN.mk [1] (by decide) rfl ?_ ?_ <;> (conv => whnf); (repeat' (first | exact True.intro | exact rfl | refine And.intro ?_ ?_ | decide))
    all_goals first | (rw [addR_trim]; done) | trace_state
  all_goals
    have hlt : i < addN A B := by
      first
        | (have h1 : (i : Int) < ((byt A).length : Int) := of_decide_eq_true ‹_›
           have : addM A B ≤ addN A B := by unfold addN; split <;> omega
           omega)
        | (have h1 : (i : Int) < ((byt B).length : Int) := of_decide_eq_true ‹_›
           have : addM A B ≤ addN A B := by unfold addN; split <;> omega
           omega)
        | (have h1 : (c : Int) > 0 := of_decide_eq_true ‹_›
           refine Nat.lt_of_le_of_ne hi fun e => ?_
           have := Nat.div_eq_of_lt (add_lt A B)
           rw [← e, ← he] at this
           rw [nz3 this] at h1
           exact absurd h1 (by decide))
    obtain ⟨s1, s2⟩ := add_step he
    have a1 : A / 256 ^ i % 256 < 256 := Nat.mod_lt _ (by decide)
    have b1 : B / 256 ^ i % 256 < 256 := Nat.mod_lt _ (by decide)
    have hsn := b8_snoc i ((A + B : Nat) : Int)
    have hd : ((A + B : Nat) : Int) / 256 ^ i % 256 = (((A / 256 ^ i % 256 + B / 256 ^ i % 256 + c) % 256 : Nat) : Int) := by rw [s1]; simp
    rw [hd] at hsn
    clear hd s1
    generalize A / 256 ^ i % 256 = x at *
    generalize B / 256 ^ i % 256 = y at *
    refine RoundN.mk ⟨(i + 1, (x + y + c) / 256), hlt, w3a a1 b1 hc, s2⟩ (Nat.sub_succ_lt_self _ _ hlt) ?_
    have e1 := w3 a1 b1 hc
    (conv => whnf); (repeat' (first | exact True.intro | exact rfl | refine And.intro ?_ ?_ | decide))
    all_goals first
      | exact congrArg (Value.int _) (wi hlt (Nat.le_trans hN (by decide)))
      | exact congrArg (Value.int _) (w3b a1 b1 hc)
      | (dsimp only; rw [hsn, e1, Int.tmod_eq_emod_of_nonneg (Int.natCast_nonneg _), IntKind.wrap_u8, Int.emod_emod]; simp [BVs]; done)
      | trace_state
/-! Rows of bytes of the reference: differences; which is less. -/
theorem sub_step {A B D i w : Nat} (h : B / 256 ^ i + w + D / 256 ^ i = A / 256 ^ i) (hw : w ≤ 1) :
    (A / 256 ^ i % 256 < B / 256 ^ i % 256 + w → D / 256 ^ i % 256 = A / 256 ^ i % 256 + 256 - (B / 256 ^ i % 256 + w) ∧ B / 256 ^ (i + 1) + 1 + D / 256 ^ (i + 1) = A / 256 ^ (i + 1)) ∧
    (¬ A / 256 ^ i % 256 < B / 256 ^ i % 256 + w → D / 256 ^ i % 256 = A / 256 ^ i % 256 - (B / 256 ^ i % 256 + w) ∧ B / 256 ^ (i + 1) + 0 + D / 256 ^ (i + 1) = A / 256 ^ (i + 1)) := by
  rw [Nat.pow_succ, ← Nat.div_div_eq_div_mul, ← Nat.div_div_eq_div_mul, ← Nat.div_div_eq_div_mul]
  generalize A / 256 ^ i = x at *
  generalize B / 256 ^ i = y at *
  generalize D / 256 ^ i = z at *
  constructor <;> intro c <;> omega
theorem w4 {x y c : Nat} (hx : x < 256) (hy : y < 256) (hc : c ≤ 1) : IntKind.i64.wrap (IntKind.i64.wrap ((x : Int) - (y : Int)) - (c : Int)) = (x : Int) - ((y + c : Nat) : Int) := by
  have q : sg ((x : Int) - (y : Int)) = (x : Int) - (y : Int) := sg_in _ (by omega) (by omega)
  simp only [sg_eq]; rw [q, sg_in _ (by omega) (by omega)]; omega
theorem w4a {x y c d : Nat} (hx : x < 256) (hy : y < 256) (hc : c ≤ 1) (h : x < y + c) (hd : d = x + 256 - (y + c)) : IntKind.u8.wrap (IntKind.i64.wrap ((x : Int) - ((y + c : Nat) : Int) + 256)) = (d : Int) := by
  rw [IntKind.wrap_u8, sg_eq, sg_in _ (by omega) (by omega)]; omega
theorem w4b {x y c d : Nat} (hx : x < 256) (hy : y < 256) (hc : c ≤ 1) (h : ¬ x < y + c) (hd : d = x - (y + c)) : IntKind.u8.wrap ((x : Int) - ((y + c : Nat) : Int)) = (d : Int) := by
  rw [IntKind.wrap_u8]; omega
theorem eq_of_le {i n : Nat} (h : i ≤ n) (k : ¬ (i : Int) < (n : Int)) : i = n := by omega
theorem lt_of_neg {x y c : Nat} {z : Int} (e : z = (x : Int) - ((y + c : Nat) : Int)) (h : decide (z < 0) = true) : x < y + c := by
  have := of_decide_eq_true h
  omega
theorem ge_of_neg {x y c : Nat} {z : Int} (e : z = (x : Int) - ((y + c : Nat) : Int)) (h : decide (z < 0) = false) : ¬ x < y + c := by
  have := of_decide_eq_false h
  omega
set_option maxHeartbeats 2000000 in
theorem sub_f (A B : Nat) (hle : B ≤ A) (ha : (byt A).length ≤ 500) : DenF Tryz.prog 254 noFacts [.r 1 (byt A).length (BVs (byt A)), .r 1 (byt B).length (BVs (byt B))] [.sub 0 0 (byt (A - B)).length] [.row 5 1 (byt A).length (BVs (b8 (byt A).length ((A - B : Nat) : Int)))] := by
  refine DenF.fam rfl ?_
  intro ad1 b1 off1 c1 hs1 _ ad2 b2 off2 c2 hs2 _
  have F1 : FLe (rowF b1 off1 (BVs (byt A))) (orF (orF noFacts (rowF b1 off1 (BVs (byt A)))) (rowF b2 off2 (BVs (byt B)))) := le_orR.trans le_orL
  have F2 : FLe (rowF b2 off2 (BVs (byt B))) (orF (orF noFacts (rowF b1 off1 (BVs (byt A)))) (rowF b2 off2 (BVs (byt B)))) := le_orR
  generalize orF (orF noFacts (rowF b1 off1 (BVs (byt A)))) (rowF b2 off2 (BVs (byt B))) = F at *
  obtain ⟨D, rfl⟩ : ∃ D, A = B + D := ⟨A - B, by omega⟩
  rw [show B + D - B = D by omega]
  generalize hA : B + D = A at *
  refine denV_of_body (args := [.slice ad1 (byt A).length c1, .slice ad2 (byt B).length c2]) hmix Tryz.func254 ?_
  obtain ⟨N, hN⟩ : ∃ N, N = (byt A).length := ⟨_, rfl⟩
  (repeat' ((conv => whnf); first | refine AdN.mk _ _ rfl ?_ | refine DrawN.a (Ob.mk (by decide +kernel) ?_) | refine DrawN.c (Ob.mk (by decide +kernel) ?_) | refine DrawN.b (Ob.mk (by decide +kernel) ?_) | refine Ob.mk (by kernel_rfl) ?_ | (refine Br.mk (fun h => ?_) (fun h => ?_) <;> (first | (exfalso; exact Bool.false_ne_true h) | (exfalso; exact Bool.false_ne_true h.symm) | skip)))); all_goals (conv => whnf)
  refine SeqN.nilRow 5 5 1 rfl ?_
  (conv => whnf)
  refine SeqN.go ?_
  (repeat' ((conv => whnf); first | refine AdN.mk _ _ rfl ?_ | refine DrawN.a (Ob.mk (by decide +kernel) ?_) | refine DrawN.c (Ob.mk (by decide +kernel) ?_) | refine DrawN.b (Ob.mk (by decide +kernel) ?_) | refine Ob.mk (by kernel_rfl) ?_ | (refine Br.mk (fun h => ?_) (fun h => ?_) <;> (first | (exfalso; exact Bool.false_ne_true h) | (exfalso; exact Bool.false_ne_true h.symm) | skip)))); all_goals (conv => whnf)
  refine LoopN.mk {x : Nat × Nat // x.1 ≤ (byt A).length ∧ x.2 ≤ 1 ∧ B / 256 ^ x.1 + x.2 + D / 256 ^ x.1 = A / 256 ^ x.1} (fun x => [(7, .v (.int .i64 x.1.1)), (6, .v (.int .i64 x.1.2)), (5, .s 0)]) (fun x => [.row 5 1 x.1.1 (BVs (b8 x.1.1 (D : Int)))]) (fun x => (byt A).length - x.1.1) ⟨(0, 0), by simp; omega⟩ ?_ ?_
  · (conv => whnf); (repeat' (first | exact True.intro | exact rfl | refine And.intro ?_ ?_ | decide))
  (conv => whnf)
  rintro ⟨⟨i, w⟩, hi, hw, he⟩
  dsimp only at hi hw he
  have D1 := (at_m (byt A) (i : Int) (Int.natCast_nonneg _) (byt_by A) ad1 b1 off1 c1 hs1).mono F1
  have D2 := (at_m (byt B) (i : Int) (Int.natCast_nonneg _) (byt_by B) ad2 b2 off2 c2 hs2).mono F2
  rw [Int.toNat_natCast, byt_getD] at D1 D2
  obtain ⟨sY, sN⟩ := sub_step he hw
  have a1 : A / 256 ^ i % 256 < 256 := Nat.mod_lt _ (by decide)
  have b1 : B / 256 ^ i % 256 < 256 := Nat.mod_lt _ (by decide)
  have hsn := b8_snoc i (D : Int)
  have hd : (D : Int) / 256 ^ i % 256 = ((D / 256 ^ i % 256 : Nat) : Int) := by simp
  rw [hd] at hsn
  clear hd
  generalize A / 256 ^ i % 256 = x at *
  generalize B / 256 ^ i % 256 = y at *
  generalize D / 256 ^ i % 256 = d at *
  have e1 := w4 a1 b1 hw
  (repeat' ((conv => whnf); first | refine CallN.mk _ D1 ?_ | refine CallN.mk _ D2 ?_ | refine Ob.mk (by decide) ?_ | refine Ob.mk ⟨by decide, (by show (i + 1) * 1 ≤ 140737488355328; rw [← hN] at *; omega), (by show i + 1 ≤ 140737488355328; rw [← hN] at *; omega)⟩ ?_ | refine AdN.mk _ _ rfl ?_ | refine DrawN.a (Ob.mk (by decide +kernel) ?_) | refine DrawN.c (Ob.mk (by decide +kernel) ?_) | refine DrawN.b (Ob.mk (by decide +kernel) ?_) | refine Ob.mk (by kernel_rfl) ?_ | (refine Br.mk (fun h => ?_) (fun h => ?_) <;> (first | (exfalso; exact Bool.false_ne_true h) | (exfalso; exact Bool.false_ne_true h.symm) | skip)) | refine SeqN.go ?_)); all_goals (conv => whnf)
  all_goals clear D1 D2
  rotate_left 2
  · have h1 : ¬ (i : Int) < ((byt A).length : Int) := of_decide_eq_false ‹_›
    obtain rfl : i = (byt A).length := eq_of_le hi h1
    have hlt : D < 256 ^ (byt A).length := Nat.lt_of_le_of_lt (by rw [← hA]; exact Nat.le_add_left _ _) (byt_lt A)
    have T := trim_f (b8 (byt A).length (D : Int)) (by rw [b8_len]; exact Nat.le_trans ha (by decide))
    rw [b8_len] at T
    refine CallA.anyFresh _ _ T ?_
    (repeat' ((conv => whnf); first | refine AdN.mk _ _ rfl ?_ | refine DrawN.a (Ob.mk (by decide +kernel) ?_) | refine DrawN.c (Ob.mk (by decide +kernel) ?_) | refine DrawN.b (Ob.mk (by decide +kernel) ?_) | refine Ob.mk (by kernel_rfl) ?_ | (refine Br.mk (fun h => ?_) (fun h => ?_) <;> (first | (exfalso; exact Bool.false_ne_true h) | (exfalso; exact Bool.false_ne_true h.symm) | skip)) | refine SeqN.go ?_)); all_goals (conv => whnf)
    refine RetN.mk [1] (by decide) rfl ?_ ?_ <;> (conv => whnf); (repeat' (first | exact True.intro | exact rfl | refine And.intro ?_ ?_ | decide))
    all_goals first | (rw [b8_trim hlt]; done) | trace_state
  · have hlt : i < (byt A).length := Int.ofNat_lt.1 (of_decide_eq_true ‹decide ((i : Int) < ((byt A).length : Int)) = true›)
    have hc : x < y + w := lt_of_neg e1 ‹_›
    obtain ⟨s1, s2⟩ := sY hc
    refine RoundN.mk ⟨(i + 1, 1), hlt, Nat.le_refl 1, s2⟩ (Nat.sub_succ_lt_self _ _ hlt) ?_
    (conv => whnf); (repeat' (first | exact True.intro | exact rfl | refine And.intro ?_ ?_ | decide))
    all_goals first
      | exact congrArg (Value.int _) (wi hlt (Nat.le_trans ha (by decide)))
      | (dsimp only; rw [hsn, e1, w4a a1 b1 hw hc s1]; simp [BVs]; done)
      | trace_state
  · have hlt : i < (byt A).length := Int.ofNat_lt.1 (of_decide_eq_true ‹decide ((i : Int) < ((byt A).length : Int)) = true›)
    have hc : ¬ x < y + w := ge_of_neg e1 ‹_›
    obtain ⟨s1, s2⟩ := sN hc
    refine RoundN.mk ⟨(i + 1, 0), hlt, Nat.zero_le 1, s2⟩ (Nat.sub_succ_lt_self _ _ hlt) ?_
    (conv => whnf); (repeat' (first | exact True.intro | exact rfl | refine And.intro ?_ ?_ | decide))
    all_goals first
      | exact congrArg (Value.int _) (wi hlt (Nat.le_trans ha (by decide)))
      | (dsimp only; rw [hsn, e1, w4b a1 b1 hw hc s1]; simp [BVs]; done)
      | trace_state

/-- Which is less. -/
theorem cellsF {F : Facts} {l : List Int} {b off : Nat} {K : List Value → Prop} (hF : FLe (rowF b off (BVs l)) F) (n : Int) (h0 : 0 ≤ n) (h : n < (l.length : Int)) (k : K [.int .u8 (l.getD n.toNat 0)]) : CellsN F b (off + n.toNat * 1) 1 K := by
  obtain ⟨vs, h1, h2, h3⟩ := cellsB' (b := b) (off := off) n h0 h k
  exact .mk vs (fun j v hj => hF.1 _ _ _ (h1 j v hj)) h2 h3
theorem ge_one {i n : Nat} (hi : i ≤ n) (h : decide ((i : Int) - 1 ≥ 0) = true) : 0 ≤ (i : Int) - 1 ∧ (i : Int) - 1 < (n : Int) := by
  have := of_decide_eq_true h
  omega
theorem cmp_a {A B i : Nat} (he : A / 256 ^ i = B / 256 ^ i) (hp : decide ((i : Int) - 1 ≥ 0) = true) (h : decide ((byt A).getD ((i : Int) - 1).toNat 0 < (byt B).getD ((i : Int) - 1).toNat 0) = true) : cmpN A B = -1 := by
  obtain ⟨j, rfl⟩ : ∃ j, i = j + 1 := ⟨i - 1, by have := of_decide_eq_true hp; omega⟩
  have h := of_decide_eq_true h
  rw [show (((j + 1 : Nat) : Int) - 1).toNat = j by omega, byt_getD, byt_getD] at h
  exact cmpN_lt (cmp_step he (Int.ofNat_lt.1 h))
theorem cmp_b {A B i : Nat} (he : A / 256 ^ i = B / 256 ^ i) (hp : decide ((i : Int) - 1 ≥ 0) = true) (h : decide ((byt A).getD ((i : Int) - 1).toNat 0 > (byt B).getD ((i : Int) - 1).toNat 0) = true) : cmpN A B = 1 := by
  obtain ⟨j, rfl⟩ : ∃ j, i = j + 1 := ⟨i - 1, by have := of_decide_eq_true hp; omega⟩
  have h := of_decide_eq_true h
  rw [show (((j + 1 : Nat) : Int) - 1).toNat = j by omega, byt_getD, byt_getD] at h
  exact cmpN_gt (cmp_step he.symm (Int.ofNat_lt.1 h))
theorem cmp_c {A B i : Nat} (he : A / 256 ^ i = B / 256 ^ i) (hp : decide ((i : Int) - 1 ≥ 0) = true) (h : decide ((byt A).getD ((i : Int) - 1).toNat 0 < (byt B).getD ((i : Int) - 1).toNat 0) = false) (k : decide ((byt A).getD ((i : Int) - 1).toNat 0 > (byt B).getD ((i : Int) - 1).toNat 0) = false) : ∃ j, i = j + 1 ∧ A / 256 ^ j = B / 256 ^ j := by
  obtain ⟨j, rfl⟩ : ∃ j, i = j + 1 := ⟨i - 1, by have := of_decide_eq_true hp; omega⟩
  have h := of_decide_eq_false h
  have k := of_decide_eq_false k
  rw [show (((j + 1 : Nat) : Int) - 1).toNat = j by omega, byt_getD, byt_getD] at h k
  exact ⟨j, rfl, cmp_same he (by clear he; omega)⟩
theorem cmp_z {A B i : Nat} (he : A / 256 ^ i = B / 256 ^ i) (hp : decide ((i : Int) - 1 ≥ 0) = false) : cmpN A B = 0 := by
  obtain rfl : i = 0 := by have := of_decide_eq_false hp; omega
  obtain rfl : A = B := by simpa using he
  exact cmpN_eq A
theorem wd {n : Nat} (j : Nat) (h : j + 1 ≤ n) (hn : n ≤ 1000) : IntKind.i64.wrap (((j + 1 : Nat) : Int) - 1 - 1) = (j : Int) - 1 := by rw [sg_eq, sg_in _ (by omega) (by omega)]; omega
theorem pos_of {x : Int} {n : Nat} (h : 0 ≤ x ∧ x < (n : Int)) : 0 < n := by omega
set_option maxHeartbeats 2000000 in
theorem cmp_d (A B : Nat) (ha : (byt A).length ≤ 1000) (hb : (byt B).length ≤ 1000) : DenA Tryz.prog 83 noFacts [.r 1 (byt A).length (BVs (byt A)), .r 1 (byt B).length (BVs (byt B))] (.int .i64 (cmpN A B)) := by
  refine DenA.fam ?_
  intro ad1 b1 off1 c1 hs1 _ ad2 b2 off2 c2 hs2 _
  have F1 : FLe (rowF b1 off1 (BVs (byt A))) (orF (orF noFacts (rowF b1 off1 (BVs (byt A)))) (rowF b2 off2 (BVs (byt B)))) := le_orR.trans le_orL
  have F2 : FLe (rowF b2 off2 (BVs (byt B))) (orF (orF noFacts (rowF b1 off1 (BVs (byt A)))) (rowF b2 off2 (BVs (byt B)))) := le_orR
  generalize orF (orF noFacts (rowF b1 off1 (BVs (byt A)))) (rowF b2 off2 (BVs (byt B))) = F at *
  refine den_of_body (args := [.slice ad1 (byt A).length c1, .slice ad2 (byt B).length c2]) hmix Tryz.func83 ?_
  (repeat' ((conv => whnf); first | refine AdN.mk _ _ rfl ?_ | refine DrawN.a (Ob.mk (by decide +kernel) ?_) | refine DrawN.c (Ob.mk (by decide +kernel) ?_) | refine DrawN.b (Ob.mk (by decide +kernel) ?_) | refine Ob.mk (by kernel_rfl) ?_ | (refine Br.mk (fun h => ?_) (fun h => ?_) <;> (first | (exfalso; exact Bool.false_ne_true h) | (exfalso; exact Bool.false_ne_true h.symm) | skip)))); all_goals (conv => whnf)
  refine SeqN.go ?_
  (repeat' ((conv => whnf); first | refine AdN.mk _ _ rfl ?_ | refine DrawN.a (Ob.mk (by decide +kernel) ?_) | refine DrawN.c (Ob.mk (by decide +kernel) ?_) | refine DrawN.b (Ob.mk (by decide +kernel) ?_) | refine Ob.mk (by kernel_rfl) ?_ | (refine Br.mk (fun h => ?_) (fun h => ?_) <;> (first | (exfalso; exact Bool.false_ne_true h) | (exfalso; exact Bool.false_ne_true h.symm) | skip)))); all_goals (conv => whnf)
  · have hn : (byt A).length ≠ (byt B).length := fun e => by simp [e] at *
    refine SeqN.go ?_
    (repeat' ((conv => whnf); first | refine AdN.mk _ _ rfl ?_ | refine DrawN.a (Ob.mk (by decide +kernel) ?_) | refine DrawN.c (Ob.mk (by decide +kernel) ?_) | refine DrawN.b (Ob.mk (by decide +kernel) ?_) | refine Ob.mk (by kernel_rfl) ?_ | (refine Br.mk (fun h => ?_) (fun h => ?_) <;> (first | (exfalso; exact Bool.false_ne_true h) | (exfalso; exact Bool.false_ne_true h.symm) | skip)) | refine SeqN.go ?_)); all_goals (conv => whnf)
    · have h1 : ((byt A).length : Int) < ((byt B).length : Int) := of_decide_eq_true ‹_›
      show Value.int .i64 (-1) = _
      rw [cmpN_lt (cmpN_len (by omega))]
    · have h1 : ¬ ((byt A).length : Int) < ((byt B).length : Int) := of_decide_eq_false ‹_›
      show Value.int .i64 1 = _
      rw [cmpN_gt (cmpN_len (by omega))]
  · have hl : (byt A).length = (byt B).length := by simp at *; omega
    refine SeqN.go ?_
    (repeat' ((conv => whnf); first | refine AdN.mk _ _ rfl ?_ | refine DrawN.a (Ob.mk (by decide +kernel) ?_) | refine DrawN.c (Ob.mk (by decide +kernel) ?_) | refine DrawN.b (Ob.mk (by decide +kernel) ?_) | refine Ob.mk (by kernel_rfl) ?_ | (refine Br.mk (fun h => ?_) (fun h => ?_) <;> (first | (exfalso; exact Bool.false_ne_true h) | (exfalso; exact Bool.false_ne_true h.symm) | skip)))); all_goals (conv => whnf)
    refine LoopN.mk {i : Nat // i ≤ (byt A).length ∧ A / 256 ^ i = B / 256 ^ i} (fun i => [(5, .v (.int .i64 ((i.1 : Int) - 1)))]) (fun _ => []) (fun i => i.1) ⟨(byt A).length, Nat.le_refl _, by rw [byt_big (Nat.le_refl _), byt_big (Nat.le_of_eq hl.symm)]⟩ ?_ ?_
    · (conv => whnf); (repeat' (first | exact True.intro | exact rfl | refine And.intro ?_ ?_ | decide))
      all_goals first | (refine congrArg (Value.int _) ?_; dsimp only; rw [sg_eq]; exact sg_in _ (by omega) (by omega)) | trace_state
    (conv => whnf)
    rintro ⟨i, hi, he⟩
    have o1 : decide ((i : Int) - 1 ≥ 0) = true → 0 ≤ (i : Int) - 1 ∧ (i : Int) - 1 < ((byt A).length : Int) := fun h => ge_one hi h
    have o2 : decide ((i : Int) - 1 ≥ 0) = true → 0 ≤ (i : Int) - 1 ∧ (i : Int) - 1 < ((byt B).length : Int) := fun h => hl ▸ ge_one hi h
    (repeat' ((conv => whnf); first | refine Ob.mk (o1 ‹_›) ?_ | refine Ob.mk (o2 ‹_›) ?_ | refine AdN.mk b1 off1 (hs1 (pos_of (o1 ‹_›))) ?_ | refine AdN.mk b2 off2 (hs2 (pos_of (o2 ‹_›))) ?_ | refine cellsF F1 ((i : Int) - 1) (o1 ‹_›).1 (o1 ‹_›).2 ?_ | refine cellsF F2 ((i : Int) - 1) (o2 ‹_›).1 (o2 ‹_›).2 ?_ | refine AdN.mk _ _ rfl ?_ | refine DrawN.a (Ob.mk (by decide +kernel) ?_) | refine DrawN.c (Ob.mk (by decide +kernel) ?_) | refine DrawN.b (Ob.mk (by decide +kernel) ?_) | refine Ob.mk (by kernel_rfl) ?_ | (refine Br.mk (fun h => ?_) (fun h => ?_) <;> (first | (exfalso; exact Bool.false_ne_true h) | (exfalso; exact Bool.false_ne_true h.symm) | skip)) | refine SeqN.go ?_)); all_goals (conv => whnf)
    · exact congrArg (Value.int _) (cmp_a he ‹_› ‹_›).symm
    · exact congrArg (Value.int _) (cmp_b he ‹decide ((i : Int) - 1 ≥ 0) = true› ‹_›).symm
    · obtain ⟨j, rfl, hj⟩ := cmp_c he ‹decide ((i : Int) - 1 ≥ 0) = true› ‹decide ((byt A).getD ((i : Int) - 1).toNat 0 < (byt B).getD ((i : Int) - 1).toNat 0) = false› ‹_›
      refine RoundN.mk ⟨j, Nat.le_of_succ_le hi, hj⟩ (Nat.lt_succ_self j) ?_
      (conv => whnf); (repeat' (first | exact True.intro | exact rfl | refine And.intro ?_ ?_ | decide))
      all_goals first | exact congrArg (Value.int _) (wd j hi ha) | trace_state
    · exact congrArg (Value.int _) (cmp_z he ‹_›).symm
/-! Rows of bytes of the reference: products. -/
def NVs (l : List Int) : List Value := l.map fun x => Value.int .i64 x
theorem NVs_rep (n : Nat) : NVs (List.replicate n 0) = repX n [.int .i64 0] := by
  induction n with
  | zero => rfl
  | succ n ih => rw [List.replicate_succ]; show Value.int .i64 0 :: NVs _ = _; rw [ih]; rfl
theorem rowI {l : List Int} {K : List Value → Prop} (n : Int) (h0 : 0 ≤ n) (h : n < (l.length : Int)) (k : K [.int .i64 (l.getD n.toNat 0)]) : RowN (NVs l) (n.toNat * 1) 1 K := by
  refine .mk _ ?_ rfl k
  have h2 : n.toNat < l.length := by omega
  rw [Nat.mul_one]
  unfold NVs
  have h3 : l.getD n.toNat 0 = l[n.toNat] := by simp [List.getD, h2]
  rw [h3, ← List.map_drop, ← List.map_take, List.drop_eq_getElem_cons h2]
  rfl
theorem rowI1 {l : List Int} {z : Int} {K : List Value → Prop} (n : Nat) (e : z = (n : Int)) (h : n < l.length) (k : K [.int .i64 (l.getD n 0)]) : RowN (NVs l) (z.toNat * 1) 1 K := by
  subst e
  exact rowI (n : Int) (Int.natCast_nonneg _) (Int.ofNat_lt.2 h) (by rw [Int.toNat_natCast]; exact k)
theorem rowI2 {l : List Int} {z z' v : Int} {K : List Value → Prop} (m n : Nat) (e' : z' = (m : Int)) (e : z = (n : Int)) (h : n < l.length) (k : K [.int .i64 ((l.set m v).getD n 0)]) : RowN (storeV (NVs l) (z'.toNat * 1) [.int .i64 v]) (z.toNat * 1) 1 K := by
  have q : storeV (NVs l) (z'.toNat * 1) [.int .i64 v] = NVs (l.set m v) := by
    subst e'
    rw [Int.toNat_natCast]
    show setL (NVs l) (m * 1) _ = _
    rw [setL_eq, Nat.mul_one]
    unfold NVs
    rw [List.map_set]
  rw [q]
  exact rowI1 n e (by simpa using h) k
theorem storeI {l : List Int} {x : Int} (n : Nat) : storeV (NVs l) (n * 1) [.int .i64 x] = NVs (l.set n x) := by
  show setL (NVs l) (n * 1) _ = _
  rw [setL_eq, Nat.mul_one]
  unfold NVs
  rw [List.map_set]
structure MulI (A B la lb i : Nat) (s : List Int) : Prop where
  len : s.length = la + lb + 1
  nn : NN s
  sum : sumI s ≤ 65025 * (i * lb : Nat)
  wv : wv s = ((A % 256 ^ i * B : Nat) : Int)
structure MulK (A B la lb i k : Nat) (s : List Int) : Prop where
  len : s.length = la + lb + 1
  nn : NN s
  sum : sumI s ≤ 65025 * (i * lb + k : Nat)
  wv : wv s = ((A % 256 ^ i * B + A / 256 ^ i % 256 * (B % 256 ^ k) * 256 ^ i : Nat) : Int)
theorem MulI.start {A B la lb : Nat} : MulI A B la lb 0 (List.replicate (la + lb + 1) 0) :=
  ⟨by simp, fun x hx => by rw [List.eq_of_mem_replicate hx]; exact Int.le_refl 0, by rw [sum_zero]; simp, by rw [wv_zero]; simp [Nat.mod_one]⟩
theorem MulI.row {A B la lb i : Nat} {s : List Int} (h : MulI A B la lb i s) : MulK A B la lb i 0 s := ⟨h.len, h.nn, h.sum, by rw [h.wv]; simp [Nat.mod_one]⟩
theorem MulK.row {A B la lb i : Nat} {s : List Int} (h : MulK A B la lb i lb s) (hB : B < 256 ^ lb) : MulI A B la lb (i + 1) s := by
  refine ⟨h.len, h.nn, ?_, ?_⟩
  · have := h.sum
    rw [Nat.succ_mul]
    exact this
  · rw [h.wv, Nat.mod_eq_of_lt hB, mod_step, Nat.add_mul]
    congr 2
    rw [Nat.mul_assoc, Nat.mul_comm B, ← Nat.mul_assoc, Nat.mul_comm (A / 256 ^ i % 256)]
theorem MulK.bound {A B la lb i k : Nat} {s : List Int} (h : MulK A B la lb i k s) (hi : i < la) (hk : k ≤ lb) (ha : la ≤ 500) (hb : lb ≤ 500) (j : Nat) : 0 ≤ s.getD j 0 ∧ s.getD j 0 ≤ 32512500000 := by
  refine ⟨h.nn.getD j, Int.le_trans (h.nn.le j) (Int.le_trans h.sum ?_)⟩
  have h1 : i * lb + k ≤ 499 * 500 + 500 := Nat.add_le_add (Nat.mul_le_mul (by omega) hb) (by omega)
  generalize i * lb + k = n at *
  omega
theorem MulK.step {A B la lb i k : Nat} {s : List Int} (h : MulK A B la lb i k s) (hi : i < la) (hk : k < lb) :
    MulK A B la lb i (k + 1) (mulSt s (i + k) (((A / 256 ^ i % 256 : Nat) : Int) * ((B / 256 ^ k % 256 : Nat) : Int))) := by
  obtain ⟨p1, p2⟩ := byte_mul (A := A) (B := B) (i := i) (k := k)
  have hj : i + k + 1 < s.length := by rw [h.len]; omega
  refine ⟨by rw [mulSt_len]; exact h.len, mulSt_nn h.nn p1, ?_, ?_⟩
  · have h1 := mulSt_sum h.nn p1 hj
    have h2 := h.sum
    rw [show i * lb + (k + 1) = i * lb + k + 1 by omega]
    generalize i * lb + k = n at *
    generalize ((A / 256 ^ i % 256 : Nat) : Int) * ((B / 256 ^ k % 256 : Nat) : Int) = p at *
    omega
  · rw [mulSt_wv hj, h.wv, mod_step]
    generalize A / 256 ^ i % 256 = x
    generalize B / 256 ^ k % 256 = y
    generalize A % 256 ^ i * B = z
    generalize B % 256 ^ k = u
    rw [Int.pow_add]
    push_cast
    generalize (256 : Int) ^ k = q
    generalize (256 : Int) ^ i = r
    generalize (x : Int) = x, (y : Int) = y, (z : Int) = z, (u : Int) = u
    rw [Int.mul_add, Int.add_mul, ← Int.add_assoc]
    congr 1
    rw [Int.mul_comm r q, ← Int.mul_assoc, Int.mul_assoc x y q, Int.mul_comm y q]
theorem w5 {x : Int} {a b : Nat} (hx : 0 ≤ x ∧ x ≤ 32512500000) (ha : a < 256) (hb : b < 256) : IntKind.i64.wrap (x + IntKind.i64.wrap ((a : Int) * (b : Int))) = x + (a : Int) * (b : Int) := by
  have := Nat.mul_le_mul (Nat.le_of_lt_succ ha) (Nat.le_of_lt_succ hb)
  have e : (a : Int) * (b : Int) = ((a * b : Nat) : Int) := by simp
  rw [e]
  generalize a * b = c at *
  have q : sg (c : Int) = (c : Int) := sg_in _ (by omega) (by omega)
  simp only [sg_eq]
  rw [q, sg_in _ (by omega) (by omega)]
theorem wadd {i k la lb : Nat} (hi : i < la) (hk : k < lb) (ha : la ≤ 500) (hb : lb ≤ 500) : IntKind.i64.wrap ((i : Int) + (k : Int)) = ((i + k : Nat) : Int) := by rw [sg_eq, sg_in _ (by omega) (by omega)]; omega
theorem wadd1 {i k la lb : Nat} (hi : i < la) (hk : k < lb) (ha : la ≤ 500) (hb : lb ≤ 500) : IntKind.i64.wrap (IntKind.i64.wrap ((i : Int) + (k : Int)) + 1) = ((i + k + 1 : Nat) : Int) := by rw [wadd hi hk ha hb, sg_eq, sg_in _ (by omega) (by omega)]; omega
theorem idx {z : Int} {n N : Nat} (e : z = (n : Int)) (h : n < N) : 0 ≤ z ∧ z < (N : Int) := by omega
theorem fit1 {z : Int} {n N L : Nat} (e : z = (n : Int)) (h : n < N) (hL : L = N) : z.toNat * 1 + 1 ≤ L := by omega
theorem lt3 {i k la lb : Nat} (hi : i < la) (hk : k < lb) : i + k < la + lb + 1 := by omega
theorem lt4 {i k la lb : Nat} (hi : i < la) (hk : k < lb) : i + k + 1 < la + lb + 1 := by omega
theorem mulrow {r : List Int} {j a b : Nat} {z z' w : Int} (e1 : z = (j : Int)) (e2 : z' = ((j + 1 : Nat) : Int)) (ha : a < 256) (hb : b < 256) (hr : ∀ j, 0 ≤ r.getD j 0 ∧ r.getD j 0 ≤ 32512500000) (ew : w = r.getD j 0 + (a : Int) * (b : Int)) :
    storeV (storeV (NVs r) (z.toNat * 1) [.int .i64 (w.tmod 256)]) (z'.toNat * 1) [.int .i64 (IntKind.i64.wrap ((r.set j (w.tmod 256)).getD (j + 1) 0 + IntKind.i64.wrap (w.tdiv 256)))] = NVs (mulSt r j ((a : Int) * (b : Int))) := by
  have h1 := hr j
  have h2 := hr (j + 1)
  have h3 : 0 ≤ (a : Int) * (b : Int) ∧ (a : Int) * (b : Int) ≤ 65025 := by
    have := Nat.mul_le_mul (Nat.le_of_lt_succ ha) (Nat.le_of_lt_succ hb)
    have e : (a : Int) * (b : Int) = ((a * b : Nat) : Int) := by simp
    rw [e]
    generalize a * b = c at *
    omega
  subst e1 e2
  rw [Int.toNat_natCast, Int.toNat_natCast, storeI, storeI]
  unfold mulSt
  rw [ew]
  generalize (a : Int) * (b : Int) = p at *
  have hs : (r.set j ((r.getD j 0 + p).tmod 256)).getD (j + 1) 0 = r.getD (j + 1) 0 := by simp [List.getD, List.getElem?_set_ne (show j ≠ j + 1 by omega)]
  have hs' : (r.set j ((r.getD j 0 + p) % 256)).getD (j + 1) 0 = r.getD (j + 1) 0 := by simp [List.getD, List.getElem?_set_ne (show j ≠ j + 1 by omega)]
  rw [hs, hs', Int.tmod_eq_emod_of_nonneg (by omega), Int.tdiv_eq_ediv_of_nonneg (by omega)]
  have q : sg ((r.getD j 0 + p) / 256) = (r.getD j 0 + p) / 256 := sg_in _ (by omega) (by omega)
  simp only [sg_eq]
  rw [q, sg_in _ (by omega) (by omega)]
theorem by_w {l : List Int} {z : Int} {i n : Nat} (g : l.getD i 0 = ((n % 256 : Nat) : Int)) (hz : z = (i : Int)) : IntKind.i64.wrap (l.getD z.toNat 0) = ((n % 256 : Nat) : Int) := by
  subst hz
  rw [Int.toNat_natCast, g, sg_eq, sg_in _ (by omega) (by omega)]
theorem MulI.bound {A B la lb i : Nat} {s : List Int} (h : MulI A B la lb i s) (hi : i ≤ la) (ha : la ≤ 500) (hb : lb ≤ 500) (j : Nat) : 0 ≤ s.getD j 0 ∧ s.getD j 0 ≤ 32512500000 := by
  refine ⟨h.nn.getD j, Int.le_trans (h.nn.le j) (Int.le_trans h.sum ?_)⟩
  have h1 : i * lb ≤ 500 * 500 := Nat.mul_le_mul (by omega) hb
  generalize i * lb = n at *
  omega
theorem cap1 {i lb j : Nat} (h : j < i + lb + 1) (ha : i ≤ 500) (hb : lb ≤ 500) : 0 < 0 + 1 ∧ (j + 1) * 1 ≤ 140737488355328 ∧ j + 1 ≤ 140737488355328 := by omega
theorem cap2 {i lb : Nat} (ha : i ≤ 500) (hb : lb ≤ 500) : i + lb + 1 ≤ 1000000000 := by omega
theorem cz {c : Nat} (hz : c = 0) (h : decide ((c : Int) > 0) = true) : False := by subst hz; simp at h
theorem cap3 {i lb : Nat} (ha : i ≤ 500) (hb : lb ≤ 500) : i + lb + 1 ≤ 1000000 := by omega
theorem mul_lt {A B i j : Nat} (hA : A < 256 ^ i) (hB : B < 256 ^ j) : A * B < 256 ^ (i + j + 1) := by
  have h1 : A * B ≤ 256 ^ i * 256 ^ j := Nat.mul_le_mul (Nat.le_of_lt hA) (Nat.le_of_lt hB)
  rw [Nat.pow_succ, Nat.pow_add]
  have := Nat.pow_pos (n := i) (show 0 < 256 by decide)
  have := Nat.pow_pos (n := j) (show 0 < 256 by decide)
  have : 0 < 256 ^ i * 256 ^ j := Nat.mul_pos ‹_› ‹_›
  generalize 256 ^ i * 256 ^ j = t at *
  omega
theorem div_big {V k : Nat} (h : V < 256 ^ k) : ((V : Nat) : Int) / 256 ^ k = 0 := Int.ediv_eq_zero_of_lt (Int.natCast_nonneg _) (by exact_mod_cast h)
/-- The carry. -/
structure CarI (V : Nat) (s : List Int) (j c : Nat) : Prop where
  le : c ≤ 32512500000
  eq : (c : Int) + wv (s.drop j) = (V : Int) / 256 ^ j
theorem CarI.step {V : Nat} {s : List Int} {j c n : Nat} (h : CarI V s j c) (hj : j < s.length) (hs : 0 ≤ s.getD j 0 ∧ s.getD j 0 ≤ 32512500000) (hn : (n : Int) = s.getD j 0 + c) : CarI V s (j + 1) (n / 256) ∧ ((n % 256 : Nat) : Int) = (V : Int) / 256 ^ j % 256 := by
  have e := h.eq
  have hl := h.le
  rw [wv_drop hj] at e
  constructor
  · refine ⟨by clear e; omega, ?_⟩
    have e2 : (V : Int) / 256 ^ (j + 1) = (V : Int) / 256 ^ j / 256 := by rw [Int.pow_succ, Int.ediv_ediv_of_nonneg (Int.le_of_lt (Int.pow_pos (by decide)))]
    rw [e2, ← e]
    generalize wv (s.drop (j + 1)) = w at *
    clear e e2
    omega
  · rw [← e]
    generalize wv (s.drop (j + 1)) = w at *
    clear e
    omega
theorem w6 {x : Int} {c n : Nat} (hx : 0 ≤ x ∧ x ≤ 32512500000) (hc : c ≤ 32512500000) (hn : (n : Int) = x + c) : IntKind.i64.wrap (x + (c : Int)) = (n : Int) ∧ IntKind.i64.wrap ((IntKind.i64.wrap (x + (c : Int))).tdiv 256) = ((n / 256 : Nat) : Int) ∧ IntKind.u8.wrap ((IntKind.i64.wrap (x + (c : Int))).tmod 256) = ((n % 256 : Nat) : Int) := by
  have e : IntKind.i64.wrap (x + (c : Int)) = (n : Int) := by rw [sg_eq, sg_in _ (by omega) (by omega), hn]
  refine ⟨e, ?_, ?_⟩
  · rw [e, Int.tdiv_eq_ediv_of_nonneg (by omega), sg_eq, sg_in _ (by omega) (by omega)]; omega
  · rw [e, Int.tmod_eq_emod_of_nonneg (by omega), IntKind.wrap_u8]; omega
set_option maxHeartbeats 4000000 in
theorem mul_f (A B : Nat) (ha : (byt A).length ≤ 500) (hb : (byt B).length ≤ 500) : DenF Tryz.prog 233 noFacts [.r 1 (byt A).length (BVs (byt A)), .r 1 (byt B).length (BVs (byt B))] [.sub 0 0 (byt (A * B)).length] [.row 5 1 ((byt A).length + (byt B).length + 1) (BVs (b8 ((byt A).length + (byt B).length + 1) ((A * B : Nat) : Int)))] := by
  refine DenF.fam rfl ?_
  intro ad1 b1 off1 c1 hs1 _ ad2 b2 off2 c2 hs2 _
  have F1 : FLe (rowF b1 off1 (BVs (byt A))) (orF (orF noFacts (rowF b1 off1 (BVs (byt A)))) (rowF b2 off2 (BVs (byt B)))) := le_orR.trans le_orL
  have F2 : FLe (rowF b2 off2 (BVs (byt B))) (orF (orF noFacts (rowF b1 off1 (BVs (byt A)))) (rowF b2 off2 (BVs (byt B)))) := le_orR
  generalize orF (orF noFacts (rowF b1 off1 (BVs (byt A)))) (rowF b2 off2 (BVs (byt B))) = F at *
  have hA := byt_lt A
  have hB := byt_lt B
  have gA := byt_getD A
  have gB := byt_getD B
  refine denV_of_body (args := [.slice ad1 (byt A).length c1, .slice ad2 (byt B).length c2]) hmix Tryz.func233 ?_
  generalize byt A = l1 at *
  generalize byt B = l2 at *
  generalize hla : l1.length = la at *
  generalize hlb : l2.length = lb at *
  have en : IntKind.i64.wrap (IntKind.i64.wrap ((la : Int) + (lb : Int)) + 1) = ((la + lb + 1 : Nat) : Int) := by
    have q : sg ((la : Int) + (lb : Int)) = (la : Int) + (lb : Int) := sg_in _ (by clear hA hB; omega) (by clear hA hB; omega)
    simp only [sg_eq]; rw [q, sg_in _ (by clear hA hB; omega) (by clear hA hB; omega)]; simp
  (repeat' ((conv => whnf); first | refine Ob.mk ⟨(by rw [en]; exact Int.natCast_nonneg _), (by rw [en]; exact Int.le_refl _), (by rw [en]; show ((la + lb + 1 : Nat) : Int) * ((8 : Nat) : Int) ≤ 140737488355328; clear hA hB; omega), (by rw [en]; clear hA hB; omega)⟩ ?_ | refine AdN.mk _ _ rfl ?_ | refine DrawN.a (Ob.mk (by decide +kernel) ?_) | refine DrawN.c (Ob.mk (by decide +kernel) ?_) | refine DrawN.b (Ob.mk (by decide +kernel) ?_) | refine Ob.mk (by kernel_rfl) ?_ | (refine Br.mk (fun h => ?_) (fun h => ?_) <;> (first | (exfalso; exact Bool.false_ne_true h) | (exfalso; exact Bool.false_ne_true h.symm) | skip)))); all_goals (conv => whnf)
  refine SeqN.go ?_
  (repeat' ((conv => whnf); first | refine AdN.mk _ _ rfl ?_ | refine DrawN.a (Ob.mk (by decide +kernel) ?_) | refine DrawN.c (Ob.mk (by decide +kernel) ?_) | refine DrawN.b (Ob.mk (by decide +kernel) ?_) | refine Ob.mk (by kernel_rfl) ?_ | (refine Br.mk (fun h => ?_) (fun h => ?_) <;> (first | (exfalso; exact Bool.false_ne_true h) | (exfalso; exact Bool.false_ne_true h.symm) | skip)))); all_goals (conv => whnf)
  refine LoopN.mk {x : Nat × List Int // x.1 ≤ la ∧ MulI A B la lb x.1 x.2} (fun x => [(6, .v (.int .i64 x.1.1)), (5, .s 0)]) (fun x => [.row 3 1 (la + lb + 1) (NVs x.1.2)]) (fun x => la - x.1.1) ⟨(0, List.replicate (la + lb + 1) 0), Nat.zero_le _, MulI.start⟩ ?_ ?_
  · (conv => whnf); (repeat' (first | exact True.intro | exact rfl | refine And.intro ?_ ?_ | decide))
    all_goals first | (rw [en]; exact Int.toNat_natCast _) | (rw [en]; exact (NVs_rep _).symm) | trace_state
  (conv => whnf)
  rintro ⟨⟨i, s⟩, hi, hI⟩
  dsimp only at hi hI
  (repeat' ((conv => whnf); first | refine AdN.mk _ _ rfl ?_ | refine DrawN.a (Ob.mk (by decide +kernel) ?_) | refine DrawN.c (Ob.mk (by decide +kernel) ?_) | refine DrawN.b (Ob.mk (by decide +kernel) ?_) | refine Ob.mk (by kernel_rfl) ?_ | (refine Br.mk (fun h => ?_) (fun h => ?_) <;> (first | (exfalso; exact Bool.false_ne_true h) | (exfalso; exact Bool.false_ne_true h.symm) | skip)))); all_goals (conv => whnf)
  refine SeqN.go ?_
  (repeat' ((conv => whnf); first | refine AdN.mk _ _ rfl ?_ | refine DrawN.a (Ob.mk (by decide +kernel) ?_) | refine DrawN.c (Ob.mk (by decide +kernel) ?_) | refine DrawN.b (Ob.mk (by decide +kernel) ?_) | refine Ob.mk (by kernel_rfl) ?_ | (refine Br.mk (fun h => ?_) (fun h => ?_) <;> (first | (exfalso; exact Bool.false_ne_true h) | (exfalso; exact Bool.false_ne_true h.symm) | skip)))); all_goals (conv => whnf)
  · have hil : i < la := Int.ofNat_lt.1 (of_decide_eq_true ‹decide ((i : Int) < (la : Int)) = true›)
    refine SeqN.go ?_
    (repeat' ((conv => whnf); first | refine AdN.mk _ _ rfl ?_ | refine DrawN.a (Ob.mk (by decide +kernel) ?_) | refine DrawN.c (Ob.mk (by decide +kernel) ?_) | refine DrawN.b (Ob.mk (by decide +kernel) ?_) | refine Ob.mk (by kernel_rfl) ?_ | (refine Br.mk (fun h => ?_) (fun h => ?_) <;> (first | (exfalso; exact Bool.false_ne_true h) | (exfalso; exact Bool.false_ne_true h.symm) | skip)))); all_goals (conv => whnf)
    refine LoopN.mk {x : Nat × List Int // x.1 ≤ lb ∧ MulK A B la lb i x.1 x.2} (fun x => [(7, .v (.int .i64 x.1.1)), (5, .s 0)]) (fun x => [.row 3 1 (la + lb + 1) (NVs x.1.2)]) (fun x => lb - x.1.1) ⟨(0, s), Nat.zero_le _, hI.row⟩ ?_ ?_
    · (conv => whnf); (repeat' (first | exact True.intro | exact rfl | refine And.intro ?_ ?_ | decide))
    (conv => whnf)
    rintro ⟨⟨k, r⟩, hk, hK⟩
    dsimp only at hk hK
    have hwi := wi hil (Nat.le_trans ha (by decide))
    have p1 : 0 < la := Nat.lt_of_le_of_lt (Nat.zero_le _) hil
    have hsl := hK.len
    by_cases hkl : k < lb
    · have e1 := wadd hil hkl ha hb
      have e2 := wadd1 hil hkl ha hb
      have i1 := idx e1 (show i + k < la + lb + 1 from lt3 hil hkl)
      have i2 := idx e2 (show i + k + 1 < la + lb + 1 from lt4 hil hkl)
      have p2 : 0 < lb := Nat.lt_of_le_of_lt (Nat.zero_le _) hkl
      have bi : 0 ≤ (i : Int) ∧ (i : Int) < (l1.length : Int) := ⟨Int.natCast_nonneg _, by rw [hla]; exact Int.ofNat_lt.2 hil⟩
      have bk : 0 ≤ (k : Int) ∧ (k : Int) < (l2.length : Int) := ⟨Int.natCast_nonneg _, by rw [hlb]; exact Int.ofNat_lt.2 hkl⟩
      (repeat' ((conv => whnf); first | refine Ob.mk (hla ▸ bi) ?_ | refine Ob.mk (hlb ▸ bk) ?_ | refine Ob.mk i1 ?_ | refine Ob.mk i2 ?_ | refine AdN.mk b1 off1 (hs1 p1) ?_ | refine AdN.mk b2 off2 (hs2 p2) ?_ | refine cellsF F1 (i : Int) bi.1 bi.2 ?_ | refine cellsF F2 (k : Int) bk.1 bk.2 ?_ | refine rowI1 (i + k) e1 (by rw [hsl]; exact lt3 hil hkl) ?_ | refine rowI2 (i + k) (i + k + 1) e1 e2 (by rw [hsl]; exact lt4 hil hkl) ?_ | refine Ob.mk (by decide) ?_ | refine Ob.mk (fit1 e1 (lt3 hil hkl) (by simp [NVs, hsl])) ?_ | refine Ob.mk (fit1 e2 (lt4 hil hkl) (by rw [storeV_len]; simp [NVs, hsl])) ?_ | refine AdN.mk _ _ rfl ?_ | refine DrawN.a (Ob.mk (by decide +kernel) ?_) | refine DrawN.c (Ob.mk (by decide +kernel) ?_) | refine DrawN.b (Ob.mk (by decide +kernel) ?_) | refine Ob.mk (by kernel_rfl) ?_ | (refine Br.mk (fun h => ?_) (fun h => ?_) <;> (first | (exfalso; exact Bool.false_ne_true h) | (exfalso; exact Bool.false_ne_true h.symm) | (exfalso; exact absurd (Int.ofNat_lt.2 hkl) (of_decide_eq_false ‹_›)) | skip)) | refine SeqN.go ?_)); all_goals (conv => whnf)
      have hb0 := hK.bound hil hk ha hb
      have ew := w5 (hb0 (i + k)) (Nat.mod_lt (A / 256 ^ i) (show 0 < 256 by decide)) (Nat.mod_lt (B / 256 ^ k) (show 0 < 256 by decide))
      rw [← by_w (gA i) rfl, ← by_w (gB k) rfl] at ew
      have key := mulrow e1 e2 (Nat.mod_lt (A / 256 ^ i) (show 0 < 256 by decide)) (Nat.mod_lt (B / 256 ^ k) (show 0 < 256 by decide)) hb0 (ew.trans (by rw [by_w (gA i) rfl, by_w (gB k) rfl]))
      refine RoundN.mk ⟨(k + 1, _), hkl, hK.step hil hkl⟩ (Nat.sub_succ_lt_self _ _ hkl) ?_
      (conv => whnf); (repeat' (first | exact True.intro | exact rfl | refine And.intro ?_ ?_ | decide))
      all_goals first | exact congrArg (Value.int _) (wi hkl (Nat.le_trans hb (by decide))) | exact key | trace_state
    · obtain rfl : k = lb := Nat.le_antisymm hk (Nat.le_of_not_lt hkl)
      (repeat' ((conv => whnf); first | refine AdN.mk _ _ rfl ?_ | refine DrawN.a (Ob.mk (by decide +kernel) ?_) | refine DrawN.c (Ob.mk (by decide +kernel) ?_) | refine DrawN.b (Ob.mk (by decide +kernel) ?_) | refine Ob.mk (by kernel_rfl) ?_ | (refine Br.mk (fun h => ?_) (fun h => ?_) <;> (first | (exfalso; exact Bool.false_ne_true h) | (exfalso; exact Bool.false_ne_true h.symm) | (exfalso; exact absurd (Int.ofNat_lt.1 (of_decide_eq_true ‹_›)) hkl) | skip)) | refine SeqN.go ?_)); all_goals (conv => whnf)
      refine RoundN.mk ⟨(i + 1, r), hil, hK.row hB⟩ (Nat.sub_succ_lt_self _ _ hil) ?_
      (conv => whnf); (repeat' (first | exact True.intro | exact rfl | refine And.intro ?_ ?_ | decide))
      all_goals first | exact congrArg (Value.int _) hwi | trace_state
  · obtain rfl : i = la := eq_of_le hi (of_decide_eq_false ‹_›)
    have hv : wv s = ((A * B : Nat) : Int) := by rw [hI.wv, Nat.mod_eq_of_lt hA]
    have hsl := hI.len
    have hnn := hI.nn
    refine SeqN.nilRow 9 5 1 rfl ?_
    (conv => whnf)
    refine SeqN.go ?_
    (repeat' ((conv => whnf); first | refine AdN.mk _ _ rfl ?_ | refine DrawN.a (Ob.mk (by decide +kernel) ?_) | refine DrawN.c (Ob.mk (by decide +kernel) ?_) | refine DrawN.b (Ob.mk (by decide +kernel) ?_) | refine Ob.mk (by kernel_rfl) ?_ | (refine Br.mk (fun h => ?_) (fun h => ?_) <;> (first | (exfalso; exact Bool.false_ne_true h) | (exfalso; exact Bool.false_ne_true h.symm) | skip)))); all_goals (conv => whnf)
    have hbs := hI.bound (Nat.le_refl _) ha hb
    refine LoopN.mk {x : Nat × Nat // x.1 ≤ i + lb + 1 ∧ CarI (A * B) s x.1 x.2} (fun x => [(11, .v (.int .i64 x.1.1)), (10, .v (.int .i64 x.1.2)), (9, .s 1)]) (fun x => [.row 3 1 (i + lb + 1) (NVs s), .row 5 1 x.1.1 (BVs (b8 x.1.1 ((A * B : Nat) : Int)))]) (fun x => i + lb + 1 - x.1.1) ⟨(0, 0), Nat.zero_le _, Nat.zero_le _, by rw [List.drop_zero, hv]; simp⟩ ?_ ?_
    · (conv => whnf); (repeat' (first | exact True.intro | exact rfl | refine And.intro ?_ ?_ | decide))
    (conv => whnf)
    rintro ⟨⟨j, c⟩, hj, hC⟩
    dsimp only at hj hC
    by_cases hjl : j < i + lb + 1
    · have hx := hbs j
      obtain ⟨n, hn⟩ : ∃ n : Nat, (n : Int) = s.getD j 0 + c := ⟨(s.getD j 0 + c).toNat, Int.toNat_of_nonneg (Int.add_nonneg hx.1 (Int.natCast_nonneg _))⟩
      obtain ⟨q1, q2, q3⟩ := w6 hx hC.le hn
      obtain ⟨s1, s2⟩ := hC.step (by rw [hsl]; exact hjl) hx hn
      have hsn := b8_snoc j ((A * B : Nat) : Int)
      (repeat' ((conv => whnf); first | refine Ob.mk ⟨Int.natCast_nonneg _, Int.ofNat_lt.2 hjl⟩ ?_ | refine rowI1 j rfl (by rw [hsl]; exact hjl) ?_ | refine Ob.mk (by decide) ?_ | refine Ob.mk (cap1 hjl ha hb) ?_ | refine AdN.mk _ _ rfl ?_ | refine DrawN.a (Ob.mk (by decide +kernel) ?_) | refine DrawN.c (Ob.mk (by decide +kernel) ?_) | refine DrawN.b (Ob.mk (by decide +kernel) ?_) | refine Ob.mk (by kernel_rfl) ?_ | (refine Br.mk (fun h => ?_) (fun h => ?_) <;> (first | (exfalso; exact Bool.false_ne_true h) | (exfalso; exact Bool.false_ne_true h.symm) | (exfalso; exact absurd (Int.ofNat_lt.2 hjl) (of_decide_eq_false ‹_›)) | skip)) | refine SeqN.go ?_)); all_goals (conv => whnf)
      refine RoundN.mk ⟨(j + 1, n / 256), hjl, s1⟩ (Nat.sub_succ_lt_self _ _ hjl) ?_
      (conv => whnf); (repeat' (first | exact True.intro | exact rfl | refine And.intro ?_ ?_ | decide))
      all_goals first | exact congrArg (Value.int _) (wi hjl (cap2 ha hb)) | exact congrArg (Value.int _) q2 | (dsimp only; rw [hsn, q3, s2]; simp [BVs]; done) | trace_state
    · obtain rfl : j = i + lb + 1 := Nat.le_antisymm hj (Nat.le_of_not_lt hjl)
      have hV : A * B < 256 ^ (i + lb + 1) := mul_lt hA hB
      have hz : c = 0 := by
        have := hC.eq
        rw [List.drop_eq_nil_of_le (by rw [hsl]; exact Nat.le_refl _), div_big hV] at this
        simpa [wv] using this
      (repeat' ((conv => whnf); first | refine AdN.mk _ _ rfl ?_ | refine DrawN.a (Ob.mk (by decide +kernel) ?_) | refine DrawN.c (Ob.mk (by decide +kernel) ?_) | refine DrawN.b (Ob.mk (by decide +kernel) ?_) | refine Ob.mk (by kernel_rfl) ?_ | (refine Br.mk (fun h => ?_) (fun h => ?_) <;> (first | (exfalso; exact Bool.false_ne_true h) | (exfalso; exact Bool.false_ne_true h.symm) | (exfalso; exact absurd (Int.ofNat_lt.1 (of_decide_eq_true ‹_›)) hjl) | skip)))); all_goals (conv => whnf)
      refine SeqN.go ?_
      (repeat' ((conv => whnf); first | refine AdN.mk _ _ rfl ?_ | refine DrawN.a (Ob.mk (by decide +kernel) ?_) | refine DrawN.c (Ob.mk (by decide +kernel) ?_) | refine DrawN.b (Ob.mk (by decide +kernel) ?_) | refine Ob.mk (by kernel_rfl) ?_ | (refine Br.mk (fun h => ?_) (fun h => ?_) <;> (first | (exfalso; exact Bool.false_ne_true h) | (exfalso; exact Bool.false_ne_true h.symm) | (exfalso; exact absurd (Int.ofNat_lt.1 (of_decide_eq_true ‹_›)) hjl) | skip)))); all_goals (conv => whnf)
      refine SeqN.go ?_
      (conv => whnf)
      refine LoopN.roll 1 ?_
      have T := trim_f (b8 (i + lb + 1) ((A * B : Nat) : Int)) (by rw [b8_len]; exact cap3 ha hb)
      rw [b8_len] at T
      (repeat' ((conv => whnf); first | refine CallA.anyFresh _ _ T ?_ | refine AdN.mk _ _ rfl ?_ | refine DrawN.a (Ob.mk (by decide +kernel) ?_) | refine DrawN.c (Ob.mk (by decide +kernel) ?_) | refine DrawN.b (Ob.mk (by decide +kernel) ?_) | refine Ob.mk (by kernel_rfl) ?_ | (refine Br.mk (fun h => ?_) (fun h => ?_) <;> (first | (exfalso; exact Bool.false_ne_true h) | (exfalso; exact Bool.false_ne_true h.symm) | (exfalso; exact cz hz ‹_›) | skip)) | refine SeqN.go ?_)); all_goals (conv => whnf)
      refine RetN.mk [2] (by decide) rfl ?_ ?_ <;> (conv => whnf); (repeat' (first | exact True.intro | exact rfl | refine And.intro ?_ ?_ | decide))
      all_goals first | (rw [b8_trim hV]; done) | trace_state
end Go.Proofs.YtljhbdgoknfkcaaGreatDoor
