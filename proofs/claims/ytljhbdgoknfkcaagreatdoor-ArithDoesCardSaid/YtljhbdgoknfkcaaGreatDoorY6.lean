/- Rows of bytes of the reference: sums, differences, which is less. -/
import Derived.Test.YtljhbdgoknfkcaaGreatDoorY3
import Derived.Test.YtljhbdgoknfkcaaGreatDoorPZ
namespace Go.Proofs.YtljhbdgoknfkcaaGreatDoor
open Go Go.RowKit Go.Sort
set_option linter.unusedVariables false
set_option linter.unusedSimpArgs false
set_option maxRecDepth 100000

theorem b8_snoc : ∀ (k : Nat) (x : Int), b8 (k + 1) x = b8 k x ++ [x / 256 ^ k % 256]
  | 0, x => by simp [b8]
  | k + 1, x => by
    show x % 256 :: b8 (k + 1) (x / 256) = (x % 256 :: b8 k (x / 256)) ++ [x / 256 ^ (k + 1) % 256]
    rw [b8_snoc k (x / 256), Int.ediv_ediv_of_nonneg (by decide), Int.pow_succ, Int.mul_comm (256 ^ k) 256]
    rfl
theorem b8_trim {k n : Nat} (h : n < 256 ^ k) : trimL (b8 k (n : Int)) = byt n := by
  rw [trimL_eq (b8_by k _), b8_val k _ (by omega), Int.toNat_natCast, Nat.mod_eq_of_lt h]
theorem cellsB' {l : List Int} {b off : Nat} {K : List Value → Prop} (n : Int) (h0 : 0 ≤ n) (h : n < (l.length : Int)) (k : K [.int .u8 (l.getD n.toNat 0)]) : CellsN (rowF b off (BVs l)) b (off + n.toNat * 1) 1 K := by
  refine .mk _ (fun j v hj => ⟨rfl, n.toNat + j, by omega, ?_⟩) rfl k
  have h2 : n.toNat < l.length := by omega
  rcases j with _ | j
  · simp at hj
    subst hj
    unfold BVs
    rw [Nat.add_zero, List.getElem?_map, List.getElem?_eq_getElem h2]
    simp [List.getD, h2]
  · simp at hj
theorem at_m (l : List Int) (i : Int) (h0 : 0 ≤ i) (hb : BY l) (ad : Option Addr) (b off c : Nat) (hs : 0 < l.length → ad = some ⟨b, off, none⟩) : Den Tryz.prog 253 #[.slice ad l.length c, .int .i64 i] (rowF b off (BVs l)) (.int .i64 (l.getD i.toNat 0)) := by
  refine den_of_body (args := [.slice ad l.length c, .int .i64 i]) hmix Tryz.func253 ?_
  have o1 : decide (i < (l.length : Int)) = true → 0 ≤ i ∧ i < (l.length : Int) := fun h => ⟨h0, of_decide_eq_true h⟩
  (repeat' ((conv => whnf); first | refine Ob.mk (o1 ‹_›) ?_ | refine AdN.mk b off (hs (by have := (o1 ‹_›).2; omega)) ?_ | refine cellsB' i h0 (o1 ‹_›).2 ?_ | refine AdN.mk _ _ rfl ?_ | refine DrawN.a (Ob.mk (by decide +kernel) ?_) | refine DrawN.c (Ob.mk (by decide +kernel) ?_) | refine DrawN.b (Ob.mk (by decide +kernel) ?_) | refine Ob.mk (by kernel_rfl) ?_ | (refine Br.mk (fun h => ?_) (fun h => ?_) <;> (first | (exfalso; exact Bool.false_ne_true h) | (exfalso; exact Bool.false_ne_true h.symm) | skip)) | refine SeqN.go ?_)); all_goals (conv => whnf)
  · have h := o1 ‹_›
    have hx := hb (l.getD i.toNat 0) (by have hjl : i.toNat < l.length := by omega
                                         simp [List.getD, hjl])
    refine congrArg (Value.int _) ?_
    rw [sg_eq]; exact (sg_in _ (by omega) (by omega))
  · have h : ¬ i < (l.length : Int) := of_decide_eq_false ‹_›
    refine congrArg (Value.int _) ?_
    rw [show l.getD i.toNat 0 = 0 by simp [List.getD, show l.length ≤ i.toNat by omega]]
def addM (A B : Nat) : Nat := max (byt A).length (byt B).length
def addN (A B : Nat) : Nat := if A + B < 256 ^ addM A B then addM A B else addM A B + 1
def addR (A B : Nat) : List Int := b8 (addN A B) ((A + B : Nat) : Int)
theorem add_lt (A B : Nat) : A + B < 256 ^ addN A B := by
  unfold addN
  split
  · assumption
  · have h1 : A < 256 ^ addM A B := Nat.lt_of_lt_of_le (byt_lt A) (Nat.pow_le_pow_right (by decide) (Nat.le_max_left _ _))
    have h2 : B < 256 ^ addM A B := Nat.lt_of_lt_of_le (byt_lt B) (Nat.pow_le_pow_right (by decide) (Nat.le_max_right _ _))
    rw [Nat.pow_succ]
    omega
theorem addR_trim (A B : Nat) : trimL (addR A B) = byt (A + B) := b8_trim (add_lt A B)
theorem addR_len (A B : Nat) : (addR A B).length = addN A B := b8_len _ _
theorem addR_part (A B : Nat) : partRow 1 0 (byt (A + B)).length (BVs (addR A B)) = BVs (byt (A + B)) := by
  have e := addR_trim A B
  unfold partRow BVs
  rw [List.drop_zero, Nat.mul_one, ← List.map_take, ← e, trim_take]
/-- A step of a sum. -/
theorem add_step {A B S i c : Nat} (hS : c + A / 256 ^ i + B / 256 ^ i = S / 256 ^ i) :
    (A / 256 ^ i % 256 + B / 256 ^ i % 256 + c) % 256 = S / 256 ^ i % 256 ∧ (A / 256 ^ i % 256 + B / 256 ^ i % 256 + c) / 256 + A / 256 ^ (i + 1) + B / 256 ^ (i + 1) = S / 256 ^ (i + 1) := by
  rw [Nat.pow_succ, ← Nat.div_div_eq_div_mul, ← Nat.div_div_eq_div_mul, ← Nat.div_div_eq_div_mul]
  omega
theorem w3 {x y c : Nat} (hx : x < 256) (hy : y < 256) (hc : c ≤ 1) : IntKind.i64.wrap (IntKind.i64.wrap ((x : Int) + (y : Int)) + (c : Int)) = ((x + y + c : Nat) : Int) := by
  have q : sg ((x : Int) + (y : Int)) = (x : Int) + (y : Int) := sg_in _ (by omega) (by omega)
  simp only [sg_eq]; rw [q, sg_in _ (by omega) (by omega)]; omega
theorem w3a {x y c : Nat} (hx : x < 256) (hy : y < 256) (hc : c ≤ 1) : (x + y + c) / 256 ≤ 1 := by omega
theorem w3b {x y c : Nat} (hx : x < 256) (hy : y < 256) (hc : c ≤ 1) : IntKind.i64.wrap ((IntKind.i64.wrap (IntKind.i64.wrap ((x : Int) + (y : Int)) + (c : Int))).tdiv 256) = (((x + y + c) / 256 : Nat) : Int) := by
  rw [w3 hx hy hc, sg_eq, Int.tdiv_eq_ediv_of_nonneg (by omega)]
  rw [sg_in _ (by omega) (by omega)]
  omega
theorem wi {i n : Nat} (h : i < n) (hn : n ≤ 1000000000) : IntKind.i64.wrap ((i : Int) + 1) = ((i + 1 : Nat) : Int) := by rw [sg_eq, sg_in _ (by omega) (by omega)]; omega
theorem nz3 {c x y : Nat} (h : c + x + y = 0) : c = 0 := by omega
set_option maxHeartbeats 2000000 in
theorem add_f (A B : Nat) (ha : (byt A).length ≤ 500) (hb : (byt B).length ≤ 500) : DenF Tryz.prog 231 noFacts [.r 1 (byt A).length (BVs (byt A)), .r 1 (byt B).length (BVs (byt B))] [.sub 0 0 (byt (A + B)).length] [.row 5 1 (addN A B) (BVs (addR A B))] := by
  refine DenF.fam rfl ?_
  intro ad1 b1 off1 c1 hs1 _ ad2 b2 off2 c2 hs2 _
  have F1 : FLe (rowF b1 off1 (BVs (byt A))) (orF (orF noFacts (rowF b1 off1 (BVs (byt A)))) (rowF b2 off2 (BVs (byt B)))) := le_orR.trans le_orL
  have F2 : FLe (rowF b2 off2 (BVs (byt B))) (orF (orF noFacts (rowF b1 off1 (BVs (byt A)))) (rowF b2 off2 (BVs (byt B)))) := le_orR
  generalize orF (orF noFacts (rowF b1 off1 (BVs (byt A)))) (rowF b2 off2 (BVs (byt B))) = F at *
  refine denV_of_body (args := [.slice ad1 (byt A).length c1, .slice ad2 (byt B).length c2]) hmix Tryz.func231 ?_
  have hN : addN A B ≤ 501 := by unfold addN addM; split <;> omega
  have hM1 : (byt A).length ≤ addM A B := Nat.le_max_left _ _
  have hM2 : (byt B).length ≤ addM A B := Nat.le_max_right _ _
  (repeat' ((conv => whnf); first | refine AdN.mk _ _ rfl ?_ | refine DrawN.a (Ob.mk (by decide +kernel) ?_) | refine DrawN.c (Ob.mk (by decide +kernel) ?_) | refine DrawN.b (Ob.mk (by decide +kernel) ?_) | refine Ob.mk (by kernel_rfl) ?_ | (refine Br.mk (fun h => ?_) (fun h => ?_) <;> (first | (exfalso; exact Bool.false_ne_true h) | (exfalso; exact Bool.false_ne_true h.symm) | skip)))); all_goals (conv => whnf)
  refine SeqN.nilRow 5 5 1 rfl ?_
  (conv => whnf)
  refine SeqN.go ?_
  (repeat' ((conv => whnf); first | refine AdN.mk _ _ rfl ?_ | refine DrawN.a (Ob.mk (by decide +kernel) ?_) | refine DrawN.c (Ob.mk (by decide +kernel) ?_) | refine DrawN.b (Ob.mk (by decide +kernel) ?_) | refine Ob.mk (by kernel_rfl) ?_ | (refine Br.mk (fun h => ?_) (fun h => ?_) <;> (first | (exfalso; exact Bool.false_ne_true h) | (exfalso; exact Bool.false_ne_true h.symm) | skip)))); all_goals (conv => whnf)
  refine LoopN.mk {x : Nat × Nat // x.1 ≤ addN A B ∧ x.2 ≤ 1 ∧ x.2 + A / 256 ^ x.1 + B / 256 ^ x.1 = (A + B) / 256 ^ x.1} (fun x => [(7, .v (.int .i64 x.1.1)), (6, .v (.int .i64 x.1.2)), (5, .s 0)]) (fun x => [.row 5 1 x.1.1 (BVs (b8 x.1.1 ((A + B : Nat) : Int)))]) (fun x => addN A B - x.1.1) ⟨(0, 0), by simp⟩ ?_ ?_
  · (conv => whnf); (repeat' (first | exact True.intro | exact rfl | refine And.intro ?_ ?_ | decide))
  (conv => whnf)
  rintro ⟨⟨i, c⟩, hi, hc, he⟩
  dsimp only at hi hc he
  have D1 := (at_m (byt A) (i : Int) (by omega) (byt_by A) ad1 b1 off1 c1 hs1).mono F1
  have D2 := (at_m (byt B) (i : Int) (by omega) (byt_by B) ad2 b2 off2 c2 hs2).mono F2
  rw [Int.toNat_natCast, byt_getD] at D1 D2
  (repeat' ((conv => whnf); first | refine CallN.mk _ D1 ?_ | refine CallN.mk _ D2 ?_ | refine Ob.mk (by decide) ?_ | refine Ob.mk ⟨by omega, (by show (i + 1) * 1 ≤ 140737488355328; omega), (by show i + 1 ≤ 140737488355328; omega)⟩ ?_ | refine AdN.mk _ _ rfl ?_ | refine DrawN.a (Ob.mk (by decide +kernel) ?_) | refine DrawN.c (Ob.mk (by decide +kernel) ?_) | refine DrawN.b (Ob.mk (by decide +kernel) ?_) | refine Ob.mk (by kernel_rfl) ?_ | (refine Br.mk (fun h => ?_) (fun h => ?_) <;> (first | (exfalso; exact Bool.false_ne_true h) | (exfalso; exact Bool.false_ne_true h.symm) | skip)) | refine SeqN.go ?_)); all_goals (conv => whnf)
  all_goals clear D1 D2
  rotate_left 3
  · have h1 : ¬ (i : Int) < ((byt A).length : Int) := of_decide_eq_false ‹_›
    have h2 : ¬ (i : Int) < ((byt B).length : Int) := of_decide_eq_false ‹decide ((i : Int) < ((byt B).length : Int)) = false›
    have h3 : ¬ (c : Int) > 0 := of_decide_eq_false ‹decide ((c : Int) > 0) = false›
    have hz : (A + B) / 256 ^ i = 0 := by rw [← he, byt_big (by omega), byt_big (by omega)]; omega
    obtain rfl : i = addN A B := by
      have hm : addM A B ≤ i := by unfold addM; omega
      have hS : A + B < 256 ^ i := by
        have := Nat.pow_pos (n := i) (show 0 < 256 by decide)
        rcases Nat.div_eq_zero_iff.1 hz with h | h
        · omega
        · exact h
      by_cases hs : A + B < 256 ^ addM A B
      · have e : addN A B = addM A B := if_pos hs
        omega
      · have e : addN A B = addM A B + 1 := if_neg hs
        by_cases hc : i = addM A B
        · exact absurd (hc ▸ hS) hs
        · omega
    have T := trim_f (addR A B) (by rw [addR_len]; omega)
    rw [addR_len] at T
    refine CallA.anyFresh _ _ T ?_
    (repeat' ((conv => whnf); first | refine AdN.mk _ _ rfl ?_ | refine DrawN.a (Ob.mk (by decide +kernel) ?_) | refine DrawN.c (Ob.mk (by decide +kernel) ?_) | refine DrawN.b (Ob.mk (by decide +kernel) ?_) | refine Ob.mk (by kernel_rfl) ?_ | (refine Br.mk (fun h => ?_) (fun h => ?_) <;> (first | (exfalso; exact Bool.false_ne_true h) | (exfalso; exact Bool.false_ne_true h.symm) | skip)) | refine SeqN.go ?_)); all_goals (conv => whnf)
    refine RetN.mk [1] (by decide) rfl ?_ ?_ <;> (conv => whnf); (repeat' (first | exact True.intro | exact rfl | refine And.intro ?_ ?_ | decide))
    all_goals first | (rw [addR_trim]; done) | trace_state
  all_goals
    have hlt : i < addN A B := by
      first
        | (have h1 : (i : Int) < ((byt A).length : Int) := of_decide_eq_true ‹_›
           have : addM A B ≤ addN A B := by unfold addN; split <;> omega
           omega)
        | (have h1 : (i : Int) < ((byt B).length : Int) := of_decide_eq_true ‹_›
           have : addM A B ≤ addN A B := by unfold addN; split <;> omega
           omega)
        | (have h1 : (c : Int) > 0 := of_decide_eq_true ‹_›
           refine Nat.lt_of_le_of_ne hi fun e => ?_
           have := Nat.div_eq_of_lt (add_lt A B)
           rw [← e, ← he] at this
           rw [nz3 this] at h1
           exact absurd h1 (by decide))
    obtain ⟨s1, s2⟩ := add_step he
    have a1 : A / 256 ^ i % 256 < 256 := Nat.mod_lt _ (by decide)
    have b1 : B / 256 ^ i % 256 < 256 := Nat.mod_lt _ (by decide)
    have hsn := b8_snoc i ((A + B : Nat) : Int)
    have hd : ((A + B : Nat) : Int) / 256 ^ i % 256 = (((A / 256 ^ i % 256 + B / 256 ^ i % 256 + c) % 256 : Nat) : Int) := by rw [s1]; simp
    rw [hd] at hsn
    clear hd s1
    generalize A / 256 ^ i % 256 = x at *
    generalize B / 256 ^ i % 256 = y at *
    refine RoundN.mk ⟨(i + 1, (x + y + c) / 256), hlt, w3a a1 b1 hc, s2⟩ (Nat.sub_succ_lt_self _ _ hlt) ?_
    have e1 := w3 a1 b1 hc
    (conv => whnf); (repeat' (first | exact True.intro | exact rfl | refine And.intro ?_ ?_ | decide))
    all_goals first
      | exact congrArg (Value.int _) (wi hlt (Nat.le_trans hN (by decide)))
      | exact congrArg (Value.int _) (w3b a1 b1 hc)
      | (dsimp only; rw [hsn, e1, Int.tmod_eq_emod_of_nonneg (Int.natCast_nonneg _), IntKind.wrap_u8, Int.emod_emod]; simp [BVs]; done)
      | trace_state
end Go.Proofs.YtljhbdgoknfkcaaGreatDoor
