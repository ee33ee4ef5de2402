/- Rows of bytes of the reference: of limbs, and back. -/
import Derived.Test.YtljhbdgoknfkcaaGreatDoorY1
namespace Go.Proofs.YtljhbdgoknfkcaaGreatDoor
open Go Go.RowKit Go.Sort
set_option linter.unusedVariables false
set_option linter.unusedSimpArgs false
set_option maxRecDepth 100000

def UVs (l : List Int) : List Value := l.map fun x => Value.int .u64 x
theorem cellsU {l : List Int} {b off : Nat} {K : List Value → Prop} (n : Int) (h0 : 0 ≤ n) (h : n < (l.length : Int)) (k : K [.int .u64 (l.getD n.toNat 0)]) : CellsN (orF noFacts (rowF b off (UVs l))) b (off + n.toNat * 1) 1 K := by
  refine .mk _ (fun j v hj => .inr ⟨rfl, n.toNat + j, by omega, ?_⟩) rfl k
  have h2 : n.toNat < l.length := by omega
  rcases j with _ | j
  · simp at hj
    subst hj
    unfold UVs
    rw [Nat.add_zero, List.getElem?_map, List.getElem?_eq_getElem h2]
    simp [List.getD, h2]
  · simp at hj
/-- So many bytes of a number. -/
def b8 : Nat → Int → List Int
  | 0, _ => []
  | k + 1, x => x % 256 :: b8 k (x / 256)
theorem b8_len : ∀ (k : Nat) (x : Int), (b8 k x).length = k
  | 0, _ => rfl
  | k + 1, x => by simp [b8, b8_len k]
theorem b8_by : ∀ (k : Nat) (x : Int), BY (b8 k x)
  | 0, _ => by intro y hy; cases hy
  | k + 1, x => by
    intro y hy
    rcases List.mem_cons.1 hy with rfl | hy
    · omega
    · exact b8_by k _ y hy
theorem b8_val : ∀ (k : Nat) (x : Int), 0 ≤ x → bval (b8 k x) = x.toNat % 256 ^ k
  | 0, x, h => by simp [b8, bval, Nat.mod_one]
  | k + 1, x, h => by
    show (x % 256).toNat + 256 * bval (b8 k (x / 256)) = _
    rw [b8_val k (x / 256) (by omega), Nat.pow_succ, Nat.mul_comm (256 ^ k) 256, Nat.mod_mul]
    have e1 : (x % 256).toNat = x.toNat % 256 := by omega
    have e2 : (x / 256).toNat = x.toNat / 256 := by omega
    rw [e1, e2]
def flat8 (l : List Int) : List Int := l.flatMap (b8 8)
def lval : List Int → Nat
  | [] => 0
  | x :: l => x.toNat + 18446744073709551616 * lval l
theorem flat8_len (l : List Int) : (flat8 l).length = 8 * l.length := by
  induction l with
  | nil => rfl
  | cons x l ih =>
    show (b8 8 x ++ flat8 l).length = _
    rw [List.length_append, b8_len, ih, List.length_cons]; omega
theorem flat8_by (l : List Int) : BY (flat8 l) := by
  intro y hy
  obtain ⟨x, _, h⟩ := List.mem_flatMap.1 hy
  exact b8_by 8 x y h
theorem flat8_val : ∀ (l : List Int), (∀ x ∈ l, (0 ≤ x ∧ x ≤ 18446744073709551615)) → bval (flat8 l) = lval l
  | [], _ => rfl
  | x :: l, h => by
    show bval (b8 8 x ++ flat8 l) = _
    have hx := h x (List.mem_cons_self ..)
    rw [bval_app, b8_len, b8_val 8 x hx.1, flat8_val l fun y hy => h y (List.mem_cons_of_mem _ hy)]
    have : x.toNat % 256 ^ 8 = x.toNat := Nat.mod_eq_of_lt (by have := hx.2; omega)
    rw [this]
    rfl
theorem flat8_trim {l : List Int} (h : ∀ x ∈ l, (0 ≤ x ∧ x ≤ 18446744073709551615)) : trimL (flat8 l) = byt (lval l) := by rw [trimL_eq (flat8_by l), flat8_val l h]
theorem flat8_take {l : List Int} {i : Nat} (h : i < l.length) : flat8 (l.take (i + 1)) = flat8 (l.take i) ++ b8 8 (l.getD i 0) := by
  rw [take_last h]
  simp [flat8]
set_option maxHeartbeats 2000000 in
theorem of_v (l : List Int) (hu : ∀ x ∈ l, (0 ≤ x ∧ x ≤ 18446744073709551615)) (hl : l.length ≤ 1000) : DenF Tryz.prog 172 noFacts [.r 1 l.length (UVs l)] [.sub 0 0 (byt (lval l)).length] [.row 5 1 (8 * l.length) (BVs (flat8 l))] := by
  refine DenF.fam rfl ?_
  intro ad b off c hs _
  refine denV_of_body (args := [.slice ad l.length c]) hmix Tryz.func172 ?_
  (repeat' ((conv => whnf); first | refine AdN.mk _ _ rfl ?_ | refine DrawN.a (Ob.mk (by decide +kernel) ?_) | refine DrawN.c (Ob.mk (by decide +kernel) ?_) | refine DrawN.b (Ob.mk (by decide +kernel) ?_) | refine Ob.mk (by kernel_rfl) ?_ | (refine Br.mk (fun h => ?_) (fun h => ?_) <;> (first | (exfalso; exact Bool.false_ne_true h) | (exfalso; exact Bool.false_ne_true h.symm) | skip)))); all_goals (conv => whnf)
  refine SeqN.nilRow 3 5 1 rfl ?_
  (conv => whnf)
  refine SeqN.go ?_
  (repeat' ((conv => whnf); first | refine AdN.mk _ _ rfl ?_ | refine DrawN.a (Ob.mk (by decide +kernel) ?_) | refine DrawN.c (Ob.mk (by decide +kernel) ?_) | refine DrawN.b (Ob.mk (by decide +kernel) ?_) | refine Ob.mk (by kernel_rfl) ?_ | (refine Br.mk (fun h => ?_) (fun h => ?_) <;> (first | (exfalso; exact Bool.false_ne_true h) | (exfalso; exact Bool.false_ne_true h.symm) | skip)))); all_goals (conv => whnf)
  refine LoopN.mk {i : Nat // i ≤ l.length} (fun i => [(4, .v (.int .i64 i.1)), (3, .s 0)]) (fun i => [.row 5 1 (8 * i.1) (BVs (flat8 (l.take i.1)))]) (fun i => l.length - i.1) ⟨0, Nat.zero_le _⟩ ?_ ?_
  · (conv => whnf); (repeat' (first | exact True.intro | exact rfl | refine And.intro ?_ ?_ | decide))
  (conv => whnf)
  rintro ⟨i, hi⟩
  have o1 : decide ((i : Int) < (l.length : Int)) = true → 0 ≤ (i : Int) ∧ (i : Int) < (l.length : Int) := fun h => ⟨Int.natCast_nonneg _, of_decide_eq_true h⟩
  (repeat' ((conv => whnf); first | refine AdN.mk _ _ rfl ?_ | refine DrawN.a (Ob.mk (by decide +kernel) ?_) | refine DrawN.c (Ob.mk (by decide +kernel) ?_) | refine DrawN.b (Ob.mk (by decide +kernel) ?_) | refine Ob.mk (by kernel_rfl) ?_ | (refine Br.mk (fun h => ?_) (fun h => ?_) <;> (first | (exfalso; exact Bool.false_ne_true h) | (exfalso; exact Bool.false_ne_true h.symm) | skip)))); all_goals (conv => whnf)
  refine SeqN.go ?_
  (repeat' ((conv => whnf); first | refine Ob.mk (o1 ‹_›) ?_ | refine AdN.mk b off (hs (by have := (o1 ‹_›).2; omega)) ?_ | refine cellsU (i : Int) (o1 ‹_›).1 (o1 ‹_›).2 ?_ | refine AdN.mk _ _ rfl ?_ | refine DrawN.a (Ob.mk (by decide +kernel) ?_) | refine DrawN.c (Ob.mk (by decide +kernel) ?_) | refine DrawN.b (Ob.mk (by decide +kernel) ?_) | refine Ob.mk (by kernel_rfl) ?_ | (refine Br.mk (fun h => ?_) (fun h => ?_) <;> (first | (exfalso; exact Bool.false_ne_true h) | (exfalso; exact Bool.false_ne_true h.symm) | skip)))); all_goals (conv => whnf)
  · have hil := (o1 ‹_›).2
    have hx := hu (l.getD i 0) (by have h2 : i < l.length := by omega
                                   simp [List.getD, h2])
    refine SeqN.go ?_
    (repeat' ((conv => whnf); first | refine Ob.mk (o1 ‹_›) ?_ | refine AdN.mk b off (hs (by have := (o1 ‹_›).2; omega)) ?_ | refine cellsU (i : Int) (o1 ‹_›).1 (o1 ‹_›).2 ?_ | refine AdN.mk _ _ rfl ?_ | refine DrawN.a (Ob.mk (by decide +kernel) ?_) | refine DrawN.c (Ob.mk (by decide +kernel) ?_) | refine DrawN.b (Ob.mk (by decide +kernel) ?_) | refine Ob.mk (by kernel_rfl) ?_ | (refine Br.mk (fun h => ?_) (fun h => ?_) <;> (first | (exfalso; exact Bool.false_ne_true h) | (exfalso; exact Bool.false_ne_true h.symm) | skip)))); all_goals (conv => whnf)
    (try (refine SeqN.go ?_; (repeat' ((conv => whnf); first | refine AdN.mk _ _ rfl ?_ | refine DrawN.a (Ob.mk (by decide +kernel) ?_) | refine DrawN.c (Ob.mk (by decide +kernel) ?_) | refine DrawN.b (Ob.mk (by decide +kernel) ?_) | refine Ob.mk (by kernel_rfl) ?_ | (refine Br.mk (fun h => ?_) (fun h => ?_) <;> (first | (exfalso; exact Bool.false_ne_true h) | (exfalso; exact Bool.false_ne_true h.symm) | skip)))); all_goals (conv => whnf)))
    refine LoopN.mk {x : Nat × Int × List Int // x.1 ≤ 8 ∧ (0 ≤ x.2.1 ∧ x.2.1 ≤ 18446744073709551615) ∧ x.2.2.length = x.1 ∧ x.2.2 ++ b8 (8 - x.1) x.2.1 = b8 8 (l.getD i 0)} (fun x => [(6, .v (.int .i64 x.1.1)), (5, .v (.int .u64 x.1.2.1)), (3, .s 0)]) (fun x => [.row 5 1 (8 * i + x.1.1) (BVs (flat8 (l.take i) ++ x.1.2.2))]) (fun x => 8 - x.1.1) ⟨(0, l.getD i 0, []), Nat.zero_le _, hx, rfl, rfl⟩ ?_ ?_
    · (conv => whnf); (repeat' (first | exact True.intro | exact rfl | refine And.intro ?_ ?_ | decide))
      all_goals first | (dsimp only; simp; done) | trace_state
    (conv => whnf)
    rintro ⟨⟨k, n, o⟩, hk, hn, ho, he⟩
    dsimp only at hk hn ho he
    (repeat' ((conv => whnf); first | refine Ob.mk (by decide) ?_ | refine Ob.mk ⟨by omega, (by show (8 * i + k + 1) * 1 ≤ 140737488355328; omega), (by show 8 * i + k + 1 ≤ 140737488355328; omega)⟩ ?_ | refine AdN.mk _ _ rfl ?_ | refine DrawN.a (Ob.mk (by decide +kernel) ?_) | refine DrawN.c (Ob.mk (by decide +kernel) ?_) | refine DrawN.b (Ob.mk (by decide +kernel) ?_) | refine Ob.mk (by kernel_rfl) ?_ | (refine Br.mk (fun h => ?_) (fun h => ?_) <;> (first | (exfalso; exact Bool.false_ne_true h) | (exfalso; exact Bool.false_ne_true h.symm) | skip)) | refine SeqN.go ?_)); all_goals (conv => whnf)
    · have hk8 : (k : Int) < 8 := of_decide_eq_true ‹decide ((k : Int) < 8) = true›
      have hb : b8 (8 - k) n = n % 256 :: b8 (8 - (k + 1)) (n / 256) := by
        rw [show 8 - k = (8 - (k + 1)) + 1 by omega]; rfl
      refine RoundN.mk ⟨(k + 1, n / 256, o ++ [n % 256]), by omega, (show 0 ≤ n / 256 ∧ n / 256 ≤ 18446744073709551615 from ⟨by omega, by omega⟩), by simp [ho], ?_⟩ (by show 8 - (k + 1) < 8 - k; omega) ?_
      · dsimp only
        rw [← he, hb]; simp
      (conv => whnf); (repeat' (first | exact True.intro | exact rfl | refine And.intro ?_ ?_ | decide))
      all_goals first
        | (refine congrArg (Value.int _) ?_; dsimp only; rw [sg_eq]; exact sg_in _ (by omega) (by omega))
        | (refine congrArg (Value.int _) ?_; dsimp only; rw [us_eq, Int.tdiv_eq_ediv_of_nonneg hn.1]; exact us_in _ (by omega) (by omega))
        | (dsimp only; rw [Int.tmod_eq_emod_of_nonneg hn.1, IntKind.wrap_u8, Int.emod_emod]; simp [BVs]; done)
        | trace_state
    · have hk8 : ¬ (k : Int) < 8 := of_decide_eq_false ‹decide ((k : Int) < 8) = false›
      obtain rfl : k = 8 := by omega
      have he2 : o = b8 8 (l.getD i 0) := by rw [← he]; simp [b8]
      refine RoundN.mk ⟨i + 1, by omega⟩ (by show l.length - (i + 1) < l.length - i; omega) ?_
      (conv => whnf); (repeat' (first | exact True.intro | exact rfl | refine And.intro ?_ ?_ | decide))
      all_goals first
        | (refine congrArg (Value.int _) ?_; dsimp only; rw [sg_eq]; exact sg_in _ (by omega) (by omega))
        | (dsimp only; rw [flat8_take (by omega), he2]; done)
        | (dsimp only; omega)
        | trace_state
  · have hil : ¬ (i : Int) < (l.length : Int) := of_decide_eq_false ‹decide ((i : Int) < (l.length : Int)) = false›
    obtain rfl : i = l.length := by omega
    have hfl : flat8 (l.take l.length) = flat8 l := by rw [List.take_length]
    have T := trim_f (flat8 (l.take l.length)) (by rw [hfl, flat8_len]; omega)
    rw [flat8_len, List.length_take, Nat.min_self] at T
    refine CallA.anyFresh _ _ T ?_
    (repeat' ((conv => whnf); first | refine AdN.mk _ _ rfl ?_ | refine DrawN.a (Ob.mk (by decide +kernel) ?_) | refine DrawN.c (Ob.mk (by decide +kernel) ?_) | refine DrawN.b (Ob.mk (by decide +kernel) ?_) | refine Ob.mk (by kernel_rfl) ?_ | (refine Br.mk (fun h => ?_) (fun h => ?_) <;> (first | (exfalso; exact Bool.false_ne_true h) | (exfalso; exact Bool.false_ne_true h.symm) | skip)) | refine SeqN.go ?_)); all_goals (conv => whnf)
    refine RetN.mk [1] (by decide) rfl ?_ ?_ <;> (conv => whnf); (repeat' (first | exact True.intro | exact rfl | refine And.intro ?_ ?_ | decide))
    all_goals first | (rw [hfl, flat8_trim hu]; done) | (rw [hfl]; done) | trace_state
end Go.Proofs.YtljhbdgoknfkcaaGreatDoor
