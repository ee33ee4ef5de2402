/- Contracts of the reference of bitop: few numbers, quotients. -/
import Derived.Test.YtljhbdgoknfkcaaGreatDoorBR
import Derived.Test.YtljhbdgoknfkcaaGreatDoorK8
namespace Go.Proofs.YtljhbdgoknfkcaaGreatDoor
open Go Go.RowKit Go.Sort
set_option linter.unusedVariables false
set_option linter.unusedSimpArgs false
set_option maxRecDepth 100000

theorem r23small_d {v : VV} (hv : RV v) : Den Tryz.prog 103 #[VVal v] noFacts (.bool (bsmall v)) := by
  refine den_of_body (args := [VVal v]) hmix Tryz.func103 ?_
  have C := rCard_d _ hv
  (repeat' ((conv => whnf); first | refine CallN.any _ C ?_ | refine AdN.mk _ _ rfl ?_ | refine DrawN.a (Ob.mk (by decide +kernel) ?_) | refine DrawN.c (Ob.mk (by decide +kernel) ?_) | refine DrawN.b (Ob.mk (by decide +kernel) ?_) | refine Ob.mk (by kernel_rfl) ?_ | (refine Br.mk (fun h => ?_) (fun h => ?_) <;> (first | (exfalso; exact Bool.false_ne_true h) | (exfalso; exact Bool.false_ne_true h.symm) | skip)) | refine SeqN.go ?_)); all_goals (conv => whnf)
  all_goals (refine congrArg Value.bool ?_; unfold bsmall; simp_all)
theorem rJoinV_d {x y : VV} (h : RV x) (k : RV y) : Den Tryz.prog 60 #[VVal x, VVal y] noFacts (VVal (vjoin x y)) := by
  have := rJoin_d x y h.red k.red
  rwa [rvjoin_eq h k] at this
theorem r23Of_d (l : List Int) (hl : ∀ p ∈ l, IS p) (hlen : l.length ≤ 1000) : DenA Tryz.prog 203 noFacts [.r 1 l.length (ICs l)] (VVal (vofs l)) := by
  refine DenA.fam ?_
  intro ad b off c hs _
  rw [orF_no]
  refine den_of_body (args := [.slice ad l.length c]) hmix Tryz.func203 ?_
  have hp : ∀ i : Nat, RV (vofs (l.take i)) := fun i => vofs_rv fun p hp => hl p (List.mem_of_mem_take hp)
  (repeat' ((conv => whnf); first | refine CallN.any _ rBottom_d ?_ | refine AdN.mk _ _ rfl ?_ | refine DrawN.a (Ob.mk (by decide +kernel) ?_) | refine DrawN.c (Ob.mk (by decide +kernel) ?_) | refine DrawN.b (Ob.mk (by decide +kernel) ?_) | refine Ob.mk (by kernel_rfl) ?_ | (refine Br.mk (fun h => ?_) (fun h => ?_) <;> (first | (exfalso; exact Bool.false_ne_true h) | (exfalso; exact Bool.false_ne_true h.symm) | skip)))); all_goals (conv => whnf)
  refine SeqN.go ?_
  (repeat' ((conv => whnf); first | refine AdN.mk _ _ rfl ?_ | refine DrawN.a (Ob.mk (by decide +kernel) ?_) | refine DrawN.c (Ob.mk (by decide +kernel) ?_) | refine DrawN.b (Ob.mk (by decide +kernel) ?_) | refine Ob.mk (by kernel_rfl) ?_ | (refine Br.mk (fun h => ?_) (fun h => ?_) <;> (first | (exfalso; exact Bool.false_ne_true h) | (exfalso; exact Bool.false_ne_true h.symm) | skip)))); all_goals (conv => whnf)
  refine LoopN.mk {i : Nat // i ≤ l.length} (fun i => [(4, .v (.int .i64 i.1))]) (fun i => [.cells [.junk, .junk, .junk, .junk], .cells ((VC (vofs (l.take i.1))).map .v)]) (fun i => l.length - i.1) ⟨0, Nat.zero_le _⟩ ?_ ?_
  · (conv => whnf); (repeat' (first | exact True.intro | exact rfl | refine And.intro ?_ ?_ | decide))
  (conv => whnf)
  rintro ⟨i, hi⟩
  by_cases hil : i < l.length
  · have oi : 0 ≤ (i : Int) ∧ (i : Int) < (l.length : Int) := ⟨Int.natCast_nonneg _, Int.ofNat_lt.2 hil⟩
    have ho : IS (l.getD i 0) := getD_is hl i
    have O := rOne_d (l.getD i 0) ho
    have J := rJoinV_d (hp i) (rv_one ho)
    (repeat' ((conv => whnf); first | refine CallN.any _ O ?_ | refine CallN.any _ J ?_ | refine Ob.mk oi ?_ | refine AdN.mk b off (hs (by omega)) ?_ | refine cellsI (i : Int) oi.1 oi.2 ?_ | refine AdN.mk _ _ rfl ?_ | refine DrawN.a (Ob.mk (by decide +kernel) ?_) | refine DrawN.c (Ob.mk (by decide +kernel) ?_) | refine DrawN.b (Ob.mk (by decide +kernel) ?_) | refine Ob.mk (by kernel_rfl) ?_ | (refine Br.mk (fun h => ?_) (fun h => ?_) <;> (first | (exfalso; exact Bool.false_ne_true h) | (exfalso; exact Bool.false_ne_true h.symm) | (exfalso; exact absurd (Int.ofNat_lt.2 hil) (of_decide_eq_false ‹_›)) | skip)) | refine SeqN.go ?_)); all_goals (conv => whnf)
    refine RoundN.mk ⟨i + 1, hil⟩ (Nat.sub_succ_lt_self _ _ hil) ?_
    (conv => whnf); (repeat' (first | exact True.intro | exact rfl | refine And.intro ?_ ?_ | decide))
    all_goals first | exact congrArg (Value.int _) (wi8 hil (by omega)) | (dsimp only [vofs]; rw [take_foldI _ _ _ _ hil]; exact rfl) | trace_state
  · obtain rfl : i = l.length := by omega
    (repeat' ((conv => whnf); first | refine AdN.mk _ _ rfl ?_ | refine DrawN.a (Ob.mk (by decide +kernel) ?_) | refine DrawN.c (Ob.mk (by decide +kernel) ?_) | refine DrawN.b (Ob.mk (by decide +kernel) ?_) | refine Ob.mk (by kernel_rfl) ?_ | (refine Br.mk (fun h => ?_) (fun h => ?_) <;> (first | (exfalso; exact Bool.false_ne_true h) | (exfalso; exact Bool.false_ne_true h.symm) | (exfalso; exact absurd (Int.ofNat_lt.1 (of_decide_eq_true ‹_›)) hil) | skip)) | refine SeqN.go ?_)); all_goals (conv => whnf)
    show VVal (vofs (l.take l.length)) = _
    rw [List.take_length]
theorem rSome8 {v : VV} (rv : RV v) (nb : v ≠ vbot) : DenF Tryz.prog 52 noFacts [.v (VVal v), .v (.int .i64 8)] [.s 0] [.row 2 1 (bs8 v).length (ICs (bs8 v))] := by
  rw [show (bs8 v).length = min (8 : Int).toNat (vcnt v) from vnums_len _ _]
  exact rSome_f v 8 rv nb (by decide)
set_option maxHeartbeats 8000000 in
theorem r23all_d (op : Int) (ho : 0 ≤ op ∧ op ≤ 17) (a b : VV) (ra : RV a) (rb : RV b) (na : a ≠ vbot) (nb : b ≠ vbot) : Den Tryz.prog 104 #[.int .i64 op, VVal a, VVal b] noFacts (VVal (vofs (mpairs op (bs8 a) (bs8 b)))) := by
  refine den_of_body (args := [.int .i64 op, VVal a, VVal b]) hmix Tryz.func104 ?_
  have SA := rSome8 ra na
  have SB := rSome8 rb nb
  have lx := bs8_len a
  have ly := bs8_len b
  have ix : ∀ p ∈ bs8 a, IS p := fun p hp => (some_in_v ra hp).2
  have iy : ∀ p ∈ bs8 b, IS p := fun p hp => (some_in_v rb hp).2
  have im := pairs_is (b := b) ho ra
  generalize bs8 a = xs at *
  generalize bs8 b = ys at *
  have W : ∀ i j, Den Tryz.prog 79 #[.int .i64 op, .int .i64 (xs.getD i 0), .int .i64 (ys.getD j 0)] noFacts (.tuple #[.int .i64 (wopV op (xs.getD i 0) (ys.getD j 0)), .bool (wopB op (ys.getD j 0))]) := fun i j => rDo_d op _ _ (getD_is ix i) (getD_is iy j) ho
  have lm : ∀ i j x, (mpairs op (xs.take i) ys ++ mks op x (ys.take j)).length ≤ 8 * 8 + 8 := by
    intro i j x
    have h1 : ∀ zs : List Int, (mpairs op zs ys).length ≤ zs.length * 8 := by
      intro zs
      induction zs with
      | nil => exact Nat.zero_le _
      | cons z zs ih =>
        show (mks op z ys ++ mpairs op zs ys).length ≤ _
        have := mks_len op z ys
        rw [List.length_append, List.length_cons]
        omega
    have h2 := h1 (xs.take i)
    have h3 := mks_len op x (ys.take j)
    rw [List.length_take] at h2 h3
    rw [List.length_append]
    omega
  (repeat' ((conv => whnf); first | refine CallN.anyFresh _ _ SA ?_ | refine CallN.anyFresh _ _ SB ?_ | refine AdN.mk _ _ rfl ?_ | refine DrawN.a (Ob.mk (by decide +kernel) ?_) | refine DrawN.c (Ob.mk (by decide +kernel) ?_) | refine DrawN.b (Ob.mk (by decide +kernel) ?_) | refine Ob.mk (by kernel_rfl) ?_ | (refine Br.mk (fun h => ?_) (fun h => ?_) <;> (first | (exfalso; exact Bool.false_ne_true h) | (exfalso; exact Bool.false_ne_true h.symm) | skip)))); all_goals (conv => whnf)
  refine SeqN.nilRow 9 2 1 rfl ?_
  (conv => whnf)
  refine SeqN.go ?_
  (repeat' ((conv => whnf); first | refine AdN.mk _ _ rfl ?_ | refine DrawN.a (Ob.mk (by decide +kernel) ?_) | refine DrawN.c (Ob.mk (by decide +kernel) ?_) | refine DrawN.b (Ob.mk (by decide +kernel) ?_) | refine Ob.mk (by kernel_rfl) ?_ | (refine Br.mk (fun h => ?_) (fun h => ?_) <;> (first | (exfalso; exact Bool.false_ne_true h) | (exfalso; exact Bool.false_ne_true h.symm) | skip)))); all_goals (conv => whnf)
  refine LoopN.mk {i : Nat // i ≤ xs.length} (fun i => [(10, .v (.int .i64 i.1)), (9, .s 5)]) (fun i => [.dead, .dead, .cells [.junk, .junk, .junk, .junk], .row 2 1 xs.length (ICs xs), .row 2 1 ys.length (ICs ys), .row 2 1 (mpairs op (xs.take i.1) ys).length (ICs (mpairs op (xs.take i.1) ys))]) (fun i => xs.length - i.1) ⟨0, Nat.zero_le _⟩ ?_ ?_
  · (conv => whnf); (repeat' (first | exact True.intro | exact rfl | refine And.intro ?_ ?_ | decide))
  (conv => whnf)
  rintro ⟨i, hi⟩
  by_cases hil : i < xs.length
  · have oi : 0 ≤ (i : Int) ∧ (i : Int) < (xs.length : Int) := ⟨Int.natCast_nonneg _, Int.ofNat_lt.2 hil⟩
    (repeat' ((conv => whnf); first | refine SeqN.go ?_ | refine AdN.mk _ _ rfl ?_ | refine DrawN.a (Ob.mk (by decide +kernel) ?_) | refine DrawN.c (Ob.mk (by decide +kernel) ?_) | refine DrawN.b (Ob.mk (by decide +kernel) ?_) | refine Ob.mk (by kernel_rfl) ?_ | (refine Br.mk (fun h => ?_) (fun h => ?_) <;> (first | (exfalso; exact Bool.false_ne_true h) | (exfalso; exact Bool.false_ne_true h.symm) | (exfalso; exact absurd (Int.ofNat_lt.2 hil) (of_decide_eq_false ‹_›)) | skip)))); all_goals (conv => whnf)
    refine LoopN.mk {j : Nat // j ≤ ys.length} (fun j => [(11, .v (.int .i64 j.1)), (9, .s 5)]) (fun j => [.dead, .dead, .cells [.junk, .junk, .junk, .junk], .row 2 1 xs.length (ICs xs), .row 2 1 ys.length (ICs ys), .row 2 1 (mpairs op (xs.take i) ys ++ mks op (xs.getD i 0) (ys.take j.1)).length (ICs (mpairs op (xs.take i) ys ++ mks op (xs.getD i 0) (ys.take j.1)))]) (fun j => ys.length - j.1) ⟨0, Nat.zero_le _⟩ ?_ ?_
    · (conv => whnf); (repeat' (first | exact True.intro | exact rfl | refine And.intro ?_ ?_ | decide))
      all_goals first | (dsimp only; simp [mks]; done) | trace_state
    (conv => whnf)
    rintro ⟨j, hj⟩
    have lij := lm i j (xs.getD i 0)
    have ms := mks_succ (op := op) (x := xs.getD i 0) (ys := ys) (j := j)
    have mp := mpairs_succ (op := op) (xs := xs) (ys := ys) hil
    have W := W i j
    dsimp only
    by_cases hjl : j < ys.length
    · have oj : 0 ≤ (j : Int) ∧ (j : Int) < (ys.length : Int) := ⟨Int.natCast_nonneg _, Int.ofNat_lt.2 hjl⟩
      have ms := ms hjl
      clear mp
      generalize mpairs op (xs.take i) ys = M at *
      generalize mks op (xs.getD i 0) (ys.take j) = N at *
      (repeat' ((conv => whnf); first | refine CallN.any _ W ?_ | refine Ob.mk oi ?_ | refine Ob.mk oj ?_ | refine rowIL i rfl hil ?_ | refine rowIL j rfl hjl ?_ | refine Ob.mk ⟨by decide, (by show ((M ++ N).length + 1) * 8 ≤ 140737488355328; omega), (by show (M ++ N).length + 1 ≤ 140737488355328; omega)⟩ ?_ | refine AdN.mk _ _ rfl ?_ | refine DrawN.a (Ob.mk (by decide +kernel) ?_) | refine DrawN.c (Ob.mk (by decide +kernel) ?_) | refine DrawN.b (Ob.mk (by decide +kernel) ?_) | refine Ob.mk (by kernel_rfl) ?_ | (refine Br.mk (fun h => ?_) (fun h => ?_) <;> (first | (exfalso; exact Bool.false_ne_true h) | (exfalso; exact Bool.false_ne_true h.symm) | (exfalso; exact absurd (Int.ofNat_lt.2 hjl) (of_decide_eq_false ‹_›)) | skip)) | refine SeqN.go ?_)); all_goals (conv => whnf)
      · have hw : wopB op (ys.getD j 0) = true := ‹wopB op (ys.getD j 0) = true›
        rw [if_pos hw] at ms
        refine RoundN.mk ⟨j + 1, hjl⟩ (Nat.sub_succ_lt_self _ _ hjl) ?_
        (conv => whnf); (repeat' (first | exact True.intro | exact rfl | refine And.intro ?_ ?_ | decide))
        all_goals first | exact congrArg (Value.int _) (wi8 hjl (by omega)) | (dsimp only; rw [ms]; simp <;> omega) | (dsimp only; rw [ms, ← List.append_assoc]; simp [ICs]; done) | trace_state
      · have hw : wopB op (ys.getD j 0) = false := ‹wopB op (ys.getD j 0) = false›
        rw [if_neg (by rw [hw]; decide), List.append_nil] at ms
        refine RoundN.mk ⟨j + 1, hjl⟩ (Nat.sub_succ_lt_self _ _ hjl) ?_
        (conv => whnf); (repeat' (first | exact True.intro | exact rfl | refine And.intro ?_ ?_ | decide))
        all_goals first | exact congrArg (Value.int _) (wi8 hjl (by omega)) | (dsimp only; rw [ms]; done) | trace_state
    · obtain rfl : j = ys.length := by omega
      (repeat' ((conv => whnf); first | refine AdN.mk _ _ rfl ?_ | refine DrawN.a (Ob.mk (by decide +kernel) ?_) | refine DrawN.c (Ob.mk (by decide +kernel) ?_) | refine DrawN.b (Ob.mk (by decide +kernel) ?_) | refine Ob.mk (by kernel_rfl) ?_ | (refine Br.mk (fun h => ?_) (fun h => ?_) <;> (first | (exfalso; exact Bool.false_ne_true h) | (exfalso; exact Bool.false_ne_true h.symm) | (exfalso; exact absurd (Int.ofNat_lt.1 (of_decide_eq_true ‹_›)) hjl) | skip)) | refine SeqN.go ?_)); all_goals (conv => whnf)
      refine RoundN.mk ⟨i + 1, hil⟩ (Nat.sub_succ_lt_self _ _ hil) ?_
      (conv => whnf); (repeat' (first | exact True.intro | exact rfl | refine And.intro ?_ ?_ | decide))
      all_goals first | exact congrArg (Value.int _) (wi8 hil (by omega)) | (dsimp only; rw [mp, List.take_length]; done) | trace_state
  · obtain rfl : i = xs.length := by omega
    rw [show xs.take (⟨xs.length, hi⟩ : {i : Nat // i ≤ xs.length}).1 = xs from List.take_length]
    have V := r23Of_d _ im (by have := lm xs.length 0 0; rw [List.take_length, List.length_append] at this; omega)
    (repeat' ((conv => whnf); first | refine CallA.any _ V ?_ | refine AdN.mk _ _ rfl ?_ | refine DrawN.a (Ob.mk (by decide +kernel) ?_) | refine DrawN.c (Ob.mk (by decide +kernel) ?_) | refine DrawN.b (Ob.mk (by decide +kernel) ?_) | refine Ob.mk (by kernel_rfl) ?_ | (refine Br.mk (fun h => ?_) (fun h => ?_) <;> (first | (exfalso; exact Bool.false_ne_true h) | (exfalso; exact Bool.false_ne_true h.symm) | (exfalso; exact absurd (Int.ofNat_lt.1 (of_decide_eq_true ‹_›)) hil) | skip)) | refine SeqN.go ?_)); all_goals (conv => whnf)
    rfl
/-! Quotients. -/
def endsL (b : VV) : List Int := (if b.lo < 0 then [b.lo, if -1 < b.hi then -1 else b.hi] else []) ++ (if 0 < b.hi then [if 1 > b.lo then 1 else b.lo, b.hi] else [])
set_option maxHeartbeats 4000000 in
theorem r23ends_f (b : VV) : DenF Tryz.prog 204 noFacts [.v (.agg #[.int .i64 b.lo, .int .i64 b.hi])] [.s 0] [.row 2 1 (endsL b).length (ICs (endsL b))] := by
  refine DenF.fam rfl ?_
  refine denV_of_body (args := [.agg #[.int .i64 b.lo, .int .i64 b.hi]]) hmix Tryz.func204 ?_
  (repeat' ((conv => whnf); first | refine AdN.mk _ _ rfl ?_ | refine DrawN.a (Ob.mk (by decide +kernel) ?_) | refine DrawN.c (Ob.mk (by decide +kernel) ?_) | refine DrawN.b (Ob.mk (by decide +kernel) ?_) | refine Ob.mk (by kernel_rfl) ?_ | (refine Br.mk (fun h => ?_) (fun h => ?_) <;> (first | (exfalso; exact Bool.false_ne_true h) | (exfalso; exact Bool.false_ne_true h.symm) | skip)))); all_goals (conv => whnf)
  refine SeqN.nilRow 3 2 1 rfl ?_
  (repeat' ((conv => whnf); first | refine Ob.mk ⟨by decide, by decide, by decide⟩ ?_ | refine AdN.mk _ _ rfl ?_ | refine DrawN.a (Ob.mk (by decide +kernel) ?_) | refine DrawN.c (Ob.mk (by decide +kernel) ?_) | refine DrawN.b (Ob.mk (by decide +kernel) ?_) | refine Ob.mk (by kernel_rfl) ?_ | (refine Br.mk (fun h => ?_) (fun h => ?_) <;> (first | (exfalso; exact Bool.false_ne_true h) | (exfalso; exact Bool.false_ne_true h.symm) | skip)) | refine SeqN.go ?_)); all_goals (conv => whnf)
  all_goals refine RetN.mk [1] (by decide) rfl ?_ ?_ <;> (conv => whnf); (repeat' (first | exact True.intro | exact rfl | refine And.intro ?_ ?_ | decide))
  all_goals (simp only [decide_eq_true_eq, decide_eq_false_iff_not] at *; unfold endsL; try unfold ICs)
  all_goals by_cases c1 : b.lo < 0 <;> by_cases c2 : 0 < b.hi <;> first | (exfalso; omega) | (simp [c1, c2]; done) | trace_state
theorem r23quo_d (x y : Int) (hx : IS x) (hy : IS y) : Den Tryz.prog 205 #[.int .i64 x, .int .i64 y] noFacts (.int .i64 (wopV 16 x y)) := by
  refine den_of_body (args := [.int .i64 x, .int .i64 y]) hmix Tryz.func205 ?_
  have D := rDo_d 16 x y hx hy (by decide)
  generalize wopV 16 x y = w at *
  (repeat' ((conv => whnf); first | refine CallN.any _ D ?_ | refine AdN.mk _ _ rfl ?_ | refine DrawN.a (Ob.mk (by decide +kernel) ?_) | refine DrawN.c (Ob.mk (by decide +kernel) ?_) | refine DrawN.b (Ob.mk (by decide +kernel) ?_) | refine Ob.mk (by kernel_rfl) ?_ | (refine Br.mk (fun h => ?_) (fun h => ?_) <;> (first | (exfalso; exact Bool.false_ne_true h) | (exfalso; exact Bool.false_ne_true h.symm) | skip)) | refine SeqN.go ?_)); all_goals (conv => whnf)
  all_goals rfl
def rmin (x y : Int) : Int := if y < x then y else x
def rmx (x y : Int) : Int := if y > x then y else x
/-- The reference's interval of quotients by some divisors. -/
def rdS (a : VV) (o : Int × Int) (d : Int) : Int × Int := rijoin o.1 o.2 (rmin (wopV 16 a.lo d) (wopV 16 a.hi d)) (rmx (wopV 16 a.lo d) (wopV 16 a.hi d))
def rdI (a : VV) (l : List Int) : Int × Int := l.foldl (rdS a) (1, 0)
def rdiv (a b : VV) : VV := if a.lo = -9223372036854775808 ∧ -1 ∈ endsL b then vtop else vmk (rdI a (endsL b)) (1, 0)
theorem rijoin_is {a b c d : Int} (ha : IS a) (hb : IS b) (hc : IS c) (hd : IS d) : IS (rijoin a b c d).1 ∧ IS (rijoin a b c d).2 := by
  unfold rijoin
  split
  · exact iof_in hc hd
  split
  · exact ⟨ha, hb⟩
  · constructor <;> dsimp only <;> split <;> assumption
theorem rdI_is (a : VV) : ∀ (l : List Int) (o : Int × Int), IS o.1 ∧ IS o.2 → IS (l.foldl (rdS a) o).1 ∧ IS (l.foldl (rdS a) o).2
  | [], o, h => h
  | d :: l, o, h => rdI_is a l _ (by
    have h1 := wop16_is a.lo d
    have h2 := wop16_is a.hi d
    unfold rdS
    refine rijoin_is h.1 h.2 ?_ ?_
    · unfold rmin; split <;> assumption
    · unfold rmx; split <;> assumption)
theorem ends_is {b : VV} (hb : InV b) : ∀ d ∈ endsL b, IS d := by
  have h1 := hb.lo; have h2 := hb.hi
  have m1 : IS (-1) := ⟨by decide, by decide⟩
  have p1 : IS 1 := ⟨by decide, by decide⟩
  intro d hd
  unfold endsL at hd
  rcases List.mem_append.1 hd with hd | hd
  · split at hd
    · simp at hd
      rcases hd with rfl | rfl
      · exact h1
      · split <;> assumption
    · cases hd
  · split at hd
    · simp at hd
      rcases hd with rfl | rfl
      · split <;> assumption
      · exact h2
    · cases hd
theorem ends_len (b : VV) : (endsL b).length ≤ 4 := by
  unfold endsL
  by_cases c1 : b.lo < 0 <;> by_cases c2 : 0 < b.hi <;> simp [c1, c2]
theorem take_succ_getD {l : List Int} {i : Nat} (h : i < l.length) : l.take (i + 1) = l.take i ++ [l.getD i 0] := by
  rw [List.take_add_one, List.getElem?_eq_getElem h]
  simp [List.getD, h]
set_option maxHeartbeats 8000000 in
theorem r23div_d (a b : VV) (ha : InV a) (hb : InV b) : Den Tryz.prog 105 #[VVal a, VVal b] noFacts (VVal (rdiv a b)) := by
  refine den_of_body (args := [VVal a, VVal b]) hmix Tryz.func105 ?_
  have E := r23ends_f b
  have hl := ends_is hb
  have ll := ends_len b
  unfold rdiv
  generalize endsL b = l at *
  (repeat' ((conv => whnf); first | refine CallN.anyFresh _ _ E ?_ | refine AdN.mk _ _ rfl ?_ | refine DrawN.a (Ob.mk (by decide +kernel) ?_) | refine DrawN.c (Ob.mk (by decide +kernel) ?_) | refine DrawN.b (Ob.mk (by decide +kernel) ?_) | refine Ob.mk (by kernel_rfl) ?_ | (refine Br.mk (fun h => ?_) (fun h => ?_) <;> (first | (exfalso; exact Bool.false_ne_true h) | (exfalso; exact Bool.false_ne_true h.symm) | skip)))); all_goals (conv => whnf)
  refine SeqN.go ?_
  (repeat' ((conv => whnf); first | refine AdN.mk _ _ rfl ?_ | refine DrawN.a (Ob.mk (by decide +kernel) ?_) | refine DrawN.c (Ob.mk (by decide +kernel) ?_) | refine DrawN.b (Ob.mk (by decide +kernel) ?_) | refine Ob.mk (by kernel_rfl) ?_ | (refine Br.mk (fun h => ?_) (fun h => ?_) <;> (first | (exfalso; exact Bool.false_ne_true h) | (exfalso; exact Bool.false_ne_true h.symm) | skip)))); all_goals (conv => whnf)
  refine LoopN.mk {i : Nat // i ≤ l.length ∧ (a.lo = -9223372036854775808 → -1 ∉ l.take i)} (fun i => [(7, .v (.int .i64 i.1))]) (fun i => [.cells ((VC a).map .v), .dead, .cells [.junk, .junk, .junk, .junk], .row 2 1 l.length (ICs l), .cells [.v (.int .i64 (rdI a (l.take i.1)).1), .v (.int .i64 (rdI a (l.take i.1)).2)]]) (fun i => l.length - i.1) ⟨0, Nat.zero_le _, fun _ h => by cases h⟩ ?_ ?_
  · (conv => whnf); (repeat' (first | exact True.intro | exact rfl | refine And.intro ?_ ?_ | decide))
  (conv => whnf)
  rintro ⟨i, hi, hno⟩
  dsimp only at hi hno ⊢
  by_cases hil : i < l.length
  · have oi : 0 ≤ (i : Int) ∧ (i : Int) < (l.length : Int) := ⟨Int.natCast_nonneg _, Int.ofNat_lt.2 hil⟩
    have id := getD_is hl i
    have Q1 := r23quo_d a.lo (l.getD i 0) ha.lo id
    have Q2 := r23quo_d a.hi (l.getD i 0) ha.hi id
    have es := take_succ_getD hil
    have mem : l.getD i 0 ∈ l := by
      have : l.getD i 0 = l[i] := by simp [List.getD, hil]
      rw [this]
      exact List.getElem_mem hil
    have er : rdI a (l.take (i + 1)) = rijoin (rdI a (l.take i)).1 (rdI a (l.take i)).2 (rmin (wopV 16 a.lo (l.getD i 0)) (wopV 16 a.hi (l.getD i 0))) (rmx (wopV 16 a.lo (l.getD i 0)) (wopV 16 a.hi (l.getD i 0))) := by
      unfold rdI
      rw [es, List.foldl_append]
      rfl
    (repeat' ((conv => whnf); first | refine CallN.any _ rLeast_d ?_ | refine CallN.any _ Q1 ?_ | refine CallN.any _ Q2 ?_ | refine CallN.any _ rTop_d ?_ | refine CallN.any _ (rIJoin_d _ _ _ _) ?_ | refine Ob.mk oi ?_ | refine rowIL i rfl hil ?_ | refine AdN.mk _ _ rfl ?_ | refine DrawN.a (Ob.mk (by decide +kernel) ?_) | refine DrawN.c (Ob.mk (by decide +kernel) ?_) | refine DrawN.b (Ob.mk (by decide +kernel) ?_) | refine Ob.mk (by kernel_rfl) ?_ | (refine Br.mk (fun h => ?_) (fun h => ?_) <;> (first | (exfalso; exact Bool.false_ne_true h) | (exfalso; exact Bool.false_ne_true h.symm) | (exfalso; exact absurd (Int.ofNat_lt.2 hil) (of_decide_eq_false ‹_›)) | skip)) | refine SeqN.go ?_)); all_goals (conv => whnf)
    all_goals first
      | (have q1 : (a.lo == -9223372036854775808) = true := ‹_›
         have q2 : (l.getD i 0 == -1) = true := ‹_›
         rw [if_pos ⟨beq_iff_eq.1 q1, by rw [← beq_iff_eq.1 q2]; exact mem⟩]
         rfl)
      | (refine RoundN.mk ⟨i + 1, hil, fun e h => ?_⟩ (Nat.sub_succ_lt_self _ _ hil) ?_
         · rw [es, List.mem_append, List.mem_singleton] at h
           rcases h with h | h
           · exact hno e h
           · simp_all
         · (conv => whnf); (repeat' (first | exact True.intro | exact rfl | refine And.intro ?_ ?_ | decide))
           all_goals first | exact congrArg (Value.int _) (wi8 hil (by omega)) | (dsimp only; rw [er]; rfl) | trace_state)
      | trace_state
  · obtain rfl : i = l.length := by omega
    rw [List.take_length] at hno ⊢
    rw [if_neg (fun h => hno h.1 h.2)]
    have ri := rdI_is a l (1, 0) ⟨⟨by decide, by decide⟩, by decide, by decide⟩
    have M := rMake_d ⟨(rdI a l).1, (rdI a l).2, 1, 0⟩ ⟨ri.1, ri.2, ⟨by show (0 : Int) ≤ 1; decide, by show (1 : Int) ≤ 18446744073709551615; decide⟩, ⟨by show (0 : Int) ≤ 0; decide, by show (0 : Int) ≤ 18446744073709551615; decide⟩⟩
    (repeat' ((conv => whnf); first | refine CallN.any _ M ?_ | refine AdN.mk _ _ rfl ?_ | refine DrawN.a (Ob.mk (by decide +kernel) ?_) | refine DrawN.c (Ob.mk (by decide +kernel) ?_) | refine DrawN.b (Ob.mk (by decide +kernel) ?_) | refine Ob.mk (by kernel_rfl) ?_ | (refine Br.mk (fun h => ?_) (fun h => ?_) <;> (first | (exfalso; exact Bool.false_ne_true h) | (exfalso; exact Bool.false_ne_true h.symm) | (exfalso; exact absurd (Int.ofNat_lt.1 (of_decide_eq_true ‹_›)) hil) | skip)) | refine SeqN.go ?_)); all_goals (conv => whnf)
    rfl
/-! Contracts of the reference of bitop: rests. -/
theorem r23Size_d (n : Int) (hn : IS n) : Den Tryz.prog 206 #[.int .i64 n] noFacts (.int .u64 (n.natAbs : Nat)) := by
  refine den_of_body (args := [.int .i64 n]) hmix Tryz.func206 ?_
  have h1 := hn.1
  have h2 := hn.2
  (repeat' ((conv => whnf); first | refine AdN.mk _ _ rfl ?_ | refine DrawN.a (Ob.mk (by decide +kernel) ?_) | refine DrawN.c (Ob.mk (by decide +kernel) ?_) | refine DrawN.b (Ob.mk (by decide +kernel) ?_) | refine Ob.mk (by kernel_rfl) ?_ | (refine Br.mk (fun h => ?_) (fun h => ?_) <;> (first | (exfalso; exact Bool.false_ne_true h) | (exfalso; exact Bool.false_ne_true h.symm) | skip)) | refine SeqN.go ?_)); all_goals (conv => whnf)
  · have h := of_decide_eq_true ‹decide (n < 0) = true›
    refine congrArg (Value.int .u64) ?_
    simp only [us_eq, sg_eq]; unfold us sg; omega
  · have h := of_decide_eq_false ‹decide (n < 0) = false›
    refine congrArg (Value.int .u64) ?_
    simp only [us_eq]; unfold us; omega
def rmostS (g d : Int) : Int := rmx g (d.natAbs : Nat)
def rnearS (g d : Int) : Int := rmin g (d.natAbs : Nat)
def rmost (l : List Int) (x : Int) : Int := l.foldl rmostS (x.natAbs : Nat)
def rnear (l : List Int) (x : Int) : Int := l.foldl rnearS (x.natAbs : Nat)
theorem most_fold : ∀ (l : List Int) (g : Int), g ≤ l.foldl rmostS g ∧ (∀ d ∈ l, ((d.natAbs : Nat) : Int) ≤ l.foldl rmostS g) ∧ (l.foldl rmostS g = g ∨ ∃ d ∈ l, l.foldl rmostS g = (d.natAbs : Nat))
  | [], g => ⟨Int.le_refl _, fun d h => (by cases h), .inl rfl⟩
  | x :: l, g => by
    obtain ⟨h1, h2, h3⟩ := most_fold l (rmostS g x)
    have e : g ≤ rmostS g x ∧ ((x.natAbs : Nat) : Int) ≤ rmostS g x ∧ (rmostS g x = g ∨ rmostS g x = (x.natAbs : Nat)) := by unfold rmostS rmx; split <;> omega
    rw [List.foldl_cons]
    refine ⟨by omega, fun d hd => ?_, ?_⟩
    · rcases List.mem_cons.1 hd with rfl | hd
      · omega
      · exact h2 d hd
    · rcases h3 with h3 | ⟨d, hd, h3⟩
      · rcases e.2.2 with e3 | e3
        · left; omega
        · right; exact ⟨x, .head _, by omega⟩
      · right; exact ⟨d, .tail _ hd, h3⟩
theorem near_fold : ∀ (l : List Int) (g : Int), l.foldl rnearS g ≤ g ∧ (∀ d ∈ l, l.foldl rnearS g ≤ ((d.natAbs : Nat) : Int)) ∧ (l.foldl rnearS g = g ∨ ∃ d ∈ l, l.foldl rnearS g = (d.natAbs : Nat))
  | [], g => ⟨Int.le_refl _, fun d h => (by cases h), .inl rfl⟩
  | x :: l, g => by
    obtain ⟨h1, h2, h3⟩ := near_fold l (rnearS g x)
    have e : rnearS g x ≤ g ∧ rnearS g x ≤ ((x.natAbs : Nat) : Int) ∧ (rnearS g x = g ∨ rnearS g x = (x.natAbs : Nat)) := by unfold rnearS rmin; split <;> omega
    rw [List.foldl_cons]
    refine ⟨by omega, fun d hd => ?_, ?_⟩
    · rcases List.mem_cons.1 hd with rfl | hd
      · omega
      · exact h2 d hd
    · rcases h3 with h3 | ⟨d, hd, h3⟩
      · rcases e.2.2 with e3 | e3
        · left; omega
        · right; exact ⟨x, .head _, by omega⟩
      · right; exact ⟨d, .tail _ hd, h3⟩
theorem ends_parts (b : VV) (d : Int) : d ∈ endsL b ↔ ∃ p ∈ partL b, d = p.1 ∨ d = p.2 := by
  unfold endsL partL
  by_cases c1 : b.lo < 0 <;> by_cases c2 : 0 < b.hi <;> simp [c1, c2]
  · constructor
    · rintro (h | h | h | h) <;> simp [h]
    · rintro ((h | h) | h | h) <;> simp [h]
  · exact or_comm
theorem part_far {b : VV} (h : b.lo ≤ b.hi) : ∀ p ∈ partL b, p.2.natAbs ≤ p.1.natAbs := by
  intro p hp
  unfold partL at hp
  rcases List.mem_append.1 hp with hp | hp
  · split at hp
    · simp at hp; subst hp; dsimp only; split <;> omega
    · cases hp
  · split at hp
    · simp at hp; subst hp; dsimp only; split <;> omega
    · cases hp
theorem most_eq {b : VV} {x : Int} (hx : x ∈ endsL b) : rmost (endsL b) x = bgreat (partL b) := by
  obtain ⟨h1, h2, h3⟩ := most_fold (endsL b) (x.natAbs : Nat)
  have g1 := (great_has (partL b) 0).2
  have up : ∀ d ∈ endsL b, ((d.natAbs : Nat) : Int) ≤ bgreat (partL b) := by
    intro d hd
    obtain ⟨p, hp, hd⟩ := (ends_parts b d).1 hd
    have := g1 p hp
    unfold bgreat
    rcases hd with rfl | rfl <;> omega
  have dn : bgreat (partL b) ≤ rmost (endsL b) x := by
    unfold bgreat rmost
    refine great_le (partL b) (fun p hp => ⟨h2 _ ((ends_parts b _).2 ⟨p, hp, .inl rfl⟩), h2 _ ((ends_parts b _).2 ⟨p, hp, .inr rfl⟩)⟩) 0 ?_
    omega
  have le : rmost (endsL b) x ≤ bgreat (partL b) := by
    unfold rmost
    rcases h3 with h3 | ⟨d, hd, h3⟩
    · rw [h3]; exact up x hx
    · rw [h3]; exact up d hd
  omega
theorem near_eq {b : VV} {x : Int} (hx : x ∈ endsL b) (h : b.lo ≤ b.hi) (u v : Nat) : ((partL b).all fun p => decide (((p.2.natAbs : Nat) : Int) > gr u v)) = (decide (rnear (endsL b) x > (u : Int)) && decide (rnear (endsL b) x > (v : Int))) := by
  obtain ⟨h1, h2, h3⟩ := near_fold (endsL b) (x.natAbs : Nat)
  have far := part_far h
  rw [Bool.eq_iff_iff, List.all_eq_true, Bool.and_eq_true, decide_eq_true_eq, decide_eq_true_eq]
  constructor
  · intro hA
    have lo : ∀ d ∈ endsL b, ((d.natAbs : Nat) : Int) > gr u v := by
      intro d hd
      obtain ⟨p, hp, hd⟩ := (ends_parts b d).1 hd
      have q := of_decide_eq_true (hA p hp)
      have f := far p hp
      rcases hd with rfl | rfl <;> omega
    have : rnear (endsL b) x > gr u v := by
      unfold rnear
      rcases h3 with h3 | ⟨d, hd, h3⟩
      · rw [h3]; exact lo x hx
      · rw [h3]; exact lo d hd
    unfold gr at this
    split at this <;> omega
  · intro hA p hp
    have := h2 _ ((ends_parts b _).2 ⟨p, hp, .inr rfl⟩)
    have hn : rnear (endsL b) x = (endsL b).foldl rnearS (x.natAbs : Nat) := rfl
    rw [decide_eq_true_eq]
    unfold gr
    split <;> omega
theorem nat_iu {n : Int} (h0 : 0 ≤ n) (h : n ≤ 9223372036854775808) : IU n := ⟨h0, by omega⟩
theorem rMake_e (lo hi m r : Int) (h : InV ⟨lo, hi, m, r⟩) : Den Tryz.prog 84 #[.agg #[.int .i64 lo, .int .i64 hi], .agg #[.int .u64 m, .int .u64 r]] noFacts (VVal (vmake ⟨lo, hi, m, r⟩)) := rMake_d ⟨lo, hi, m, r⟩ h
set_option maxHeartbeats 8000000 in
theorem r23rem_d (a b : VV) (ha : InV a) (rb : RV b) (h0 : b.lo < 0 ∨ 0 < b.hi) (nb : b ≠ vbot) : Den Tryz.prog 106 #[VVal a, VVal b] noFacts (VVal (brest a b)) := by
  refine den_of_body (args := [VVal a, VVal b]) hmix Tryz.func106 ?_
  have hb := rb.inn
  have E := r23ends_f b
  have hl := ends_is hb
  have ll := ends_len b
  have l0 : 0 < (endsL b).length := by unfold endsL; rcases h0 with h | h <;> simp [h] <;> split <;> simp
  have mem0 : (endsL b).getD 0 0 ∈ endsL b := by
    have : (endsL b).getD 0 0 = (endsL b)[0] := by simp [List.getD, l0]
    rw [this]
    exact List.getElem_mem l0
  have eM := most_eq mem0
  have eN := near_eq mem0 (rb.le nb) a.lo.natAbs a.hi.natAbs
  have i1 : IU 1 := ⟨by decide, by decide⟩
  have i0 : IU 0 := ⟨by decide, by decide⟩
  have ci := brC_in ha hb
  have n := natabs_iu hb.lo
  have SA := r23Size_d a.lo ha.lo
  have SB := r23Size_d a.hi ha.hi
  have SC := r23Size_d b.lo hb.lo
  have S0 := r23Size_d _ (getD_is hl 0)
  have AD := den_of (F := noFacts) fun W => radd_c a.m a.r (b.lo.natAbs : Nat) 0 W ha.m.1 ha.m.2 ha.r.1 ha.r.2 n.1 n.2 (by decide) (by decide)
  have bri : IS (brI a b).1 ∧ IS (brI a b).2 := by
    have im : IS (brM b) := wrap_is _
    have z : IS 0 := ⟨by decide, by decide⟩
    constructor
    · unfold brI gr; dsimp only; split; (split; exact wrap_is _; exact ha.lo); exact z
    · unfold brI; dsimp only; split; (split; exact im; exact ha.hi); exact z
  have rl := fun i => getD_is hl i
  generalize endsL b = l at *
  have o0 : 0 ≤ (0 : Int) ∧ (0 : Int) < (l.length : Int) := ⟨by decide, Int.ofNat_lt.2 l0⟩
  (repeat' ((conv => whnf); first | refine CallN.any _ S0 ?_ | refine CallN.anyFresh _ _ E ?_ | refine Ob.mk o0 ?_ | refine rowIL 0 rfl l0 ?_ | refine AdN.mk _ _ rfl ?_ | refine DrawN.a (Ob.mk (by decide +kernel) ?_) | refine DrawN.c (Ob.mk (by decide +kernel) ?_) | refine DrawN.b (Ob.mk (by decide +kernel) ?_) | refine Ob.mk (by kernel_rfl) ?_ | (refine Br.mk (fun h => ?_) (fun h => ?_) <;> (first | (exfalso; exact Bool.false_ne_true h) | (exfalso; exact Bool.false_ne_true h.symm) | skip)))); all_goals (conv => whnf)
  refine SeqN.go ?_
  (repeat' ((conv => whnf); first | refine AdN.mk _ _ rfl ?_ | refine DrawN.a (Ob.mk (by decide +kernel) ?_) | refine DrawN.c (Ob.mk (by decide +kernel) ?_) | refine DrawN.b (Ob.mk (by decide +kernel) ?_) | refine Ob.mk (by kernel_rfl) ?_ | (refine Br.mk (fun h => ?_) (fun h => ?_) <;> (first | (exfalso; exact Bool.false_ne_true h) | (exfalso; exact Bool.false_ne_true h.symm) | skip)))); all_goals (conv => whnf)
  generalize l.getD 0 0 = x0 at *
  refine LoopN.mk {i : Nat // i ≤ l.length} (fun i => [(8, .v (.int .i64 i.1)), (6, .v (.int .u64 (rmost (l.take i.1) x0))), (7, .v (.int .u64 (rnear (l.take i.1) x0)))]) (fun i => [.cells ((VC a).map .v), .cells ((VC b).map .v), .cells [.junk, .junk, .junk, .junk], .row 2 1 l.length (ICs l)]) (fun i => l.length - i.1) ⟨0, Nat.zero_le _⟩ ?_ ?_
  · (conv => whnf); (repeat' (first | exact True.intro | exact rfl | refine And.intro ?_ ?_ | decide))
  (conv => whnf)
  rintro ⟨i, hi⟩
  dsimp only at hi ⊢
  by_cases hil : i < l.length
  · have oi : 0 ≤ (i : Int) ∧ (i : Int) < (l.length : Int) := ⟨Int.natCast_nonneg _, Int.ofNat_lt.2 hil⟩
    have es := take_succ_getD hil
    have em : rmost (l.take (i + 1)) x0 = rmx (rmost (l.take i) x0) ((l.getD i 0).natAbs : Nat) := by
      unfold rmost
      rw [es, List.foldl_append]
      rfl
    have en : rnear (l.take (i + 1)) x0 = rmin (rnear (l.take i) x0) ((l.getD i 0).natAbs : Nat) := by
      unfold rnear
      rw [es, List.foldl_append]
      rfl
    have Q := r23Size_d (l.getD i 0) (rl i)
    (repeat' ((conv => whnf); first | refine CallN.any _ Q ?_ | refine Ob.mk oi ?_ | refine rowIL i rfl hil ?_ | refine AdN.mk _ _ rfl ?_ | refine DrawN.a (Ob.mk (by decide +kernel) ?_) | refine DrawN.c (Ob.mk (by decide +kernel) ?_) | refine DrawN.b (Ob.mk (by decide +kernel) ?_) | refine Ob.mk (by kernel_rfl) ?_ | (refine Br.mk (fun h => ?_) (fun h => ?_) <;> (first | (exfalso; exact Bool.false_ne_true h) | (exfalso; exact Bool.false_ne_true h.symm) | (exfalso; exact absurd (Int.ofNat_lt.2 hil) (of_decide_eq_false ‹_›)) | skip)) | refine SeqN.go ?_)); all_goals (conv => whnf)
    refine RoundN.mk ⟨i + 1, hil⟩ (Nat.sub_succ_lt_self _ _ hil) ?_
    (conv => whnf); (repeat' (first | exact True.intro | exact rfl | refine And.intro ?_ ?_ | decide))
    all_goals first | exact congrArg (Value.int _) (wi8 hil (by omega)) | (dsimp only; rw [em]; rfl) | (dsimp only; rw [en]; rfl) | trace_state
  · obtain rfl : i = l.length := by omega
    rw [List.take_length, eM]
    have z : IS 0 := ⟨by decide, by decide⟩
    by_cases hs : b.lo = b.hi
    · have ec : brC a b = cadd a.m a.r (b.lo.natAbs : Nat) 0 := by unfold brC; rw [if_pos hs, cmake0_iu]
      rw [ec] at ci
      have eb : brest a b = if (decide (rnear l x0 > ((a.lo.natAbs : Nat) : Int)) && decide (rnear l x0 > ((a.hi.natAbs : Nat) : Int))) = true then a else vmk (brI a b) (cadd a.m a.r (b.lo.natAbs : Nat) 0) := by unfold brest; rw [eN, vmk_iof, ec]
      rw [eb]
      unfold brI brM
      clear eM eN ec eb bri E hl ll l0 mem0
      (repeat' ((conv => whnf); first | refine CallN.any _ SA ?_ | refine CallN.any _ SB ?_ | refine CallN.any _ SC ?_ | refine CallN.any _ AD ?_ | refine CallN.any _ (rMake_e _ _ _ _ ?_) ?_ | refine AdN.mk _ _ rfl ?_ | refine DrawN.a (Ob.mk (by decide +kernel) ?_) | refine DrawN.c (Ob.mk (by decide +kernel) ?_) | refine DrawN.b (Ob.mk (by decide +kernel) ?_) | refine Ob.mk (by kernel_rfl) ?_ | (refine Br.mk (fun h => ?_) (fun h => ?_) <;> (first | (exfalso; exact Bool.false_ne_true h) | (exfalso; exact Bool.false_ne_true h.symm) | (exfalso; exact absurd (Int.ofNat_lt.1 (of_decide_eq_true ‹_›)) hil) | (exfalso; simp [hs] at *; done) | skip)) | refine SeqN.go ?_)); all_goals (conv => whnf)
      all_goals try (refine InV.mk ?_ ?_ ?_ ?_ <;> dsimp only <;> first | exact z | exact bite_is (wrap_is _) ha.lo | exact bite_is (wrap_is _) ha.hi | exact ci.1 | exact ci.2 | exact i1 | exact i0)
      all_goals (clear SA SB SC AD S0 ha rb hb n z i1 i0 ci rl; simp only [decide_eq_true_eq, decide_eq_false_iff_not, Bool.and_eq_true] at *; refine congrArg VVal ?_; unfold vmk gr; simp only [Int.zero_sub] at *; first | grind | trace_state)
    · have ec : brC a b = (1, 0) := by unfold brC; rw [if_neg hs]
      have eb : brest a b = if (decide (rnear l x0 > ((a.lo.natAbs : Nat) : Int)) && decide (rnear l x0 > ((a.hi.natAbs : Nat) : Int))) = true then a else vmk (brI a b) (1, 0) := by unfold brest; rw [eN, vmk_iof, ec]
      rw [eb]
      unfold brI brM
      clear eM eN ec eb bri E hl ll l0 mem0
      (repeat' ((conv => whnf); first | refine CallN.any _ SA ?_ | refine CallN.any _ SB ?_ | refine CallN.any _ (rMake_e _ _ _ _ ?_) ?_ | refine AdN.mk _ _ rfl ?_ | refine DrawN.a (Ob.mk (by decide +kernel) ?_) | refine DrawN.c (Ob.mk (by decide +kernel) ?_) | refine DrawN.b (Ob.mk (by decide +kernel) ?_) | refine Ob.mk (by kernel_rfl) ?_ | (refine Br.mk (fun h => ?_) (fun h => ?_) <;> (first | (exfalso; exact Bool.false_ne_true h) | (exfalso; exact Bool.false_ne_true h.symm) | (exfalso; exact absurd (Int.ofNat_lt.1 (of_decide_eq_true ‹_›)) hil) | (exfalso; simp [hs] at *; done) | skip)) | refine SeqN.go ?_)); all_goals (conv => whnf)
      all_goals try (refine InV.mk ?_ ?_ ?_ ?_ <;> dsimp only <;> first | exact z | exact bite_is (wrap_is _) ha.lo | exact bite_is (wrap_is _) ha.hi | exact ci.1 | exact ci.2 | exact i1 | exact i0)
      all_goals (clear SA SB SC AD S0 ha rb hb n z i1 i0 ci rl; simp only [decide_eq_true_eq, decide_eq_false_iff_not, Bool.and_eq_true] at *; refine congrArg VVal ?_; unfold vmk gr; simp only [Int.zero_sub] at *; first | grind | trace_state)
end Go.Proofs.YtljhbdgoknfkcaaGreatDoor
