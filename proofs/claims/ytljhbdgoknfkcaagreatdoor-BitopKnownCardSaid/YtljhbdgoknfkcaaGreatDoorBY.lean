/- Contracts of the reference of bitop: digits. -/
import Derived.Test.YtljhbdgoknfkcaaGreatDoorBW
namespace Go.Proofs.YtljhbdgoknfkcaaGreatDoor
open Go Go.RowKit Go.Sort
set_option linter.unusedVariables false
set_option linter.unusedSimpArgs false
set_option maxRecDepth 100000

/-- The greatest room of some numbers. -/
def rooms (l : List Int) : Nat := l.foldl (fun k x => max k (roomN x)) 0
theorem rooms_succ {l : List Int} {i : Nat} (h : i < l.length) : rooms (l.take (i + 1)) = max (rooms (l.take i)) (roomN (l.getD i 0)) := by
  unfold rooms
  rw [take_succ_getD h, List.foldl_append]
  rfl
theorem rooms63 {l : List Int} (hl : ∀ x ∈ l, IS x) : rooms l ≤ 63 := by
  have : ∀ (l : List Int) (k : Nat), k ≤ 63 → (∀ x ∈ l, IS x) → l.foldl (fun k x => max k (roomN x)) k ≤ 63 := by
    intro l
    induction l with
    | nil => intro k hk _; exact hk
    | cons x l ih => intro k hk h; exact ih _ (by have := room63 (h x (.head _)); show max k (roomN x) ≤ 63; omega) fun y hy => h y (.tail _ hy)
  exact this l 0 (by decide) hl
/-- Whether a number is beyond k digits. -/
theorem half_big {x : Int} {k : Nat} (hx : IS x) (hk : k ≤ 63) : (x > 2 ^ k - 1 ∨ x < IntKind.i64.wrap (IntKind.i64.wrap (0 - (2 ^ k - 1)) - 1)) ↔ k < roomN x := by
  have e63 : (2 : Int) ^ 63 = 9223372036854775808 := by decide
  have h1 := p2mono hk
  have pk := p2pos k
  have e : IntKind.i64.wrap (IntKind.i64.wrap (0 - (2 ^ k - 1)) - 1) = -(2 ^ k) := by
    rw [sg_eq, sg_eq, sg_in (0 - (2 ^ k - 1)) (by omega) (by omega), sg_in _ (by omega) (by omega)]
    omega
  rw [e]
  constructor
  · intro h
    by_cases c : k < roomN x
    · exact c
    · have q := Nat.lt_of_lt_of_le (room_lt hx) (Nat.pow_le_pow_right (by decide : 0 < 2) (show roomN x ≤ k by omega))
      have := mag_bound q
      omega
  · intro h
    by_cases c : mag x < 2 ^ k
    · have := room_le c
      omega
    · rw [mag_lt] at c
      split at c <;> omega
theorem half_next {k : Nat} (hk : k < 63) : IntKind.i64.wrap (IntKind.i64.wrap (2 * (2 ^ k - 1)) + 1) = 2 ^ (k + 1) - 1 := by
  have e63 : (2 : Int) ^ 63 = 9223372036854775808 := by decide
  have h1 := p2mono (show k + 1 ≤ 63 by omega)
  have pk := p2pos k
  rw [Int.pow_succ] at h1 ⊢
  rw [sg_eq, sg_eq, sg_in (2 * (2 ^ k - 1)) (by omega) (by omega), sg_in _ (by omega) (by omega)]
  omega
set_option maxHeartbeats 8000000 in
theorem r23half_d (l : List Int) (hl : ∀ p ∈ l, IS p) (hlen : l.length ≤ 1000) : DenA Tryz.prog 207 noFacts [.r 1 l.length (ICs l)] (.int .i64 (2 ^ rooms l - 1)) := by
  refine DenA.fam ?_
  intro ad b off c hs _
  rw [orF_no]
  refine den_of_body (args := [.slice ad l.length c]) hmix Tryz.func207 ?_
  (repeat' ((conv => whnf); first | refine AdN.mk _ _ rfl ?_ | refine DrawN.a (Ob.mk (by decide +kernel) ?_) | refine DrawN.c (Ob.mk (by decide +kernel) ?_) | refine DrawN.b (Ob.mk (by decide +kernel) ?_) | refine Ob.mk (by kernel_rfl) ?_ | (refine Br.mk (fun h => ?_) (fun h => ?_) <;> (first | (exfalso; exact Bool.false_ne_true h) | (exfalso; exact Bool.false_ne_true h.symm) | skip)))); all_goals (conv => whnf)
  refine SeqN.go ?_
  (repeat' ((conv => whnf); first | refine AdN.mk _ _ rfl ?_ | refine DrawN.a (Ob.mk (by decide +kernel) ?_) | refine DrawN.c (Ob.mk (by decide +kernel) ?_) | refine DrawN.b (Ob.mk (by decide +kernel) ?_) | refine Ob.mk (by kernel_rfl) ?_ | (refine Br.mk (fun h => ?_) (fun h => ?_) <;> (first | (exfalso; exact Bool.false_ne_true h) | (exfalso; exact Bool.false_ne_true h.symm) | skip)))); all_goals (conv => whnf)
  refine LoopN.mk {i : Nat // i ≤ l.length} (fun i => [(4, .v (.int .i64 i.1)), (3, .v (.int .i64 (2 ^ rooms (l.take i.1) - 1)))]) (fun i => []) (fun i => l.length - i.1) ⟨0, Nat.zero_le _⟩ ?_ ?_
  · (conv => whnf); (repeat' (first | exact True.intro | exact rfl | refine And.intro ?_ ?_ | decide))
  (conv => whnf)
  rintro ⟨i, hi⟩
  by_cases hil : i < l.length
  · have oi : 0 ≤ (i : Int) ∧ (i : Int) < (l.length : Int) := ⟨Int.natCast_nonneg _, Int.ofNat_lt.2 hil⟩
    have hx : IS (l.getD i 0) := getD_is hl i
    have er := rooms_succ hil
    have r1 : rooms (l.take i) ≤ 63 := rooms63 fun x h => hl x (List.mem_of_mem_take h)
    have r2 := room63 hx
    (repeat' ((conv => whnf); first | refine SeqN.go ?_ | refine AdN.mk _ _ rfl ?_ | refine DrawN.a (Ob.mk (by decide +kernel) ?_) | refine DrawN.c (Ob.mk (by decide +kernel) ?_) | refine DrawN.b (Ob.mk (by decide +kernel) ?_) | refine Ob.mk (by kernel_rfl) ?_ | (refine Br.mk (fun h => ?_) (fun h => ?_) <;> (first | (exfalso; exact Bool.false_ne_true h) | (exfalso; exact Bool.false_ne_true h.symm) | (exfalso; exact absurd (Int.ofNat_lt.2 hil) (of_decide_eq_false ‹_›)) | skip)))); all_goals (conv => whnf)
    dsimp only
    generalize rooms (l.take i) = R at *
    refine LoopN.mk {k : Nat // R ≤ k ∧ k ≤ max R (roomN (l.getD i 0))} (fun k => [(3, .v (.int .i64 (2 ^ k.1 - 1)))]) (fun _ => []) (fun k => 64 - k.1) ⟨R, Nat.le_refl _, Nat.le_max_left _ _⟩ ?_ ?_
    · (conv => whnf); (repeat' (first | exact True.intro | exact rfl | refine And.intro ?_ ?_ | decide))
    (conv => whnf)
    rintro ⟨k, hk1, hk2⟩
    have big := half_big (x := l.getD i 0) (k := k) hx (by omega)
    (repeat' ((conv => whnf); first | refine Ob.mk oi ?_ | refine AdN.mk b off (hs (by omega)) ?_ | refine cellsI (i : Int) oi.1 oi.2 ?_ | refine AdN.mk _ _ rfl ?_ | refine DrawN.a (Ob.mk (by decide +kernel) ?_) | refine DrawN.c (Ob.mk (by decide +kernel) ?_) | refine DrawN.b (Ob.mk (by decide +kernel) ?_) | refine Ob.mk (by kernel_rfl) ?_ | (refine Br.mk (fun h => ?_) (fun h => ?_) <;> (first | (exfalso; exact Bool.false_ne_true h) | (exfalso; exact Bool.false_ne_true h.symm) | skip)) | refine SeqN.go ?_)); all_goals (conv => whnf)
    · have q := big.1 (.inl (of_decide_eq_true ‹decide (l.getD i 0 > 2 ^ k - 1) = true›))
      refine RoundN.mk ⟨k + 1, by omega, by omega⟩ (by show 64 - (k + 1) < 64 - k; omega) ?_
      (conv => whnf); (repeat' (first | exact True.intro | exact rfl | refine And.intro ?_ ?_ | decide))
      exact congrArg (Value.int _) (half_next (k := k) (by omega))
    · have q := big.1 (.inr (of_decide_eq_true ‹decide (l.getD i 0 < IntKind.i64.wrap (IntKind.i64.wrap (0 - (2 ^ k - 1)) - 1)) = true›))
      refine RoundN.mk ⟨k + 1, by omega, by omega⟩ (by show 64 - (k + 1) < 64 - k; omega) ?_
      (conv => whnf); (repeat' (first | exact True.intro | exact rfl | refine And.intro ?_ ?_ | decide))
      exact congrArg (Value.int _) (half_next (k := k) (by omega))
    · have q1 := of_decide_eq_false ‹decide (l.getD i 0 > 2 ^ k - 1) = false›
      have q2 := of_decide_eq_false ‹decide (l.getD i 0 < IntKind.i64.wrap (IntKind.i64.wrap (0 - (2 ^ k - 1)) - 1)) = false›
      have q : k = max R (roomN (l.getD i 0)) := by
        have : ¬ k < roomN (l.getD i 0) := fun h => (big.2 h).elim q1 q2
        omega
      refine RoundN.mk ⟨i + 1, hil⟩ (Nat.sub_succ_lt_self _ _ hil) ?_
      (conv => whnf); (repeat' (first | exact True.intro | exact rfl | refine And.intro ?_ ?_ | decide))
      all_goals first | exact congrArg (Value.int _) (wi8 hil (by omega)) | (show Value.int .i64 (2 ^ k - 1) = Value.int .i64 (2 ^ rooms (l.take (i + 1)) - 1); rw [er, ← q]; done) | trace_state
  · obtain rfl : i = l.length := by omega
    (repeat' ((conv => whnf); first | refine AdN.mk _ _ rfl ?_ | refine DrawN.a (Ob.mk (by decide +kernel) ?_) | refine DrawN.c (Ob.mk (by decide +kernel) ?_) | refine DrawN.b (Ob.mk (by decide +kernel) ?_) | refine Ob.mk (by kernel_rfl) ?_ | (refine Br.mk (fun h => ?_) (fun h => ?_) <;> (first | (exfalso; exact Bool.false_ne_true h) | (exfalso; exact Bool.false_ne_true h.symm) | (exfalso; exact absurd (Int.ofNat_lt.1 (of_decide_eq_true ‹_›)) hil) | skip)) | refine SeqN.go ?_)); all_goals (conv => whnf)
    show Value.int .i64 (2 ^ rooms (l.take l.length) - 1) = _
    rw [List.take_length]
/-! Intervals of digits. -/
theorem rooms_two (x y : Int) : rooms [x, y] = max (roomN x) (roomN y) := by unfold rooms; simp
theorem rooms_four (x y z w : Int) : rooms [x, y, z, w] = max (max (roomN x) (roomN y)) (max (roomN z) (roomN w)) := by unfold rooms; simp [Nat.max_assoc]
theorem room_mono {x y : Int} (hx : IS x) (hy : IS y) (h : x ≤ y) (h0 : y < 0) : roomN y ≤ roomN x := by
  refine room_le (mag_mono (room_lt hx) h h0)
theorem half_neg {k : Nat} (hk : k ≤ 63) : IntKind.i64.wrap (IntKind.i64.wrap (0 - (2 ^ k - 1)) - 1) = -(2 ^ k) := by
  have e63 : (2 : Int) ^ 63 = 9223372036854775808 := by decide
  have h1 := p2mono hk
  have pk := p2pos k
  rw [sg_eq, sg_eq, sg_in (0 - (2 ^ k - 1)) (by omega) (by omega), sg_in _ (by omega) (by omega)]
  omega
theorem both_room {x y : Int} (hx : IS x) (hy : IS y) (h1 : x < 0) (h2 : y < 0) : roomN (if y < x then y else x) = max (roomN x) (roomN y) := by
  split
  · have := room_mono hy hx (by omega) h1; omega
  · have := room_mono hx hy (by omega) h2; omega
set_option maxHeartbeats 8000000 in
theorem r23and_d (a b : VV) (ha : InV a) (hb : InV b) : Den Tryz.prog 108 #[.agg #[.int .i64 a.lo, .int .i64 a.hi], .agg #[.int .i64 b.lo, .int .i64 b.hi]] noFacts (.agg #[.int .i64 (bothI a b).1, .int .i64 (bothI a b).2]) := by
  refine den_of_body (args := [.agg #[.int .i64 a.lo, .int .i64 a.hi], .agg #[.int .i64 b.lo, .int .i64 b.hi]]) hmix Tryz.func108 ?_
  have H : DenA Tryz.prog 207 noFacts [.r 1 2 [.int .i64 a.lo, .int .i64 b.lo]] (.int .i64 (2 ^ rooms [a.lo, b.lo] - 1)) := r23half_d [a.lo, b.lo] (by intro p hp; simp at hp; rcases hp with rfl | rfl <;> first | exact ha.lo | exact hb.lo) (by show 2 ≤ 1000; decide)
  rw [rooms_two] at H
  have ra := room63 ha.lo
  have rb := room63 hb.lo
  have hn := half_neg (k := max (roomN a.lo) (roomN b.lo)) (by omega)
  have br := both_room ha.lo hb.lo
  have nw := npow_wrap (k := max (roomN a.lo) (roomN b.lo)) (by omega)
  have bl : a.lo < 0 → b.lo < 0 → IntKind.i64.wrap (-1 * 2 ^ min (roomN (if b.lo < a.lo then b.lo else a.lo)) 64) = -(2 ^ max (roomN a.lo) (roomN b.lo)) := fun h1 h2 => by rw [br h1 h2, nw]
  (repeat' ((conv => whnf); first | refine CallA.any _ H ?_ | refine Ob.mk ⟨by decide, by decide⟩ ?_ | refine AdN.mk _ _ rfl ?_ | refine DrawN.a (Ob.mk (by decide +kernel) ?_) | refine DrawN.c (Ob.mk (by decide +kernel) ?_) | refine DrawN.b (Ob.mk (by decide +kernel) ?_) | refine Ob.mk (by kernel_rfl) ?_ | (refine Br.mk (fun h => ?_) (fun h => ?_) <;> (first | (exfalso; exact Bool.false_ne_true h) | (exfalso; exact Bool.false_ne_true h.symm) | skip)) | refine SeqN.go ?_)); all_goals (conv => whnf)
  all_goals (clear H nw br; simp only [decide_eq_true_eq, decide_eq_false_iff_not, hn] at *; unfold bothI; dsimp only; first | (exfalso; omega) | grind [retV] | trace_state)
/-! The congruence of digits. -/
def rdM1 (m x : Int) : Int := if x > 0 then rmin m x else m
def rdM (a b : VV) : Int := rdM1 (rdM1 9223372036854775808 (cwrapped a.m a.r).1) (cwrapped b.m b.r).1
def rdg (op : Int) (a b : VV) : Int × Int := (rdM a b, cmake (rdM a b) (wopV op (sg (cwrapped a.m a.r).2) (sg (cwrapped b.m b.r).2)))
theorem rdM_in {a b : VV} (ha : InV a) (hb : InV b) : IU (rdM a b) := by
  have wa := (cwr_in ha.m ha.r).1
  have wb := (cwr_in hb.m hb.r).1
  have h0 : IU 9223372036854775808 := ⟨by decide, by decide⟩
  have key : ∀ m x, IU m → IU x → IU (rdM1 m x) := fun m x hm hx => by unfold rdM1 rmin; split; (split; exact hx; exact hm); exact hm
  exact key _ _ (key _ _ h0 wa) wb
set_option maxHeartbeats 8000000 in
theorem r23digital_d (op : Int) (ho : 0 ≤ op ∧ op ≤ 17) (a b : VV) (ha : InV a) (hb : InV b) (x y : Int) (hx : IS x) (hy : IS y) : Den Tryz.prog 107 #[.int .i64 op, VVal a, VVal b, .agg #[.int .i64 x, .int .i64 y]] noFacts (VVal (vmk (x, y) (rdg op a b))) := by
  refine den_of_body (args := [.int .i64 op, VVal a, VVal b, .agg #[.int .i64 x, .int .i64 y]]) hmix Tryz.func107 ?_
  have W1 := den_of (F := noFacts) fun w => rwrapped_c a.m a.r w ha.m.1 ha.m.2 ha.r.1 ha.r.2
  have W2 := den_of (F := noFacts) fun w => rwrapped_c b.m b.r w hb.m.1 hb.m.2 hb.r.1 hb.r.2
  have D := rDo_d op (sg (cwrapped a.m a.r).2) (sg (cwrapped b.m b.r).2) (sg_rng _) (sg_rng _) ho
  have iw := wopV_is (y := sg (cwrapped b.m b.r).2) ho (sg_rng (cwrapped a.m a.r).2)
  have iM := rdM_in ha hb
  have C := den_of (F := noFacts) fun w => rmake_c (rdM a b) (wopV op (sg (cwrapped a.m a.r).2) (sg (cwrapped b.m b.r).2)) w iM.1 iM.2 iw.1 iw.2
  have V := rMake_d ⟨x, y, rdM a b, cmake (rdM a b) (wopV op (sg (cwrapped a.m a.r).2) (sg (cwrapped b.m b.r).2))⟩ ⟨hx, hy, iM, cmake_iu iM⟩
  unfold vmk rdg
  dsimp only
  simp only [← sg_eq] at D C V ⊢
  generalize wopV op (IntKind.i64.wrap (cwrapped a.m a.r).2) (IntKind.i64.wrap (cwrapped b.m b.r).2) = n at *
  generalize hr : vmake _ = res at *
  unfold rdM rdM1 rmin at C V
  generalize cwrapped a.m a.r = ca at *
  generalize cwrapped b.m b.r = cb at *
  by_cases c1 : ca.1 > 0 <;> by_cases c2 : cb.1 > 0
  · simp only [if_pos c1, if_pos c2] at C V
    (repeat' ((conv => whnf); first | refine CallN.any _ W1 ?_ | refine CallN.any _ W2 ?_ | refine CallN.any _ D ?_ | refine CallN.any _ C ?_ | refine CallN.any _ V ?_ | (exfalso; exact c1 (of_decide_eq_true ‹_›)) | (exfalso; exact c2 (of_decide_eq_true ‹_›)) | (exfalso; exact absurd c1 (of_decide_eq_false ‹_›)) | (exfalso; exact absurd c2 (of_decide_eq_false ‹_›)) | refine AdN.mk _ _ rfl ?_ | refine DrawN.a (Ob.mk (by decide +kernel) ?_) | refine DrawN.c (Ob.mk (by decide +kernel) ?_) | refine DrawN.b (Ob.mk (by decide +kernel) ?_) | refine Ob.mk (by kernel_rfl) ?_ | (refine Br.mk (fun h => ?_) (fun h => ?_) <;> (first | (exfalso; exact Bool.false_ne_true h) | (exfalso; exact Bool.false_ne_true h.symm) | skip)) | refine SeqN.go ?_)); all_goals (conv => whnf)
    all_goals first | rfl | trace_state
  · simp only [if_pos c1, if_neg c2] at C V
    (repeat' ((conv => whnf); first | refine CallN.any _ W1 ?_ | refine CallN.any _ W2 ?_ | refine CallN.any _ D ?_ | refine CallN.any _ C ?_ | refine CallN.any _ V ?_ | (exfalso; exact c1 (of_decide_eq_true ‹_›)) | (exfalso; exact c2 (of_decide_eq_true ‹_›)) | (exfalso; exact absurd c1 (of_decide_eq_false ‹_›)) | (exfalso; exact absurd c2 (of_decide_eq_false ‹_›)) | refine AdN.mk _ _ rfl ?_ | refine DrawN.a (Ob.mk (by decide +kernel) ?_) | refine DrawN.c (Ob.mk (by decide +kernel) ?_) | refine DrawN.b (Ob.mk (by decide +kernel) ?_) | refine Ob.mk (by kernel_rfl) ?_ | (refine Br.mk (fun h => ?_) (fun h => ?_) <;> (first | (exfalso; exact Bool.false_ne_true h) | (exfalso; exact Bool.false_ne_true h.symm) | skip)) | refine SeqN.go ?_)); all_goals (conv => whnf)
    all_goals first | rfl | trace_state
  · simp only [if_neg c1, if_pos c2] at C V
    (repeat' ((conv => whnf); first | refine CallN.any _ W1 ?_ | refine CallN.any _ W2 ?_ | refine CallN.any _ D ?_ | refine CallN.any _ C ?_ | refine CallN.any _ V ?_ | (exfalso; exact c1 (of_decide_eq_true ‹_›)) | (exfalso; exact c2 (of_decide_eq_true ‹_›)) | (exfalso; exact absurd c1 (of_decide_eq_false ‹_›)) | (exfalso; exact absurd c2 (of_decide_eq_false ‹_›)) | refine AdN.mk _ _ rfl ?_ | refine DrawN.a (Ob.mk (by decide +kernel) ?_) | refine DrawN.c (Ob.mk (by decide +kernel) ?_) | refine DrawN.b (Ob.mk (by decide +kernel) ?_) | refine Ob.mk (by kernel_rfl) ?_ | (refine Br.mk (fun h => ?_) (fun h => ?_) <;> (first | (exfalso; exact Bool.false_ne_true h) | (exfalso; exact Bool.false_ne_true h.symm) | skip)) | refine SeqN.go ?_)); all_goals (conv => whnf)
    all_goals first | rfl | trace_state
  · simp only [if_neg c1, if_neg c2] at C V
    (repeat' ((conv => whnf); first | refine CallN.any _ W1 ?_ | refine CallN.any _ W2 ?_ | refine CallN.any _ D ?_ | refine CallN.any _ C ?_ | refine CallN.any _ V ?_ | (exfalso; exact c1 (of_decide_eq_true ‹_›)) | (exfalso; exact c2 (of_decide_eq_true ‹_›)) | (exfalso; exact absurd c1 (of_decide_eq_false ‹_›)) | (exfalso; exact absurd c2 (of_decide_eq_false ‹_›)) | refine AdN.mk _ _ rfl ?_ | refine DrawN.a (Ob.mk (by decide +kernel) ?_) | refine DrawN.c (Ob.mk (by decide +kernel) ?_) | refine DrawN.b (Ob.mk (by decide +kernel) ?_) | refine Ob.mk (by kernel_rfl) ?_ | (refine Br.mk (fun h => ?_) (fun h => ?_) <;> (first | (exfalso; exact Bool.false_ne_true h) | (exfalso; exact Bool.false_ne_true h.symm) | skip)) | refine SeqN.go ?_)); all_goals (conv => whnf)
    all_goals first | rfl | trace_state
/-! What the reference makes of values is what package bitop makes of them: quotients, digits. -/
/-! Quotients. -/
theorem wop_pair (a : VV) (d : Int) : rmin (wopV 16 a.lo d) (wopV 16 a.hi d) ≤ rmx (wopV 16 a.lo d) (wopV 16 a.hi d) := by unfold rmin rmx; split <;> split <;> omega
/-- What an interval of quotients is: the least and the greatest of them. -/
structure SpanOf (S : Int → Prop) (o : Int × Int) : Prop where
  lo : S o.1
  hi : S o.2
  all : ∀ s, S s → o.1 ≤ s ∧ s ≤ o.2
theorem SpanOf.eq {S : Int → Prop} {o p : Int × Int} (h : SpanOf S o) (k : SpanOf S p) : o = p := by
  have h1 := h.all _ k.lo; have h2 := h.all _ k.hi; have k1 := k.all _ h.lo; have k2 := k.all _ h.hi
  exact Prod.ext (by omega) (by omega)
def quoS (a : VV) (l : List Int) (s : Int) : Prop := ∃ d ∈ l, s = wopV 16 a.lo d ∨ s = wopV 16 a.hi d
theorem rdS_span {a : VV} {l : List Int} {o : Int × Int} (d : Int) (h : l ≠ [] ∧ SpanOf (quoS a l) o) : SpanOf (quoS a (l ++ [d])) (rdS a o d) := by
  obtain ⟨_, h⟩ := h
  have le : o.1 ≤ o.2 := (h.all _ h.lo).2
  have wp := wop_pair a d
  have e : rdS a o d = (rmin o.1 (rmin (wopV 16 a.lo d) (wopV 16 a.hi d)), rmx (rmx (wopV 16 a.lo d) (wopV 16 a.hi d)) o.2) := by
    unfold rdS rijoin
    rw [if_neg (by omega), if_neg (by omega)]
    unfold rmin rmx
    refine Prod.ext ?_ ?_ <;> dsimp only <;> repeat' split
    all_goals omega
  have lift : ∀ s, quoS a l s → quoS a (l ++ [d]) s := fun s ⟨x, hx, hs⟩ => ⟨x, List.mem_append_left _ hx, hs⟩
  have new1 : quoS a (l ++ [d]) (wopV 16 a.lo d) := ⟨d, by simp, .inl rfl⟩
  have new2 : quoS a (l ++ [d]) (wopV 16 a.hi d) := ⟨d, by simp, .inr rfl⟩
  rw [e]
  refine ⟨?_, ?_, ?_⟩
  · dsimp only; unfold rmin; repeat' split
    all_goals first | exact new1 | exact new2 | exact lift _ h.lo
  · dsimp only; unfold rmx; repeat' split
    all_goals first | exact new1 | exact new2 | exact lift _ h.hi
  · rintro s ⟨x, hx, hs⟩
    have : (o.1 ≤ s ∧ s ≤ o.2) ∨ s = wopV 16 a.lo d ∨ s = wopV 16 a.hi d := by
      rcases List.mem_append.1 hx with hx | hx
      · exact .inl (h.all s ⟨x, hx, hs⟩)
      · simp at hx; subst hx; exact .inr hs
    unfold rmin rmx
    dsimp only
    constructor <;> repeat' split
    all_goals omega
theorem rdI_span (a : VV) : ∀ (l : List Int) (p : List Int) (o : Int × Int), p ≠ [] ∧ SpanOf (quoS a p) o → SpanOf (quoS a (p ++ l)) (l.foldl (rdS a) o)
  | [], p, o, h => by rw [List.append_nil]; exact h.2
  | d :: l, p, o, h => by
    rw [List.foldl_cons, show p ++ d :: l = (p ++ [d]) ++ l by simp]
    exact rdI_span a l (p ++ [d]) _ ⟨by simp, rdS_span d h⟩
theorem rdI_is_span (a : VV) {l : List Int} (hl : l ≠ []) : SpanOf (quoS a l) (rdI a l) := by
  match l, hl with
  | d :: l, _ =>
    have wp := wop_pair a d
    have e : rdS a (1, 0) d = (rmin (wopV 16 a.lo d) (wopV 16 a.hi d), rmx (wopV 16 a.lo d) (wopV 16 a.hi d)) := by
      unfold rdS rijoin
      rw [if_pos (by decide)]
      unfold iof
      rw [if_neg (by omega)]
    have s1 : SpanOf (quoS a [d]) (rdS a (1, 0) d) := by
      rw [e]
      have n1 : quoS a [d] (wopV 16 a.lo d) := ⟨d, by simp, .inl rfl⟩
      have n2 : quoS a [d] (wopV 16 a.hi d) := ⟨d, by simp, .inr rfl⟩
      refine ⟨?_, ?_, ?_⟩
      · dsimp only; unfold rmin; split <;> assumption
      · dsimp only; unfold rmx; split <;> assumption
      · rintro s ⟨x, hx, hs⟩
        simp at hx; subst hx
        unfold rmin rmx; dsimp only
        constructor <;> split <;> omega
    exact rdI_span a l [d] _ ⟨by simp, s1⟩
theorem foldspan_mem (l : List Int) : ∀ s : Int × Int, ((l.foldl spanS s).1 = s.1 ∨ (l.foldl spanS s).1 ∈ l) ∧ ((l.foldl spanS s).2 = s.2 ∨ (l.foldl spanS s).2 ∈ l) := by
  induction l with
  | nil => intro s; exact ⟨.inl rfl, .inl rfl⟩
  | cons q l ih =>
    intro s
    obtain ⟨h1, h2⟩ := ih (spanS s q)
    rw [List.foldl_cons]
    have e1 : (spanS s q).1 = s.1 ∨ (spanS s q).1 = q := by unfold spanS; dsimp only; split <;> simp
    have e2 : (spanS s q).2 = s.2 ∨ (spanS s q).2 = q := by unfold spanS; dsimp only; split <;> simp
    constructor
    · rcases h1 with h1 | h1
      · rcases e1 with e1 | e1
        · left; rw [h1, e1]
        · right; rw [h1, e1]; exact .head _
      · right; exact .tail _ h1
    · rcases h2 with h2 | h2
      · rcases e2 with e2 | e2
        · left; rw [h2, e2]
        · right; rw [h2, e2]; exact .head _
      · right; exact .tail _ h2
theorem qspan_mem {l : List Int} (hl : l ≠ []) : (qspan l).1 ∈ l ∧ (qspan l).2 ∈ l := by
  match l, hl with
  | q :: l, _ =>
    obtain ⟨h1, h2⟩ := foldspan_mem (q :: l) (q, q)
    constructor
    · rcases h1 with h1 | h1
      · show ((q :: l).foldl spanS (q, q)).1 ∈ _; rw [h1]; exact .head _
      · exact h1
    · rcases h2 with h2 | h2
      · show ((q :: l).foldl spanS (q, q)).2 ∈ _; rw [h2]; exact .head _
      · exact h2
theorem quoL_mem (a b : VV) (s : Int) : s ∈ quoL a (partL b) ↔ quoS a (endsL b) s := by
  unfold quoL quoS
  rw [List.mem_flatten]
  constructor
  · rintro ⟨l, hl, hs⟩
    obtain ⟨p, hp, rfl⟩ := List.mem_map.1 hl
    simp at hs
    rcases hs with hs | hs | hs | hs
    · exact ⟨p.1, (ends_parts b _).2 ⟨p, hp, .inl rfl⟩, .inl hs⟩
    · exact ⟨p.1, (ends_parts b _).2 ⟨p, hp, .inl rfl⟩, .inr hs⟩
    · exact ⟨p.2, (ends_parts b _).2 ⟨p, hp, .inr rfl⟩, .inl hs⟩
    · exact ⟨p.2, (ends_parts b _).2 ⟨p, hp, .inr rfl⟩, .inr hs⟩
  · rintro ⟨d, hd, hs⟩
    obtain ⟨p, hp, hd⟩ := (ends_parts b d).1 hd
    refine ⟨_, List.mem_map.2 ⟨p, hp, rfl⟩, ?_⟩
    simp
    rcases hd with rfl | rfl <;> rcases hs with hs | hs <;> simp [hs]
theorem ends_ne {b : VV} (h0 : b.lo < 0 ∨ 0 < b.hi) : endsL b ≠ [] := by unfold endsL; rcases h0 with h | h <;> simp [h]
/-- The reference's quotients are the program's. -/
theorem rdiv_eq {a b : VV} (h : b.lo ≤ b.hi) (h0 : b.lo < 0 ∨ 0 < b.hi) : rdiv a b = bquot a b := by
  have ne := ends_ne h0
  have s1 := rdI_is_span a ne
  have nq : quoL a (partL b) ≠ [] := by
    intro e
    have := (quoL_mem a b _).2 s1.lo
    rw [e] at this
    cases this
  have qm := qspan_mem nq
  have s2 : SpanOf (quoS a (endsL b)) (qspan (quoL a (partL b))) := ⟨(quoL_mem a b _).1 qm.1, (quoL_mem a b _).1 qm.2, fun s hs => qspan_has _ s ((quoL_mem a b s).2 hs)⟩
  have e := s1.eq s2
  have le : (qspan (quoL a (partL b))).1 ≤ (qspan (quoL a (partL b))).2 := (s2.all _ s2.lo).2
  have ec : (a.lo = -9223372036854775808 ∧ -1 ∈ endsL b) ↔ ((partL b).any (fun p => p.2 == -1) = true ∧ a.lo = -9223372036854775808) := by
    rw [and_comm]
    refine and_congr_left fun _ => ?_
    rw [List.any_eq_true, ends_parts]
    constructor
    · rintro ⟨p, hp, h1 | h1⟩
      · have f := part_far h p hp
        have : p.2 ≠ 0 := by
          unfold partL at hp
          rcases List.mem_append.1 hp with hp | hp
          · split at hp
            · simp at hp; subst hp; dsimp only; split <;> omega
            · cases hp
          · split at hp
            · simp at hp; subst hp; dsimp only; split <;> omega
            · cases hp
        have s : p.1 < 0 → p.2 < 0 := by
          unfold partL at hp
          rcases List.mem_append.1 hp with hp | hp
          · split at hp
            · simp at hp; subst hp; dsimp only; intro _; split <;> omega
            · cases hp
          · split at hp
            · simp at hp; subst hp; dsimp only; intro q; omega
            · cases hp
        have := s (by omega)
        exact ⟨p, hp, by simp; omega⟩
      · exact ⟨p, hp, by simp [← h1]⟩
    · rintro ⟨p, hp, h1⟩
      exact ⟨p, hp, .inr (by simpa using (beq_iff_eq.1 h1).symm)⟩
  unfold rdiv bquot
  by_cases c : a.lo = -9223372036854775808 ∧ -1 ∈ endsL b
  · rw [if_pos c, if_pos (ec.1 c)]
  · rw [if_neg c, if_neg (fun q => c (ec.2 q)), e]
    have : iof (qspan (quoL a (partL b))).1 (qspan (quoL a (partL b))).2 = qspan (quoL a (partL b)) := by unfold iof; rw [if_neg (by omega)]
    rw [this]
/-! Contracts of the reference of bitop: digits turned about, exclusive or, counts, what is moved. -/
theorem r23inv_d (x y : Int) (hx : IS x) (hy : IS y) : Den Tryz.prog 109 #[.agg #[.int .i64 x, .int .i64 y]] noFacts (.agg #[.int .i64 (-1 - y), .int .i64 (-1 - x)]) := by
  refine den_of_body (args := [.agg #[.int .i64 x, .int .i64 y]]) hmix Tryz.func109 ?_
  have e1 : IntKind.i64.wrap (-1 - y) = -1 - y := by have h := inv_is hy; rw [sg_eq, sg_in _ h.1 h.2]
  have e2 : IntKind.i64.wrap (-1 - x) = -1 - x := by have h := inv_is hx; rw [sg_eq, sg_in _ h.1 h.2]
  (repeat' ((conv => whnf); first | refine AdN.mk _ _ rfl ?_ | refine DrawN.a (Ob.mk (by decide +kernel) ?_) | refine DrawN.c (Ob.mk (by decide +kernel) ?_) | refine DrawN.b (Ob.mk (by decide +kernel) ?_) | refine Ob.mk (by kernel_rfl) ?_ | (refine Br.mk (fun h => ?_) (fun h => ?_) <;> (first | (exfalso; exact Bool.false_ne_true h) | (exfalso; exact Bool.false_ne_true h.symm) | skip)) | refine SeqN.go ?_)); all_goals (conv => whnf)
  all_goals (simp only [e1, e2]; first | rfl | trace_state)
set_option maxHeartbeats 8000000 in
theorem r23xor_d (a b : VV) (ha : InV a) (hb : InV b) : Den Tryz.prog 110 #[.agg #[.int .i64 a.lo, .int .i64 a.hi], .agg #[.int .i64 b.lo, .int .i64 b.hi]] noFacts (.agg #[.int .i64 (oneI a b).1, .int .i64 (oneI a b).2]) := by
  refine den_of_body (args := [.agg #[.int .i64 a.lo, .int .i64 a.hi], .agg #[.int .i64 b.lo, .int .i64 b.hi]]) hmix Tryz.func110 ?_
  have H : DenA Tryz.prog 207 noFacts [.r 1 4 [.int .i64 a.lo, .int .i64 a.hi, .int .i64 b.lo, .int .i64 b.hi]] (.int .i64 (2 ^ rooms [a.lo, a.hi, b.lo, b.hi] - 1)) := r23half_d [a.lo, a.hi, b.lo, b.hi] (by intro p hp; simp at hp; rcases hp with rfl | rfl | rfl | rfl <;> first | exact ha.lo | exact ha.hi | exact hb.lo | exact hb.hi) (by show 4 ≤ 1000; decide)
  rw [rooms_four] at H
  have h1 := room63 ha.lo
  have h2 := room63 ha.hi
  have h3 := room63 hb.lo
  have h4 := room63 hb.hi
  have hk : roomK a b ≤ 63 := by unfold roomK; omega
  have hn := half_neg hk
  have n1 := npow_wrap hk
  have n2 := upow_wrap hk
  change DenA Tryz.prog 207 noFacts [.r 1 4 [.int .i64 a.lo, .int .i64 a.hi, .int .i64 b.lo, .int .i64 b.hi]] (.int .i64 (2 ^ roomK a b - 1)) at H
  unfold oneI
  rw [n1, n2]
  clear n1 n2 h1 h2 h3 h4 hk
  generalize (2 : Int) ^ roomK a b = P at *
  (repeat' ((conv => whnf); first | refine CallA.any _ H ?_ | refine Ob.mk ⟨by decide, by decide⟩ ?_ | refine AdN.mk _ _ rfl ?_ | refine DrawN.a (Ob.mk (by decide +kernel) ?_) | refine DrawN.c (Ob.mk (by decide +kernel) ?_) | refine DrawN.b (Ob.mk (by decide +kernel) ?_) | refine Ob.mk (by kernel_rfl) ?_ | (refine Br.mk (fun h => ?_) (fun h => ?_) <;> (first | (exfalso; exact Bool.false_ne_true h) | (exfalso; exact Bool.false_ne_true h.symm) | skip)) | refine SeqN.go ?_)); all_goals (conv => whnf)
  all_goals (clear H; simp only [decide_eq_true_eq, decide_eq_false_iff_not, hn] at *; first | (exfalso; omega) | grind [retV] | trace_state)
theorem r23moved_d (op n : Int) (ho : 0 ≤ op ∧ op ≤ 17) (k : Int) (hn : IS n) (hk : IS k) : Den Tryz.prog 208 #[.int .i64 op, .int .i64 n, .int .i64 k] noFacts (.int .i64 (wopV op n k)) := by
  refine den_of_body (args := [.int .i64 op, .int .i64 n, .int .i64 k]) hmix Tryz.func208 ?_
  have D := rDo_d op n k hn hk ho
  generalize wopV op n k = w at *
  (repeat' ((conv => whnf); first | refine CallN.any _ D ?_ | refine AdN.mk _ _ rfl ?_ | refine DrawN.a (Ob.mk (by decide +kernel) ?_) | refine DrawN.c (Ob.mk (by decide +kernel) ?_) | refine DrawN.b (Ob.mk (by decide +kernel) ?_) | refine Ob.mk (by kernel_rfl) ?_ | (refine Br.mk (fun h => ?_) (fun h => ?_) <;> (first | (exfalso; exact Bool.false_ne_true h) | (exfalso; exact Bool.false_ne_true h.symm) | skip)) | refine SeqN.go ?_)); all_goals (conv => whnf)
  all_goals rfl
theorem w11 {k : Nat} (hk : k < 64) (x : Int) : wopV 11 x (k : Int) = slK x k := by
  show IntKind.i64.wrap (x * 2 ^ ((k : Int) % 64).toNat) = _
  rw [show ((k : Int) % 64).toNat = k by omega]; rfl
theorem w12 {k : Nat} (hk : k < 64) (x : Int) : wopV 12 x (k : Int) = x / 2 ^ k := by
  show x / 2 ^ ((k : Int) % 64).toNat = _
  rw [show ((k : Int) % 64).toNat = k by omega]
set_option maxHeartbeats 8000000 in
theorem r23up_d (a : VV) (h : RV a) (k : Nat) (hk : k < 64) : Den Tryz.prog 112 #[VVal a, .int .i64 (k : Int)] noFacts (VVal (bup a k)) := by
  refine den_of_body (args := [VVal a, .int .i64 (k : Int)]) hmix Tryz.func112 ?_
  have ha := h.inn
  have ik : IS (k : Int) := ⟨by omega, by omega⟩
  have o11 : (0 : Int) ≤ 11 ∧ (11 : Int) ≤ 17 := by decide
  have o12 : (0 : Int) ≤ 12 ∧ (12 : Int) ≤ 17 := by decide
  have L := r23moved_d 11 a.lo o11 k ha.lo ik
  have U := r23moved_d 11 a.hi o11 k ha.hi ik
  have N := r23moved_d 11 1 o11 k ⟨by decide, by decide⟩ ik
  have il : IS (slK a.lo k) := wrap_is _
  have ih : IS (slK a.hi k) := wrap_is _
  have i1 : IS (slK 1 k) := wrap_is _
  have BL := r23moved_d 12 (slK a.lo k) o12 k il ik
  have BU := r23moved_d 12 (slK a.hi k) o12 k ih ik
  rw [w11 hk] at L U N
  rw [w12 hk] at BL BU
  have O := rOne_d (slK a.lo k) il
  have C := den_of (F := noFacts) fun w => rmake_c 0 (slK 1 k) w (by decide) (by decide) i1.1 i1.2
  rw [show cmake 0 (slK 1 k) = us (slK 1 k) from rfl] at C
  have M := den_of (F := noFacts) fun W => rmul_c a.m a.r 0 (us (slK 1 k)) W ha.m.1 ha.m.2 ha.r.1 ha.r.2 (by decide) (by decide) (us_rng _).1 (us_rng _).2
  have ecup : cmul a.m a.r 0 (us (slK 1 k)) = cup a k := by
    unfold cup
    have : us (slK 1 k) = us (IntKind.i64.wrap (IntKind.u64.wrap (1 * 2 ^ k))) := by unfold slK; rw [onew, Int.one_mul, sg_eq]; unfold us sg; omega
    rw [this]
  rw [ecup] at M
  have ci := cup_in ha k
  have wi := cwr_in ci.1 ci.2
  have W := den_of (F := noFacts) fun w => rwrapped_c (cup a k).1 (cup a k).2 w ci.1.1 ci.1.2 ci.2.1 ci.2.2
  have M1 := rMake_e (-9223372036854775808) 9223372036854775807 _ _ (show InV ⟨-9223372036854775808, 9223372036854775807, (cwrapped (cup a k).1 (cup a k).2).1, (cwrapped (cup a k).1 (cup a k).2).2⟩ from ⟨by constructor <;> dsimp only <;> decide, by constructor <;> dsimp only <;> decide, wi.1, wi.2⟩)
  have M2 := rMake_e _ _ _ _ (show InV ⟨slK a.lo k, slK a.hi k, (cup a k).1, (cup a k).2⟩ from ⟨il, ih, ci.1, ci.2⟩)
  unfold bup
  rw [vmk_iof]
  unfold vmk
  generalize slK a.lo k = sl at *
  generalize slK a.hi k = sh at *
  generalize slK 1 k = s1 at *
  generalize cup a k = cc at *
  by_cases hs : a.lo = a.hi
  · rw [if_pos hs]
    (repeat' ((conv => whnf); first | refine CallN.any _ L ?_ | refine CallN.any _ U ?_ | refine CallN.any _ N ?_ | refine CallN.any _ O ?_ | refine AdN.mk _ _ rfl ?_ | refine DrawN.a (Ob.mk (by decide +kernel) ?_) | refine DrawN.c (Ob.mk (by decide +kernel) ?_) | refine DrawN.b (Ob.mk (by decide +kernel) ?_) | refine Ob.mk (by kernel_rfl) ?_ | (refine Br.mk (fun h => ?_) (fun h => ?_) <;> (first | (exfalso; exact Bool.false_ne_true h) | (exfalso; exact Bool.false_ne_true h.symm) | (exfalso; simp [hs] at *; done) | skip)) | refine SeqN.go ?_)); all_goals (conv => whnf)
    all_goals rfl
  · rw [if_neg hs]
    (repeat' ((conv => whnf); first | refine CallN.any _ L ?_ | refine CallN.any _ U ?_ | refine CallN.any _ N ?_ | refine CallN.any _ O ?_ | refine CallN.any _ C ?_ | refine CallN.any _ M ?_ | refine CallN.any _ BL ?_ | refine CallN.any _ BU ?_ | refine CallN.any _ W ?_ | refine CallN.any _ rTop_d ?_ | refine CallN.any _ M1 ?_ | refine CallN.any _ M2 ?_ | refine AdN.mk _ _ rfl ?_ | refine DrawN.a (Ob.mk (by decide +kernel) ?_) | refine DrawN.c (Ob.mk (by decide +kernel) ?_) | refine DrawN.b (Ob.mk (by decide +kernel) ?_) | refine Ob.mk (by kernel_rfl) ?_ | (refine Br.mk (fun h => ?_) (fun h => ?_) <;> (first | (exfalso; exact Bool.false_ne_true h) | (exfalso; exact Bool.false_ne_true h.symm) | (exfalso; simp [hs] at *; done) | skip)) | refine SeqN.go ?_)); all_goals (conv => whnf)
    all_goals (clear L U N O C M BL BU W M1 M2; (try simp only [decide_eq_true_eq, decide_eq_false_iff_not, beq_iff_eq, beq_eq_false_iff_ne, bne_iff_ne] at *); refine congrArg VVal ?_; first | grind | trace_state)
set_option maxHeartbeats 8000000 in
theorem r23down_d (a : VV) (h : RV a) (k : Nat) (hk : k < 64) : Den Tryz.prog 113 #[VVal a, .int .i64 (k : Int)] noFacts (VVal (bdown a k)) := by
  refine den_of_body (args := [VVal a, .int .i64 (k : Int)]) hmix Tryz.func113 ?_
  have ha := h.inn
  have ik : IS (k : Int) := ⟨by omega, by omega⟩
  have o11 : (0 : Int) ≤ 11 ∧ (11 : Int) ≤ 17 := by decide
  have o12 : (0 : Int) ≤ 12 ∧ (12 : Int) ≤ 17 := by decide
  have L := r23moved_d 12 a.lo o12 k ha.lo ik
  have U := r23moved_d 12 a.hi o12 k ha.hi ik
  have N := r23moved_d 11 1 o11 k ⟨by decide, by decide⟩ ik
  rw [w12 hk] at L U
  rw [w11 hk] at N
  have e63 : (2 : Int) ^ 63 = 9223372036854775808 := by decide
  have pk := p2pos k
  have pm := p2mono (show k ≤ 63 by omega)
  have ep : IntKind.u64.wrap (slK 1 k) = 2 ^ k := by unfold slK; rw [us_eq, sg_eq, Int.one_mul]; unfold us sg; omega
  have il := div2_is ha.lo k
  have ih := div2_is ha.hi k
  have O := rOne_d _ il
  have M1 := rMake_e _ _ 1 0 (show InV ⟨a.lo / 2 ^ k, a.hi / 2 ^ k, 1, 0⟩ from ⟨il, ih, ⟨by dsimp only; decide, by dsimp only; decide⟩, ⟨by dsimp only; decide, by dsimp only; decide⟩⟩)
  have M2 := rMake_e _ _ _ _ (show InV ⟨a.lo / 2 ^ k, a.hi / 2 ^ k, a.m / 2 ^ k, a.r / 2 ^ k⟩ from ⟨il, ih, div2_iu ha.m k, div2_iu ha.r k⟩)
  have p0 : (2 : Int) ^ k ≠ 0 := by omega
  have t1 : a.m.tdiv (2 ^ k) = a.m / 2 ^ k := Int.tdiv_eq_ediv_of_nonneg ha.m.1
  have t2 : a.r.tdiv (2 ^ k) = a.r / 2 ^ k := Int.tdiv_eq_ediv_of_nonneg ha.r.1
  have t3 : a.m.tmod (2 ^ k) = a.m % 2 ^ k := Int.tmod_eq_emod_of_nonneg ha.m.1
  have ec : (IntKind.u64.wrap (a.m / 2 ^ k * 2 ^ k) = a.m) ↔ a.m % 2 ^ k = 0 := by
    have h1 := Int.mul_ediv_add_emod a.m (2 ^ k)
    have h2 := Int.emod_nonneg a.m p0
    have h3 := Int.emod_lt_of_pos a.m pk
    have h4 : 0 ≤ a.m / 2 ^ k * 2 ^ k := Int.mul_nonneg (Int.ediv_nonneg ha.m.1 (Int.le_of_lt pk)) (Int.le_of_lt pk)
    rw [Int.mul_comm] at h1
    have := ha.m.2
    rw [us_eq, us_in _ h4 (by omega)]
    omega
  have w1 : IntKind.u64.wrap (a.m / 2 ^ k) = a.m / 2 ^ k := by have h := div2_iu ha.m k; rw [us_eq, us_in _ h.1 h.2]
  have w2 : IntKind.u64.wrap (a.r / 2 ^ k) = a.r / 2 ^ k := by have h := div2_iu ha.r k; rw [us_eq, us_in _ h.1 h.2]
  unfold bdown
  rw [vmk_iof]
  unfold vmk cdown
  simp only [ec]
  by_cases hs : a.lo = a.hi
  · rw [if_pos hs]
    (repeat' ((conv => whnf); first | refine CallN.any _ L ?_ | refine CallN.any _ U ?_ | refine CallN.any _ N ?_ | refine CallN.any _ O ?_ | refine AdN.mk _ _ rfl ?_ | refine DrawN.a (Ob.mk (by decide +kernel) ?_) | refine DrawN.c (Ob.mk (by decide +kernel) ?_) | refine DrawN.b (Ob.mk (by decide +kernel) ?_) | refine Ob.mk (by kernel_rfl) ?_ | (refine Br.mk (fun h => ?_) (fun h => ?_) <;> (first | (exfalso; exact Bool.false_ne_true h) | (exfalso; exact Bool.false_ne_true h.symm) | (exfalso; simp [hs] at *; done) | skip)) | refine SeqN.go ?_)); all_goals (conv => whnf)
    all_goals rfl
  · rw [if_neg hs]
    have p0' : IntKind.u64.wrap (slK 1 k) ≠ 0 := by rw [ep]; exact p0
    (repeat' ((conv => whnf); first | refine CallN.any _ L ?_ | refine CallN.any _ U ?_ | refine CallN.any _ N ?_ | refine CallN.any _ O ?_ | refine CallN.any _ M1 ?_ | refine Ob.mk p0' ?_ | refine CallN.any _ (rMake_e _ _ _ _ ?_) ?_ | refine AdN.mk _ _ rfl ?_ | refine DrawN.a (Ob.mk (by decide +kernel) ?_) | refine DrawN.c (Ob.mk (by decide +kernel) ?_) | refine DrawN.b (Ob.mk (by decide +kernel) ?_) | refine Ob.mk (by kernel_rfl) ?_ | (refine Br.mk (fun h => ?_) (fun h => ?_) <;> (first | (exfalso; exact Bool.false_ne_true h) | (exfalso; exact Bool.false_ne_true h.symm) | (exfalso; simp [hs] at *; done) | skip)) | refine SeqN.go ?_)); all_goals (conv => whnf)
    all_goals (simp only [ep] at *; simp only [t1, t2, t3, w1, w2] at *)
    all_goals first
      | exact ⟨il, ih, div2_iu ha.m k, div2_iu ha.r k⟩
      | (have q : (a.m % 2 ^ k == 0) = true := ‹_›; rw [if_pos (beq_iff_eq.1 q)]; rfl)
      | (have q : (a.m % 2 ^ k == 0) = false := ‹_›; rw [if_neg (by simpa using q)]; rfl)
      | trace_state
/-! Contracts of the reference of bitop: counts. -/
/-- The reference's counts. -/
def rmet (b : VV) (j : Nat) : Bool := if bfew b then (vnums b (min (64 : Int).toNat (vcnt b))).any (fun y => y % 64 == (j : Int)) else chas (cadd b.m b.r 64 0).1 (cadd b.m b.r 64 0).2 j
def cntZ (f : Nat → Bool) (i : Nat) : List Int := (cntI f i).map fun k => (k.val : Int)
theorem cntZ_yes {f : Nat → Bool} {i : Nat} (h : f i = true) (hi : i < 64) : cntZ f (i + 1) = cntZ f i ++ [(i : Int)] := by unfold cntZ; rw [cntI_yes h hi, List.map_append]; rfl
theorem cntZ_no {f : Nat → Bool} {i : Nat} (h : f i = false) : cntZ f (i + 1) = cntZ f i := by unfold cntZ; rw [cntI_no h]
theorem cntZ_len {f : Nat → Bool} {i : Nat} (hi : i ≤ 64) : (cntZ f i).length ≤ 64 := by
  have : ∀ i, (cntZ f i).length ≤ i := by
    intro i
    induction i with
    | zero => exact Nat.le_refl _
    | succ i ih =>
      unfold cntZ at ih ⊢
      rw [List.length_map] at ih ⊢
      rw [cntI]
      split
      · split
        · rw [List.length_append]; show _ + 1 ≤ _; omega
        · omega
      · omega
  exact Nat.le_trans (this i) hi
theorem rSome64 {v : VV} (rv : RV v) (nb : v ≠ vbot) : DenF Tryz.prog 52 noFacts [.v (VVal v), .v (.int .i64 64)] [.s 0] [.row 2 1 (vnums v (min (64 : Int).toNat (vcnt v))).length (ICs (vnums v (min (64 : Int).toNat (vcnt v))))] := by
  rw [vnums_len]
  exact rSome_f v 64 rv nb (by decide)
theorem any_or {xs : List Int} {i : Nat} (h : i < xs.length) (j : Nat) : ((xs.take (i + 1)).any fun y => y % 64 == (j : Int)) = (((xs.take i).any fun y => y % 64 == (j : Int)) || (xs.getD i 0 % 64 == (j : Int))) := by
  rw [take_succ_getD h, List.any_append]
  simp
set_option maxHeartbeats 8000000 in
theorem r23counts_f (b : VV) (rb : RV b) (nb : b ≠ vbot) : DenF Tryz.prog 111 noFacts [.v (VVal b)] [.s 0] [.row 3 1 (cntZ (rmet b) 64).length (ICs (cntZ (rmet b) 64))] := by
  refine DenF.fam rfl ?_
  refine denV_of_body (args := [VVal b]) hmix Tryz.func111 ?_
  have C := rCard_d _ rb
  have S := rSome64 rb nb
  have xl : (vnums b (min (64 : Int).toNat (vcnt b))).length ≤ 64 := by rw [vnums_len]; exact Nat.min_le_left _ _
  have i64 : IU 64 := ⟨by decide, by decide⟩
  have i0 : IU 0 := ⟨by decide, by decide⟩
  have AD := den_of (F := noFacts) fun W => radd_c b.m b.r 64 0 W rb.inn.m.1 rb.inn.m.2 rb.inn.r.1 rb.inn.r.2 i64.1 i64.2 i0.1 i0.2
  have ci := cadd_in rb.inn.m.1 rb.inn.m.2 rb.inn.r.1 rb.inn.r.2 i64.1 i64.2 i0.1 i0.2
  have H := fun (k : Nat) (hk : k < 64) => den_of (F := noFacts) fun w => rhas_c (cadd b.m b.r 64 0).1 (cadd b.m b.r 64 0).2 k w ci.1.1 ci.1.2 (by omega) (by omega)
  have zl : ∀ {i}, i ≤ 64 → (cntZ (rmet b) i).length ≤ 64 := fun h => cntZ_len h
  by_cases few : bfew b = true
  · have em : ∀ j, rmet b j = (vnums b (min (64 : Int).toNat (vcnt b))).any fun y => y % 64 == (j : Int) := fun j => by unfold rmet; rw [if_pos few]
    unfold bfew at few
    generalize vnums b (min (64 : Int).toNat (vcnt b)) = xs at *
    generalize cadd b.m b.r 64 0 = cc at *
    (repeat' ((conv => whnf); first | refine CallN.any _ C ?_ | refine CallN.anyFresh _ _ S ?_ | refine CallN.any _ AD ?_ | refine AdN.mk _ _ rfl ?_ | refine DrawN.a (Ob.mk (by decide +kernel) ?_) | refine DrawN.c (Ob.mk (by decide +kernel) ?_) | refine DrawN.b (Ob.mk (by decide +kernel) ?_) | refine Ob.mk (by kernel_rfl) ?_ | (refine Br.mk (fun h => ?_) (fun h => ?_) <;> (first | (exfalso; exact Bool.false_ne_true h) | (exfalso; exact Bool.false_ne_true h.symm) | skip)))); all_goals (conv => whnf)
    refine SeqN.nilRow 3 3 1 rfl ?_
    (conv => whnf)
    refine SeqN.go ?_
    (repeat' ((conv => whnf); first | refine AdN.mk _ _ rfl ?_ | refine DrawN.a (Ob.mk (by decide +kernel) ?_) | refine DrawN.c (Ob.mk (by decide +kernel) ?_) | refine DrawN.b (Ob.mk (by decide +kernel) ?_) | refine Ob.mk (by kernel_rfl) ?_ | (refine Br.mk (fun h => ?_) (fun h => ?_) <;> (first | (exfalso; exact Bool.false_ne_true h) | (exfalso; exact Bool.false_ne_true h.symm) | skip)))); all_goals (conv => whnf)
    refine LoopN.mk {k : Nat // k ≤ 64} (fun k => [(8, .v (.int .i64 k.1)), (3, .s 3)]) (fun k => [.cells ((VC b).map .v), .row 2 1 xs.length (ICs xs), .cells [.v (.int .u64 cc.1), .v (.int .u64 cc.2)], .row 3 1 (cntZ (rmet b) k.1).length (ICs (cntZ (rmet b) k.1))]) (fun k => 64 - k.1) ⟨0, Nat.zero_le _⟩ ?_ ?_
    · (conv => whnf); (repeat' (first | exact True.intro | exact rfl | refine And.intro ?_ ?_ | decide))
    (conv => whnf)
    rintro ⟨k, hk⟩
    dsimp only at hk ⊢
    by_cases hkl : k < 64
    · have H := H k hkl
      have ek := em k
      have zk := zl (i := k) hk
      have ok : ((k : Int) < 64) := by omega
      (repeat' ((conv => whnf); first | refine CallN.any _ H ?_ | refine SeqN.go ?_ | refine AdN.mk _ _ rfl ?_ | refine DrawN.a (Ob.mk (by decide +kernel) ?_) | refine DrawN.c (Ob.mk (by decide +kernel) ?_) | refine DrawN.b (Ob.mk (by decide +kernel) ?_) | refine Ob.mk (by kernel_rfl) ?_ | (refine Br.mk (fun h => ?_) (fun h => ?_) <;> (first | (exfalso; exact Bool.false_ne_true h) | (exfalso; exact Bool.false_ne_true h.symm) | (exfalso; exact absurd ok (of_decide_eq_false ‹_›)) | (exfalso; simp_all; done) | skip)))); all_goals (conv => whnf)
      refine LoopN.mk {i : Nat // i ≤ xs.length} (fun i => [(10, .v (.int .i64 i.1)), (9, .v (.bool ((xs.take i.1).any fun y => y % 64 == (k : Int))))]) (fun i => [.cells ((VC b).map .v), .row 2 1 xs.length (ICs xs), .cells [.v (.int .u64 cc.1), .v (.int .u64 cc.2)], .row 3 1 (cntZ (rmet b) k).length (ICs (cntZ (rmet b) k))]) (fun i => xs.length - i.1) ⟨0, Nat.zero_le _⟩ ?_ ?_
      · (conv => whnf); (repeat' (first | exact True.intro | exact rfl | refine And.intro ?_ ?_ | decide))
      (conv => whnf)
      rintro ⟨i, hi⟩
      dsimp only at hi ⊢
      by_cases hil : i < xs.length
      · have oi : 0 ≤ (i : Int) ∧ (i : Int) < (xs.length : Int) := ⟨Int.natCast_nonneg _, Int.ofNat_lt.2 hil⟩
        have ao := any_or hil k
        generalize hA : ((xs.take i).any fun y => y % 64 == (k : Int)) = A at *
        (repeat' ((conv => whnf); first | refine CallN.any _ (rShiftN_d _) ?_ | refine Ob.mk oi ?_ | refine rowIL i rfl hil ?_ | refine AdN.mk _ _ rfl ?_ | refine DrawN.a (Ob.mk (by decide +kernel) ?_) | refine DrawN.c (Ob.mk (by decide +kernel) ?_) | refine DrawN.b (Ob.mk (by decide +kernel) ?_) | refine Ob.mk (by kernel_rfl) ?_ | (refine Br.mk (fun h => ?_) (fun h => ?_) <;> (first | (exfalso; exact Bool.false_ne_true h) | (exfalso; exact Bool.false_ne_true h.symm) | (exfalso; exact absurd (Int.ofNat_lt.2 hil) (of_decide_eq_false ‹_›)) | skip)) | refine SeqN.go ?_)); all_goals (conv => whnf)
        all_goals (refine RoundN.mk ⟨i + 1, hil⟩ (Nat.sub_succ_lt_self _ _ hil) ?_; (conv => whnf); (repeat' (first | exact True.intro | exact rfl | refine And.intro ?_ ?_ | decide)))
        all_goals first | exact congrArg (Value.int _) (wi8 hil (by omega)) | (show Value.bool _ = Value.bool _; dsimp only; rw [ao]; simp_all; done) | trace_state
      · obtain rfl : i = xs.length := by omega
        rw [List.take_length, ← ek]
        clear ek
        generalize hf : rmet b k = fk at *
        (repeat' ((conv => whnf); first | refine Ob.mk ⟨by decide, (by show ((cntZ (rmet b) k).length + 1) * 8 ≤ 140737488355328; omega), (by show (cntZ (rmet b) k).length + 1 ≤ 140737488355328; omega)⟩ ?_ | refine AdN.mk _ _ rfl ?_ | refine DrawN.a (Ob.mk (by decide +kernel) ?_) | refine DrawN.c (Ob.mk (by decide +kernel) ?_) | refine DrawN.b (Ob.mk (by decide +kernel) ?_) | refine Ob.mk (by kernel_rfl) ?_ | (refine Br.mk (fun h => ?_) (fun h => ?_) <;> (first | (exfalso; exact Bool.false_ne_true h) | (exfalso; exact Bool.false_ne_true h.symm) | (exfalso; exact absurd (Int.ofNat_lt.1 (of_decide_eq_true ‹_›)) hil) | skip)) | refine SeqN.go ?_)); all_goals (conv => whnf)
        · have zy := cntZ_yes (hf.trans ‹fk = true›) hkl
          refine RoundN.mk ⟨k + 1, hkl⟩ (by show 64 - (k + 1) < 64 - k; omega) ?_
          (conv => whnf); (repeat' (first | exact True.intro | exact rfl | refine And.intro ?_ ?_ | decide))
          all_goals first | exact congrArg (Value.int _) (wi8 hkl (by omega)) | (dsimp only; rw [zy]; simp [ICs]; done) | (dsimp only; rw [zy, List.length_append]; omega) | trace_state
        · have zn := cntZ_no (hf.trans ‹fk = false›)
          refine RoundN.mk ⟨k + 1, hkl⟩ (by show 64 - (k + 1) < 64 - k; omega) ?_
          (conv => whnf); (repeat' (first | exact True.intro | exact rfl | refine And.intro ?_ ?_ | decide))
          all_goals first | exact congrArg (Value.int _) (wi8 hkl (by omega)) | (dsimp only; rw [zn]; done) | trace_state
    · obtain rfl : k = 64 := by omega
      (repeat' ((conv => whnf); first | refine AdN.mk _ _ rfl ?_ | refine DrawN.a (Ob.mk (by decide +kernel) ?_) | refine DrawN.c (Ob.mk (by decide +kernel) ?_) | refine DrawN.b (Ob.mk (by decide +kernel) ?_) | refine Ob.mk (by kernel_rfl) ?_ | (refine Br.mk (fun h => ?_) (fun h => ?_) <;> (first | (exfalso; exact Bool.false_ne_true h) | (exfalso; exact Bool.false_ne_true h.symm) | (exfalso; exact absurd (of_decide_eq_true ‹_›) (by decide)) | skip)) | refine SeqN.go ?_)); all_goals (conv => whnf)
      refine RetN.mk [3] (by decide) rfl ?_ ?_ <;> (conv => whnf); (repeat' (first | exact True.intro | exact rfl | refine And.intro ?_ ?_ | decide))
  · have em : ∀ j, rmet b j = chas (cadd b.m b.r 64 0).1 (cadd b.m b.r 64 0).2 j := fun j => by unfold rmet; rw [if_neg few]
    unfold bfew at few
    generalize vnums b (min (64 : Int).toNat (vcnt b)) = xs at *
    generalize cadd b.m b.r 64 0 = cc at *
    (repeat' ((conv => whnf); first | refine CallN.any _ C ?_ | refine CallN.anyFresh _ _ S ?_ | refine CallN.any _ AD ?_ | refine AdN.mk _ _ rfl ?_ | refine DrawN.a (Ob.mk (by decide +kernel) ?_) | refine DrawN.c (Ob.mk (by decide +kernel) ?_) | refine DrawN.b (Ob.mk (by decide +kernel) ?_) | refine Ob.mk (by kernel_rfl) ?_ | (refine Br.mk (fun h => ?_) (fun h => ?_) <;> (first | (exfalso; exact Bool.false_ne_true h) | (exfalso; exact Bool.false_ne_true h.symm) | skip)))); all_goals (conv => whnf)
    refine SeqN.nilRow 3 3 1 rfl ?_
    (conv => whnf)
    refine SeqN.go ?_
    (repeat' ((conv => whnf); first | refine AdN.mk _ _ rfl ?_ | refine DrawN.a (Ob.mk (by decide +kernel) ?_) | refine DrawN.c (Ob.mk (by decide +kernel) ?_) | refine DrawN.b (Ob.mk (by decide +kernel) ?_) | refine Ob.mk (by kernel_rfl) ?_ | (refine Br.mk (fun h => ?_) (fun h => ?_) <;> (first | (exfalso; exact Bool.false_ne_true h) | (exfalso; exact Bool.false_ne_true h.symm) | skip)))); all_goals (conv => whnf)
    refine LoopN.mk {k : Nat // k ≤ 64} (fun k => [(8, .v (.int .i64 k.1)), (3, .s 3)]) (fun k => [.cells ((VC b).map .v), .row 2 1 xs.length (ICs xs), .cells [.v (.int .u64 cc.1), .v (.int .u64 cc.2)], .row 3 1 (cntZ (rmet b) k.1).length (ICs (cntZ (rmet b) k.1))]) (fun k => 64 - k.1) ⟨0, Nat.zero_le _⟩ ?_ ?_
    · (conv => whnf); (repeat' (first | exact True.intro | exact rfl | refine And.intro ?_ ?_ | decide))
    (conv => whnf)
    rintro ⟨k, hk⟩
    dsimp only at hk ⊢
    by_cases hkl : k < 64
    · have H := H k hkl
      have zk := zl (i := k) hk
      have ok : ((k : Int) < 64) := by omega
      rw [← em k] at H
      generalize hf : rmet b k = fk at *
      (repeat' ((conv => whnf); first | refine CallN.any _ H ?_ | refine Ob.mk ⟨by decide, (by show ((cntZ (rmet b) k).length + 1) * 8 ≤ 140737488355328; omega), (by show (cntZ (rmet b) k).length + 1 ≤ 140737488355328; omega)⟩ ?_ | refine AdN.mk _ _ rfl ?_ | refine DrawN.a (Ob.mk (by decide +kernel) ?_) | refine DrawN.c (Ob.mk (by decide +kernel) ?_) | refine DrawN.b (Ob.mk (by decide +kernel) ?_) | refine Ob.mk (by kernel_rfl) ?_ | (refine Br.mk (fun h => ?_) (fun h => ?_) <;> (first | (exfalso; exact Bool.false_ne_true h) | (exfalso; exact Bool.false_ne_true h.symm) | (exfalso; exact absurd ok (of_decide_eq_false ‹_›)) | (exfalso; simp_all; done) | skip)) | refine SeqN.go ?_)); all_goals (conv => whnf)
      all_goals first
        | (have zy := cntZ_yes (hf.trans ‹fk = true›) hkl
           refine RoundN.mk ⟨k + 1, hkl⟩ (by show 64 - (k + 1) < 64 - k; omega) ?_
           (conv => whnf); (repeat' (first | exact True.intro | exact rfl | refine And.intro ?_ ?_ | decide))
           all_goals first | exact congrArg (Value.int _) (wi8 hkl (by omega)) | (dsimp only; rw [zy]; simp [ICs]; done) | (dsimp only; rw [zy, List.length_append]; omega) | trace_state)
        | (have zn := cntZ_no (hf.trans ‹fk = false›)
           refine RoundN.mk ⟨k + 1, hkl⟩ (by show 64 - (k + 1) < 64 - k; omega) ?_
           (conv => whnf); (repeat' (first | exact True.intro | exact rfl | refine And.intro ?_ ?_ | decide))
           all_goals first | exact congrArg (Value.int _) (wi8 hkl (by omega)) | (dsimp only; rw [zn]; done) | trace_state)
    · obtain rfl : k = 64 := by omega
      (repeat' ((conv => whnf); first | refine AdN.mk _ _ rfl ?_ | refine DrawN.a (Ob.mk (by decide +kernel) ?_) | refine DrawN.c (Ob.mk (by decide +kernel) ?_) | refine DrawN.b (Ob.mk (by decide +kernel) ?_) | refine Ob.mk (by kernel_rfl) ?_ | (refine Br.mk (fun h => ?_) (fun h => ?_) <;> (first | (exfalso; exact Bool.false_ne_true h) | (exfalso; exact Bool.false_ne_true h.symm) | (exfalso; exact absurd (of_decide_eq_true ‹_›) (by decide)) | skip)) | refine SeqN.go ?_)); all_goals (conv => whnf)
      refine RetN.mk [3] (by decide) rfl ?_ ?_ <;> (conv => whnf); (repeat' (first | exact True.intro | exact rfl | refine And.intro ?_ ?_ | decide))
end Go.Proofs.YtljhbdgoknfkcaaGreatDoor
