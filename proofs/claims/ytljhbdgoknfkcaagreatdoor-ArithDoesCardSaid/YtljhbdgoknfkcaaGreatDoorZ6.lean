/- The reference's exact results: rows of bytes, moved up. -/
import Derived.Test.YtljhbdgoknfkcaaGreatDoorY8
import Derived.Test.YtljhbdgoknfkcaaGreatDoorE1
namespace Go.Proofs.YtljhbdgoknfkcaaGreatDoor
open Go Go.RowKit Go.Sort
set_option linter.unusedVariables false
set_option linter.unusedSimpArgs false
set_option maxRecDepth 100000

theorem part_b8 {L N : Nat} (h : N < 256 ^ L) : partRow 1 0 (byt N).length (BVs (b8 L (N : Int))) = BVs (byt N) := by
  have e := b8_trim h
  unfold partRow BVs
  rw [List.drop_zero, Nat.mul_one, ← List.map_take, ← e, trim_take]
/-- A number as an argument, out of a longer row. -/
abbrev argN (L N : Nat) : AR := .r 1 (byt N).length (partRow 1 0 (byt N).length (BVs (b8 L (N : Int))))
theorem add_n {A B LA LB : Nat} (hA : A < 256 ^ LA) (hB : B < 256 ^ LB) (ha : (byt A).length ≤ 500) (hb : (byt B).length ≤ 500) : DenF Tryz.prog 231 noFacts [argN LA A, argN LB B] [.sub 0 0 (byt (A + B)).length] [.row 5 1 (addN A B) (BVs (b8 (addN A B) ((A + B : Nat) : Int)))] := by
  have := add_f A B ha hb
  unfold argN
  rw [part_b8 hA, part_b8 hB]
  exact this
theorem sub_n {A B LA LB : Nat} (hA : A < 256 ^ LA) (hB : B < 256 ^ LB) (hle : B ≤ A) (ha : (byt A).length ≤ 500) : DenF Tryz.prog 254 noFacts [argN LA A, argN LB B] [.sub 0 0 (byt (A - B)).length] [.row 5 1 (byt A).length (BVs (b8 (byt A).length ((A - B : Nat) : Int)))] := by
  have := sub_f A B hle ha
  unfold argN
  rw [part_b8 hA, part_b8 hB]
  exact this
theorem mul_n {A B LA LB : Nat} (hA : A < 256 ^ LA) (hB : B < 256 ^ LB) (ha : (byt A).length ≤ 500) (hb : (byt B).length ≤ 500) : DenF Tryz.prog 233 noFacts [argN LA A, argN LB B] [.sub 0 0 (byt (A * B)).length] [.row 5 1 ((byt A).length + (byt B).length + 1) (BVs (b8 ((byt A).length + (byt B).length + 1) ((A * B : Nat) : Int)))] := by
  have := mul_f A B ha hb
  unfold argN
  rw [part_b8 hA, part_b8 hB]
  exact this
theorem cmp_n {A B LA LB : Nat} (hA : A < 256 ^ LA) (hB : B < 256 ^ LB) (ha : (byt A).length ≤ 1000) (hb : (byt B).length ≤ 1000) : DenA Tryz.prog 83 noFacts [argN LA A, argN LB B] (.int .i64 (cmpN A B)) := by
  have := cmp_d A B ha hb
  unfold argN
  rw [part_b8 hA, part_b8 hB]
  exact this
theorem flat8_one (x : Int) : flat8 [x] = b8 8 x := by simp [flat8]
def muN (n : Int) : Nat := n.natAbs
set_option maxHeartbeats 2000000 in
theorem much_f (n : Int) (hn : IS n) : DenF Tryz.prog 234 noFacts [.v (.int .i64 n)] [.sub 0 0 (byt n.natAbs).length] [.row 5 1 8 (BVs (b8 8 (n.natAbs : Int)))] := by
  refine DenF.fam rfl ?_
  refine denV_of_body (args := [.int .i64 n]) hmix Tryz.func234 ?_
  have O : ∀ v : Int, v = (n.natAbs : Int) → DenF Tryz.prog 172 noFacts [.r 1 1 [.int .u64 v]] [.sub 0 0 (byt n.natAbs).length] [.row 5 1 8 (BVs (b8 8 (n.natAbs : Int)))] := by
    intro v hv
    subst hv
    have := of_v [(n.natAbs : Int)] (by intro x hx; simp at hx; subst hx; have := hn.1; have := hn.2; omega) (by simp)
    rw [flat8_one, show lval [(n.natAbs : Int)] = n.natAbs by simp [lval]] at this
    exact this
  (repeat' ((conv => whnf); first | refine AdN.mk _ _ rfl ?_ | refine DrawN.a (Ob.mk (by decide +kernel) ?_) | refine DrawN.c (Ob.mk (by decide +kernel) ?_) | refine DrawN.b (Ob.mk (by decide +kernel) ?_) | refine Ob.mk (by kernel_rfl) ?_ | (refine Br.mk (fun h => ?_) (fun h => ?_) <;> (first | (exfalso; exact Bool.false_ne_true h) | (exfalso; exact Bool.false_ne_true h.symm) | skip)) | refine SeqN.go ?_)); all_goals (conv => whnf)
  · have h := of_decide_eq_true ‹decide (n < 0) = true›
    refine CallA.anyFresh _ _ (O _ (by have := hn.1; simp only [us_eq, sg_eq]; unfold us sg; omega)) ?_
    (repeat' ((conv => whnf); first | refine AdN.mk _ _ rfl ?_ | refine DrawN.a (Ob.mk (by decide +kernel) ?_) | refine DrawN.c (Ob.mk (by decide +kernel) ?_) | refine DrawN.b (Ob.mk (by decide +kernel) ?_) | refine Ob.mk (by kernel_rfl) ?_ | (refine Br.mk (fun h => ?_) (fun h => ?_) <;> (first | (exfalso; exact Bool.false_ne_true h) | (exfalso; exact Bool.false_ne_true h.symm) | skip)) | refine SeqN.go ?_)); all_goals (conv => whnf)
    refine RetN.mk [1] (by decide) rfl ?_ ?_ <;> (conv => whnf); (repeat' (first | exact True.intro | exact rfl | refine And.intro ?_ ?_ | decide))
  · have h := of_decide_eq_false ‹decide (n < 0) = false›
    refine CallA.anyFresh _ _ (O _ (by have := hn.2; simp only [us_eq]; unfold us; omega)) ?_
    (repeat' ((conv => whnf); first | refine AdN.mk _ _ rfl ?_ | refine DrawN.a (Ob.mk (by decide +kernel) ?_) | refine DrawN.c (Ob.mk (by decide +kernel) ?_) | refine DrawN.b (Ob.mk (by decide +kernel) ?_) | refine Ob.mk (by kernel_rfl) ?_ | (refine Br.mk (fun h => ?_) (fun h => ?_) <;> (first | (exfalso; exact Bool.false_ne_true h) | (exfalso; exact Bool.false_ne_true h.symm) | skip)) | refine SeqN.go ?_)); all_goals (conv => whnf)
    refine RetN.mk [1] (by decide) rfl ?_ ?_ <;> (conv => whnf); (repeat' (first | exact True.intro | exact rfl | refine And.intro ?_ ?_ | decide))
/-- 2^190. -/
abbrev B190 : Nat := 1569275433846670190958947355801916604025588861116008628224
theorem byt_b190 : (byt B190).length = 24 := byt_len_eq (k := 23) (by decide) (by decide)
theorem flat_b190 : flat8 [0, 0, 4611686018427387904] = b8 24 (B190 : Int) := by decide +kernel
theorem base_f : DenF Tryz.prog 178 noFacts [] [.sub 0 0 (byt B190).length] [.row 5 1 24 (BVs (b8 24 (B190 : Int)))] := by
  refine DenF.fam rfl ?_
  refine denV_of_body (args := []) hmix Tryz.func178 ?_
  have O : DenF Tryz.prog 172 noFacts [.r 1 3 [.int .u64 0, .int .u64 0, .int .u64 4611686018427387904]] [.sub 0 0 (byt B190).length] [.row 5 1 24 (BVs (b8 24 (B190 : Int)))] := by
    have := of_v [0, 0, 4611686018427387904] (by decide) (by decide)
    rw [flat_b190, show lval [0, 0, 4611686018427387904] = B190 by decide +kernel] at this
    exact this
  (repeat' ((conv => whnf); first | refine CallA.anyFresh _ _ O ?_ | refine AdN.mk _ _ rfl ?_ | refine DrawN.a (Ob.mk (by decide +kernel) ?_) | refine DrawN.c (Ob.mk (by decide +kernel) ?_) | refine DrawN.b (Ob.mk (by decide +kernel) ?_) | refine Ob.mk (by kernel_rfl) ?_ | (refine Br.mk (fun h => ?_) (fun h => ?_) <;> (first | (exfalso; exact Bool.false_ne_true h) | (exfalso; exact Bool.false_ne_true h.symm) | skip)) | refine SeqN.go ?_)); all_goals (conv => whnf)
  refine RetN.mk [1] (by decide) rfl ?_ ?_ <;> (conv => whnf); (repeat' (first | exact True.intro | exact rfl | refine And.intro ?_ ?_ | decide))
theorem of63_f : DenF Tryz.prog 172 noFacts [.r 1 1 [.int .u64 9223372036854775808]] [.sub 0 0 (byt 9223372036854775808).length] [.row 5 1 8 (BVs (b8 8 ((9223372036854775808 : Nat) : Int)))] := by
  have := of_v [9223372036854775808] (by decide) (by decide)
  rw [flat8_one, show lval [9223372036854775808] = 9223372036854775808 by decide +kernel] at this
  exact this
/-- Put to one that is moved up, or taken from it. -/
def putN (x n : Nat) (below : Bool) : Nat := if below then x - n else x + n
theorem put_f {x n LN : Nat} {below : Bool} (hx : 256 ^ 23 ≤ x) (hx2 : x < 256 ^ 24) (hn : n < 256 ^ LN) (hle : n ≤ x) (hs : x + n < 256 ^ 24) : DenF Tryz.prog 232 noFacts [argN 24 x, argN LN n, .v (.bool below)] [.sub 0 0 (byt (putN x n below)).length] [.row 5 1 24 (BVs (b8 24 ((putN x n below : Nat) : Int)))] := by
  refine DenF.fam rfl ?_
  intro ad1 b1 off1 c1 hs1 hl1 ad2 b2 off2 c2 hs2 hl2
  have lx : (byt x).length = 24 := byt_len_eq hx hx2
  have ln : (byt n).length ≤ 24 := byt_len (Nat.lt_of_le_of_lt hle hx2)
  have hM : addM x n = 24 := by unfold addM; rw [lx]; exact Nat.max_eq_left ln
  have hN : addN x n = 24 := by unfold addN; rw [hM, if_pos hs]
  have A := add_n hx2 hn (by rw [lx]; decide) (Nat.le_trans ln (by decide))
  have S := sub_n hx2 hn hle (by rw [lx]; decide)
  rw [hN] at A
  rw [lx] at S
  have ha : ∀ W, Sat (orF (orF noFacts (rowF b1 off1 (partRow 1 0 (byt x).length (BVs (b8 24 (x : Int)))))) (rowF b2 off2 (partRow 1 0 (byt n).length (BVs (b8 LN (n : Int)))))) W → ArsAre W [argN 24 x, argN LN n] [.slice ad1 (byt x).length c1, .slice ad2 (byt n).length c2] := fun W hW =>
    ⟨_, _, rfl, arIs_in hW (le_orR.trans le_orL) hl1 hs1, _, _, rfl, arIs_in hW le_orR hl2 hs2, rfl⟩
  have A2 := A.here _ rfl ha
  have S2 := S.here _ rfl ha
  refine denV_of_body (args := [.slice ad1 (byt x).length c1, .slice ad2 (byt n).length c2, .bool below]) hmix Tryz.func232 ?_
  clear A S ha
  cases below
  · (repeat' ((conv => whnf); first | refine CallN.fresh _ _ A2 ?_ | refine AdN.mk _ _ rfl ?_ | refine DrawN.a (Ob.mk (by decide +kernel) ?_) | refine DrawN.c (Ob.mk (by decide +kernel) ?_) | refine DrawN.b (Ob.mk (by decide +kernel) ?_) | refine Ob.mk (by kernel_rfl) ?_ | (refine Br.mk (fun h => ?_) (fun h => ?_) <;> (first | (exfalso; exact Bool.false_ne_true h) | (exfalso; exact Bool.false_ne_true h.symm) | skip)) | refine SeqN.go ?_)); all_goals (conv => whnf)
    refine RetN.mk [0] (by decide) rfl ?_ ?_ <;> (conv => whnf); (repeat' (first | exact True.intro | exact rfl | refine And.intro ?_ ?_ | decide))
  · (repeat' ((conv => whnf); first | refine CallN.fresh _ _ S2 ?_ | refine AdN.mk _ _ rfl ?_ | refine DrawN.a (Ob.mk (by decide +kernel) ?_) | refine DrawN.c (Ob.mk (by decide +kernel) ?_) | refine DrawN.b (Ob.mk (by decide +kernel) ?_) | refine Ob.mk (by kernel_rfl) ?_ | (refine Br.mk (fun h => ?_) (fun h => ?_) <;> (first | (exfalso; exact Bool.false_ne_true h) | (exfalso; exact Bool.false_ne_true h.symm) | skip)) | refine SeqN.go ?_)); all_goals (conv => whnf)
    refine RetN.mk [0] (by decide) rfl ?_ ?_ <;> (conv => whnf); (repeat' (first | exact True.intro | exact rfl | refine And.intro ?_ ?_ | decide))
def aknown' (op : Int) : Prop := op = 13 ∨ op = 14 ∨ op = 15
/-- That of 0. -/
abbrev X0 : Nat := B190 + 9223372036854775808
theorem x0v : ((X0 : Nat) : Int) = 1569275433846670190958947355801916604034812233152863404032 := by decide
/-- An exact result, moved up. -/
def exN (op a b : Int) : Nat := ((X0 : Int) + wex op a b).toNat
theorem exN_eq {op a b : Int} (ha : IS a) (hb : IS b) : (exN op a b : Int) = X0 + wex op a b := by
  have := (wex_in (op := op) ha hb).1
  have := x0v
  unfold exN
  omega
theorem ex_in {z : Int} (h : IW z) {n : Nat} (e : (n : Int) = X0 + z) : 256 ^ 23 ≤ n ∧ n < 256 ^ 24 := by
  have h1 := h.1
  have h2 := h.2
  have e1 : (256 : Nat) ^ 23 = 24519928653854221733733552434404946937899825954937634816 := by decide
  have e2 : (256 : Nat) ^ 24 = 6277101735386680763835789423207666416102355444464034512896 := by decide
  have := x0v
  rw [e1, e2]
  omega
theorem natAbs_lt {a : Int} (h : IS a) : a.natAbs < 256 ^ 8 := by
  have h1 := h.1
  have h2 := h.2
  have e1 : (256 : Nat) ^ 8 = 18446744073709551616 := by decide
  rw [e1]
  omega
theorem put_a {x a : Int} {n : Nat} (e : (n : Int) = x) (h : 9223372036854775808 ≤ x) (ha : IS a) : ((putN n a.natAbs (decide (a < 0)) : Nat) : Int) = x + a ∧ a.natAbs ≤ n := by
  have h1 := ha.1
  have h2 := ha.2
  unfold putN
  constructor
  · by_cases c : a < 0
    · simp only [c, decide_true, if_true]; omega
    · simp only [c, decide_false]; simp; omega
  · omega
theorem put_s {x a : Int} {n : Nat} (e : (n : Int) = x) (h : 9223372036854775808 ≤ x) (ha : IS a) : ((putN n a.natAbs (!decide (a < 0)) : Nat) : Int) = x - a ∧ a.natAbs ≤ n := by
  have h1 := ha.1
  have h2 := ha.2
  unfold putN
  constructor
  · by_cases c : a < 0
    · simp only [c, decide_true, Bool.not_true]; simp; omega
    · simp only [c, decide_false, Bool.not_false, if_true]; omega
  · omega
theorem wv8 {n : Nat} (h : n < 256 ^ 8) : (byt n).length ≤ 500 := Nat.le_trans (byt_len h) (by decide)
theorem part_ok {n L : Nat} (h : n < 256 ^ L) : 0 + (byt n).length * 1 ≤ L * 1 := by have := byt_len h; omega
theorem bool13 {b : Bool} : (!(b == ((13 : Int) == 14))) = b := by cases b <;> rfl
theorem bool14 {b : Bool} : (!(b == ((14 : Int) == 14))) = !b := by cases b <;> rfl
theorem mul_big {a b : Int} (ha : IS a) (hb : IS b) : a.natAbs * b.natAbs ≤ 9223372036854775808 * 9223372036854775808 := Nat.mul_le_mul (by have := ha.1; have := ha.2; omega) (by have := hb.1; have := hb.2; omega)
theorem mulx1 {a b : Int} (ha : IS a) (hb : IS b) : a.natAbs * b.natAbs ≤ X0 := by
  have := mul_big ha hb
  have := x0v
  omega
theorem mulx2 {a b : Int} (ha : IS a) (hb : IS b) : X0 + a.natAbs * b.natAbs < 256 ^ 24 := by
  have := mul_big ha hb
  have := x0v
  have e1 : (256 : Nat) ^ 24 = 6277101735386680763835789423207666416102355444464034512896 := by decide
  rw [e1]
  omega
theorem mulx3 {a b : Int} (ha : IS a) (hb : IS b) : putN X0 (a.natAbs * b.natAbs) (!(decide (a < 0) == decide (b < 0))) = exN 15 a b := by
  have h1 := mul_big ha hb
  have h2 := x0v
  have e := exN_eq (op := 15) ha hb
  have e2 : wex 15 a b = a * b := rfl
  rw [e2] at e
  have hm : (a * b).natAbs = a.natAbs * b.natAbs := Int.natAbs_mul a b
  have hs : (decide (a < 0) == decide (b < 0)) = true → 0 ≤ a * b := fun h => by
    by_cases c1 : a < 0 <;> by_cases c2 : b < 0 <;> simp [c1, c2] at h
    · exact Int.mul_nonneg_of_nonpos_of_nonpos (by omega) (by omega)
    · exact Int.mul_nonneg (by omega) (by omega)
  have ho : (decide (a < 0) == decide (b < 0)) = false → a * b ≤ 0 := fun h => by
    by_cases c1 : a < 0 <;> by_cases c2 : b < 0 <;> simp [c1, c2] at h
    · exact Int.mul_nonpos_of_nonpos_of_nonneg (by omega) (by omega)
    · exact Int.mul_nonpos_of_nonneg_of_nonpos (by omega) (by omega)
  unfold putN
  rw [← hm] at h1 ⊢
  generalize a * b = p at *
  cases hc : (decide (a < 0) == decide (b < 0)) with
  | true => have := hs hc; simp; omega
  | false => have := ho hc; simp; omega
set_option maxHeartbeats 4000000 in
theorem exact_f (op a b : Int) (ho : aknown' op) (ha : IS a) (hb : IS b) : DenF Tryz.prog 170 noFacts [.v (.int .i64 op), .v (.int .i64 a), .v (.int .i64 b)] [.sub 0 0 (byt (exN op a b)).length] [.row 5 1 24 (BVs (b8 24 ((exN op a b : Nat) : Int)))] := by
  refine DenF.fam rfl ?_
  refine denV_of_body (args := [.int .i64 op, .int .i64 a, .int .i64 b]) hmix Tryz.func170 ?_
  have eX : (X0 : Int) = X0 + 0 := by omega
  have iX := ex_in (z := 0) (by decide) eX
  have B1 := add_n (A := B190) (B := 9223372036854775808) (LA := 24) (LB := 8) (by decide) (by decide) (by rw [byt_b190]; decide) (wv8 (by decide))
  have hN : addN B190 9223372036854775808 = 24 := by
    have hM : addM B190 9223372036854775808 = 24 := by unfold addM; rw [byt_b190]; exact Nat.max_eq_left (byt_len (by decide))
    unfold addN; rw [hM, if_pos iX.2]
  rw [hN] at B1
  have Ma := much_f a ha
  have Mb := much_f b hb
  have la := natAbs_lt ha
  have lb := natAbs_lt hb
  have big : ∀ {n : Nat} {z : Int}, (n : Int) = X0 + z → IW z → (9223372036854775808 : Int) ≤ X0 + z := fun {n z} e h => by have := h.1; have := x0v; omega
  have fit : ∀ {n k : Nat} {z : Int}, (n : Int) = X0 + z → IW z → k < 256 ^ 8 → n + k < 256 ^ 24 := fun {n k z} e h hk => by
    have h1 := h.2
    have e1 : (256 : Nat) ^ 24 = 6277101735386680763835789423207666416102355444464034512896 := by decide
    have e2 : (256 : Nat) ^ 8 = 18446744073709551616 := by decide
    rw [e1]
    rw [e2] at hk
    have := x0v
    omega
  have o1 : 0 + (byt B190).length * 1 ≤ 24 * 1 := part_ok (by decide)
  have o2 : 0 + (byt 9223372036854775808).length * 1 ≤ 8 * 1 := part_ok (by decide)
  have o3 : 0 + (byt X0).length * 1 ≤ 24 * 1 := part_ok iX.2
  have o4 := part_ok la
  have o5 := part_ok lb
  rcases ho with rfl | rfl | rfl
  · obtain ⟨e1, l1⟩ := put_a eX (big eX (by decide)) ha
    rw [Int.add_zero] at e1
    have w1 : IW a := by have := ha.1; have := ha.2; constructor <;> omega
    have i1 := ex_in w1 e1
    obtain ⟨e2, l2⟩ := put_a e1 (big e1 w1) hb
    have w2 := wex_in (op := 13) ha hb
    have e3 : ((putN (putN X0 a.natAbs (decide (a < 0))) b.natAbs (decide (b < 0)) : Nat) : Int) = (exN 13 a b : Int) := by rw [e2, exN_eq ha hb]; show _ = (X0 : Int) + (a + b); omega
    have P1 := put_f (below := decide (a < 0)) iX.1 iX.2 la l1 (fit eX (by decide) la)
    have P2 := put_f (below := decide (b < 0)) i1.1 i1.2 lb l2 (fit e1 w1 lb)
    rw [Int.ofNat.inj e3, ← bool13 (b := decide (b < 0))] at P2
    (repeat' ((conv => whnf); first | refine CallA.anyFresh _ _ B1 ?_ | refine CallN.anyFresh _ _ Ma ?_ | refine CallN.anyFresh _ _ Mb ?_ | refine CallN.anyFresh _ _ base_f ?_ | refine CallA.anyFresh _ _ of63_f ?_ | refine CallA.anyFresh _ _ P1 ?_ | refine CallA.anyFresh _ _ P2 ?_ | refine Ob.mk o1 ?_ | refine Ob.mk o2 ?_ | refine Ob.mk o3 ?_ | refine Ob.mk o4 ?_ | refine Ob.mk o5 ?_ | refine Ob.mk (part_ok i1.2) ?_ | refine AdN.mk _ _ rfl ?_ | refine DrawN.a (Ob.mk (by decide +kernel) ?_) | refine DrawN.c (Ob.mk (by decide +kernel) ?_) | refine DrawN.b (Ob.mk (by decide +kernel) ?_) | refine Ob.mk (by kernel_rfl) ?_ | (refine Br.mk (fun h => ?_) (fun h => ?_) <;> (first | (exfalso; exact Bool.false_ne_true h) | (exfalso; exact Bool.false_ne_true h.symm) | skip)) | refine SeqN.go ?_)); all_goals (conv => whnf)
    refine RetN.mk [7] (by decide) rfl ?_ ?_ <;> (conv => whnf); (repeat' (first | exact True.intro | exact rfl | refine And.intro ?_ ?_ | decide))
  · obtain ⟨e1, l1⟩ := put_a eX (big eX (by decide)) ha
    rw [Int.add_zero] at e1
    have w1 : IW a := by have := ha.1; have := ha.2; constructor <;> omega
    have i1 := ex_in w1 e1
    obtain ⟨e2, l2⟩ := put_s e1 (big e1 w1) hb
    have e3 : ((putN (putN X0 a.natAbs (decide (a < 0))) b.natAbs (!decide (b < 0)) : Nat) : Int) = (exN 14 a b : Int) := by rw [e2, exN_eq ha hb]; show _ = (X0 : Int) + (a - b); omega
    have P1 := put_f (below := decide (a < 0)) iX.1 iX.2 la l1 (fit eX (by decide) la)
    have P2 := put_f (below := !decide (b < 0)) i1.1 i1.2 lb l2 (fit e1 w1 lb)
    rw [Int.ofNat.inj e3, ← bool14 (b := decide (b < 0))] at P2
    (repeat' ((conv => whnf); first | refine CallA.anyFresh _ _ B1 ?_ | refine CallN.anyFresh _ _ Ma ?_ | refine CallN.anyFresh _ _ Mb ?_ | refine CallN.anyFresh _ _ base_f ?_ | refine CallA.anyFresh _ _ of63_f ?_ | refine CallA.anyFresh _ _ P1 ?_ | refine CallA.anyFresh _ _ P2 ?_ | refine Ob.mk o1 ?_ | refine Ob.mk o2 ?_ | refine Ob.mk o3 ?_ | refine Ob.mk o4 ?_ | refine Ob.mk o5 ?_ | refine Ob.mk (part_ok i1.2) ?_ | refine AdN.mk _ _ rfl ?_ | refine DrawN.a (Ob.mk (by decide +kernel) ?_) | refine DrawN.c (Ob.mk (by decide +kernel) ?_) | refine DrawN.b (Ob.mk (by decide +kernel) ?_) | refine Ob.mk (by kernel_rfl) ?_ | (refine Br.mk (fun h => ?_) (fun h => ?_) <;> (first | (exfalso; exact Bool.false_ne_true h) | (exfalso; exact Bool.false_ne_true h.symm) | skip)) | refine SeqN.go ?_)); all_goals (conv => whnf)
    refine RetN.mk [7] (by decide) rfl ?_ ?_ <;> (conv => whnf); (repeat' (first | exact True.intro | exact rfl | refine And.intro ?_ ?_ | decide))
  · have hm : a.natAbs * b.natAbs = (a * b).natAbs := (Int.natAbs_mul a b).symm
    have w2 := wex_in (op := 15) ha hb
    have M := mul_n la lb (wv8 la) (wv8 lb)
    have hml : a.natAbs * b.natAbs < 256 ^ ((byt a.natAbs).length + (byt b.natAbs).length + 1) := mul_lt (byt_lt _) (byt_lt _)
    have P1 := put_f (below := !(decide (a < 0) == decide (b < 0))) iX.1 iX.2 hml (mulx1 ha hb) (mulx2 ha hb)
    rw [mulx3 ha hb] at P1
    (repeat' ((conv => whnf); first | refine CallA.anyFresh _ _ B1 ?_ | refine CallN.anyFresh _ _ Ma ?_ | refine CallN.anyFresh _ _ Mb ?_ | refine CallN.anyFresh _ _ base_f ?_ | refine CallA.anyFresh _ _ of63_f ?_ | refine CallA.anyFresh _ _ M ?_ | refine CallA.anyFresh _ _ P1 ?_ | refine Ob.mk o1 ?_ | refine Ob.mk o2 ?_ | refine Ob.mk o3 ?_ | refine Ob.mk o4 ?_ | refine Ob.mk o5 ?_ | refine Ob.mk (part_ok hml) ?_ | refine AdN.mk _ _ rfl ?_ | refine DrawN.a (Ob.mk (by decide +kernel) ?_) | refine DrawN.c (Ob.mk (by decide +kernel) ?_) | refine DrawN.b (Ob.mk (by decide +kernel) ?_) | refine Ob.mk (by kernel_rfl) ?_ | (refine Br.mk (fun h => ?_) (fun h => ?_) <;> (first | (exfalso; exact Bool.false_ne_true h) | (exfalso; exact Bool.false_ne_true h.symm) | skip)) | refine SeqN.go ?_)); all_goals (conv => whnf)
    refine RetN.mk [7] (by decide) rfl ?_ ?_ <;> (conv => whnf); (repeat' (first | exact True.intro | exact rfl | refine And.intro ?_ ?_ | decide))
end Go.Proofs.YtljhbdgoknfkcaaGreatDoor
