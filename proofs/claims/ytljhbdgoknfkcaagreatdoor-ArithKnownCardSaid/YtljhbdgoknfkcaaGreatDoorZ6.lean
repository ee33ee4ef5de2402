/- The reference's exact results: rows of bytes, moved up. -/
import Derived.Test.YtljhbdgoknfkcaaGreatDoorY6
import Derived.Test.YtljhbdgoknfkcaaGreatDoorE1
namespace Go.Proofs.YtljhbdgoknfkcaaGreatDoor
open Go Go.RowKit Go.Sort
set_option linter.unusedVariables false
set_option linter.unusedSimpArgs false
set_option maxRecDepth 100000

theorem part_b8 {L N : Nat} (h : N < 256 ^ L) : partRow 1 0 (byt N).length (BVs (b8 L (N : Int))) = BVs (byt N) := by
  have e := b8_trim h
  unfold partRow BVs
  rw [List.drop_zero, Nat.mul_one, ← List.map_take, ← e, trim_take]
/-- A number as an argument, out of a longer row. -/
abbrev argN (L N : Nat) : AR := .r 1 (byt N).length (partRow 1 0 (byt N).length (BVs (b8 L (N : Int))))
theorem add_n {A B LA LB : Nat} (hA : A < 256 ^ LA) (hB : B < 256 ^ LB) (ha : (byt A).length ≤ 500) (hb : (byt B).length ≤ 500) : DenF Tryz.prog 231 noFacts [argN LA A, argN LB B] [.sub 0 0 (byt (A + B)).length] [.row 5 1 (addN A B) (BVs (b8 (addN A B) ((A + B : Nat) : Int)))] := by
  have := add_f A B ha hb
  unfold argN
  rw [part_b8 hA, part_b8 hB]
  exact this
theorem sub_n {A B LA LB : Nat} (hA : A < 256 ^ LA) (hB : B < 256 ^ LB) (hle : B ≤ A) (ha : (byt A).length ≤ 500) : DenF Tryz.prog 254 noFacts [argN LA A, argN LB B] [.sub 0 0 (byt (A - B)).length] [.row 5 1 (byt A).length (BVs (b8 (byt A).length ((A - B : Nat) : Int)))] := by
  have := sub_f A B hle ha
  unfold argN
  rw [part_b8 hA, part_b8 hB]
  exact this
theorem mul_n {A B LA LB : Nat} (hA : A < 256 ^ LA) (hB : B < 256 ^ LB) (ha : (byt A).length ≤ 500) (hb : (byt B).length ≤ 500) : DenF Tryz.prog 233 noFacts [argN LA A, argN LB B] [.sub 0 0 (byt (A * B)).length] [.row 5 1 ((byt A).length + (byt B).length + 1) (BVs (b8 ((byt A).length + (byt B).length + 1) ((A * B : Nat) : Int)))] := by
  have := mul_f A B ha hb
  unfold argN
  rw [part_b8 hA, part_b8 hB]
  exact this
theorem cmp_n {A B LA LB : Nat} (hA : A < 256 ^ LA) (hB : B < 256 ^ LB) (ha : (byt A).length ≤ 1000) (hb : (byt B).length ≤ 1000) : DenA Tryz.prog 83 noFacts [argN LA A, argN LB B] (.int .i64 (cmpN A B)) := by
  have := cmp_d A B ha hb
  unfold argN
  rw [part_b8 hA, part_b8 hB]
  exact this
theorem flat8_one (x : Int) : flat8 [x] = b8 8 x := by simp [flat8]
def muN (n : Int) : Nat := n.natAbs
set_option maxHeartbeats 2000000 in
theorem much_f (n : Int) (hn : IS n) : DenF Tryz.prog 234 noFacts [.v (.int .i64 n)] [.sub 0 0 (byt n.natAbs).length] [.row 5 1 8 (BVs (b8 8 (n.natAbs : Int)))] := by
  refine DenF.fam rfl ?_
  refine denV_of_body (args := [.int .i64 n]) hmix Tryz.func234 ?_
  have O : ∀ v : Int, v = (n.natAbs : Int) → DenF Tryz.prog 172 noFacts [.r 1 1 [.int .u64 v]] [.sub 0 0 (byt n.natAbs).length] [.row 5 1 8 (BVs (b8 8 (n.natAbs : Int)))] := by
    intro v hv
    subst hv
    have := of_v [(n.natAbs : Int)] (by intro x hx; simp at hx; subst hx; have := hn.1; have := hn.2; omega) (by simp)
    rw [flat8_one, show lval [(n.natAbs : Int)] = n.natAbs by simp [lval]] at this
    exact this
  (repeat' ((conv => whnf); first | refine AdN.mk _ _ rfl ?_ | refine DrawN.a (Ob.mk (by decide +kernel) ?_) | refine DrawN.c (Ob.mk (by decide +kernel) ?_) | refine DrawN.b (Ob.mk (by decide +kernel) ?_) | refine Ob.mk (by kernel_rfl) ?_ | (refine Br.mk (fun h => ?_) (fun h => ?_) <;> (first | (exfalso; exact Bool.false_ne_true h) | (exfalso; exact Bool.false_ne_true h.symm) | skip)) | refine SeqN.go ?_)); all_goals (conv => whnf)
  · have h := of_decide_eq_true ‹decide (n < 0) = true›
    refine CallA.anyFresh _ _ (O _ (by have := hn.1; simp only [us_eq, sg_eq]; unfold us sg; omega)) ?_
    (repeat' ((conv => whnf); first | refine AdN.mk _ _ rfl ?_ | refine DrawN.a (Ob.mk (by decide +kernel) ?_) | refine DrawN.c (Ob.mk (by decide +kernel) ?_) | refine DrawN.b (Ob.mk (by decide +kernel) ?_) | refine Ob.mk (by kernel_rfl) ?_ | (refine Br.mk (fun h => ?_) (fun h => ?_) <;> (first | (exfalso; exact Bool.false_ne_true h) | (exfalso; exact Bool.false_ne_true h.symm) | skip)) | refine SeqN.go ?_)); all_goals (conv => whnf)
    refine RetN.mk [1] (by decide) rfl ?_ ?_ <;> (conv => whnf); (repeat' (first | exact True.intro | exact rfl | refine And.intro ?_ ?_ | decide))
  · have h := of_decide_eq_false ‹decide (n < 0) = false›
    refine CallA.anyFresh _ _ (O _ (by have := hn.2; simp only [us_eq]; unfold us; omega)) ?_
    (repeat' ((conv => whnf); first | refine AdN.mk _ _ rfl ?_ | refine DrawN.a (Ob.mk (by decide +kernel) ?_) | refine DrawN.c (Ob.mk (by decide +kernel) ?_) | refine DrawN.b (Ob.mk (by decide +kernel) ?_) | refine Ob.mk (by kernel_rfl) ?_ | (refine Br.mk (fun h => ?_) (fun h => ?_) <;> (first | (exfalso; exact Bool.false_ne_true h) | (exfalso; exact Bool.false_ne_true h.symm) | skip)) | refine SeqN.go ?_)); all_goals (conv => whnf)
    refine RetN.mk [1] (by decide) rfl ?_ ?_ <;> (conv => whnf); (repeat' (first | exact True.intro | exact rfl | refine And.intro ?_ ?_ | decide))
/-- 2^190. -/
abbrev B190 : Nat := 1569275433846670190958947355801916604025588861116008628224
theorem byt_b190 : (byt B190).length = 24 := byt_len_eq (k := 23) (by decide) (by decide)
theorem flat_b190 : flat8 [0, 0, 4611686018427387904] = b8 24 (B190 : Int) := by decide +kernel
theorem base_f : DenF Tryz.prog 178 noFacts [] [.sub 0 0 (byt B190).length] [.row 5 1 24 (BVs (b8 24 (B190 : Int)))] := by
  refine DenF.fam rfl ?_
  refine denV_of_body (args := []) hmix Tryz.func178 ?_
  have O : DenF Tryz.prog 172 noFacts [.r 1 3 [.int .u64 0, .int .u64 0, .int .u64 4611686018427387904]] [.sub 0 0 (byt B190).length] [.row 5 1 24 (BVs (b8 24 (B190 : Int)))] := by
    have := of_v [0, 0, 4611686018427387904] (by decide) (by decide)
    rw [flat_b190, show lval [0, 0, 4611686018427387904] = B190 by decide +kernel] at this
    exact this
  (repeat' ((conv => whnf); first | refine CallA.anyFresh _ _ O ?_ | refine AdN.mk _ _ rfl ?_ | refine DrawN.a (Ob.mk (by decide +kernel) ?_) | refine DrawN.c (Ob.mk (by decide +kernel) ?_) | refine DrawN.b (Ob.mk (by decide +kernel) ?_) | refine Ob.mk (by kernel_rfl) ?_ | (refine Br.mk (fun h => ?_) (fun h => ?_) <;> (first | (exfalso; exact Bool.false_ne_true h) | (exfalso; exact Bool.false_ne_true h.symm) | skip)) | refine SeqN.go ?_)); all_goals (conv => whnf)
  refine RetN.mk [1] (by decide) rfl ?_ ?_ <;> (conv => whnf); (repeat' (first | exact True.intro | exact rfl | refine And.intro ?_ ?_ | decide))
theorem of63_f : DenF Tryz.prog 172 noFacts [.r 1 1 [.int .u64 9223372036854775808]] [.sub 0 0 (byt 9223372036854775808).length] [.row 5 1 8 (BVs (b8 8 ((9223372036854775808 : Nat) : Int)))] := by
  have := of_v [9223372036854775808] (by decide) (by decide)
  rw [flat8_one, show lval [9223372036854775808] = 9223372036854775808 by decide +kernel] at this
  exact this
/-- Put to one that is moved up, or taken from it. -/
def putN (x n : Nat) (below : Bool) : Nat := if below then x - n else x + n
theorem put_f {x n LN : Nat} {below : Bool} (hx : 256 ^ 23 ≤ x) (hx2 : x < 256 ^ 24) (hn : n < 256 ^ LN) (hle : n ≤ x) (hs : x + n < 256 ^ 24) : DenF Tryz.prog 232 noFacts [argN 24 x, argN LN n, .v (.bool below)] [.sub 0 0 (byt (putN x n below)).length] [.row 5 1 24 (BVs (b8 24 ((putN x n below : Nat) : Int)))] := by
  refine DenF.fam rfl ?_
  intro ad1 b1 off1 c1 hs1 hl1 ad2 b2 off2 c2 hs2 hl2
  have lx : (byt x).length = 24 := byt_len_eq hx hx2
  have ln : (byt n).length ≤ 24 := byt_len (Nat.lt_of_le_of_lt hle hx2)
  have hM : addM x n = 24 := by unfold addM; rw [lx]; exact Nat.max_eq_left ln
  have hN : addN x n = 24 := by unfold addN; rw [hM, if_pos hs]
  have A := add_n hx2 hn (by rw [lx]; decide) (Nat.le_trans ln (by decide))
  have S := sub_n hx2 hn hle (by rw [lx]; decide)
  rw [hN] at A
  rw [lx] at S
  have ha : ∀ W, Sat (orF (orF noFacts (rowF b1 off1 (partRow 1 0 (byt x).length (BVs (b8 24 (x : Int)))))) (rowF b2 off2 (partRow 1 0 (byt n).length (BVs (b8 LN (n : Int)))))) W → ArsAre W [argN 24 x, argN LN n] [.slice ad1 (byt x).length c1, .slice ad2 (byt n).length c2] := fun W hW =>
    ⟨_, _, rfl, arIs_in hW (le_orR.trans le_orL) hl1 hs1, _, _, rfl, arIs_in hW le_orR hl2 hs2, rfl⟩
  have A2 := A.here _ rfl ha
  have S2 := S.here _ rfl ha
  refine denV_of_body (args := [.slice ad1 (byt x).length c1, .slice ad2 (byt n).length c2, .bool below]) hmix Tryz.func232 ?_
  clear A S ha
  cases below
  · (repeat' ((conv => whnf); first | refine CallN.fresh _ _ A2 ?_ | refine AdN.mk _ _ rfl ?_ | refine DrawN.a (Ob.mk (by decide +kernel) ?_) | refine DrawN.c (Ob.mk (by decide +kernel) ?_) | refine DrawN.b (Ob.mk (by decide +kernel) ?_) | refine Ob.mk (by kernel_rfl) ?_ | (refine Br.mk (fun h => ?_) (fun h => ?_) <;> (first | (exfalso; exact Bool.false_ne_true h) | (exfalso; exact Bool.false_ne_true h.symm) | skip)) | refine SeqN.go ?_)); all_goals (conv => whnf)
    refine RetN.mk [0] (by decide) rfl ?_ ?_ <;> (conv => whnf); (repeat' (first | exact True.intro | exact rfl | refine And.intro ?_ ?_ | decide))
  · (repeat' ((conv => whnf); first | refine CallN.fresh _ _ S2 ?_ | refine AdN.mk _ _ rfl ?_ | refine DrawN.a (Ob.mk (by decide +kernel) ?_) | refine DrawN.c (Ob.mk (by decide +kernel) ?_) | refine DrawN.b (Ob.mk (by decide +kernel) ?_) | refine Ob.mk (by kernel_rfl) ?_ | (refine Br.mk (fun h => ?_) (fun h => ?_) <;> (first | (exfalso; exact Bool.false_ne_true h) | (exfalso; exact Bool.false_ne_true h.symm) | skip)) | refine SeqN.go ?_)); all_goals (conv => whnf)
    refine RetN.mk [0] (by decide) rfl ?_ ?_ <;> (conv => whnf); (repeat' (first | exact True.intro | exact rfl | refine And.intro ?_ ?_ | decide))
def aknown' (op : Int) : Prop := op = 13 ∨ op = 14 ∨ op = 15
/-- That of 0. -/
abbrev X0 : Nat := B190 + 9223372036854775808
theorem x0v : ((X0 : Nat) : Int) = 1569275433846670190958947355801916604034812233152863404032 := by decide
/-- An exact result, moved up. -/
def exN (op a b : Int) : Nat := ((X0 : Int) + wex op a b).toNat
theorem exN_eq {op a b : Int} (ha : IS a) (hb : IS b) : (exN op a b : Int) = X0 + wex op a b := by
  have := (wex_in (op := op) ha hb).1
  have := x0v
  unfold exN
  omega
theorem ex_in {z : Int} (h : IW z) {n : Nat} (e : (n : Int) = X0 + z) : 256 ^ 23 ≤ n ∧ n < 256 ^ 24 := by
  have h1 := h.1
  have h2 := h.2
  have e1 : (256 : Nat) ^ 23 = 24519928653854221733733552434404946937899825954937634816 := by decide
  have e2 : (256 : Nat) ^ 24 = 6277101735386680763835789423207666416102355444464034512896 := by decide
  have := x0v
  rw [e1, e2]
  omega
theorem natAbs_lt {a : Int} (h : IS a) : a.natAbs < 256 ^ 8 := by
  have h1 := h.1
  have h2 := h.2
  have e1 : (256 : Nat) ^ 8 = 18446744073709551616 := by decide
  rw [e1]
  omega
theorem put_a {x a : Int} {n : Nat} (e : (n : Int) = x) (h : 9223372036854775808 ≤ x) (ha : IS a) : ((putN n a.natAbs (decide (a < 0)) : Nat) : Int) = x + a ∧ a.natAbs ≤ n := by
  have h1 := ha.1
  have h2 := ha.2
  unfold putN
  constructor
  · by_cases c : a < 0
    · simp only [c, decide_true, if_true]; omega
    · simp only [c, decide_false]; simp; omega
  · omega
theorem put_s {x a : Int} {n : Nat} (e : (n : Int) = x) (h : 9223372036854775808 ≤ x) (ha : IS a) : ((putN n a.natAbs (!decide (a < 0)) : Nat) : Int) = x - a ∧ a.natAbs ≤ n := by
  have h1 := ha.1
  have h2 := ha.2
  unfold putN
  constructor
  · by_cases c : a < 0
    · simp only [c, decide_true, Bool.not_true]; simp; omega
    · simp only [c, decide_false, Bool.not_false, if_true]; omega
  · omega
theorem wv8 {n : Nat} (h : n < 256 ^ 8) : (byt n).length ≤ 500 := Nat.le_trans (byt_len h) (by decide)
theorem part_ok {n L : Nat} (h : n < 256 ^ L) : 0 + (byt n).length * 1 ≤ L * 1 := by have := byt_len h; omega
theorem bool13 {b : Bool} : (!(b == ((13 : Int) == 14))) = b := by cases b <;> rfl
theorem bool14 {b : Bool} : (!(b == ((14 : Int) == 14))) = !b := by cases b <;> rfl
theorem mul_big {a b : Int} (ha : IS a) (hb : IS b) : a.natAbs * b.natAbs ≤ 9223372036854775808 * 9223372036854775808 := Nat.mul_le_mul (by have := ha.1; have := ha.2; omega) (by have := hb.1; have := hb.2; omega)
theorem mulx1 {a b : Int} (ha : IS a) (hb : IS b) : a.natAbs * b.natAbs ≤ X0 := by
  have := mul_big ha hb
  have := x0v
  omega
theorem mulx2 {a b : Int} (ha : IS a) (hb : IS b) : X0 + a.natAbs * b.natAbs < 256 ^ 24 := by
  have := mul_big ha hb
  have := x0v
  have e1 : (256 : Nat) ^ 24 = 6277101735386680763835789423207666416102355444464034512896 := by decide
  rw [e1]
  omega
theorem mulx3 {a b : Int} (ha : IS a) (hb : IS b) : putN X0 (a.natAbs * b.natAbs) (!(decide (a < 0) == decide (b < 0))) = exN 15 a b := by
  have h1 := mul_big ha hb
  have h2 := x0v
  have e := exN_eq (op := 15) ha hb
  have e2 : wex 15 a b = a * b := rfl
  rw [e2] at e
  have hm : (a * b).natAbs = a.natAbs * b.natAbs := Int.natAbs_mul a b
  have hs : (decide (a < 0) == decide (b < 0)) = true → 0 ≤ a * b := fun h => by
    by_cases c1 : a < 0 <;> by_cases c2 : b < 0 <;> simp [c1, c2] at h
    · exact Int.mul_nonneg_of_nonpos_of_nonpos (by omega) (by omega)
    · exact Int.mul_nonneg (by omega) (by omega)
  have ho : (decide (a < 0) == decide (b < 0)) = false → a * b ≤ 0 := fun h => by
    by_cases c1 : a < 0 <;> by_cases c2 : b < 0 <;> simp [c1, c2] at h
    · exact Int.mul_nonpos_of_nonpos_of_nonneg (by omega) (by omega)
    · exact Int.mul_nonpos_of_nonneg_of_nonpos (by omega) (by omega)
  unfold putN
  rw [← hm] at h1 ⊢
  generalize a * b = p at *
  cases hc : (decide (a < 0) == decide (b < 0)) with
  | true => have := hs hc; simp; omega
  | false => have := ho hc; simp; omega
set_option maxHeartbeats 4000000 in
theorem exact_f (op a b : Int) (ho : aknown' op) (ha : IS a) (hb : IS b) : DenF Tryz.prog 170 noFacts [.v (.int .i64 op), .v (.int .i64 a), .v (.int .i64 b)] [.sub 0 0 (byt (exN op a b)).length] [.row 5 1 24 (BVs (b8 24 ((exN op a b : Nat) : Int)))] := by
  refine DenF.fam rfl ?_
  refine denV_of_body (args := [.int .i64 op, .int .i64 a, .int .i64 b]) hmix Tryz.func170 ?_
  have eX : (X0 : Int) = X0 + 0 := by omega
  have iX := ex_in (z := 0) (by decide) eX
  have B1 := add_n (A := B190) (B := 9223372036854775808) (LA := 24) (LB := 8) (by decide) (by decide) (by rw [byt_b190]; decide) (wv8 (by decide))
  have hN : addN B190 9223372036854775808 = 24 := by
    have hM : addM B190 9223372036854775808 = 24 := by unfold addM; rw [byt_b190]; exact Nat.max_eq_left (byt_len (by decide))
    unfold addN; rw [hM, if_pos iX.2]
  rw [hN] at B1
  have Ma := much_f a ha
  have Mb := much_f b hb
  have la := natAbs_lt ha
  have lb := natAbs_lt hb
  have big : ∀ {n : Nat} {z : Int}, (n : Int) = X0 + z → IW z → (9223372036854775808 : Int) ≤ X0 + z := fun {n z} e h => by have := h.1; have := x0v; omega
  have fit : ∀ {n k : Nat} {z : Int}, (n : Int) = X0 + z → IW z → k < 256 ^ 8 → n + k < 256 ^ 24 := fun {n k z} e h hk => by
    have h1 := h.2
    have e1 : (256 : Nat) ^ 24 = 6277101735386680763835789423207666416102355444464034512896 := by decide
    have e2 : (256 : Nat) ^ 8 = 18446744073709551616 := by decide
    rw [e1]
    rw [e2] at hk
    have := x0v
    omega
  have o1 : 0 + (byt B190).length * 1 ≤ 24 * 1 := part_ok (by decide)
  have o2 : 0 + (byt 9223372036854775808).length * 1 ≤ 8 * 1 := part_ok (by decide)
  have o3 : 0 + (byt X0).length * 1 ≤ 24 * 1 := part_ok iX.2
  have o4 := part_ok la
  have o5 := part_ok lb
  rcases ho with rfl | rfl | rfl
  · obtain ⟨e1, l1⟩ := put_a eX (big eX (by decide)) ha
    rw [Int.add_zero] at e1
    have w1 : IW a := by have := ha.1; have := ha.2; constructor <;> omega
    have i1 := ex_in w1 e1
    obtain ⟨e2, l2⟩ := put_a e1 (big e1 w1) hb
    have w2 := wex_in (op := 13) ha hb
    have e3 : ((putN (putN X0 a.natAbs (decide (a < 0))) b.natAbs (decide (b < 0)) : Nat) : Int) = (exN 13 a b : Int) := by rw [e2, exN_eq ha hb]; show _ = (X0 : Int) + (a + b); omega
    have P1 := put_f (below := decide (a < 0)) iX.1 iX.2 la l1 (fit eX (by decide) la)
    have P2 := put_f (below := decide (b < 0)) i1.1 i1.2 lb l2 (fit e1 w1 lb)
    rw [Int.ofNat.inj e3, ← bool13 (b := decide (b < 0))] at P2
    (repeat' ((conv => whnf); first | refine CallA.anyFresh _ _ B1 ?_ | refine CallN.anyFresh _ _ Ma ?_ | refine CallN.anyFresh _ _ Mb ?_ | refine CallN.anyFresh _ _ base_f ?_ | refine CallA.anyFresh _ _ of63_f ?_ | refine CallA.anyFresh _ _ P1 ?_ | refine CallA.anyFresh _ _ P2 ?_ | refine Ob.mk o1 ?_ | refine Ob.mk o2 ?_ | refine Ob.mk o3 ?_ | refine Ob.mk o4 ?_ | refine Ob.mk o5 ?_ | refine Ob.mk (part_ok i1.2) ?_ | refine AdN.mk _ _ rfl ?_ | refine DrawN.a (Ob.mk (by decide +kernel) ?_) | refine DrawN.c (Ob.mk (by decide +kernel) ?_) | refine DrawN.b (Ob.mk (by decide +kernel) ?_) | refine Ob.mk (by kernel_rfl) ?_ | (refine Br.mk (fun h => ?_) (fun h => ?_) <;> (first | (exfalso; exact Bool.false_ne_true h) | (exfalso; exact Bool.false_ne_true h.symm) | skip)) | refine SeqN.go ?_)); all_goals (conv => whnf)
    refine RetN.mk [7] (by decide) rfl ?_ ?_ <;> (conv => whnf); (repeat' (first | exact True.intro | exact rfl | refine And.intro ?_ ?_ | decide))
  · obtain ⟨e1, l1⟩ := put_a eX (big eX (by decide)) ha
    rw [Int.add_zero] at e1
    have w1 : IW a := by have := ha.1; have := ha.2; constructor <;> omega
    have i1 := ex_in w1 e1
    obtain ⟨e2, l2⟩ := put_s e1 (big e1 w1) hb
    have e3 : ((putN (putN X0 a.natAbs (decide (a < 0))) b.natAbs (!decide (b < 0)) : Nat) : Int) = (exN 14 a b : Int) := by rw [e2, exN_eq ha hb]; show _ = (X0 : Int) + (a - b); omega
    have P1 := put_f (below := decide (a < 0)) iX.1 iX.2 la l1 (fit eX (by decide) la)
    have P2 := put_f (below := !decide (b < 0)) i1.1 i1.2 lb l2 (fit e1 w1 lb)
    rw [Int.ofNat.inj e3, ← bool14 (b := decide (b < 0))] at P2
    (repeat' ((conv => whnf); first | refine CallA.anyFresh _ _ B1 ?_ | refine CallN.anyFresh _ _ Ma ?_ | refine CallN.anyFresh _ _ Mb ?_ | refine CallN.anyFresh _ _ base_f ?_ | refine CallA.anyFresh _ _ of63_f ?_ | refine CallA.anyFresh _ _ P1 ?_ | refine CallA.anyFresh _ _ P2 ?_ | refine Ob.mk o1 ?_ | refine Ob.mk o2 ?_ | refine Ob.mk o3 ?_ | refine Ob.mk o4 ?_ | refine Ob.mk o5 ?_ | refine Ob.mk (part_ok i1.2) ?_ | refine AdN.mk _ _ rfl ?_ | refine DrawN.a (Ob.mk (by decide +kernel) ?_) | refine DrawN.c (Ob.mk (by decide +kernel) ?_) | refine DrawN.b (Ob.mk (by decide +kernel) ?_) | refine Ob.mk (by kernel_rfl) ?_ | (refine Br.mk (fun h => ?_) (fun h => ?_) <;> (first | (exfalso; exact Bool.false_ne_true h) | (exfalso; exact Bool.false_ne_true h.symm) | skip)) | refine SeqN.go ?_)); all_goals (conv => whnf)
    refine RetN.mk [7] (by decide) rfl ?_ ?_ <;> (conv => whnf); (repeat' (first | exact True.intro | exact rfl | refine And.intro ?_ ?_ | decide))
  · have hm : a.natAbs * b.natAbs = (a * b).natAbs := (Int.natAbs_mul a b).symm
    have w2 := wex_in (op := 15) ha hb
    have M := mul_n la lb (wv8 la) (wv8 lb)
    have hml : a.natAbs * b.natAbs < 256 ^ ((byt a.natAbs).length + (byt b.natAbs).length + 1) := mul_lt (byt_lt _) (byt_lt _)
    have P1 := put_f (below := !(decide (a < 0) == decide (b < 0))) iX.1 iX.2 hml (mulx1 ha hb) (mulx2 ha hb)
    rw [mulx3 ha hb] at P1
    (repeat' ((conv => whnf); first | refine CallA.anyFresh _ _ B1 ?_ | refine CallN.anyFresh _ _ Ma ?_ | refine CallN.anyFresh _ _ Mb ?_ | refine CallN.anyFresh _ _ base_f ?_ | refine CallA.anyFresh _ _ of63_f ?_ | refine CallA.anyFresh _ _ M ?_ | refine CallA.anyFresh _ _ P1 ?_ | refine Ob.mk o1 ?_ | refine Ob.mk o2 ?_ | refine Ob.mk o3 ?_ | refine Ob.mk o4 ?_ | refine Ob.mk o5 ?_ | refine Ob.mk (part_ok hml) ?_ | refine AdN.mk _ _ rfl ?_ | refine DrawN.a (Ob.mk (by decide +kernel) ?_) | refine DrawN.c (Ob.mk (by decide +kernel) ?_) | refine DrawN.b (Ob.mk (by decide +kernel) ?_) | refine Ob.mk (by kernel_rfl) ?_ | (refine Br.mk (fun h => ?_) (fun h => ?_) <;> (first | (exfalso; exact Bool.false_ne_true h) | (exfalso; exact Bool.false_ne_true h.symm) | skip)) | refine SeqN.go ?_)); all_goals (conv => whnf)
    refine RetN.mk [7] (by decide) rfl ?_ ?_ <;> (conv => whnf); (repeat' (first | exact True.intro | exact rfl | refine And.intro ?_ ?_ | decide))
/-! The reference's bounds of exact results, and their rounds. -/
theorem bval_take {l : List Int} (h : BY l) (k : Nat) : bval (l.take k) = bval l % 256 ^ k := by
  have e := bval_app (l.take k) (l.drop k)
  rw [List.take_append_drop] at e
  have hb : BY (l.take k) := fun x hx => h x (List.mem_of_mem_take hx)
  have h1 := bval_lt hb
  by_cases c : k ≤ l.length
  · rw [List.length_take, Nat.min_eq_left c] at e h1
    rw [e, Nat.add_mul_mod_self_left, Nat.mod_eq_of_lt h1]
  · rw [List.take_of_length_le (by omega)]
    have h2 := bval_lt h
    rw [Nat.mod_eq_of_lt (Nat.lt_of_lt_of_le h2 (Nat.pow_le_pow_right (by decide) (by omega)))]
theorem bval_drop {l : List Int} (h : BY l) (k : Nat) : bval (l.drop k) = bval l / 256 ^ k := by
  have e := bval_app (l.take k) (l.drop k)
  rw [List.take_append_drop, bval_take h] at e
  have hp := Nat.pow_pos (n := k) (show 0 < 256 by decide)
  by_cases c : k ≤ l.length
  · rw [List.length_take, Nat.min_eq_left c] at e
    rw [e, Nat.add_mul_div_left _ _ hp, Nat.div_eq_of_lt (Nat.mod_lt _ hp), Nat.zero_add]
  · rw [List.drop_eq_nil_of_le (by omega)]
    have h2 := bval_lt h
    rw [Nat.div_eq_of_lt (Nat.lt_of_lt_of_le h2 (Nat.pow_le_pow_right (by decide) (by omega)))]
    rfl
theorem limb_byt (N i : Nat) : limb (byt N) i = ((N / 256 ^ (8 * i) % 256 ^ 8 : Nat) : Int) := by
  unfold limb
  have hb : BY ((byt N).drop (8 * i)) := fun x hx => byt_by N x (List.mem_of_mem_drop hx)
  rw [bval_take hb, bval_drop (byt_by N), bval_byt]
theorem limbs3 (N : Nat) : limbsL (byt N) 3 = [((N % 256 ^ 8 : Nat) : Int), ((N / 256 ^ 8 % 256 ^ 8 : Nat) : Int), ((N / 256 ^ 16 % 256 ^ 8 : Nat) : Int)] := by
  show [limb (byt N) 0, limb (byt N) 1, limb (byt N) 2] = _
  rw [limb_byt, limb_byt, limb_byt]
  simp
theorem b8_app : ∀ (k m : Nat) (x : Int), b8 (k + m) x = b8 k x ++ b8 m (x / 256 ^ k)
  | 0, m, x => by simp [b8]
  | k + 1, m, x => by
    rw [show k + 1 + m = k + m + 1 by omega]
    show x % 256 :: b8 (k + m) (x / 256) = x % 256 :: (b8 k (x / 256) ++ b8 m (x / 256 ^ (k + 1)))
    rw [b8_app k m (x / 256), Int.ediv_ediv_of_nonneg (by decide), Int.pow_succ, Int.mul_comm (256 ^ k) 256]
theorem b8_mod : ∀ (k : Nat) (x : Int), b8 k (x % 256 ^ k) = b8 k x
  | 0, x => rfl
  | k + 1, x => by
    show x % 256 ^ (k + 1) % 256 :: b8 k (x % 256 ^ (k + 1) / 256) = x % 256 :: b8 k (x / 256)
    have e1 : x % 256 ^ (k + 1) % 256 = x % 256 := Int.emod_emod_of_dvd x ⟨256 ^ k, by rw [Int.pow_succ, Int.mul_comm]⟩
    have e2 : x % 256 ^ (k + 1) / 256 = x / 256 % 256 ^ k := by
      have hp : (0 : Int) < 256 ^ k := Int.pow_pos (by decide)
      have h1 := Int.mul_ediv_add_emod x (256 ^ (k + 1))
      have h3 := Int.mul_ediv_add_emod (x / 256) (256 ^ k)
      have h4 : x / 256 / 256 ^ k = x / 256 ^ (k + 1) := by rw [Int.ediv_ediv_of_nonneg (by decide), Int.pow_succ, Int.mul_comm (256 ^ k) 256]
      rw [h4] at h3
      rw [Int.pow_succ, Int.mul_comm (256 ^ k) 256, Int.mul_assoc] at h1
      rw [Int.pow_succ, Int.mul_comm (256 ^ k) 256] at h3 ⊢
      generalize (256 : Int) ^ k * (x / (256 * 256 ^ k)) = y at *
      generalize x % (256 * 256 ^ k) = r at *
      omega
    rw [e1, e2, b8_mod k (x / 256)]
theorem flat_hi {N : Nat} (h : N < 256 ^ 24) : flat8 [((N / 256 ^ 8 % 256 ^ 8 : Nat) : Int), ((N / 256 ^ 16 % 256 ^ 8 : Nat) : Int)] = b8 16 ((N / 256 ^ 8 : Nat) : Int) := by
  show b8 8 _ ++ (b8 8 _ ++ []) = _
  rw [List.append_nil, b8_app 8 8]
  have e1 := b8_mod 8 ((N / 256 ^ 8 : Nat) : Int)
  have e2 := b8_mod 8 ((N / 256 ^ 16 : Nat) : Int)
  rw [← e1]
  have e3 : ((N / 256 ^ 8 : Nat) : Int) / 256 ^ 8 = ((N / 256 ^ 16 : Nat) : Int) := by
    have : N / 256 ^ 8 / 256 ^ 8 = N / 256 ^ 16 := Nat.div_div_eq_div_mul N _ _
    rw [← this]; rfl
  rw [e3, ← e2]
  rfl
theorem lval_hi {N : Nat} (h : N < 256 ^ 24) : lval [((N / 256 ^ 8 % 256 ^ 8 : Nat) : Int), ((N / 256 ^ 16 % 256 ^ 8 : Nat) : Int)] = N / 256 ^ 8 := by
  have e : N / 256 ^ 8 / 256 ^ 8 = N / 256 ^ 16 := Nat.div_div_eq_div_mul N _ _
  have h2 : N / 256 ^ 16 < 256 ^ 8 := Nat.div_lt_of_lt_mul (by rw [← Nat.pow_add]; exact h)
  show ((N / 256 ^ 8 % 256 ^ 8 : Nat) : Int).toNat + 18446744073709551616 * (((N / 256 ^ 16 % 256 ^ 8 : Nat) : Int).toNat + 18446744073709551616 * 0) = _
  rw [Int.toNat_natCast, Int.toNat_natCast, Nat.mod_eq_of_lt h2, ← e]
  have e8 : (256 : Nat) ^ 8 = 18446744073709551616 := by decide
  rw [e8]
  omega
/-- What it is, wrapped. -/
def rlow (N : Nat) : Int := IntKind.i64.wrap (IntKind.u64.wrap (((N % 256 ^ 8 : Nat) : Int) - 9223372036854775808))
theorem u8_lt (x : Nat) : (0 : Int) ≤ ((x % 256 ^ 8 : Nat) : Int) ∧ ((x % 256 ^ 8 : Nat) : Int) ≤ 18446744073709551615 := by
  have e8 : (256 : Nat) ^ 8 = 18446744073709551616 := by decide
  rw [e8]; omega
set_option maxHeartbeats 4000000 in
theorem Round_f {N : Nat} (h1 : 256 ^ 23 ≤ N) (h2 : N < 256 ^ 24) : DenF Tryz.prog 81 noFacts [argN 24 N] [.sub 0 0 (byt (N / 256 ^ 8)).length, .v (.int .i64 (rlow N))] [.row 5 1 16 (BVs (b8 16 ((N / 256 ^ 8 : Nat) : Int)))] := by
  refine DenF.fam rfl ?_
  intro ad b off c hs hl
  have lN : (byt N).length = 24 := byt_len_eq h1 h2
  have L := limbs_f (byt N) (byt_by N) (by rw [lN]; decide)
  rw [lN, limbs3] at L
  have L' : DenF Tryz.prog 171 noFacts [.r 1 24 (BVs (byt N))] [.s 0] [.row 23 1 3 [.int .u64 ((N % 256 ^ 8 : Nat) : Int), .int .u64 ((N / 256 ^ 8 % 256 ^ 8 : Nat) : Int), .int .u64 ((N / 256 ^ 16 % 256 ^ 8 : Nat) : Int)]] := L
  have O := of_v [((N / 256 ^ 8 % 256 ^ 8 : Nat) : Int), ((N / 256 ^ 16 % 256 ^ 8 : Nat) : Int)] (by intro x hx; simp only [List.mem_cons, List.not_mem_nil, or_false] at hx; rcases hx with rfl | rfl <;> exact u8_lt _) (by simp)
  rw [flat_hi h2, lval_hi h2] at O
  rw [part_b8 h2] at hl ⊢
  rw [lN] at hs hl ⊢
  have L2 := L'.here (F := orF noFacts (rowF b off (BVs (byt N)))) [.slice ad 24 c] rfl fun W hW => ⟨_, _, rfl, arIs_in hW le_orR hl hs, rfl⟩
  refine denV_of_body (args := [.slice ad 24 c]) hmix Tryz.func81 ?_
  clear L L'
  (repeat' ((conv => whnf); first | refine CallN.fresh _ _ L2 ?_ | refine CallA.anyFresh _ _ O ?_ | refine Ob.mk ⟨by decide, by decide, by decide⟩ ?_ | refine Ob.mk (by decide) ?_ | refine Ob.mk ⟨by decide, by decide⟩ ?_ | refine RowN.mk _ rfl rfl ?_ | refine AdN.mk _ _ rfl ?_ | refine DrawN.a (Ob.mk (by decide +kernel) ?_) | refine DrawN.c (Ob.mk (by decide +kernel) ?_) | refine DrawN.b (Ob.mk (by decide +kernel) ?_) | refine Ob.mk (by kernel_rfl) ?_ | (refine Br.mk (fun h => ?_) (fun h => ?_) <;> (first | (exfalso; exact Bool.false_ne_true h) | (exfalso; exact Bool.false_ne_true h.symm) | skip)) | refine SeqN.go ?_)); all_goals (conv => whnf)
  refine RetN.mk [1] (by decide) rfl ?_ ?_ <;> (conv => whnf); (repeat' (first | exact True.intro | exact rfl | refine And.intro ?_ ?_ | decide))
theorem zero_f : DenF Tryz.prog 86 noFacts [] [.sub 0 0 (byt (B190 / 256 ^ 8)).length] [.row 5 1 16 (BVs (b8 16 ((B190 / 256 ^ 8 : Nat) : Int)))] := by
  refine DenF.fam rfl ?_
  refine denV_of_body (args := []) hmix Tryz.func86 ?_
  have R := Round_f (N := B190) (by decide) (by decide)
  have o1 : 0 + (byt B190).length * 1 ≤ 24 * 1 := part_ok (by decide)
  (repeat' ((conv => whnf); first | refine CallN.anyFresh _ _ base_f ?_ | refine CallA.anyFresh _ _ R ?_ | refine Ob.mk o1 ?_ | refine AdN.mk _ _ rfl ?_ | refine DrawN.a (Ob.mk (by decide +kernel) ?_) | refine DrawN.c (Ob.mk (by decide +kernel) ?_) | refine DrawN.b (Ob.mk (by decide +kernel) ?_) | refine Ob.mk (by kernel_rfl) ?_ | (refine Br.mk (fun h => ?_) (fun h => ?_) <;> (first | (exfalso; exact Bool.false_ne_true h) | (exfalso; exact Bool.false_ne_true h.symm) | skip)) | refine SeqN.go ?_)); all_goals (conv => whnf)
  refine RetN.mk [1] (by decide) rfl ?_ ?_ <;> (conv => whnf); (repeat' (first | exact True.intro | exact rfl | refine And.intro ?_ ?_ | decide))
/-- The least and the greatest, one after the other. -/
def sel4 (a b c d : Int) (i : Nat) : Int := if i = 0 then a else if i = 1 then b else if i = 2 then c else d
theorem row4 {a b c d z : Int} {K : List Value → Prop} (i : Nat) (e : z = (i : Int)) (h : i < 4) (k : K [.int .i64 (sel4 a b c d i)]) : RowN [.int .i64 a, .int .i64 b, .int .i64 c, .int .i64 d] (z.toNat * 1) 1 K := by
  subst e
  rcases i with _ | _ | _ | _ | i
  · exact .mk _ rfl rfl k
  · exact .mk _ rfl rfl k
  · exact .mk _ rfl rfl k
  · exact .mk _ rfl rfl k
  · omega
def mnE (e : Nat → Int) : Nat → Int
  | 0 => e 0
  | i + 1 => wmin (e (i + 1)) (mnE e i)
def mxE (e : Nat → Int) : Nat → Int
  | 0 => e 0
  | i + 1 => wmax (e (i + 1)) (mxE e i)
def bE (op : Int) (a b : VV) (i : Nat) : Int := wex op (sel4 a.lo a.lo a.hi a.hi i) (sel4 b.lo b.hi b.lo b.hi i)
theorem mnE_span (op : Int) (a b : VV) : mnE (bE op a b) 3 = spanL op a b := rfl
theorem mxE_span (op : Int) (a b : VV) : mxE (bE op a b) 3 = spanG op a b := rfl
theorem mn_le_mx (e : Nat → Int) : ∀ i, mnE e i ≤ mxE e i
  | 0 => Int.le_refl _
  | i + 1 => by
    have := mn_le_mx e i
    show wmin _ _ ≤ wmax _ _
    unfold wmin wmax
    split <;> split <;> omega
theorem mnE_in {e : Nat → Int} (h : ∀ i, IW (e i)) : ∀ i, IW (mnE e i)
  | 0 => h 0
  | i + 1 => by show IW (wmin _ _); unfold wmin; split; exact h _; exact mnE_in h i
theorem mxE_in {e : Nat → Int} (h : ∀ i, IW (e i)) : ∀ i, IW (mxE e i)
  | 0 => h 0
  | i + 1 => by show IW (wmax _ _); unfold wmax; split; exact h _; exact mxE_in h i
/-- Moved up. -/
def mv (z : Int) : Nat := ((X0 : Int) + z).toNat
theorem mv_eq {z : Int} (h : IW z) : (mv z : Int) = X0 + z := by
  have := h.1
  have := x0v
  unfold mv
  omega
theorem mv_in {z : Int} (h : IW z) : 256 ^ 23 ≤ mv z ∧ mv z < 256 ^ 24 := ex_in h (mv_eq h)
theorem mv_len {z : Int} (h : IW z) : (byt (mv z)).length = 24 := byt_len_eq (mv_in h).1 (mv_in h).2
theorem exN_mv (op a b : Int) : exN op a b = mv (wex op a b) := rfl
theorem cmp_mv {z w : Int} (hz : IW z) (hw : IW w) : cmpN (mv z) (mv w) = if z < w then -1 else if z = w then 0 else 1 := by
  have e1 := mv_eq hz
  have e2 := mv_eq hw
  unfold cmpN
  by_cases c : z < w
  · rw [if_pos (by omega), if_pos c]
  · rw [if_neg (by omega), if_neg c]
    by_cases d : z = w
    · rw [if_pos (by subst d; rfl), if_pos d]
    · rw [if_neg (by omega), if_neg d]
theorem sel_is {a b c d : Int} (ha : IS a) (hb : IS b) (hc : IS c) (hd : IS d) (i : Nat) : IS (sel4 a b c d i) := by unfold sel4; split; exact ha; split; exact hb; split; exact hc; exact hd
theorem bE_in {op : Int} {a b : VV} (ha : InV a) (hb : InV b) (i : Nat) : IW (bE op a b i) := wex_in (sel_is ha.lo ha.lo ha.hi ha.hi i) (sel_is hb.lo hb.hi hb.lo hb.hi i)
theorem cl1 {z w : Int} (h : decide ((if z < w then (-1 : Int) else if z = w then 0 else 1) < 0) = true) : z < w := by
  have h := of_decide_eq_true h
  by_cases c : z < w
  · exact c
  · rw [if_neg c] at h; split at h <;> omega
theorem cl0 {z w : Int} (h : decide ((if z < w then (-1 : Int) else if z = w then 0 else 1) < 0) = false) : ¬ z < w := fun c => by
  have h := of_decide_eq_false h
  rw [if_pos c] at h
  omega
theorem cg1 {z w : Int} (h : decide ((if z < w then (-1 : Int) else if z = w then 0 else 1) > 0) = true) : w < z := by
  have h := of_decide_eq_true h
  by_cases c : z < w
  · rw [if_pos c] at h; omega
  · rw [if_neg c] at h
    by_cases d : z = w
    · rw [if_pos d] at h; omega
    · omega
theorem cg0 {z w : Int} (h : decide ((if z < w then (-1 : Int) else if z = w then 0 else 1) > 0) = false) : ¬ w < z := fun c => by
  have h := of_decide_eq_false h
  rw [if_neg (by omega), if_neg (by omega)] at h
  omega
theorem wi4 {i : Nat} (h : i < 3) : IntKind.i64.wrap (((i + 1 : Nat) : Int) + 1) = ((i + 1 + 1 : Nat) : Int) := by rw [sg_eq, sg_in _ (by omega) (by omega)]; omega
theorem idx4 {i : Nat} (h : i < 3) : 0 ≤ ((i + 1 : Nat) : Int) ∧ ((i + 1 : Nat) : Int) < ((4 : Nat) : Int) := by omega
set_option maxHeartbeats 8000000 in
theorem Bounds_f (op : Int) (a b : VV) (ho : aknown' op) (ha : InV a) (hb : InV b) : DenF Tryz.prog 80 noFacts [.v (.int .i64 op), .v (VVal a), .v (VVal b)] [.sub 0 0 24, .sub 1 0 24] [.row 5 1 24 (BVs (b8 24 ((mv (spanL op a b) : Nat) : Int))), .row 5 1 24 (BVs (b8 24 ((mv (spanG op a b) : Nat) : Int)))] := by
  refine DenF.fam rfl ?_
  refine denV_of_body (args := [.int .i64 op, VVal a, VVal b]) hmix Tryz.func80 ?_
  have E : ∀ x y : Int, IS x → IS y → DenF Tryz.prog 170 noFacts [.v (.int .i64 op), .v (.int .i64 x), .v (.int .i64 y)] [.sub 0 0 24] [.row 5 1 24 (BVs (b8 24 ((mv (wex op x y) : Nat) : Int)))] := fun x y hx hy => by
    have := exact_f op x y ho hx hy
    rw [exN_mv, mv_len (wex_in hx hy)] at this
    exact this
  have E0 := E a.lo b.lo ha.lo hb.lo
  (repeat' ((conv => whnf); first | refine CallN.anyFresh _ _ E0 ?_ | refine Ob.mk ⟨by decide, by decide⟩ ?_ | refine RowN.mk _ rfl rfl ?_ | refine AdN.mk _ _ rfl ?_ | refine DrawN.a (Ob.mk (by decide +kernel) ?_) | refine DrawN.c (Ob.mk (by decide +kernel) ?_) | refine DrawN.b (Ob.mk (by decide +kernel) ?_) | refine Ob.mk (by kernel_rfl) ?_ | (refine Br.mk (fun h => ?_) (fun h => ?_) <;> (first | (exfalso; exact Bool.false_ne_true h) | (exfalso; exact Bool.false_ne_true h.symm) | skip)) | refine SeqN.go ?_)); all_goals (conv => whnf)
  have bi := bE_in (op := op) ha hb
  refine LoopN.mk {x : Nat × Nat × Nat // x.1 ≤ 3 ∧ x.2.1 = mv (mnE (bE op a b) x.1) ∧ x.2.2 = mv (mxE (bE op a b) x.1)} (fun x => [(12, .v (.int .i64 ((x.1.1 + 1 : Nat) : Int))), (10, .sub 4 0 24), (11, .sub 5 0 24), (47, .junk), (55, .junk)]) (fun x => [.dead, .dead, .row 2 1 4 [.int .i64 a.lo, .int .i64 a.lo, .int .i64 a.hi, .int .i64 a.hi], .row 2 1 4 [.int .i64 b.lo, .int .i64 b.hi, .int .i64 b.lo, .int .i64 b.hi], .row 5 1 24 (BVs (b8 24 ((x.1.2.1 : Nat) : Int))), .row 5 1 24 (BVs (b8 24 ((x.1.2.2 : Nat) : Int)))]) (fun x => 3 - x.1.1) ⟨(0, mv (wex op a.lo b.lo), mv (wex op a.lo b.lo)), Nat.zero_le _, rfl, rfl⟩ ?_ ?_
  · (conv => whnf); (repeat' (first | exact True.intro | exact rfl | refine And.intro ?_ ?_ | decide))
    all_goals trace_state
  (conv => whnf)
  rintro ⟨⟨i, NL, NG⟩, hi, hNL, hNG⟩
  dsimp only at hi hNL hNG
  have iL := mnE_in bi i
  have iG := mxE_in bi i
  have hLG := mn_le_mx (bE op a b) i
  by_cases hl : i < 3
  · have ei : ((i + 1 : Nat) : Int) = ((i + 1 : Nat) : Int) := rfl
    have E1 := E (sel4 a.lo a.lo a.hi a.hi (i + 1)) (sel4 b.lo b.hi b.lo b.hi (i + 1)) (sel_is ha.lo ha.lo ha.hi ha.hi _) (sel_is hb.lo hb.hi hb.lo hb.hi _)
    have iX := bi (i + 1)
    have C1 := cmp_n (mv_in iX).2 (mv_in iL).2 (by rw [mv_len iX]; decide) (by rw [mv_len iL]; decide)
    have C2 := cmp_n (mv_in iX).2 (mv_in iG).2 (by rw [mv_len iX]; decide) (by rw [mv_len iG]; decide)
    rw [cmp_mv iX iL] at C1
    rw [cmp_mv iX iG] at C2
    unfold argN at C1 C2
    rw [mv_len iX, mv_len iL] at C1
    rw [mv_len iX, mv_len iG] at C2
    rw [← hNL] at C1
    rw [← hNG] at C2
    obtain ⟨NX, hNX⟩ : ∃ n, n = mv (wex op (sel4 a.lo a.lo a.hi a.hi (i + 1)) (sel4 b.lo b.hi b.lo b.hi (i + 1))) := ⟨_, rfl⟩
    rw [← hNX] at E1
    have hNX' : NX = mv (bE op a b (i + 1)) := hNX
    rw [← hNX'] at C1 C2
    generalize hcl : (if bE op a b (i + 1) < mnE (bE op a b) i then (-1 : Int) else if bE op a b (i + 1) = mnE (bE op a b) i then 0 else 1) = cl at C1
    generalize hcg : (if bE op a b (i + 1) < mxE (bE op a b) i then (-1 : Int) else if bE op a b (i + 1) = mxE (bE op a b) i then 0 else 1) = cg at C2
    (repeat' ((conv => whnf); first | refine CallN.anyFresh _ _ E1 ?_ | refine CallA.any _ C1 ?_ | refine CallA.any _ C2 ?_ | refine Ob.mk (idx4 hl) ?_ | refine row4 (i + 1) rfl (Nat.succ_lt_succ hl) ?_ | refine Ob.mk (by decide) ?_ | refine AdN.mk _ _ rfl ?_ | refine DrawN.a (Ob.mk (by decide +kernel) ?_) | refine DrawN.c (Ob.mk (by decide +kernel) ?_) | refine DrawN.b (Ob.mk (by decide +kernel) ?_) | refine Ob.mk (by kernel_rfl) ?_ | (refine Br.mk (fun h => ?_) (fun h => ?_) <;> (first | (exfalso; exact Bool.false_ne_true h) | (exfalso; exact Bool.false_ne_true h.symm) | (exfalso; exact absurd (Int.ofNat_lt.2 (Nat.succ_lt_succ hl)) (of_decide_eq_false ‹_›)) | skip)) | refine SeqN.go ?_)); all_goals (conv => whnf)
    · exfalso
      have p := cl1 (z := bE op a b (i + 1)) (by rw [hcl]; exact ‹decide (cl < 0) = true›)
      have q := cg1 (z := bE op a b (i + 1)) (by rw [hcg]; exact ‹decide (cg > 0) = true›)
      omega
    · have p := cl1 (z := bE op a b (i + 1)) (by rw [hcl]; exact ‹decide (cl < 0) = true›)
      have q := cg0 (z := bE op a b (i + 1)) (by rw [hcg]; exact ‹decide (cg > 0) = false›)
      have r1 : mnE (bE op a b) (i + 1) = bE op a b (i + 1) := if_pos p
      have r2 : mxE (bE op a b) (i + 1) = mxE (bE op a b) i := if_neg q
      refine RoundN.via [0, 1, 2, 3, 6, 5] (by decide) ⟨(i + 1, NX, NG), hl, by rw [r1]; exact hNX', by rw [r2]; exact hNG⟩ (Nat.sub_succ_lt_self _ _ hl) ?_ ?_ <;> (conv => whnf); (repeat' (first | exact True.intro | exact rfl | refine And.intro ?_ ?_ | decide))
      all_goals first | exact congrArg (Value.int _) (wi4 hl) | trace_state
    · have p := cl0 (z := bE op a b (i + 1)) (by rw [hcl]; exact ‹decide (cl < 0) = false›)
      have q := cg1 (z := bE op a b (i + 1)) (by rw [hcg]; exact ‹decide (cg > 0) = true›)
      have r1 : mnE (bE op a b) (i + 1) = mnE (bE op a b) i := if_neg p
      have r2 : mxE (bE op a b) (i + 1) = bE op a b (i + 1) := if_pos q
      refine RoundN.via [0, 1, 2, 3, 4, 6] (by decide) ⟨(i + 1, NL, NX), hl, by rw [r1]; exact hNL, by rw [r2]; exact hNX'⟩ (Nat.sub_succ_lt_self _ _ hl) ?_ ?_ <;> (conv => whnf); (repeat' (first | exact True.intro | exact rfl | refine And.intro ?_ ?_ | decide))
      all_goals first | exact congrArg (Value.int _) (wi4 hl) | trace_state
    · have p := cl0 (z := bE op a b (i + 1)) (by rw [hcl]; exact ‹decide (cl < 0) = false›)
      have q := cg0 (z := bE op a b (i + 1)) (by rw [hcg]; exact ‹decide (cg > 0) = false›)
      have r1 : mnE (bE op a b) (i + 1) = mnE (bE op a b) i := if_neg p
      have r2 : mxE (bE op a b) (i + 1) = mxE (bE op a b) i := if_neg q
      refine RoundN.mk ⟨(i + 1, NL, NG), hl, by rw [r1]; exact hNL, by rw [r2]; exact hNG⟩ (Nat.sub_succ_lt_self _ _ hl) ?_
      (conv => whnf); (repeat' (first | exact True.intro | exact rfl | refine And.intro ?_ ?_ | decide))
      all_goals first | exact congrArg (Value.int _) (wi4 hl) | trace_state
  · obtain rfl : i = 3 := Nat.le_antisymm hi (Nat.le_of_not_lt hl)
    (repeat' ((conv => whnf); first | refine AdN.mk _ _ rfl ?_ | refine DrawN.a (Ob.mk (by decide +kernel) ?_) | refine DrawN.c (Ob.mk (by decide +kernel) ?_) | refine DrawN.b (Ob.mk (by decide +kernel) ?_) | refine Ob.mk (by kernel_rfl) ?_ | (refine Br.mk (fun h => ?_) (fun h => ?_) <;> (first | (exfalso; exact Bool.false_ne_true h) | (exfalso; exact Bool.false_ne_true h.symm) | (exfalso; exact absurd (Nat.lt_of_succ_lt_succ (Int.ofNat_lt.1 (of_decide_eq_true ‹_›))) hl) | skip)) | refine SeqN.go ?_)); all_goals (conv => whnf)
    rw [mnE_span] at hNL
    rw [mxE_span] at hNG
    subst hNL hNG
    refine RetN.mk [4, 5] (by decide) rfl ?_ ?_ <;> (conv => whnf); (repeat' (first | exact True.intro | exact rfl | refine And.intro ?_ ?_ | decide))
end Go.Proofs.YtljhbdgoknfkcaaGreatDoor
