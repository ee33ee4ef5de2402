/- The statement CongKnown, as a call. -/
import Derived.Test.YtiefoahdikmilaaN1
import Derived.Test.YtiefoahdikmilaaL2
import Derived.Test.YtiefoahdikmilaaL3
namespace Go.Proofs.Ytiefoahdikmilaa
open Go Go.RowKit Go.Sort
set_option linter.unusedVariables false
set_option linter.unusedSimpArgs false
set_option maxRecDepth 100000

def Cv (p : Int × Int) : List Value := [.int .u64 p.1, .int .u64 p.2]
def Cs (L : List (Int × Int)) : List Value := L.flatMap Cv
theorem Cs_len (L : List (Int × Int)) : (Cs L).length = L.length * 2 := by
  induction L with
  | nil => rfl
  | cons p L ih => simp only [Cs, List.flatMap_cons, List.length_append, List.length_cons] at ih ⊢; rw [ih]; simp [Cv]; omega
theorem Cs_drop : ∀ (L : List (Int × Int)) (j : Nat), j < L.length → ((Cs L).drop (j * 2)).take 2 = Cv (L.getD j (0, 0))
  | p :: L, 0, _ => by simp [Cs, Cv]
  | p :: L, j + 1, h => by
    have ih := Cs_drop L j (by simpa using h)
    rw [show (j + 1) * 2 = 2 + j * 2 by omega, ← List.drop_drop]
    simpa [Cs, Cv] using ih
theorem rowN {L : List (Int × Int)} {K : List Value → Prop} (n : Int) (h0 : 0 ≤ n) (h : n < (L.length : Int)) (k : K (Cv (L.getD n.toNat (0, 0)))) : RowN (Cs L) (n.toNat * 2) 2 K :=
  .mk _ (Cs_drop L n.toNat (by omega)) rfl k
theorem ints_drop (f : Int → Value) : ∀ (M : List Int) (j : Nat), j < M.length → ((M.map f).drop j).take 1 = [f (M.getD j 0)]
  | p :: M, 0, _ => by simp
  | p :: M, j + 1, h => by
    have ih := ints_drop f M j (by simpa using h)
    simpa using ih
theorem rowI {f : Int → Value} {M : List Int} {K : List Value → Prop} (c : Nat) (hl : M.length = c) (n : Int) (h0 : 0 ≤ n) (h : n < (c : Int)) (k : K [f (M.getD n.toNat 0)]) : RowN (M.map f) (n.toNat * 1) 1 K :=
  .mk _ (by rw [Nat.mul_one]; exact ints_drop f M n.toNat (by omega)) rfl k
theorem i64_in {n : Int} (h0 : -1000000 ≤ n) (h1 : n ≤ 1000000) : IntKind.i64.wrap n = n := by rw [sg_eq]; exact sg_in n (by omega) (by omega)
theorem u64_in {n : Int} (h0 : 0 ≤ n) (h1 : n ≤ 1000000) : IntKind.u64.wrap n = n := by rw [us_eq]; exact us_in n (by omega) (by omega)
theorem getD_in2 {L : List (Int × Int)} (h : ∀ p ∈ L, In2 p) (j : Nat) : In2 (L.getD j (0, 0)) := by
  by_cases hj : j < L.length
  · have : L.getD j (0, 0) = L[j] := by simp [List.getD, hj]
    rw [this]; exact h _ (List.getElem_mem hj)
  · have : L.getD j (0, 0) = (0, 0) := by simp [List.getD, List.getElem?_eq_none (Nat.le_of_not_lt hj)]
    rw [this]; exact ⟨⟨Int.le_refl 0, show (0:Int) ≤ 18446744073709551615 by decide⟩, Int.le_refl 0, show (0:Int) ≤ 18446744073709551615 by decide⟩

theorem in2_make {m n : Int} (hm : 0 ≤ m) (hm' : m ≤ 18446744073709551615) : In2 (m, cmake m n) := by
  unfold cmake
  by_cases h : m = 0
  · rw [if_pos h]; exact ⟨⟨hm, hm'⟩, us_rng n⟩
  · rw [if_neg h]
    have := emod_rng n m (by omega)
    exact ⟨⟨hm, hm'⟩, this.1, show n % m ≤ _ by omega⟩
theorem Cs_snoc (L : List (Int × Int)) (p : Int × Int) : Cs L ++ [.int .u64 p.1, .int .u64 p.2] = Cs (L ++ [p]) := by simp [Cs, Cv]

theorem wr64 (n : Int) : -9223372036854775808 ≤ IntKind.i64.wrap n ∧ IntKind.i64.wrap n ≤ 9223372036854775807 := by rw [sg_eq]; exact sg_rng n
theorem wru64 (n : Int) : 0 ≤ IntKind.u64.wrap n ∧ IntKind.u64.wrap n ≤ 18446744073709551615 := by rw [us_eq]; exact us_rng n
theorem tmod_in {a b : Int} (ha : 0 ≤ a) (hb : 0 < b) : 0 ≤ a.tmod b ∧ a.tmod b < b := ⟨Int.tmod_nonneg _ ha, Int.tmod_lt_of_pos _ hb⟩

theorem tmod_r {a b : Int} (ha : 0 ≤ a) (hb : 0 < b) (hb' : b ≤ 1000) : -9223372036854775808 ≤ a.tmod b ∧ a.tmod b ≤ 9223372036854775807 := by have := tmod_in ha hb; omega

theorem mk_d {m n : Int} {p q : Int × Int} (hm : 0 ≤ m ∧ m ≤ 18446744073709551615) (hn : -9223372036854775808 ≤ n ∧ n ≤ 9223372036854775807) (hp : In2 p) (hq : In2 q) : Den Try.prog 4 #[.int .u64 m, .int .i64 n, .agg #[.int .u64 p.1, .int .u64 p.2], .agg #[.int .u64 q.1, .int .u64 q.2]] noFacts (.bool true) :=
  den_of fun W => congMakes_c m n p.1 p.2 q.1 q.2 W hm.1 hm.2 hn.1 hn.2 hp.1.1 hp.1.2 hp.2.1 hp.2.2 hq.1.1 hq.1.2 hq.2.1 hq.2.2
theorem rm_d {m n : Int} (hm : 0 ≤ m ∧ m ≤ 18446744073709551615) (hn : -9223372036854775808 ≤ n ∧ n ≤ 9223372036854775807) : Den Try.prog 20 #[.int .u64 m, .int .i64 n] noFacts (.agg #[.int .u64 m, .int .u64 (cmake m n)]) :=
  den_of fun W => rmake_c m n W hm.1 hm.2 hn.1 hn.2
theorem op_d {p q : Int × Int} (hp : In2 p) (hq : In2 q) : Den Try.prog 5 #[.agg #[.int .u64 p.1, .int .u64 p.2], .agg #[.int .u64 q.1, .int .u64 q.2]] noFacts (.bool true) :=
  den_of fun W => congOperates_c p.1 p.2 q.1 q.2 W hp.1.1 hp.1.2 hp.2.1 hp.2.2 hq.1.1 hq.1.2 hq.2.1 hq.2.2
theorem so_d {p q : Int × Int} {n m : Int} (hp : In2 p) (hq : In2 q) (hn : -9223372036854775808 ≤ n ∧ n ≤ 9223372036854775807) (hm : -9223372036854775808 ≤ m ∧ m ≤ 9223372036854775807) : Den Try.prog 6 #[.agg #[.int .u64 p.1, .int .u64 p.2], .agg #[.int .u64 q.1, .int .u64 q.2], .int .i64 n, .int .i64 m] noFacts (.bool true) :=
  congSound_d p.1 p.2 q.1 q.2 n m hp.1.1 hp.1.2 hp.2.1 hp.2.2 hq.1.1 hq.1.2 hq.2.1 hq.2.2 hn.1 hn.2 hm.1 hm.2
theorem co_d {p : Int × Int} {n m : Int} (hp : In2 p) (hn : -9223372036854775808 ≤ n ∧ n ≤ 9223372036854775807) (hm : -9223372036854775808 ≤ m ∧ m ≤ 9223372036854775807) : Den Try.prog 7 #[.agg #[.int .u64 p.1, .int .u64 p.2], .int .i64 n, .int .i64 m] noFacts (.bool true) :=
  den_of fun W => congCounts_c p.1 p.2 n m W hp.1.1 hp.1.2 hp.2.1 hp.2.2 hn.1 hn.2 hm.1 hm.2

def mods : List Int := [0, 1, 2, 3, 4294967296, 9223372036854775807, 9223372036854775808, 9223372036854775809, 18446744073709551614, 18446744073709551615]
def nums : List Int := [0, 1, -1, 9223372036854775807, -9223372036854775808, 1099511627776, 7]
theorem ints_rng {M : List Int} {a b : Int} (h : ∀ x ∈ M, a ≤ x ∧ x ≤ b) (h0 : a ≤ 0 ∧ 0 ≤ b) (j : Nat) : a ≤ M.getD j 0 ∧ M.getD j 0 ≤ b := by
  by_cases hj : j < M.length
  · have : M.getD j 0 = M[j] := by simp [List.getD, hj]
    rw [this]; exact h _ (List.getElem_mem hj)
  · have : M.getD j 0 = 0 := by simp [List.getD, List.getElem?_eq_none (Nat.le_of_not_lt hj)]
    rw [this]; exact h0

set_option maxHeartbeats 4000000 in
theorem congKnown_d : Den Try.prog 8 #[] noFacts (.bool true) := by
  have WK := den_of (F := noFacts) works_c
  refine den_of_body (args := []) hmix Try.func8 ?_
  (repeat' ((conv => whnf); first | refine DrawN.a (Ob.mk (by decide +kernel) ?_) | refine DrawN.b (Ob.mk (by decide +kernel) ?_) | refine Ob.mk (by kernel_rfl) ?_ | (refine Br.mk (fun h => ?_) (fun h => ?_) <;> (first | (exfalso; exact Bool.false_ne_true h) | (exfalso; exact Bool.false_ne_true h.symm) | skip)))); all_goals (conv => whnf)
  refine SeqN.nilRow 1 59 2 rfl ?_
  (conv => whnf); refine SeqN.go ?_
  (conv => whnf)
  refine LoopN.mk {x : Nat × List (Int × Int) // x.1 ≤ 13 ∧ x.2.length = 6 * x.1 ∧ ∀ p ∈ x.2, In2 p} (fun x => [(2, .v (.int .u64 x.1.1)), (1, .s 0)]) (fun x => [.row 59 2 x.1.2.length (Cs x.1.2)]) (fun x => 13 - x.1.1) ⟨(0, []), by simp⟩ ?_ ?_
  · (conv => whnf); (repeat' (first | exact True.intro | exact rfl | refine And.intro ?_ ?_ | decide))
  (conv => whnf)
  rintro ⟨⟨m, L⟩, hm, hL, hI⟩
  dsimp only at hm hL hI
  (repeat' ((conv => whnf); first | refine CallN.any _ WK ?_ | refine DrawN.a (Ob.mk (by decide +kernel) ?_) | refine DrawN.b (Ob.mk (by decide +kernel) ?_) | refine Ob.mk (by kernel_rfl) ?_ | (refine Br.mk (fun h => ?_) (fun h => ?_) <;> (first | (exfalso; exact Bool.false_ne_true h) | (exfalso; exact Bool.false_ne_true h.symm) | skip)) | refine SeqN.go ?_)); all_goals (conv => whnf)
  · -- the inner loop
    have hm13 : (m : Int) < 13 := of_decide_eq_true ‹_›
    refine LoopN.mk {x : Nat × List (Int × Int) // x.1 ≤ 6 ∧ x.2.length = 6 * m + x.1 ∧ ∀ p ∈ x.2, In2 p} (fun x => [(3, .v (.int .i64 ((x.1.1 : Int) - 2))), (1, .s 0)]) (fun x => [.row 59 2 x.1.2.length (Cs x.1.2)]) (fun x => 6 - x.1.1) ⟨(0, L), ⟨Nat.zero_le _, by simp [hL], hI⟩⟩ ?_ ?_
    · (conv => whnf); (repeat' (first | exact True.intro | exact rfl | refine And.intro ?_ ?_ | decide))
    (conv => whnf)
    rintro ⟨⟨n, L⟩, hn, hL, hI⟩
    dsimp only at hn hL hI
    have hmake := den_of (F := noFacts) fun W => rmake_c (m : Int) ((n : Int) - 2) W (by omega) (by omega) (by omega) (by omega)
    have hmr := us_rng ((n : Int) - 2)
    have hin := in2_make (m := (m : Int)) (n := (n : Int) - 2) (by omega) (by omega)
    (repeat' ((conv => whnf); first | refine CallN.any _ hmake ?_ | refine CallN.any _ WK ?_ | refine DrawN.a (Ob.mk (by decide +kernel) ?_) | refine DrawN.b (Ob.mk (by decide +kernel) ?_) | refine Ob.mk (by kernel_rfl) ?_ | (refine Br.mk (fun h => ?_) (fun h => ?_) <;> (first | (exfalso; exact Bool.false_ne_true h) | (exfalso; exact Bool.false_ne_true h.symm) | skip)) | refine SeqN.go ?_)); all_goals (conv => whnf)
    · have h' : (n : Int) - 2 < 4 := of_decide_eq_true ‹_›
      refine Ob.mk ⟨by omega, (by show (L.length + 1) * 16 ≤ 140737488355328; omega), (by show L.length + 1 ≤ 140737488355328; omega)⟩ ?_
      (repeat' ((conv => whnf); first | refine DrawN.a (Ob.mk (by decide +kernel) ?_) | refine DrawN.b (Ob.mk (by decide +kernel) ?_) | refine Ob.mk (by kernel_rfl) ?_ | (refine Br.mk (fun h => ?_) (fun h => ?_) <;> (first | (exfalso; exact Bool.false_ne_true h) | (exfalso; exact Bool.false_ne_true h.symm) | skip)) | refine SeqN.go ?_)); all_goals (conv => whnf)
      refine RoundN.mk ⟨(n + 1, L ++ [((m : Int), cmake (m : Int) ((n : Int) - 2))]), ⟨by omega, by simp [hL]; omega, fun p hp => ?_⟩⟩ (by show 6 - (n + 1) < 6 - n; omega) ?_
      · rcases List.mem_append.1 hp with hp | hp
        · exact hI p hp
        · simp at hp; subst hp; exact hin
      (conv => whnf); (repeat' (first | exact True.intro | exact rfl | refine And.intro ?_ ?_ | decide))
      all_goals first | (refine congrArg (Value.int _) ?_; dsimp only; first | (rw [i64_in (by omega) (by omega)]; omega) | (rw [u64_in (by omega) (by omega)]; omega) | omega) | (dsimp only; simp; done) | exact (Cs_snoc L (_, _)).symm | exact Cs_snoc L (_, _) | skip
    · have h' : ¬ (n : Int) - 2 < 4 := of_decide_eq_false ‹_›
      have hn6 : n = 6 := by clear hmake hmr hin; omega
      subst hn6
      refine RoundN.mk ⟨(m + 1, L), ⟨by clear hmake hmr hin; omega, by clear hmake hmr hin; show L.length = 6 * (m + 1); omega, hI⟩⟩ (by clear hmake hmr hin; show 13 - (m + 1) < 13 - m; omega) ?_
      (conv => whnf); (repeat' (first | exact True.intro | exact rfl | refine And.intro ?_ ?_ | decide))
      all_goals first | (refine congrArg (Value.int _) ?_; dsimp only; first | (rw [i64_in (by omega) (by omega)]; omega) | (rw [u64_in (by omega) (by omega)]; omega) | omega) | (dsimp only; simp; done) | skip
  have h' : ¬ (m : Int) < 13 := of_decide_eq_false ‹_›
  have hm13 : m = 13 := by omega
  subst hm13
  have IN := getD_in2 hI
  -- the second part
  refine LoopN.mk {i : Nat // i ≤ 78} (fun i => [(4, .v (.int .i64 i.1)), (1, .s 0)]) (fun _ => [.row 59 2 L.length (Cs L)]) (fun i => 78 - i.1) ⟨0, by omega⟩ ?_ ?_
  · (conv => whnf); (repeat' (first | exact True.intro | exact rfl | refine And.intro ?_ ?_ | decide))
  (conv => whnf)
  rintro ⟨i, hi⟩
  (repeat' ((conv => whnf); first | refine CallN.any _ WK ?_ | refine DrawN.a (Ob.mk (by decide +kernel) ?_) | refine DrawN.b (Ob.mk (by decide +kernel) ?_) | refine Ob.mk (by kernel_rfl) ?_ | (refine Br.mk (fun h => ?_) (fun h => ?_) <;> (first | (exfalso; exact Bool.false_ne_true h) | (exfalso; exact Bool.false_ne_true h.symm) | skip)) | refine SeqN.go ?_)); all_goals (conv => whnf)
  · have hi78 : (i : Int) < 78 := by have h : (i : Int) < (L.length : Int) := of_decide_eq_true ‹_›; omega
    refine LoopN.mk {k : Nat // k ≤ 78} (fun k => [(5, .v (.int .i64 k.1)), (1, .s 0)]) (fun _ => [.row 59 2 L.length (Cs L)]) (fun i => 78 - i.1) ⟨0, by omega⟩ ?_ ?_
    · (conv => whnf); (repeat' (first | exact True.intro | exact rfl | refine And.intro ?_ ?_ | decide))
    (conv => whnf)
    rintro ⟨k, hk⟩
    (repeat' ((conv => whnf); first | refine Ob.mk ⟨(by (try dsimp only); omega), (by (try dsimp only); omega)⟩ ?_ | refine rowN _ (by (try dsimp only); omega) (by (try dsimp only); omega) ?_ | refine Ob.mk (show _ ≠ _ from (by (try dsimp only); omega)) ?_ | refine Ob.mk (tmod_in (by (try dsimp only); rw [i64_in (by omega) (by omega)]; omega) (by (try dsimp only); omega)) ?_ | refine rowN _ (tmod_in (by (try dsimp only); rw [i64_in (by omega) (by omega)]; omega) (by (try dsimp only); omega)).1 (tmod_in (by (try dsimp only); rw [i64_in (by omega) (by omega)]; omega) (by (try dsimp only); omega)).2 ?_ | refine CallN.any _ (op_d (IN _) (IN _)) ?_ | refine CallN.any _ (so_d (IN _) (IN _) (wr64 _) (wr64 _)) ?_ | refine CallN.any _ (mk_d (wru64 _) (wr64 _) (IN _) (IN _)) ?_ | refine CallN.any _ (co_d (IN _) (wr64 _) (tmod_r (by (try dsimp only); omega) (by (try dsimp only); omega) (by (try dsimp only); omega))) ?_ | refine DrawN.a (Ob.mk (by decide +kernel) ?_) | refine DrawN.b (Ob.mk (by decide +kernel) ?_) | refine Ob.mk (by kernel_rfl) ?_ | (refine Br.mk (fun h => ?_) (fun h => ?_) <;> (first | (exfalso; exact Bool.false_ne_true h) | (exfalso; exact Bool.false_ne_true h.symm) | (have h := of_decide_eq_true h; (try dsimp only at h)) | (have h := of_decide_eq_false h; (try dsimp only at h)) | skip)) | refine SeqN.go ?_)); all_goals (conv => whnf)
    · refine RoundN.mk ⟨k + 1, by omega⟩ (by show 78 - (k + 1) < 78 - k; omega) ?_
      (conv => whnf); (repeat' (first | exact True.intro | exact rfl | refine And.intro ?_ ?_ | decide))
      all_goals first | (refine congrArg (Value.int _) ?_; dsimp only; first | (rw [i64_in (by omega) (by omega)]; omega) | (rw [u64_in (by omega) (by omega)]; omega) | omega) | skip
    · refine RoundN.mk ⟨k + 1, by omega⟩ (by show 78 - (k + 1) < 78 - k; omega) ?_
      (conv => whnf); (repeat' (first | exact True.intro | exact rfl | refine And.intro ?_ ?_ | decide))
      all_goals first | (refine congrArg (Value.int _) ?_; dsimp only; first | (rw [i64_in (by omega) (by omega)]; omega) | (rw [u64_in (by omega) (by omega)]; omega) | omega) | skip
    · refine RoundN.mk ⟨i + 1, by omega⟩ (by show 78 - (i + 1) < 78 - i; omega) ?_
      (conv => whnf); (repeat' (first | exact True.intro | exact rfl | refine And.intro ?_ ?_ | decide))
      all_goals first | (refine congrArg (Value.int _) ?_; dsimp only; first | (rw [i64_in (by omega) (by omega)]; omega) | (rw [u64_in (by omega) (by omega)]; omega) | omega) | skip
  -- the third part
  have IM : ∀ j : Nat, 0 ≤ mods.getD j 0 ∧ mods.getD j 0 ≤ 18446744073709551615 := fun j => ints_rng (by decide) (by decide) j
  have INU : ∀ j : Nat, -9223372036854775808 ≤ nums.getD j 0 ∧ nums.getD j 0 ≤ 9223372036854775807 := fun j => ints_rng (by decide) (by decide) j
  refine LoopN.mk {i : Nat // i ≤ 10} (fun i => [(8, .v (.int .i64 i.1)), (6, .s 1), (7, .s 2)]) (fun _ => [.row 59 2 L.length (Cs L), .row 57 1 10 (mods.map (Value.int .u64)), .row 2 1 7 (nums.map (Value.int .i64))]) (fun i => 10 - i.1) ⟨0, by omega⟩ ?_ ?_
  · (conv => whnf); (repeat' (first | exact True.intro | exact rfl | refine And.intro ?_ ?_ | decide))
  (conv => whnf)
  rintro ⟨i, hi⟩
  have Z1 := mk_d (m := 3) (n := 5) (p := (3, 3)) (q := (0, 0)) (by decide) (by decide) ⟨by decide, by decide⟩ ⟨by decide, by decide⟩
  have Z2 := co_d (p := (1, 0)) (n := -9223372036854775808) (m := 9223372036854775807) ⟨by decide, by decide⟩ (by decide) (by decide)
  (repeat' ((conv => whnf); first | refine CallN.any _ WK ?_ | refine CallN.any _ Z1 ?_ | refine CallN.any _ Z2 ?_ | refine DrawN.a (Ob.mk (by decide +kernel) ?_) | refine DrawN.b (Ob.mk (by decide +kernel) ?_) | refine Ob.mk (by kernel_rfl) ?_ | (refine Br.mk (fun h => ?_) (fun h => ?_) <;> (first | (exfalso; exact Bool.false_ne_true h) | (exfalso; exact Bool.false_ne_true h.symm) | skip)) | refine SeqN.go ?_)); all_goals (conv => whnf)
  · have hi10 : (i : Int) < 10 := of_decide_eq_true ‹_›
    refine LoopN.mk {k : Nat // k ≤ 10} (fun k => [(9, .v (.int .i64 k.1)), (6, .s 1), (7, .s 2)]) (fun _ => [.row 59 2 L.length (Cs L), .row 57 1 10 (mods.map (Value.int .u64)), .row 2 1 7 (nums.map (Value.int .i64))]) (fun i => 10 - i.1) ⟨0, by omega⟩ ?_ ?_
    · (conv => whnf); (repeat' (first | exact True.intro | exact rfl | refine And.intro ?_ ?_ | decide))
    (conv => whnf)
    rintro ⟨k, hk⟩
    (repeat' ((conv => whnf); first | refine CallN.any _ WK ?_ | refine DrawN.a (Ob.mk (by decide +kernel) ?_) | refine DrawN.b (Ob.mk (by decide +kernel) ?_) | refine Ob.mk (by kernel_rfl) ?_ | (refine Br.mk (fun h => ?_) (fun h => ?_) <;> (first | (exfalso; exact Bool.false_ne_true h) | (exfalso; exact Bool.false_ne_true h.symm) | skip)) | refine SeqN.go ?_)); all_goals (conv => whnf)
    · have hk10 : (k : Int) < 10 := of_decide_eq_true ‹_›
      refine LoopN.mk {k : Nat // k ≤ 7} (fun k => [(10, .v (.int .i64 k.1)), (6, .s 1), (7, .s 2)]) (fun _ => [.row 59 2 L.length (Cs L), .row 57 1 10 (mods.map (Value.int .u64)), .row 2 1 7 (nums.map (Value.int .i64))]) (fun i => 7 - i.1) ⟨0, by omega⟩ ?_ ?_
      · (conv => whnf); (repeat' (first | exact True.intro | exact rfl | refine And.intro ?_ ?_ | decide))
      (conv => whnf)
      rintro ⟨n, hn⟩
      have e1 : IntKind.i64.wrap ((n : Int) + (i : Int)) = (n : Int) + i := i64_in (by omega) (by omega)
      have e2 : IntKind.i64.wrap ((n : Int) + (i : Int) + (k : Int)) = (n : Int) + i + k := i64_in (by omega) (by omega)
      have e3 : IntKind.i64.wrap ((n : Int) + (k : Int)) = (n : Int) + k := i64_in (by omega) (by omega)
      have e4 : IntKind.i64.wrap ((n : Int) + 1) = (n : Int) + 1 := i64_in (by omega) (by omega)
      (repeat' ((conv => whnf); first | refine Ob.mk ⟨(by (try dsimp only); omega), (by (try dsimp only); omega)⟩ ?_ | refine rowI 10 rfl _ (by (try dsimp only); omega) (by (try dsimp only); omega) ?_ | refine rowI 7 rfl _ (by (try dsimp only); omega) (by (try dsimp only); omega) ?_ | refine Ob.mk (show _ ≠ _ from (by (try dsimp only); omega)) ?_ | refine Ob.mk (tmod_in (by (try dsimp only); (try simp only [e1, e2, e3, e4]); omega) (by (try dsimp only); omega)) ?_ | refine rowI 7 rfl _ (tmod_in (by (try dsimp only); (try simp only [e1, e2, e3, e4]); omega) (by (try dsimp only); omega)).1 (tmod_in (by (try dsimp only); (try simp only [e1, e2, e3, e4]); omega) (by (try dsimp only); omega)).2 ?_ | refine CallN.any _ (rm_d (IM _) (INU _)) ?_ | refine CallN.any _ (mk_d (p := (_, cmake _ _)) (q := (_, cmake _ _)) (IM _) (INU _) (in2_make (IM _).1 (IM _).2) (in2_make (IM _).1 (IM _).2)) ?_ | refine CallN.any _ (op_d (p := (_, cmake _ _)) (q := (_, cmake _ _)) (in2_make (IM _).1 (IM _).2) (in2_make (IM _).1 (IM _).2)) ?_ | refine CallN.any _ (co_d (p := (_, cmake _ _)) (in2_make (IM _).1 (IM _).2) (INU _) (INU _)) ?_ | refine CallN.any _ (so_d (p := (_, cmake _ _)) (q := (_, cmake _ _)) (in2_make (IM _).1 (IM _).2) (in2_make (IM _).1 (IM _).2) (INU _) (INU _)) ?_ | refine DrawN.a (Ob.mk (by decide +kernel) ?_) | refine DrawN.b (Ob.mk (by decide +kernel) ?_) | refine Ob.mk (by kernel_rfl) ?_ | (refine Br.mk (fun h => ?_) (fun h => ?_) <;> (first | (exfalso; exact Bool.false_ne_true h) | (exfalso; exact Bool.false_ne_true h.symm) | (have h := of_decide_eq_true h; (try dsimp only at h)) | (have h := of_decide_eq_false h; (try dsimp only at h)) | skip)) | refine SeqN.go ?_)); all_goals (conv => whnf)
      · refine RoundN.mk ⟨n + 1, by omega⟩ (by show 7 - (n + 1) < 7 - n; omega) ?_
        (conv => whnf); (repeat' (first | exact True.intro | exact rfl | refine And.intro ?_ ?_ | decide))
        all_goals first | (refine congrArg (Value.int _) ?_; dsimp only; first | (rw [i64_in (by omega) (by omega)]; omega) | (rw [u64_in (by omega) (by omega)]; omega) | omega) | skip
      · refine RoundN.mk ⟨k + 1, by omega⟩ (by show 10 - (k + 1) < 10 - k; omega) ?_
        (conv => whnf); (repeat' (first | exact True.intro | exact rfl | refine And.intro ?_ ?_ | decide))
        all_goals first | (refine congrArg (Value.int _) ?_; dsimp only; first | (rw [i64_in (by omega) (by omega)]; omega) | (rw [u64_in (by omega) (by omega)]; omega) | omega) | skip
    · refine RoundN.mk ⟨i + 1, by omega⟩ (by show 10 - (i + 1) < 10 - i; omega) ?_
      (conv => whnf); (repeat' (first | exact True.intro | exact rfl | refine And.intro ?_ ?_ | decide))
      all_goals first | (refine congrArg (Value.int _) ?_; dsimp only; first | (rw [i64_in (by omega) (by omega)]; omega) | (rw [u64_in (by omega) (by omega)]; omega) | omega) | skip
  · rfl

end Go.Proofs.Ytiefoahdikmilaa
