/- CondKnown as a call. -/
import Derived.Test.YtcemohoigdninaaGreatDoorJ4
import Derived.Test.YtcemohoigdninaaGreatDoorJ7
namespace Go.Proofs.YtcemohoigdninaaGreatDoor
open Go Go.RowKit Go.Sort
set_option linter.unusedVariables false
set_option linter.unusedSimpArgs false
set_option maxRecDepth 100000

theorem VCs_app (a b : List VV) : VCs (a ++ b) = VCs a ++ VCs b := by simp [VCs]
theorem VCs_one (p : VV) : VCs [p] = VC p := by simp [VCs]
theorem rowVV {l : List VV} {K : List Value → Prop} (n : Int) (h0 : 0 ≤ n) (h : n < (l.length : Int)) (k : K (VC (l.getD n.toNat vbot))) : RowN (VCs l) (n.toNat * 4) 4 K := .mk _ (VCs_drop l n.toNat (by omega)) rfl k
/-- The first of the chapter's values. -/
def c24 (a b : Nat) : VV := ⟨(a : Int) - 2, IntKind.i64.wrap (IntKind.i64.wrap ((a : Int) - 2 + IntKind.i64.wrap (b : Int)) - 1), (b : Int).tmod 3, cmake ((b : Int).tmod 3) ((a : Int) - 2)⟩
theorem cmake_iu {m n : Int} (hm : IU m) : IU (cmake m n) := by
  unfold cmake
  by_cases h : m = 0
  · rw [if_pos h]; exact us_rng n
  · rw [if_neg h]
    have := emod_rng n m (by have := hm.1; omega)
    have := hm.2
    exact ⟨by omega, by omega⟩
theorem tmod3 (b : Nat) : IU ((b : Int).tmod 3) := by
  have : (b : Int).tmod 3 = ((b % 3 : Nat) : Int) := rfl
  rw [this]
  exact ⟨by omega, by omega⟩
theorem c24_in {a b : Nat} (ha : a ≤ 5) : InV (c24 a b) := ⟨by show IS ((a : Int) - 2); exact ⟨by omega, by omega⟩, wrap_is _, tmod3 b, cmake_iu (tmod3 b)⟩
theorem row4 {l : List VV} {j : Nat} (h : j < l.length) : ∃ rest, (VCs l).drop (j * 4) = .int .i64 (l.getD j vbot).lo :: .int .i64 (l.getD j vbot).hi :: .int .u64 (l.getD j vbot).m :: .int .u64 (l.getD j vbot).r :: rest := by
  have e := VCs_drop l j h
  generalize (VCs l).drop (j * 4) = X at e
  rcases X with _ | ⟨a, _ | ⟨b, _ | ⟨c, _ | ⟨d, X⟩⟩⟩⟩
  all_goals first
    | (simp [VC] at e; done)
    | (simp [VC] at e; obtain ⟨rfl, rfl, rfl, rfl⟩ := e; exact ⟨X, rfl⟩)
theorem rowLo {l : List VV} {K : List Value → Prop} (n : Int) (h0 : 0 ≤ n) (h : n < (l.length : Int)) (k : K [.int .i64 (l.getD n.toNat vbot).lo]) : RowN (VCs l) (n.toNat * 4 + 0) 1 K := by
  obtain ⟨rest, e⟩ := row4 (l := l) (j := n.toNat) (by omega)
  exact .mk _ (by rw [Nat.add_zero, e]; rfl) rfl k
theorem rowHi {l : List VV} {K : List Value → Prop} (n : Int) (h0 : 0 ≤ n) (h : n < (l.length : Int)) (k : K [.int .i64 (l.getD n.toNat vbot).hi]) : RowN (VCs l) (n.toNat * 4 + 1) 1 K := by
  obtain ⟨rest, e⟩ := row4 (l := l) (j := n.toNat) (by omega)
  exact .mk _ (by rw [← List.drop_drop, e]; rfl) rfl k
def T8 : List VV := [vtop, vone (-9223372036854775808), vone 9223372036854775807, ⟨-9223372036854775808, -9223372036854775807, 1, 0⟩, ⟨9223372036854775805, 9223372036854775807, 1, 0⟩, ⟨-9223372036854775808, -1, 1, 0⟩, ⟨-9223372036854775808, 9223372036854775807, 4, cmake 4 1⟩, vbot]
theorem T8_in : ∀ p ∈ T8, InV p := by
  intro p hp
  simp only [T8, List.mem_cons, List.not_mem_nil, or_false] at hp
  rcases hp with rfl | rfl | rfl | rfl | rfl | rfl | rfl | rfl
  · exact vtop_in
  · exact vone_in ⟨by decide, by decide⟩
  · exact vone_in ⟨by decide, by decide⟩
  · exact ⟨⟨by decide, by decide⟩, ⟨by decide, by decide⟩, ⟨by decide, by decide⟩, ⟨by decide, by decide⟩⟩
  · exact ⟨⟨by decide, by decide⟩, ⟨by decide, by decide⟩, ⟨by decide, by decide⟩, ⟨by decide, by decide⟩⟩
  · exact ⟨⟨by decide, by decide⟩, ⟨by decide, by decide⟩, ⟨by decide, by decide⟩, ⟨by decide, by decide⟩⟩
  · exact ⟨⟨by decide, by decide⟩, ⟨by decide, by decide⟩, ⟨by decide, by decide⟩, cmake_iu (m := 4) (n := 1) ⟨by decide, by decide⟩⟩
  · exact vbot_in
set_option maxHeartbeats 4000000 in
theorem condKnown_d : Den Tryz.prog 6 #[] tabF (.bool true) := by
  refine den_of_body (args := []) hmix Tryz.func6 ?_
  (repeat' ((conv => whnf); first | refine AdN.mk _ _ rfl ?_ | refine DrawN.a (Ob.mk (by decide +kernel) ?_) | refine DrawN.c (Ob.mk (by decide +kernel) ?_) | refine DrawN.b (Ob.mk (by decide +kernel) ?_) | refine Ob.mk (by kernel_rfl) ?_ | (refine Br.mk (fun h => ?_) (fun h => ?_) <;> (first | (exfalso; exact Bool.false_ne_true h) | (exfalso; exact Bool.false_ne_true h.symm) | skip)))); all_goals (conv => whnf)
  refine SeqN.nilRow 1 31 4 rfl ?_
  (conv => whnf); refine SeqN.go ?_
  (conv => whnf)
  refine LoopN.mk {x : Nat × List VV // x.1 ≤ 5 ∧ x.2.length = 5 * x.1 ∧ ∀ p ∈ x.2, InV p} (fun x => [(2, .v (.int .i64 ((x.1.1 : Int) - 2))), (1, .s 0)]) (fun x => [.row 31 4 x.1.2.length (VCs x.1.2)]) (fun x => 5 - x.1.1) ⟨(0, []), by simp⟩ ?_ ?_
  · (conv => whnf); (repeat' (first | exact True.intro | exact rfl | refine And.intro ?_ ?_ | decide))
  (conv => whnf)
  rintro ⟨⟨a, L⟩, hm, hL, hI⟩
  dsimp only at hm hL hI
  (repeat' ((conv => whnf); first | refine AdN.mk _ _ rfl ?_ | refine DrawN.a (Ob.mk (by decide +kernel) ?_) | refine DrawN.c (Ob.mk (by decide +kernel) ?_) | refine DrawN.b (Ob.mk (by decide +kernel) ?_) | refine Ob.mk (by kernel_rfl) ?_ | (refine Br.mk (fun h => ?_) (fun h => ?_) <;> (first | (exfalso; exact Bool.false_ne_true h) | (exfalso; exact Bool.false_ne_true h.symm) | skip)) | refine SeqN.go ?_)); all_goals (conv => whnf)
  · have ha5 : (a : Int) - 2 < 3 := of_decide_eq_true ‹_›
    refine LoopN.mk {x : Nat × List VV // x.1 ≤ 5 ∧ x.2.length = 5 * a + x.1 ∧ ∀ p ∈ x.2, InV p} (fun x => [(3, .v (.int .u64 (x.1.1 : Int))), (1, .s 0)]) (fun x => [.row 31 4 x.1.2.length (VCs x.1.2)]) (fun x => 5 - x.1.1) ⟨(0, L), ⟨Nat.zero_le _, by simp [hL], hI⟩⟩ ?_ ?_
    · (conv => whnf); (repeat' (first | exact True.intro | exact rfl | refine And.intro ?_ ?_ | decide))
    (conv => whnf)
    rintro ⟨⟨b, L⟩, hn, hL, hI⟩
    dsimp only at hn hL hI
    have CM := den_of (F := noFacts) fun W => make_c ((b : Int).tmod 3) ((a : Int) - 2) W (tmod3 b).1 (tmod3 b).2 (by omega) (by omega)
    have ci := c24_in (a := a) (b := b) hm
    (repeat' ((conv => whnf); first | refine CallN.any _ CM ?_ | refine Ob.mk (by decide) ?_ | refine Ob.mk ⟨by omega, (by show (L.length + 1) * 32 ≤ 140737488355328; omega), (by show L.length + 1 ≤ 140737488355328; omega)⟩ ?_ | refine AdN.mk _ _ rfl ?_ | refine DrawN.a (Ob.mk (by decide +kernel) ?_) | refine DrawN.c (Ob.mk (by decide +kernel) ?_) | refine DrawN.b (Ob.mk (by decide +kernel) ?_) | refine Ob.mk (by kernel_rfl) ?_ | (refine Br.mk (fun h => ?_) (fun h => ?_) <;> (first | (exfalso; exact Bool.false_ne_true h) | (exfalso; exact Bool.false_ne_true h.symm) | skip)) | refine SeqN.go ?_)); all_goals (conv => whnf)
    · have h' : (b : Int) < 5 := of_decide_eq_true ‹_›
      refine RoundN.mk ⟨(b + 1, L ++ [c24 a b]), ⟨by omega, by simp [hL]; omega, fun p hp => ?_⟩⟩ (by show 5 - (b + 1) < 5 - b; omega) ?_
      · rcases List.mem_append.1 hp with hp | hp
        · exact hI p hp
        · simp at hp; subst hp; exact ci
      (conv => whnf); (repeat' (first | exact True.intro | exact rfl | refine And.intro ?_ ?_ | decide))
      all_goals first | (refine congrArg (Value.int _) ?_; dsimp only; first | (rw [i64_in (by omega) (by omega)]; omega) | (rw [u64_in (by omega) (by omega)]; omega) | omega) | (dsimp only; simp; done) | (dsimp only; rw [VCs_app, VCs_one]; rfl) | trace_state
    · have h' : ¬ (b : Int) < 5 := of_decide_eq_false ‹_›
      have hn6 : b = 5 := by clear CM ci; omega
      subst hn6
      clear CM ci
      refine RoundN.mk ⟨(a + 1, L), ⟨by omega, by show L.length = 5 * (a + 1); omega, hI⟩⟩ (by show 5 - (a + 1) < 5 - a; omega) ?_
      (conv => whnf); (repeat' (first | exact True.intro | exact rfl | refine And.intro ?_ ?_ | decide))
      all_goals first | (refine congrArg (Value.int _) ?_; dsimp only; first | (rw [i64_in (by omega) (by omega)]; omega) | (rw [u64_in (by omega) (by omega)]; omega) | omega) | (dsimp only; simp; done) | trace_state
  have h' : ¬ (a : Int) - 2 < 3 := of_decide_eq_false ‹_›
  have hm13 : a = 5 := by omega
  subst hm13
  have R1 : Den Tryz.prog 14 #[.int .i64 (-9223372036854775808), .int .i64 (IntKind.i64.wrap (-9223372036854775808 + 1))] noFacts (VVal ⟨-9223372036854775808, -9223372036854775807, 1, 0⟩) := by
    rw [show IntKind.i64.wrap (-9223372036854775808 + 1) = -9223372036854775807 by decide +kernel]
    exact vRange_e (by decide) (by decide) (by decide +kernel)
  have R2 : Den Tryz.prog 14 #[.int .i64 (IntKind.i64.wrap (9223372036854775807 - 2)), .int .i64 9223372036854775807] noFacts (VVal ⟨9223372036854775805, 9223372036854775807, 1, 0⟩) := by
    rw [show IntKind.i64.wrap (9223372036854775807 - 2) = 9223372036854775805 by decide +kernel]
    exact vRange_e (by decide) (by decide) (by decide +kernel)
  have R3 := vRange_e (lo := -9223372036854775808) (hi := -1) (y := ⟨-9223372036854775808, -1, 1, 0⟩) (by decide) (by decide) (by decide +kernel)
  have C1 := den_of (F := noFacts) fun W => make_c 4 1 W (by decide) (by decide) (by decide) (by decide)
  (repeat' ((conv => whnf); first | refine CallN.any _ vTop_d ?_ | refine CallN.any _ (vOne_d _) ?_ | refine CallN.any _ R3 ?_ | refine CallN.any _ R2 ?_ | refine CallN.any _ R1 ?_ | refine CallN.any _ iWhole_d ?_ | refine CallN.any _ C1 ?_ | refine CallN.any _ vBottom_d ?_ | refine Ob.mk (by decide) ?_ | refine Ob.mk ⟨by omega, (by show (L.length + 8) * 32 ≤ 140737488355328; omega), (by show L.length + 8 ≤ 140737488355328; omega)⟩ ?_ | refine AdN.mk _ _ rfl ?_ | refine DrawN.a (Ob.mk (by decide +kernel) ?_) | refine DrawN.c (Ob.mk (by decide +kernel) ?_) | refine DrawN.b (Ob.mk (by decide +kernel) ?_) | refine Ob.mk (by kernel_rfl) ?_ | (refine Br.mk (fun h => ?_) (fun h => ?_) <;> (first | (exfalso; exact Bool.false_ne_true h) | (exfalso; exact Bool.false_ne_true h.symm) | skip)))); all_goals (conv => whnf)
  obtain ⟨L2, hL2⟩ : ∃ L2, L2 = L ++ T8 := ⟨_, rfl⟩
  have hlen : L2.length = 33 := by rw [hL2, List.length_append, hL]; rfl
  have IN : ∀ j, InV (L2.getD j vbot) := fun j => getD_in (fun p hp => by
    rw [hL2] at hp
    rcases List.mem_append.1 hp with hp | hp
    · exact hI p hp
    · exact T8_in p hp) j
  have hV : VCs L2 = VCs L ++ VCs T8 := by rw [hL2, VCs_app]
  refine SeqN.go ?_
  (repeat' ((conv => whnf); first | refine AdN.mk _ _ rfl ?_ | refine DrawN.a (Ob.mk (by decide +kernel) ?_) | refine DrawN.c (Ob.mk (by decide +kernel) ?_) | refine DrawN.b (Ob.mk (by decide +kernel) ?_) | refine Ob.mk (by kernel_rfl) ?_ | (refine Br.mk (fun h => ?_) (fun h => ?_) <;> (first | (exfalso; exact Bool.false_ne_true h) | (exfalso; exact Bool.false_ne_true h.symm) | skip)))); all_goals (conv => whnf)
  refine LoopN.mk {i : Nat // i ≤ 33} (fun i => [(6, .v (.int .i64 i.1)), (1, .s 0)]) (fun _ => [.row 31 4 33 (VCs L2), .dead]) (fun i => 33 - i.1) ⟨0, by decide⟩ ?_ ?_
  · (conv => whnf); (repeat' (first | exact True.intro | exact rfl | refine And.intro ?_ ?_ | decide))
    all_goals first | (show L.length + 8 = 33; omega) | (rw [hV]; rfl) | trace_state
  clear R1 R2 R3 C1
  (conv => whnf)
  rintro ⟨i, hi⟩
  (repeat' ((conv => whnf); first | refine CallN.mk _ works24_d ?_ | refine AdN.mk _ _ rfl ?_ | refine DrawN.a (Ob.mk (by decide +kernel) ?_) | refine DrawN.c (Ob.mk (by decide +kernel) ?_) | refine DrawN.b (Ob.mk (by decide +kernel) ?_) | refine Ob.mk (by kernel_rfl) ?_ | (refine Br.mk (fun h => ?_) (fun h => ?_) <;> (first | (exfalso; exact Bool.false_ne_true h) | (exfalso; exact Bool.false_ne_true h.symm) | skip)) | refine SeqN.go ?_)); all_goals (conv => whnf)
  · have hi33 : (i : Int) < 33 := of_decide_eq_true ‹_›
    refine LoopN.mk {i : Nat // i ≤ 33} (fun i => [(7, .v (.int .i64 i.1)), (1, .s 0)]) (fun _ => [.row 31 4 33 (VCs L2), .dead]) (fun i => 33 - i.1) ⟨0, by decide⟩ ?_ ?_
    · (conv => whnf); (repeat' (first | exact True.intro | exact rfl | refine And.intro ?_ ?_ | decide))
    (conv => whnf)
    rintro ⟨k, hk⟩
    have ik : (i : Int) < (L2.length : Int) := by rw [hlen]; exact hi33
    (repeat' ((conv => whnf); first | refine AdN.mk _ _ rfl ?_ | refine DrawN.a (Ob.mk (by decide +kernel) ?_) | refine DrawN.c (Ob.mk (by decide +kernel) ?_) | refine DrawN.b (Ob.mk (by decide +kernel) ?_) | refine Ob.mk (by kernel_rfl) ?_ | (refine Br.mk (fun h => ?_) (fun h => ?_) <;> (first | (exfalso; exact Bool.false_ne_true h) | (exfalso; exact Bool.false_ne_true h.symm) | skip)))); all_goals (conv => whnf)
    refine SeqN.go ?_
    (repeat' ((conv => whnf); first | refine AdN.mk _ _ rfl ?_ | refine DrawN.a (Ob.mk (by decide +kernel) ?_) | refine DrawN.c (Ob.mk (by decide +kernel) ?_) | refine DrawN.b (Ob.mk (by decide +kernel) ?_) | refine Ob.mk (by kernel_rfl) ?_ | (refine Br.mk (fun h => ?_) (fun h => ?_) <;> (first | (exfalso; exact Bool.false_ne_true h) | (exfalso; exact Bool.false_ne_true h.symm) | skip)))); all_goals (conv => whnf)
    · have hk33 : (k : Int) < 33 := of_decide_eq_true ‹decide ((k : Int) < 33) = true›
      have kk : (k : Int) < (L2.length : Int) := by rw [hlen]; exact hk33
      have oi : 0 ≤ (i : Int) ∧ (i : Int) < 33 := ⟨Int.natCast_nonneg _, hi33⟩
      have ok : 0 ≤ (k : Int) ∧ (k : Int) < 33 := ⟨Int.natCast_nonneg _, hk33⟩
      (repeat' ((conv => whnf); first | refine Ob.mk oi ?_ | refine Ob.mk ok ?_ | refine Ob.mk (by decide) ?_ | refine rowVV (i : Int) (Int.natCast_nonneg _) ik ?_ | refine rowVV (k : Int) (Int.natCast_nonneg _) kk ?_ | refine CallN.mk _ (condTells_d _ (L2.getD i vbot) (L2.getD k vbot) _ _ (IN i) (IN k) (wrap_is _)) ?_ | refine CallN.mk _ (condKeeps_d _ (L2.getD i vbot) (L2.getD k vbot) _ (IN i) (IN k)) ?_ | refine CallN.mk _ (condExact_d _ (L2.getD i vbot) (L2.getD k vbot) (IN i) (IN k)) ?_ | refine CallN.mk _ (condSound_d _ (L2.getD i vbot) (L2.getD k vbot) _ _ (IN i) (IN k) (wrap_is _) (wrap_is _)) ?_ | refine AdN.mk _ _ rfl ?_ | refine DrawN.a (Ob.mk (by decide +kernel) ?_) | refine DrawN.c (Ob.mk (by decide +kernel) ?_) | refine DrawN.b (Ob.mk (by decide +kernel) ?_) | refine Ob.mk (by kernel_rfl) ?_ | (refine Br.mk (fun h => ?_) (fun h => ?_) <;> (first | (exfalso; exact Bool.false_ne_true h) | (exfalso; exact Bool.false_ne_true h.symm) | skip)) | refine SeqN.go ?_)); all_goals (conv => whnf)
      refine LoopN.mk {t : Nat // t ≤ 8} (fun t => [(9, .v (.int .i64 t.1)), (1, .s 0)]) (fun _ => [.row 31 4 33 (VCs L2), .dead]) (fun t => 8 - t.1) ⟨0, by decide⟩ ?_ ?_
      · (conv => whnf); (repeat' (first | exact True.intro | exact rfl | refine And.intro ?_ ?_ | decide))
      (conv => whnf)
      rintro ⟨t, ht⟩
      (repeat' ((conv => whnf); first | refine Ob.mk oi ?_ | refine Ob.mk ok ?_ | refine Ob.mk (by decide) ?_ | refine rowVV (i : Int) (Int.natCast_nonneg _) ik ?_ | refine rowVV (k : Int) (Int.natCast_nonneg _) kk ?_ | refine rowLo (k : Int) (Int.natCast_nonneg _) kk ?_ | refine rowHi (i : Int) (Int.natCast_nonneg _) ik ?_ | refine CallN.mk _ (condTells_d _ (L2.getD i vbot) (L2.getD k vbot) _ _ (IN i) (IN k) (IN k).lo) ?_ | refine CallN.mk _ (condTells_d _ (L2.getD i vbot) (L2.getD k vbot) _ _ (IN i) (IN k) (IN i).hi) ?_ | refine CallN.mk _ (condSound_d _ (L2.getD i vbot) (L2.getD k vbot) _ _ (IN i) (IN k) (IN k).lo (IN i).hi) ?_ | refine AdN.mk _ _ rfl ?_ | refine DrawN.a (Ob.mk (by decide +kernel) ?_) | refine DrawN.c (Ob.mk (by decide +kernel) ?_) | refine DrawN.b (Ob.mk (by decide +kernel) ?_) | refine Ob.mk (by kernel_rfl) ?_ | (refine Br.mk (fun h => ?_) (fun h => ?_) <;> (first | (exfalso; exact Bool.false_ne_true h) | (exfalso; exact Bool.false_ne_true h.symm) | skip)) | refine SeqN.go ?_)); all_goals (conv => whnf)
      · have h8 : (t : Int) < 8 := of_decide_eq_true ‹decide ((t : Int) < 8) = true›
        refine RoundN.mk ⟨t + 1, by omega⟩ (by show 8 - (t + 1) < 8 - t; omega) ?_
        (conv => whnf); (repeat' (first | exact True.intro | exact rfl | refine And.intro ?_ ?_ | decide))
        all_goals (refine congrArg (Value.int _) ?_; dsimp only; rw [i64_in (by omega) (by omega)]; omega)
      all_goals
        refine RoundN.mk ⟨k + 1, by omega⟩ (by show 33 - (k + 1) < 33 - k; omega) ?_
        (conv => whnf); (repeat' (first | exact True.intro | exact rfl | refine And.intro ?_ ?_ | decide))
        all_goals (refine congrArg (Value.int _) ?_; dsimp only; rw [i64_in (by omega) (by omega)]; omega)
    · have hk33 : ¬ (k : Int) < 33 := of_decide_eq_false ‹decide ((k : Int) < 33) = false›
      refine RoundN.mk ⟨i + 1, by omega⟩ (by show 33 - (i + 1) < 33 - i; omega) ?_
      (conv => whnf); (repeat' (first | exact True.intro | exact rfl | refine And.intro ?_ ?_ | decide))
      all_goals (refine congrArg (Value.int _) ?_; dsimp only; rw [i64_in (by omega) (by omega)]; omega)
  · rfl
end Go.Proofs.YtcemohoigdninaaGreatDoor
