/- ArithKnown as a call. -/
import Derived.Test.YtljhbdgoknfkcaaGreatDoorJA
import Derived.Test.YtljhbdgoknfkcaaGreatDoorJ5
import Derived.Test.YtljhbdgoknfkcaaGreatDoorJ6
import Derived.Test.YtljhbdgoknfkcaaGreatDoorHV
namespace Go.Proofs.YtljhbdgoknfkcaaGreatDoor
open Go Go.RowKit Go.Sort
set_option linter.unusedVariables false
set_option linter.unusedSimpArgs false
set_option maxRecDepth 100000

/-- The first of the chapter's values. -/
def a22 (a b : Nat) : VV := ⟨(a : Int) - 3, IntKind.i64.wrap (IntKind.i64.wrap ((a : Int) - 3 + IntKind.i64.wrap (IntKind.u64.wrap ((b : Int) * b))) - 1), b, cmake b (IntKind.i64.wrap ((a : Int) - 3 + IntKind.i64.wrap (IntKind.u64.wrap ((b : Int).tdiv 2))))⟩
theorem a22_in {a b : Nat} (ha : a ≤ 7) (hb : b ≤ 5) : InV (a22 a b) := ⟨by show IS ((a : Int) - 3); exact ⟨by omega, by omega⟩, wrap_is _, by show IU (b : Int); exact ⟨by omega, by omega⟩, cmake_iu (by exact ⟨by omega, by omega⟩)⟩
def E11 : List Int := [-9223372036854775808, -9223372036854775807, -4294967296, -1, 0, 1, 3, 2147483648, 4611686018427387904, 9223372036854775806, 9223372036854775807]
theorem e11_is (i : Nat) : IS (E11.getD i 0) := by
  by_cases h : i < 11
  · have : ∀ j, j < 11 → IS (E11.getD j 0) := by decide
    exact this i h
  · have : E11.getD i 0 = 0 := by simp [List.getD, List.getElem?_eq_none (show E11.length ≤ i by show 11 ≤ i; omega)]
    rw [this]; exact ⟨by decide, by decide⟩
theorem rowU1 {l : List Int} {z : Int} {K : List Value → Prop} (n : Nat) (e : z = (n : Int)) (h : n < l.length) (k : K [.int .u64 (l.getD n 0)]) : RowN (UVs l) (z.toNat * 1) 1 K := by
  subst e
  refine .mk _ ?_ rfl k
  rw [Int.toNat_natCast, Nat.mul_one]
  unfold UVs
  have h3 : l.getD n 0 = l[n] := by simp [List.getD, h]
  rw [h3, ← List.map_drop, ← List.map_take, List.drop_eq_getElem_cons h]
  rfl
def M4 : List Int := [1, 2, 3, 1099511627776]
theorem m4_is (i : Nat) : IU (M4.getD i 0) := by
  by_cases h : i < 4
  · have : ∀ j, j < 4 → IU (M4.getD j 0) := by decide
    exact this i h
  · have : M4.getD i 0 = 0 := by simp [List.getD, List.getElem?_eq_none (show M4.length ≤ i by show 4 ≤ i; omega)]
    rw [this]; exact ⟨by decide, by decide⟩
/-- The second. -/
def w22 (i k : Nat) : VV := ⟨E11.getD i 0, E11.getD k 0, M4.getD ((i + k) % 4) 0, cmake (M4.getD ((i + k) % 4) 0) (E11.getD i 0)⟩
theorem w22_in (i k : Nat) : InV (w22 i k) := ⟨e11_is i, e11_is k, m4_is _, cmake_iu (m4_is _)⟩
theorem ik4 {i k : Nat} (hi : i < 11) (hk : k < 11) : (IntKind.i64.wrap ((i : Int) + (k : Int))).tmod 4 = (((i + k) % 4 : Nat) : Int) := by
  rw [sg_eq, sg_in _ (by omega) (by omega), Int.tmod_eq_emod_of_nonneg (by omega)]; omega
theorem capW {n i k : Nat} (h : n ≤ 11 * i + k) (hi : i < 11) (hk : k < 11) : 0 < 0 + 1 ∧ (n + 1) * 32 ≤ 140737488355328 ∧ n + 1 ≤ 140737488355328 := by omega
theorem lenW {W : List VV} {v : VV} {i k : Nat} (h : W.length ≤ 11 * i + k) : (W ++ [v]).length ≤ 11 * i + (k + 1) := by simp; omega
theorem lenW2 {n i k : Nat} (h : n ≤ 11 * i + k) (hk : k ≤ 11) : n ≤ 11 * (i + 1) := by omega
theorem k11 (k : Nat) : ((k : Nat) : Int).tmod 11 = ((k % 11 : Nat) : Int) := by rw [Int.tmod_eq_emod_of_nonneg (Int.natCast_nonneg _)]; rfl
set_option maxHeartbeats 8000000 in
theorem arithKnown_d : Den Tryz.prog 5 #[] tabF (.bool true) := by
  refine den_of_body (args := []) hmix Tryz.func5 ?_
  (repeat' ((conv => whnf); first | refine AdN.mk _ _ rfl ?_ | refine DrawN.a (Ob.mk (by decide +kernel) ?_) | refine DrawN.c (Ob.mk (by decide +kernel) ?_) | refine DrawN.b (Ob.mk (by decide +kernel) ?_) | refine Ob.mk (by kernel_rfl) ?_ | (refine Br.mk (fun h => ?_) (fun h => ?_) <;> (first | (exfalso; exact Bool.false_ne_true h) | (exfalso; exact Bool.false_ne_true h.symm) | skip)))); all_goals (conv => whnf)
  refine SeqN.nilRow 1 31 4 rfl ?_
  (conv => whnf); refine SeqN.go ?_
  (conv => whnf)
  refine LoopN.mk {x : Nat × List VV // x.1 ≤ 7 ∧ x.2.length = 5 * x.1 ∧ ∀ p ∈ x.2, InV p} (fun x => [(2, .v (.int .i64 ((x.1.1 : Int) - 3))), (1, .s 0)]) (fun x => [.row 31 4 x.1.2.length (VCs x.1.2)]) (fun x => 7 - x.1.1) ⟨(0, []), by simp⟩ ?_ ?_
  · (conv => whnf); (repeat' (first | exact True.intro | exact rfl | refine And.intro ?_ ?_ | decide))
  (conv => whnf)
  rintro ⟨⟨a, L⟩, hm, hL, hI⟩
  dsimp only at hm hL hI
  (repeat' ((conv => whnf); first | refine AdN.mk _ _ rfl ?_ | refine DrawN.a (Ob.mk (by decide +kernel) ?_) | refine DrawN.c (Ob.mk (by decide +kernel) ?_) | refine DrawN.b (Ob.mk (by decide +kernel) ?_) | refine Ob.mk (by kernel_rfl) ?_ | (refine Br.mk (fun h => ?_) (fun h => ?_) <;> (first | (exfalso; exact Bool.false_ne_true h) | (exfalso; exact Bool.false_ne_true h.symm) | skip)) | refine SeqN.go ?_)); all_goals (conv => whnf)
  · have ha7 : (a : Int) - 3 < 4 := of_decide_eq_true ‹_›
    refine LoopN.mk {x : Nat × List VV // x.1 ≤ 5 ∧ x.2.length = 5 * a + x.1 ∧ ∀ p ∈ x.2, InV p} (fun x => [(3, .v (.int .u64 (x.1.1 : Int))), (1, .s 0)]) (fun x => [.row 31 4 x.1.2.length (VCs x.1.2)]) (fun x => 5 - x.1.1) ⟨(0, L), ⟨Nat.zero_le _, by simp [hL], hI⟩⟩ ?_ ?_
    · (conv => whnf); (repeat' (first | exact True.intro | exact rfl | refine And.intro ?_ ?_ | decide))
    (conv => whnf)
    rintro ⟨⟨b, L⟩, hn, hL, hI⟩
    dsimp only at hn hL hI
    have CM := den_of (F := noFacts) fun W => make_c (b : Int) (IntKind.i64.wrap ((a : Int) - 3 + IntKind.i64.wrap (IntKind.u64.wrap ((b : Int).tdiv 2)))) W (by omega) (by omega) (wrap_is _).1 (wrap_is _).2
    have ci := a22_in hm hn
    (repeat' ((conv => whnf); first | refine CallN.any _ CM ?_ | refine Ob.mk (by decide) ?_ | refine Ob.mk ⟨by omega, (by show (L.length + 1) * 32 ≤ 140737488355328; omega), (by show L.length + 1 ≤ 140737488355328; omega)⟩ ?_ | refine AdN.mk _ _ rfl ?_ | refine DrawN.a (Ob.mk (by decide +kernel) ?_) | refine DrawN.c (Ob.mk (by decide +kernel) ?_) | refine DrawN.b (Ob.mk (by decide +kernel) ?_) | refine Ob.mk (by kernel_rfl) ?_ | (refine Br.mk (fun h => ?_) (fun h => ?_) <;> (first | (exfalso; exact Bool.false_ne_true h) | (exfalso; exact Bool.false_ne_true h.symm) | skip)) | refine SeqN.go ?_)); all_goals (conv => whnf)
    · have h' : (b : Int) < 5 := of_decide_eq_true ‹_›
      refine RoundN.mk ⟨(b + 1, L ++ [a22 a b]), ⟨by omega, by simp [hL]; omega, fun p hp => ?_⟩⟩ (by show 5 - (b + 1) < 5 - b; omega) ?_
      · rcases List.mem_append.1 hp with hp | hp
        · exact hI p hp
        · simp at hp; subst hp; exact ci
      (conv => whnf); (repeat' (first | exact True.intro | exact rfl | refine And.intro ?_ ?_ | decide))
      all_goals first | (refine congrArg (Value.int _) ?_; dsimp only; first | (rw [i64_in (by omega) (by omega)]; omega) | (rw [u64_in (by omega) (by omega)]; omega) | omega) | (dsimp only; simp; done) | (dsimp only; rw [VCs_app, VCs_one]; rfl) | trace_state
    · have h' : ¬ (b : Int) < 5 := of_decide_eq_false ‹_›
      have hn6 : b = 5 := by clear CM ci; omega
      subst hn6
      clear CM ci
      refine RoundN.mk ⟨(a + 1, L), ⟨by omega, by show L.length = 5 * (a + 1); omega, hI⟩⟩ (by show 7 - (a + 1) < 7 - a; omega) ?_
      (conv => whnf); (repeat' (first | exact True.intro | exact rfl | refine And.intro ?_ ?_ | decide))
      all_goals first | (refine congrArg (Value.int _) ?_; dsimp only; first | (rw [i64_in (by omega) (by omega)]; omega) | (rw [u64_in (by omega) (by omega)]; omega) | omega) | (dsimp only; simp; done) | trace_state
  have h' : ¬ (a : Int) - 3 < 4 := of_decide_eq_false ‹_›
  have hm7 : a = 7 := by omega
  subst hm7
  have IN : ∀ j, InV (L.getD j vbot) := fun j => getD_in hI j
  have hL35 : L.length = 35 := hL
  refine LoopN.mk {i : Nat // i ≤ 35} (fun i => [(4, .v (.int .i64 i.1)), (1, .s 0)]) (fun _ => [.row 31 4 35 (VCs L)]) (fun i => 35 - i.1) ⟨0, by decide⟩ ?_ ?_
  · (conv => whnf); (repeat' (first | exact True.intro | exact rfl | refine And.intro ?_ ?_ | decide))
    all_goals first | exact hL35 | trace_state
  (conv => whnf)
  rintro ⟨i, hi⟩
  (repeat' ((conv => whnf); first | refine AdN.mk _ _ rfl ?_ | refine DrawN.a (Ob.mk (by decide +kernel) ?_) | refine DrawN.c (Ob.mk (by decide +kernel) ?_) | refine DrawN.b (Ob.mk (by decide +kernel) ?_) | refine Ob.mk (by kernel_rfl) ?_ | (refine Br.mk (fun h => ?_) (fun h => ?_) <;> (first | (exfalso; exact Bool.false_ne_true h) | (exfalso; exact Bool.false_ne_true h.symm) | skip)))); all_goals (conv => whnf)
  refine SeqN.go ?_
  (repeat' ((conv => whnf); first | refine AdN.mk _ _ rfl ?_ | refine DrawN.a (Ob.mk (by decide +kernel) ?_) | refine DrawN.c (Ob.mk (by decide +kernel) ?_) | refine DrawN.b (Ob.mk (by decide +kernel) ?_) | refine Ob.mk (by kernel_rfl) ?_ | (refine Br.mk (fun h => ?_) (fun h => ?_) <;> (first | (exfalso; exact Bool.false_ne_true h) | (exfalso; exact Bool.false_ne_true h.symm) | skip)))); all_goals (conv => whnf)
  · have hi35 : (i : Int) < 35 := of_decide_eq_true ‹_›
    have ik : (i : Int) < (L.length : Int) := by rw [hL35]; exact hi35
    have oi : 0 ≤ (i : Int) ∧ (i : Int) < 35 := ⟨Int.natCast_nonneg _, hi35⟩
    refine SeqN.go ?_
    (repeat' ((conv => whnf); first | refine AdN.mk _ _ rfl ?_ | refine DrawN.a (Ob.mk (by decide +kernel) ?_) | refine DrawN.c (Ob.mk (by decide +kernel) ?_) | refine DrawN.b (Ob.mk (by decide +kernel) ?_) | refine Ob.mk (by kernel_rfl) ?_ | (refine Br.mk (fun h => ?_) (fun h => ?_) <;> (first | (exfalso; exact Bool.false_ne_true h) | (exfalso; exact Bool.false_ne_true h.symm) | skip)))); all_goals (conv => whnf)
    refine LoopN.mk {k : Nat // k ≤ 35} (fun k => [(5, .v (.int .i64 k.1)), (1, .s 0)]) (fun _ => [.row 31 4 35 (VCs L)]) (fun k => 35 - k.1) ⟨0, by decide⟩ ?_ ?_
    · (conv => whnf); (repeat' (first | exact True.intro | exact rfl | refine And.intro ?_ ?_ | decide))
    (conv => whnf)
    rintro ⟨k, hk⟩
    by_cases hkl : k < 35
    · have kk : (k : Int) < (L.length : Int) := by rw [hL35]; exact Int.ofNat_lt.2 hkl
      have ok : 0 ≤ (k : Int) ∧ (k : Int) < 35 := ⟨Int.natCast_nonneg _, Int.ofNat_lt.2 hkl⟩
      (repeat' ((conv => whnf); first | refine Ob.mk oi ?_ | refine Ob.mk ok ?_ | refine Ob.mk (by decide) ?_ | refine rowVV (i : Int) (Int.natCast_nonneg _) ik ?_ | refine rowVV (k : Int) (Int.natCast_nonneg _) kk ?_ | refine CallN.mk _ (arithDoes_d _ (L.getD i vbot) (L.getD k vbot) (IN i) (IN k)) ?_ | refine CallN.mk _ (arithSound_d (L.getD i vbot) (L.getD k vbot) _ _ (IN i) (IN k) (wrap_is _) (wrap_is _)) ?_ | refine CallN.mk _ (arithLaws_d (L.getD i vbot) (L.getD k vbot) _ (IN i) (IN k)) ?_ | refine AdN.mk _ _ rfl ?_ | refine DrawN.a (Ob.mk (by decide +kernel) ?_) | refine DrawN.c (Ob.mk (by decide +kernel) ?_) | refine DrawN.b (Ob.mk (by decide +kernel) ?_) | refine Ob.mk (by kernel_rfl) ?_ | (refine Br.mk (fun h => ?_) (fun h => ?_) <;> (first | (exfalso; exact Bool.false_ne_true h) | (exfalso; exact Bool.false_ne_true h.symm) | (exfalso; exact absurd (Int.ofNat_lt.2 hkl) (of_decide_eq_false ‹_›)) | skip)) | refine SeqN.go ?_)); all_goals (conv => whnf)
      all_goals
        refine RoundN.mk ⟨k + 1, hkl⟩ (Nat.sub_succ_lt_self _ _ hkl) ?_
        (conv => whnf); (repeat' (first | exact True.intro | exact rfl | refine And.intro ?_ ?_ | decide))
        all_goals exact congrArg (Value.int _) (wi hkl (by decide))
    · (repeat' ((conv => whnf); first | refine AdN.mk _ _ rfl ?_ | refine DrawN.a (Ob.mk (by decide +kernel) ?_) | refine DrawN.c (Ob.mk (by decide +kernel) ?_) | refine DrawN.b (Ob.mk (by decide +kernel) ?_) | refine Ob.mk (by kernel_rfl) ?_ | (refine Br.mk (fun h => ?_) (fun h => ?_) <;> (first | (exfalso; exact Bool.false_ne_true h) | (exfalso; exact Bool.false_ne_true h.symm) | (exfalso; exact absurd (Int.ofNat_lt.1 (of_decide_eq_true ‹_›)) hkl) | skip)) | refine SeqN.go ?_)); all_goals (conv => whnf)
      have hil := Int.ofNat_lt.1 hi35
      refine RoundN.mk ⟨i + 1, hil⟩ (Nat.sub_succ_lt_self _ _ hil) ?_
      (conv => whnf); (repeat' (first | exact True.intro | exact rfl | refine And.intro ?_ ?_ | decide))
      all_goals exact congrArg (Value.int _) (wi hil (by decide))
  · refine SeqN.nilRow 7 31 4 rfl ?_
    (conv => whnf); refine SeqN.go ?_
    (repeat' ((conv => whnf); first | refine AdN.mk _ _ rfl ?_ | refine DrawN.a (Ob.mk (by decide +kernel) ?_) | refine DrawN.c (Ob.mk (by decide +kernel) ?_) | refine DrawN.b (Ob.mk (by decide +kernel) ?_) | refine Ob.mk (by kernel_rfl) ?_ | (refine Br.mk (fun h => ?_) (fun h => ?_) <;> (first | (exfalso; exact Bool.false_ne_true h) | (exfalso; exact Bool.false_ne_true h.symm) | skip)))); all_goals (conv => whnf)
    clear IN
    refine LoopN.mk {x : Nat × List VV // x.1 ≤ 11 ∧ x.2.length ≤ 11 * x.1 ∧ ∀ p ∈ x.2, InV p} (fun x => [(8, .v (.int .i64 x.1.1)), (7, .s 2)]) (fun x => [.dead, .row 2 1 11 (NVs E11), .row 31 4 x.1.2.length (VCs x.1.2)]) (fun x => 11 - x.1.1) ⟨(0, []), by simp⟩ ?_ ?_
    · (conv => whnf); (repeat' (first | exact True.intro | exact rfl | refine And.intro ?_ ?_ | decide))
    (conv => whnf)
    rintro ⟨⟨i, W⟩, hi, hW, hWI⟩
    dsimp only at hi hW hWI
    (repeat' ((conv => whnf); first | refine SeqN.go ?_ | refine AdN.mk _ _ rfl ?_ | refine DrawN.a (Ob.mk (by decide +kernel) ?_) | refine DrawN.c (Ob.mk (by decide +kernel) ?_) | refine DrawN.b (Ob.mk (by decide +kernel) ?_) | refine Ob.mk (by kernel_rfl) ?_ | (refine Br.mk (fun h => ?_) (fun h => ?_) <;> (first | (exfalso; exact Bool.false_ne_true h) | (exfalso; exact Bool.false_ne_true h.symm) | skip)))); all_goals (conv => whnf)
    · have hi11 : i < 11 := Int.ofNat_lt.1 (of_decide_eq_true ‹decide ((i : Int) < ((11 : Nat) : Int)) = true›)
      have oi : 0 ≤ (i : Int) ∧ (i : Int) < ((11 : Nat) : Int) := ⟨Int.natCast_nonneg _, Int.ofNat_lt.2 hi11⟩
      refine LoopN.mk {x : Nat × List VV // (i ≤ x.1 ∧ x.1 ≤ 11) ∧ x.2.length ≤ 11 * i + x.1 ∧ ∀ p ∈ x.2, InV p} (fun x => [(9, .v (.int .i64 x.1.1)), (7, .s 2)]) (fun x => [.dead, .row 2 1 11 (NVs E11), .row 31 4 x.1.2.length (VCs x.1.2)]) (fun x => 11 - x.1.1) ⟨(i, W), ⟨Nat.le_refl _, hi⟩, Nat.le_trans hW (Nat.le_add_right _ _), hWI⟩ ?_ ?_
      · (conv => whnf); (repeat' (first | exact True.intro | exact rfl | refine And.intro ?_ ?_ | decide))
      (conv => whnf)
      rintro ⟨⟨k, W⟩, hk, hW, hWI⟩
      dsimp only at hk hW hWI
      by_cases hkl : k < 11
      · have ok : 0 ≤ (k : Int) ∧ (k : Int) < ((11 : Nat) : Int) := ⟨Int.natCast_nonneg _, Int.ofNat_lt.2 hkl⟩
        have em := ik4 hi11 hkl
        have im := idx em (Nat.mod_lt (i + k) (show 0 < 4 by decide))
        have CM := den_of (F := noFacts) fun Wd => make_c (M4.getD ((i + k) % 4) 0) (E11.getD i 0) Wd (m4_is _).1 (m4_is _).2 (e11_is i).1 (e11_is i).2
        have hcap := capW hW hi11 hkl
        (repeat' ((conv => whnf); first | refine CallN.any _ CM ?_ | refine Ob.mk oi ?_ | refine Ob.mk ok ?_ | refine Ob.mk im ?_ | refine Ob.mk (by decide) ?_ | refine rowI1 i rfl hi11 ?_ | refine rowI1 k rfl hkl ?_ | refine rowU1 (l := M4) ((i + k) % 4) em (Nat.mod_lt _ (by decide)) ?_ | refine Ob.mk hcap ?_ | refine AdN.mk _ _ rfl ?_ | refine DrawN.a (Ob.mk (by decide +kernel) ?_) | refine DrawN.c (Ob.mk (by decide +kernel) ?_) | refine DrawN.b (Ob.mk (by decide +kernel) ?_) | refine Ob.mk (by kernel_rfl) ?_ | (refine Br.mk (fun h => ?_) (fun h => ?_) <;> (first | (exfalso; exact Bool.false_ne_true h) | (exfalso; exact Bool.false_ne_true h.symm) | (exfalso; exact absurd (Int.ofNat_lt.2 hkl) (of_decide_eq_false ‹_›)) | skip)) | refine SeqN.go ?_)); all_goals (conv => whnf)
        refine RoundN.mk ⟨(k + 1, W ++ [w22 i k]), ⟨Nat.le_succ_of_le hk.1, hkl⟩, lenW hW, fun p hp => ?_⟩ (Nat.sub_succ_lt_self _ _ hkl) ?_
        · rcases List.mem_append.1 hp with hp | hp
          · exact hWI p hp
          · simp at hp; subst hp; exact w22_in i k
        (conv => whnf); (repeat' (first | exact True.intro | exact rfl | refine And.intro ?_ ?_ | decide))
        all_goals first | exact congrArg (Value.int _) (wi hkl (by decide)) | (dsimp only; simp; done) | (dsimp only; rw [VCs_app, VCs_one]; rfl) | trace_state
      · (repeat' ((conv => whnf); first | refine AdN.mk _ _ rfl ?_ | refine DrawN.a (Ob.mk (by decide +kernel) ?_) | refine DrawN.c (Ob.mk (by decide +kernel) ?_) | refine DrawN.b (Ob.mk (by decide +kernel) ?_) | refine Ob.mk (by kernel_rfl) ?_ | (refine Br.mk (fun h => ?_) (fun h => ?_) <;> (first | (exfalso; exact Bool.false_ne_true h) | (exfalso; exact Bool.false_ne_true h.symm) | (exfalso; exact absurd (Int.ofNat_lt.1 (of_decide_eq_true ‹_›)) hkl) | skip)) | refine SeqN.go ?_)); all_goals (conv => whnf)
        refine RoundN.mk ⟨(i + 1, W), hi11, lenW2 hW hk.2, hWI⟩ (Nat.sub_succ_lt_self _ _ hi11) ?_
        (conv => whnf); (repeat' (first | exact True.intro | exact rfl | refine And.intro ?_ ?_ | decide))
        all_goals exact congrArg (Value.int _) (wi hi11 (by decide))
    · have IW' : ∀ j, InV (W.getD j vbot) := fun j => getD_in hWI j
      have hWc : W.length ≤ 121 := Nat.le_trans hW (Nat.mul_le_mul_left 11 hi)
      refine LoopN.mk {i : Nat // i ≤ W.length} (fun i => [(10, .v (.int .i64 i.1)), (7, .s 2)]) (fun _ => [.dead, .row 2 1 11 (NVs E11), .row 31 4 W.length (VCs W)]) (fun i => W.length - i.1) ⟨0, Nat.zero_le _⟩ ?_ ?_
      · (conv => whnf); (repeat' (first | exact True.intro | exact rfl | refine And.intro ?_ ?_ | decide))
      (conv => whnf)
      rintro ⟨i, hi⟩
      (repeat' ((conv => whnf); first | refine CallN.any _ vTop_d ?_ | refine CallN.any _ vBottom_d ?_ | refine CallN.mk _ works22_d ?_ | refine SeqN.go ?_ | refine CallN.mk _ (arithDoes_d (-1) vtop vtop vtop_in vtop_in) ?_ | refine CallN.mk _ (arithDoes_d 16 vbot vtop vbot_in vtop_in) ?_ | refine AdN.mk _ _ rfl ?_ | refine DrawN.a (Ob.mk (by decide +kernel) ?_) | refine DrawN.c (Ob.mk (by decide +kernel) ?_) | refine DrawN.b (Ob.mk (by decide +kernel) ?_) | refine Ob.mk (by kernel_rfl) ?_ | (refine Br.mk (fun h => ?_) (fun h => ?_) <;> (first | (exfalso; exact Bool.false_ne_true h) | (exfalso; exact Bool.false_ne_true h.symm) | skip)))); all_goals (conv => whnf)
      · have hil : i < W.length := Int.ofNat_lt.1 (of_decide_eq_true ‹decide ((i : Int) < (W.length : Int)) = true›)
        have oi : 0 ≤ (i : Int) ∧ (i : Int) < (W.length : Int) := ⟨Int.natCast_nonneg _, Int.ofNat_lt.2 hil⟩
        have ei := k11 i
        have mi := idx ei (Nat.mod_lt i (show 0 < 11 by decide))
        refine LoopN.mk {k : Nat // k ≤ W.length} (fun k => [(11, .v (.int .i64 k.1)), (7, .s 2)]) (fun _ => [.dead, .row 2 1 11 (NVs E11), .row 31 4 W.length (VCs W)]) (fun k => W.length - k.1) ⟨0, Nat.zero_le _⟩ ?_ ?_
        · (conv => whnf); (repeat' (first | exact True.intro | exact rfl | refine And.intro ?_ ?_ | decide))
        (conv => whnf)
        rintro ⟨k, hk⟩
        by_cases hkl : k < W.length
        · have ok : 0 ≤ (k : Int) ∧ (k : Int) < (W.length : Int) := ⟨Int.natCast_nonneg _, Int.ofNat_lt.2 hkl⟩
          have ek := k11 k
          have mk := idx ek (Nat.mod_lt k (show 0 < 11 by decide))
          (repeat' ((conv => whnf); first | refine Ob.mk oi ?_ | refine Ob.mk ok ?_ | refine Ob.mk mi ?_ | refine Ob.mk mk ?_ | refine Ob.mk (by decide) ?_ | refine rowVV (i : Int) (Int.natCast_nonneg _) oi.2 ?_ | refine rowVV (k : Int) (Int.natCast_nonneg _) ok.2 ?_ | refine rowI1 (i % 11) ei (Nat.mod_lt _ (by decide)) ?_ | refine rowI1 (k % 11) ek (Nat.mod_lt _ (by decide)) ?_ | refine CallN.mk _ (arithDoes_d _ (W.getD i vbot) (W.getD k vbot) (IW' i) (IW' k)) ?_ | refine CallN.mk _ (arithSound_d (W.getD i vbot) (W.getD k vbot) (E11.getD (k % 11) 0) (E11.getD (i % 11) 0) (IW' i) (IW' k) (e11_is _) (e11_is _)) ?_ | refine CallN.mk _ (arithLaws_d (W.getD i vbot) (W.getD k vbot) _ (IW' i) (IW' k)) ?_ | refine AdN.mk _ _ rfl ?_ | refine DrawN.a (Ob.mk (by decide +kernel) ?_) | refine DrawN.c (Ob.mk (by decide +kernel) ?_) | refine DrawN.b (Ob.mk (by decide +kernel) ?_) | refine Ob.mk (by kernel_rfl) ?_ | (refine Br.mk (fun h => ?_) (fun h => ?_) <;> (first | (exfalso; exact Bool.false_ne_true h) | (exfalso; exact Bool.false_ne_true h.symm) | (exfalso; exact absurd (Int.ofNat_lt.2 hkl) (of_decide_eq_false ‹_›)) | skip)) | refine SeqN.go ?_)); all_goals (conv => whnf)
          all_goals
            refine RoundN.mk ⟨k + 1, hkl⟩ (Nat.sub_succ_lt_self _ _ hkl) ?_
            (conv => whnf); (repeat' (first | exact True.intro | exact rfl | refine And.intro ?_ ?_ | decide))
            all_goals exact congrArg (Value.int _) (wi hkl (Nat.le_trans hWc (by decide)))
        · (repeat' ((conv => whnf); first | refine AdN.mk _ _ rfl ?_ | refine DrawN.a (Ob.mk (by decide +kernel) ?_) | refine DrawN.c (Ob.mk (by decide +kernel) ?_) | refine DrawN.b (Ob.mk (by decide +kernel) ?_) | refine Ob.mk (by kernel_rfl) ?_ | (refine Br.mk (fun h => ?_) (fun h => ?_) <;> (first | (exfalso; exact Bool.false_ne_true h) | (exfalso; exact Bool.false_ne_true h.symm) | (exfalso; exact absurd (Int.ofNat_lt.1 (of_decide_eq_true ‹_›)) hkl) | skip)) | refine SeqN.go ?_)); all_goals (conv => whnf)
          refine RoundN.mk ⟨i + 1, hil⟩ (Nat.sub_succ_lt_self _ _ hil) ?_
          (conv => whnf); (repeat' (first | exact True.intro | exact rfl | refine And.intro ?_ ?_ | decide))
          all_goals exact congrArg (Value.int _) (wi hil (Nat.le_trans hWc (by decide)))
      · rfl
end Go.Proofs.YtljhbdgoknfkcaaGreatDoor
