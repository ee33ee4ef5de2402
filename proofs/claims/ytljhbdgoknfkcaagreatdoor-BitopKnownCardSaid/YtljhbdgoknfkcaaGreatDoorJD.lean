/- BitopKnown as a call. -/
import Derived.Test.YtljhbdgoknfkcaaGreatDoorCE
import Derived.Test.YtljhbdgoknfkcaaGreatDoorBV
import Derived.Test.YtljhbdgoknfkcaaGreatDoorJ0
import Derived.Test.YtljhbdgoknfkcaaGreatDoorG4
import Derived.Test.YtljhbdgoknfkcaaGreatDoorHV
namespace Go.Proofs.YtljhbdgoknfkcaaGreatDoor
open Go Go.RowKit Go.Sort
set_option linter.unusedVariables false
set_option linter.unusedSimpArgs false
set_option maxRecDepth 100000

theorem uwiu (n : Int) : IU (IntKind.u64.wrap n) := by rw [us_eq]; exact us_rng n
/-- The chapter's values. -/
def T16 : List VV := [vbot, vtop, vone 0, vone (-1), vone (-9223372036854775808), ⟨0, 9223372036854775807, 1, 0⟩, ⟨-9223372036854775808, -1, 1, 0⟩, ⟨-100, 100, 1, 0⟩, ⟨1, 200, 1, 0⟩, ⟨-300, -2, 1, 0⟩, ⟨-64, 640, 64, 0⟩, ⟨1, 997, 6, 1⟩, ⟨-9223372036854775808, -9223372036854775788, 1, 0⟩, ⟨9223372036854775787, 9223372036854775807, 1, 0⟩, ⟨0, 70, 1, 0⟩, vmake ⟨-9223372036854775808, 9223372036854775807, 1099511627776, cmake 1099511627776 7⟩]
theorem i16 : InV ⟨-9223372036854775808, 9223372036854775807, 1099511627776, cmake 1099511627776 7⟩ := ⟨⟨by decide, by decide⟩, ⟨by decide, by decide⟩, ⟨by decide, by decide⟩, cmake_iu (m := 1099511627776) (n := 7) ⟨by decide, by decide⟩⟩
theorem T16_in : ∀ p ∈ T16, InV p := by
  intro p hp
  simp only [T16, List.mem_cons, List.not_mem_nil, or_false] at hp
  rcases hp with rfl | rfl | rfl | rfl | rfl | rfl | rfl | rfl | rfl | rfl | rfl | rfl | rfl | rfl | rfl | rfl
  · exact vbot_in
  · exact vtop_in
  · exact vone_in ⟨by decide, by decide⟩
  · exact vone_in ⟨by decide, by decide⟩
  · exact vone_in ⟨by decide, by decide⟩
  · exact ⟨⟨by decide, by decide⟩, ⟨by decide, by decide⟩, ⟨by decide, by decide⟩, ⟨by decide, by decide⟩⟩
  · exact ⟨⟨by decide, by decide⟩, ⟨by decide, by decide⟩, ⟨by decide, by decide⟩, ⟨by decide, by decide⟩⟩
  · exact ⟨⟨by decide, by decide⟩, ⟨by decide, by decide⟩, ⟨by decide, by decide⟩, ⟨by decide, by decide⟩⟩
  · exact ⟨⟨by decide, by decide⟩, ⟨by decide, by decide⟩, ⟨by decide, by decide⟩, ⟨by decide, by decide⟩⟩
  · exact ⟨⟨by decide, by decide⟩, ⟨by decide, by decide⟩, ⟨by decide, by decide⟩, ⟨by decide, by decide⟩⟩
  · exact ⟨⟨by decide, by decide⟩, ⟨by decide, by decide⟩, ⟨by decide, by decide⟩, ⟨by decide, by decide⟩⟩
  · exact ⟨⟨by decide, by decide⟩, ⟨by decide, by decide⟩, ⟨by decide, by decide⟩, ⟨by decide, by decide⟩⟩
  · exact ⟨⟨by decide, by decide⟩, ⟨by decide, by decide⟩, ⟨by decide, by decide⟩, ⟨by decide, by decide⟩⟩
  · exact ⟨⟨by decide, by decide⟩, ⟨by decide, by decide⟩, ⟨by decide, by decide⟩, ⟨by decide, by decide⟩⟩
  · exact ⟨⟨by decide, by decide⟩, ⟨by decide, by decide⟩, ⟨by decide, by decide⟩, ⟨by decide, by decide⟩⟩
  · exact vmake_in i16
def aK (i k : Nat) : VV := vmake ⟨(iof (IntKind.i64.wrap ((i : Int) - 12)) (IntKind.i64.wrap (IntKind.i64.wrap ((i : Int) - 12) + (k : Int).tmod 11))).1, (iof (IntKind.i64.wrap ((i : Int) - 12)) (IntKind.i64.wrap (IntKind.i64.wrap ((i : Int) - 12) + (k : Int).tmod 11))).2, 1, 0⟩
theorem aK_in (i k : Nat) : InV (aK i k) := by
  have h := iof_in (wrap_is ((i : Int) - 12)) (wrap_is (IntKind.i64.wrap ((i : Int) - 12) + (k : Int).tmod 11))
  exact vmake_in ⟨h.1, h.2, ⟨by dsimp only; decide, by dsimp only; decide⟩, ⟨by dsimp only; decide, by dsimp only; decide⟩⟩
def bK0 (i k : Nat) : VV := ⟨(iof (IntKind.i64.wrap ((k : Int) - 12)) (IntKind.i64.wrap ((k : Int) + (i : Int)))).1, (iof (IntKind.i64.wrap ((k : Int) - 12)) (IntKind.i64.wrap ((k : Int) + (i : Int)))).2, IntKind.u64.wrap (IntKind.i64.wrap (1 + (i : Int).tmod 3)), cmake (IntKind.u64.wrap (IntKind.i64.wrap (1 + (i : Int).tmod 3))) (k : Int)⟩
theorem bK0_in (i k : Nat) : InV (bK0 i k) := by
  have h := iof_in (wrap_is ((k : Int) - 12)) (wrap_is ((k : Int) + (i : Int)))
  exact ⟨h.1, h.2, uwiu _, cmake_iu (uwiu _)⟩
set_option maxHeartbeats 16000000 in
theorem bitopKnown_d : Den Tryz.prog 9 #[] tabF (.bool true) := by
  refine den_of_body (args := []) hmix Tryz.func9 ?_
  have R6 := vRange_e (lo := 0) (hi := 9223372036854775807) (y := ⟨0, 9223372036854775807, 1, 0⟩) (by decide) (by decide) (by decide +kernel)
  have R7 := vRange_e (lo := -9223372036854775808) (hi := -1) (y := ⟨-9223372036854775808, -1, 1, 0⟩) (by decide) (by decide) (by decide +kernel)
  have R8 := vRange_e (lo := -100) (hi := 100) (y := ⟨-100, 100, 1, 0⟩) (by decide) (by decide) (by decide +kernel)
  have R9 := vRange_e (lo := 1) (hi := 200) (y := ⟨1, 200, 1, 0⟩) (by decide) (by decide) (by decide +kernel)
  have R10 := vRange_e (lo := -300) (hi := -2) (y := ⟨-300, -2, 1, 0⟩) (by decide) (by decide) (by decide +kernel)
  have C11 := den_of (F := noFacts) fun W => make_c 64 0 W (by decide) (by decide) (by decide) (by decide)
  have M11 := vMake_e (x := ⟨(iof (-64) 640).1, (iof (-64) 640).2, 64, cmake 64 0⟩) (y := ⟨-64, 640, 64, 0⟩) ⟨by decide, by decide, by decide, by decide⟩ (by decide +kernel)
  have C12 := den_of (F := noFacts) fun W => make_c 6 1 W (by decide) (by decide) (by decide) (by decide)
  have M12 := vMake_e (x := ⟨(iof 0 1000).1, (iof 0 1000).2, 6, cmake 6 1⟩) (y := ⟨1, 997, 6, 1⟩) ⟨by decide, by decide, by decide, by decide⟩ (by decide +kernel)
  have R13 : Den Tryz.prog 16 #[.int .i64 (-9223372036854775808), .int .i64 (IntKind.i64.wrap (-9223372036854775808 + 20))] noFacts (VVal ⟨-9223372036854775808, -9223372036854775788, 1, 0⟩) := by
    rw [show IntKind.i64.wrap (-9223372036854775808 + 20) = -9223372036854775788 by decide +kernel]
    exact vRange_e (by decide) (by decide) (by decide +kernel)
  have R14 : Den Tryz.prog 16 #[.int .i64 (IntKind.i64.wrap (9223372036854775807 - 20)), .int .i64 9223372036854775807] noFacts (VVal ⟨9223372036854775787, 9223372036854775807, 1, 0⟩) := by
    rw [show IntKind.i64.wrap (9223372036854775807 - 20) = 9223372036854775787 by decide +kernel]
    exact vRange_e (by decide) (by decide) (by decide +kernel)
  have R15 := vRange_e (lo := 0) (hi := 70) (y := ⟨0, 70, 1, 0⟩) (by decide) (by decide) (by decide +kernel)
  have C16 := den_of (F := noFacts) fun W => make_c 1099511627776 7 W (by decide) (by decide) (by decide) (by decide)
  have M16 := vMake_d _ i16
  obtain ⟨T, hT⟩ : ∃ T, T = T16 := ⟨_, rfl⟩
  have IN : ∀ j, InV (T.getD j vbot) := fun j => getD_in (by rw [hT]; exact T16_in) j
  have len : T.length = 16 := by rw [hT]; rfl
  (repeat' ((conv => whnf); first | refine CallN.any _ vBottom_d ?_ | refine CallN.any _ vTop_d ?_ | refine CallN.any _ (vOne_d _) ?_ | refine CallN.any _ R6 ?_ | refine CallN.any _ R7 ?_ | refine CallN.any _ R8 ?_ | refine CallN.any _ R9 ?_ | refine CallN.any _ R10 ?_ | refine CallN.any _ (iOf_d _ _) ?_ | refine CallN.any _ C11 ?_ | refine CallN.any _ M11 ?_ | refine CallN.any _ C12 ?_ | refine CallN.any _ M12 ?_ | refine CallN.any _ R13 ?_ | refine CallN.any _ R14 ?_ | refine CallN.any _ R15 ?_ | refine CallN.any _ iWhole_d ?_ | refine CallN.any _ C16 ?_ | refine CallN.any _ M16 ?_ | refine Ob.mk (by decide) ?_ | refine Ob.mk ⟨by decide, by decide, by decide⟩ ?_ | refine AdN.mk _ _ rfl ?_ | refine DrawN.a (Ob.mk (by decide +kernel) ?_) | refine DrawN.c (Ob.mk (by decide +kernel) ?_) | refine DrawN.b (Ob.mk (by decide +kernel) ?_) | refine Ob.mk (by kernel_rfl) ?_ | (refine Br.mk (fun h => ?_) (fun h => ?_) <;> (first | (exfalso; exact Bool.false_ne_true h) | (exfalso; exact Bool.false_ne_true h.symm) | skip)))); all_goals (conv => whnf)
  refine SeqN.go ?_
  (repeat' ((conv => whnf); first | refine AdN.mk _ _ rfl ?_ | refine DrawN.a (Ob.mk (by decide +kernel) ?_) | refine DrawN.c (Ob.mk (by decide +kernel) ?_) | refine DrawN.b (Ob.mk (by decide +kernel) ?_) | refine Ob.mk (by kernel_rfl) ?_ | (refine Br.mk (fun h => ?_) (fun h => ?_) <;> (first | (exfalso; exact Bool.false_ne_true h) | (exfalso; exact Bool.false_ne_true h.symm) | skip)))); all_goals (conv => whnf)
  refine LoopN.mk {i : Nat // i ≤ 16} (fun i => [(4, .v (.int .i64 i.1))]) (fun _ => [.row 31 4 16 (VCs T)]) (fun i => 16 - i.1) ⟨0, Nat.zero_le _⟩ ?_ ?_
  · (conv => whnf); (repeat' (first | exact True.intro | exact rfl | refine And.intro ?_ ?_ | decide))
    all_goals first | (rw [hT]; rfl) | trace_state
  clear hT R6 R7 R8 R9 R10 C11 M11 C12 M12 R13 R14 R15 C16 M16
  (conv => whnf)
  rintro ⟨i, hi⟩
  dsimp only at hi ⊢
  by_cases hil : i < 16
  · have oi : 0 ≤ (i : Int) ∧ (i : Int) < 16 := ⟨Int.natCast_nonneg _, Int.ofNat_lt.2 hil⟩
    have ii : (i : Int) < (T.length : Int) := by rw [len]; exact oi.2
    (repeat' ((conv => whnf); first | refine SeqN.go ?_ | refine AdN.mk _ _ rfl ?_ | refine DrawN.a (Ob.mk (by decide +kernel) ?_) | refine DrawN.c (Ob.mk (by decide +kernel) ?_) | refine DrawN.b (Ob.mk (by decide +kernel) ?_) | refine Ob.mk (by kernel_rfl) ?_ | (refine Br.mk (fun h => ?_) (fun h => ?_) <;> (first | (exfalso; exact Bool.false_ne_true h) | (exfalso; exact Bool.false_ne_true h.symm) | (exfalso; exact absurd oi.2 (of_decide_eq_false ‹_›)) | skip)))); all_goals (conv => whnf)
    refine LoopN.mk {k : Nat // k ≤ 16} (fun k => [(5, .v (.int .i64 k.1))]) (fun _ => [.row 31 4 16 (VCs T)]) (fun k => 16 - k.1) ⟨0, Nat.zero_le _⟩ ?_ ?_
    · (conv => whnf); (repeat' (first | exact True.intro | exact rfl | refine And.intro ?_ ?_ | decide))
    (conv => whnf)
    rintro ⟨k, hk⟩
    dsimp only at hk ⊢
    by_cases hkl : k < 16
    · have ok : 0 ≤ (k : Int) ∧ (k : Int) < 16 := ⟨Int.natCast_nonneg _, Int.ofNat_lt.2 hkl⟩
      have kk : (k : Int) < (T.length : Int) := by rw [len]; exact ok.2
      (repeat' ((conv => whnf); first | refine SeqN.go ?_ | refine AdN.mk _ _ rfl ?_ | refine DrawN.a (Ob.mk (by decide +kernel) ?_) | refine DrawN.c (Ob.mk (by decide +kernel) ?_) | refine DrawN.b (Ob.mk (by decide +kernel) ?_) | refine Ob.mk (by kernel_rfl) ?_ | (refine Br.mk (fun h => ?_) (fun h => ?_) <;> (first | (exfalso; exact Bool.false_ne_true h) | (exfalso; exact Bool.false_ne_true h.symm) | (exfalso; exact absurd ok.2 (of_decide_eq_false ‹_›)) | skip)))); all_goals (conv => whnf)
      refine LoopN.mk {z : Int // 7 ≤ z ∧ z ≤ 21} (fun z => [(6, .v (.int .i64 z.1))]) (fun _ => [.row 31 4 16 (VCs T)]) (fun z => (21 - z.1).toNat) ⟨7, by decide, by decide⟩ ?_ ?_
      · (conv => whnf); (repeat' (first | exact True.intro | exact rfl | refine And.intro ?_ ?_ | decide))
      (conv => whnf)
      rintro ⟨z, hz1, hz2⟩
      dsimp only at hz1 hz2 ⊢
      by_cases ot : z < 21
      · have BD := bitopDoes_d z (T.getD i vbot) (T.getD k vbot) (IN i) (IN k)
        have BS := fun p q hp hq => bitopSound_d z (T.getD i vbot) (T.getD k vbot) p q (IN i) (IN k) hp hq
        have BS1 := BS (IntKind.u64.wrap (IntKind.i64.wrap ((i : Int) * (k : Int)))) (IntKind.u64.wrap (IntKind.u64.wrap z * 2 ^ min (Int.toNat 59) IntKind.u64.bits)) (uwiu _) (uwiu _)
        have BS2 := BS 18446744073709551615 0 ⟨by decide, by decide⟩ ⟨by decide, by decide⟩
        (repeat' ((conv => whnf); first | refine Ob.mk oi ?_ | refine Ob.mk ok ?_ | refine Ob.mk (by decide) ?_ | refine rowVV (i : Int) (Int.natCast_nonneg _) ii ?_ | refine rowVV (k : Int) (Int.natCast_nonneg _) kk ?_ | refine CallN.mk _ BD ?_ | refine AdN.mk _ _ rfl ?_ | refine DrawN.a (Ob.mk (by decide +kernel) ?_) | refine DrawN.c (Ob.mk (by decide +kernel) ?_) | refine DrawN.b (Ob.mk (by decide +kernel) ?_) | refine Ob.mk (by kernel_rfl) ?_ | (refine Br.mk (fun h => ?_) (fun h => ?_) <;> (first | (exfalso; exact Bool.false_ne_true h) | (exfalso; exact Bool.false_ne_true h.symm) | (exfalso; exact absurd ot (of_decide_eq_false ‹_›)) | skip)) | refine SeqN.go ?_)); all_goals (conv => whnf)
        refine CallN.mk _ BS1 ?_
        (repeat' ((conv => whnf); first | refine Ob.mk oi ?_ | refine Ob.mk ok ?_ | refine Ob.mk (by decide) ?_ | refine rowVV (i : Int) (Int.natCast_nonneg _) ii ?_ | refine rowVV (k : Int) (Int.natCast_nonneg _) kk ?_ | refine AdN.mk _ _ rfl ?_ | refine DrawN.a (Ob.mk (by decide +kernel) ?_) | refine DrawN.c (Ob.mk (by decide +kernel) ?_) | refine DrawN.b (Ob.mk (by decide +kernel) ?_) | refine Ob.mk (by kernel_rfl) ?_ | (refine Br.mk (fun h => ?_) (fun h => ?_) <;> (first | (exfalso; exact Bool.false_ne_true h) | (exfalso; exact Bool.false_ne_true h.symm) | skip)) | refine SeqN.go ?_)); all_goals (conv => whnf)
        refine CallN.mk _ BS2 ?_
        (repeat' ((conv => whnf); first | refine AdN.mk _ _ rfl ?_ | refine DrawN.a (Ob.mk (by decide +kernel) ?_) | refine DrawN.c (Ob.mk (by decide +kernel) ?_) | refine DrawN.b (Ob.mk (by decide +kernel) ?_) | refine Ob.mk (by kernel_rfl) ?_ | (refine Br.mk (fun h => ?_) (fun h => ?_) <;> (first | (exfalso; exact Bool.false_ne_true h) | (exfalso; exact Bool.false_ne_true h.symm) | skip)) | refine SeqN.go ?_)); all_goals (conv => whnf)
        refine RoundN.mk ⟨z + 1, by omega, by omega⟩ (by show (21 - (z + 1)).toNat < (21 - z).toNat; omega) ?_
        (conv => whnf); (repeat' (first | exact True.intro | exact rfl | refine And.intro ?_ ?_ | decide))
        all_goals (show Value.int .i64 (IntKind.i64.wrap (z + 1)) = Value.int .i64 (z + 1); rw [sg_eq, sg_in _ (by omega) (by omega)])
      · (repeat' ((conv => whnf); first | refine AdN.mk _ _ rfl ?_ | refine DrawN.a (Ob.mk (by decide +kernel) ?_) | refine DrawN.c (Ob.mk (by decide +kernel) ?_) | refine DrawN.b (Ob.mk (by decide +kernel) ?_) | refine Ob.mk (by kernel_rfl) ?_ | (refine Br.mk (fun h => ?_) (fun h => ?_) <;> (first | (exfalso; exact Bool.false_ne_true h) | (exfalso; exact Bool.false_ne_true h.symm) | (exfalso; exact absurd (of_decide_eq_true ‹decide (z < 21) = true›) ot) | skip)) | refine SeqN.go ?_)); all_goals (conv => whnf)
        refine RoundN.mk ⟨k + 1, hkl⟩ (Nat.sub_succ_lt_self _ _ hkl) ?_
        (conv => whnf); (repeat' (first | exact True.intro | exact rfl | refine And.intro ?_ ?_ | decide))
        all_goals exact congrArg (Value.int _) (wi8 hkl (by decide))
    · (repeat' ((conv => whnf); first | refine AdN.mk _ _ rfl ?_ | refine DrawN.a (Ob.mk (by decide +kernel) ?_) | refine DrawN.c (Ob.mk (by decide +kernel) ?_) | refine DrawN.b (Ob.mk (by decide +kernel) ?_) | refine Ob.mk (by kernel_rfl) ?_ | (refine Br.mk (fun h => ?_) (fun h => ?_) <;> (first | (exfalso; exact Bool.false_ne_true h) | (exfalso; exact Bool.false_ne_true h.symm) | (exfalso; exact absurd (Int.ofNat_lt.1 (of_decide_eq_true ‹_›)) hkl) | skip)) | refine SeqN.go ?_)); all_goals (conv => whnf)
      refine RoundN.mk ⟨i + 1, hil⟩ (Nat.sub_succ_lt_self _ _ hil) ?_
      (conv => whnf); (repeat' (first | exact True.intro | exact rfl | refine And.intro ?_ ?_ | decide))
      all_goals exact congrArg (Value.int _) (wi8 hil (by decide))
  · (repeat' ((conv => whnf); first | refine SeqN.go ?_ | refine AdN.mk _ _ rfl ?_ | refine DrawN.a (Ob.mk (by decide +kernel) ?_) | refine DrawN.c (Ob.mk (by decide +kernel) ?_) | refine DrawN.b (Ob.mk (by decide +kernel) ?_) | refine Ob.mk (by kernel_rfl) ?_ | (refine Br.mk (fun h => ?_) (fun h => ?_) <;> (first | (exfalso; exact Bool.false_ne_true h) | (exfalso; exact Bool.false_ne_true h.symm) | (exfalso; exact absurd (Int.ofNat_lt.1 (of_decide_eq_true ‹_›)) hil) | skip)))); all_goals (conv => whnf)
    refine LoopN.mk {i : Nat // i ≤ 24} (fun i => [(7, .v (.int .i64 i.1))]) (fun _ => [.row 31 4 16 (VCs T)]) (fun i => 24 - i.1) ⟨0, Nat.zero_le _⟩ ?_ ?_
    · (conv => whnf); (repeat' (first | exact True.intro | exact rfl | refine And.intro ?_ ?_ | decide))
    (conv => whnf)
    rintro ⟨i, hi⟩
    dsimp only at hi ⊢
    by_cases hil : i < 24
    · have oi : (i : Int) < 24 := Int.ofNat_lt.2 hil
      (repeat' ((conv => whnf); first | refine SeqN.go ?_ | refine AdN.mk _ _ rfl ?_ | refine DrawN.a (Ob.mk (by decide +kernel) ?_) | refine DrawN.c (Ob.mk (by decide +kernel) ?_) | refine DrawN.b (Ob.mk (by decide +kernel) ?_) | refine Ob.mk (by kernel_rfl) ?_ | (refine Br.mk (fun h => ?_) (fun h => ?_) <;> (first | (exfalso; exact Bool.false_ne_true h) | (exfalso; exact Bool.false_ne_true h.symm) | (exfalso; exact absurd oi (of_decide_eq_false ‹_›)) | skip)))); all_goals (conv => whnf)
      refine LoopN.mk {k : Nat // k ≤ 24} (fun k => [(8, .v (.int .i64 k.1))]) (fun _ => [.row 31 4 16 (VCs T)]) (fun k => 24 - k.1) ⟨0, Nat.zero_le _⟩ ?_ ?_
      · (conv => whnf); (repeat' (first | exact True.intro | exact rfl | refine And.intro ?_ ?_ | decide))
      (conv => whnf)
      rintro ⟨k, hk⟩
      dsimp only at hk ⊢
      by_cases hkl : k < 24
      · have ok : (k : Int) < 24 := Int.ofNat_lt.2 hkl
        have RA := vRange_d (IntKind.i64.wrap ((i : Int) - 12)) (IntKind.i64.wrap (IntKind.i64.wrap ((i : Int) - 12) + (k : Int).tmod 11)) (wrap_is _) (wrap_is _)
        have CB := den_of (F := noFacts) fun W => make_c (IntKind.u64.wrap (IntKind.i64.wrap (1 + (i : Int).tmod 3))) (k : Int) W (uwiu _).1 (uwiu _).2 (by omega) (by omega)
        have MB := vMake_d (bK0 i k) (bK0_in i k)
        have ia := aK_in i k
        have ib := vmake_in (bK0_in i k)
        change Den _ _ _ _ (VVal (aK i k)) at RA
        unfold bK0 at MB
        dsimp only at MB
        generalize aK i k = a at *
        change Den _ _ _ _ (VVal (vmake (bK0 i k))) at MB
        generalize vmake (bK0 i k) = b at *
        (repeat' ((conv => whnf); first | refine CallN.any _ RA ?_ | refine CallN.any _ CB ?_ | refine CallN.any _ MB ?_ | refine CallN.any _ (iOf_d _ _) ?_ | refine SeqN.go ?_ | refine Ob.mk (by decide) ?_ | refine AdN.mk _ _ rfl ?_ | refine DrawN.a (Ob.mk (by decide +kernel) ?_) | refine DrawN.c (Ob.mk (by decide +kernel) ?_) | refine DrawN.b (Ob.mk (by decide +kernel) ?_) | refine Ob.mk (by kernel_rfl) ?_ | (refine Br.mk (fun h => ?_) (fun h => ?_) <;> (first | (exfalso; exact Bool.false_ne_true h) | (exfalso; exact Bool.false_ne_true h.symm) | (exfalso; exact absurd ok (of_decide_eq_false ‹_›)) | skip)))); all_goals (conv => whnf)
        refine LoopN.mk {z : Int // 0 ≤ z ∧ z ≤ 7} (fun z => [(11, .v (.int .i64 z.1))]) (fun _ => [.row 31 4 16 (VCs T), .cells ((VC a).map .v), .cells ((VC b).map .v)]) (fun z => (7 - z.1).toNat) ⟨0, by decide, by decide⟩ ?_ ?_
        · (conv => whnf); (repeat' (first | exact True.intro | exact rfl | refine And.intro ?_ ?_ | decide))
        (conv => whnf)
        rintro ⟨z, hz1, hz2⟩
        dsimp only at hz1 hz2 ⊢
        by_cases ot : z < 7
        · have BS := bitopSound_d z a b (IntKind.u64.wrap (IntKind.i64.wrap ((i : Int) + (k : Int)))) (IntKind.u64.wrap (IntKind.i64.wrap ((i : Int) * (k : Int)))) ia ib (uwiu _) (uwiu _)
          have B1 := bitopSingle_d z (IntKind.i64.wrap ((i : Int) - 12)) (IntKind.i64.wrap ((k : Int) - 12)) (wrap_is _) (wrap_is _)
          (repeat' ((conv => whnf); first | refine CallN.mk _ BS ?_ | refine CallN.mk _ B1 ?_ | refine AdN.mk _ _ rfl ?_ | refine DrawN.a (Ob.mk (by decide +kernel) ?_) | refine DrawN.c (Ob.mk (by decide +kernel) ?_) | refine DrawN.b (Ob.mk (by decide +kernel) ?_) | refine Ob.mk (by kernel_rfl) ?_ | (refine Br.mk (fun h => ?_) (fun h => ?_) <;> (first | (exfalso; exact Bool.false_ne_true h) | (exfalso; exact Bool.false_ne_true h.symm) | (exfalso; exact absurd ot (of_decide_eq_false ‹_›)) | skip)) | refine SeqN.go ?_)); all_goals (conv => whnf)
          refine RoundN.mk ⟨z + 1, by omega, by omega⟩ (by show (7 - (z + 1)).toNat < (7 - z).toNat; omega) ?_
          (conv => whnf); (repeat' (first | exact True.intro | exact rfl | refine And.intro ?_ ?_ | decide))
          all_goals (show Value.int .i64 (IntKind.i64.wrap (z + 1)) = Value.int .i64 (z + 1); rw [sg_eq, sg_in _ (by omega) (by omega)])
        · have BD := bitopDoes_d (IntKind.i64.wrap (8 + (IntKind.i64.wrap ((i : Int) + (k : Int))).tmod 11)) a b ia ib
          (repeat' ((conv => whnf); first | refine CallN.mk _ BD ?_ | refine Ob.mk (by decide) ?_ | refine AdN.mk _ _ rfl ?_ | refine DrawN.a (Ob.mk (by decide +kernel) ?_) | refine DrawN.c (Ob.mk (by decide +kernel) ?_) | refine DrawN.b (Ob.mk (by decide +kernel) ?_) | refine Ob.mk (by kernel_rfl) ?_ | (refine Br.mk (fun h => ?_) (fun h => ?_) <;> (first | (exfalso; exact Bool.false_ne_true h) | (exfalso; exact Bool.false_ne_true h.symm) | (exfalso; exact absurd (of_decide_eq_true ‹decide (z < 7) = true›) ot) | skip)) | refine SeqN.go ?_)); all_goals (conv => whnf)
          refine RoundN.mk ⟨k + 1, hkl⟩ (Nat.sub_succ_lt_self _ _ hkl) ?_
          (conv => whnf); (repeat' (first | exact True.intro | exact rfl | refine And.intro ?_ ?_ | decide))
          all_goals exact congrArg (Value.int _) (wi8 hkl (by decide))
      · (repeat' ((conv => whnf); first | refine AdN.mk _ _ rfl ?_ | refine DrawN.a (Ob.mk (by decide +kernel) ?_) | refine DrawN.c (Ob.mk (by decide +kernel) ?_) | refine DrawN.b (Ob.mk (by decide +kernel) ?_) | refine Ob.mk (by kernel_rfl) ?_ | (refine Br.mk (fun h => ?_) (fun h => ?_) <;> (first | (exfalso; exact Bool.false_ne_true h) | (exfalso; exact Bool.false_ne_true h.symm) | (exfalso; exact absurd (Int.ofNat_lt.1 (of_decide_eq_true ‹_›)) hkl) | skip)) | refine SeqN.go ?_)); all_goals (conv => whnf)
        refine RoundN.mk ⟨i + 1, hil⟩ (Nat.sub_succ_lt_self _ _ hil) ?_
        (conv => whnf); (repeat' (first | exact True.intro | exact rfl | refine And.intro ?_ ?_ | decide))
        all_goals exact congrArg (Value.int _) (wi8 hil (by decide))
    · have B1 := bitopDoes_d (-1) (T.getD 1 vbot) (T.getD 1 vbot) (IN 1) (IN 1)
      have B2 := bitopDoes_d 99 (T.getD 0 vbot) (T.getD 0 vbot) (IN 0) (IN 0)
      (repeat' ((conv => whnf); first | refine CallN.mk _ B1 ?_ | refine CallN.mk _ B2 ?_ | refine CallN.mk _ works23_d ?_ | refine Ob.mk (by decide) ?_ | refine rowVV (1 : Int) (by decide) (by rw [len]; decide) ?_ | refine rowVV (0 : Int) (by decide) (by rw [len]; decide) ?_ | refine AdN.mk _ _ rfl ?_ | refine DrawN.a (Ob.mk (by decide +kernel) ?_) | refine DrawN.c (Ob.mk (by decide +kernel) ?_) | refine DrawN.b (Ob.mk (by decide +kernel) ?_) | refine Ob.mk (by kernel_rfl) ?_ | (refine Br.mk (fun h => ?_) (fun h => ?_) <;> (first | (exfalso; exact Bool.false_ne_true h) | (exfalso; exact Bool.false_ne_true h.symm) | (exfalso; exact absurd (Int.ofNat_lt.1 (of_decide_eq_true ‹_›)) hil) | skip)) | refine SeqN.go ?_)); all_goals (conv => whnf)
      all_goals first | rfl | (exfalso; simp at *; done) | trace_state
end Go.Proofs.YtljhbdgoknfkcaaGreatDoor
