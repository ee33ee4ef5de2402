/- CongMakes, for every modulus, number and two congruences: congruences are made, told to be right, to have numbers, and to lie within others, as the reference says. No condition. -/
import Derived.Test.YtiefoahdikmilaaP
import Derived.Test.YtiefoahdikmilaaL2
namespace Go.Proofs.Ytiefoahdikmilaa
open Go Go.ChangeShapes Go.WideShapes Go.ChangeAt Go.RowKit Go.Joins
set_option linter.unusedVariables false
set_option maxRecDepth 100000

theorem cells_cong : Try.prog.cellsOf 59 = 2 := by kernel_rfl

/-- A congruence that came in: its modulus and its remainder. -/
theorem open_cong {H : Type} {enc : TypeId × Value → H} {W : World} {v : Value} {d : DataW H} {p : List MemPlace} {b0 : Nat} {r : Reach} (hv : Value.okWide Try.prog W r b0 59 v) {base : Nat} {spare : Nat → Bool} {held : Bool} (h : DataW.Trod enc Try.prog W base spare held 59 v d p) :
    ∃ m n : Int, v = .agg #[.int .u64 m, .int .u64 n] ∧ (0 ≤ m ∧ m ≤ 18446744073709551615) ∧ (0 ≤ n ∧ n ≤ 18446744073709551615) := by
  obtain ⟨c0, c1, y0, y1, k, rfl, rfl, rfl, hy0, hy1⟩ := open_agg2 Try.underlying59 (by kernel_rfl) cells_cong hv h
  obtain ⟨a, e0, rfl, wa⟩ := DataW.trod_int Try.underlying57 hy0
  obtain ⟨b, e1, rfl, wb⟩ := DataW.trod_int Try.underlying57 hy1
  simp at e0 e1
  subst e0 e1
  exact ⟨a, b, rfl, bounds_u64 wa, bounds_u64 wb⟩

set_option maxRecDepth 100000 in
theorem congMakes_lifted (os : Os) (started : os.Started) (H : Type) (enc : TypeId × Value → H) :
    ReturnsInHanded {} Try.checked os 4 .any (Rows.congMakesSpec.pre6 enc Try.prog Try.f4 Rows.congMakesRow.domain false) (Rows.congMakesSpec.post enc Try.prog Try.f4 false true false false) := by
  refine returnsInHanded_of_change (C := Try.checked) own started (by kernel_rfl) Try.func4
    (ChangeSpec.witness6 (enc := enc) (C := Try.checked) false ⟨#[], #[.int .u64 0, .int .i64 0, .agg #[.int .u64 0, .int .u64 0], .agg #[.int .u64 0, .int .u64 0]], []⟩ 8 (by kernel_rfl) (by kernel_rfl) (by kernel_rfl) (by kernel_rfl)) ?_
  intro W base args ds gs before hval0 hW hcnd _
  have hval : ∀ (j : Nat) t v, Try.f4.params[j]? = some t → args[j]? = some v → Value.okWide Try.prog W .any base t v := hval0
  have hW' := hW
  obtain ⟨p, q, hA0, hV, hpq, hfz, hnd⟩ := hW
  have hA : DataW.TrodAll enc Try.prog W 0 (fun _ => true) true Try.f4.params.toList args.toList ds p := hA0
  rw [Try.params4] at hA hval
  obtain ⟨v0, v1, v2, v3, d0, d1, d2, d3, p0, p1, p2, p3, rfl, rfl, rfl, h0, h1, h2, h3⟩ := trodAll_four hA
  obtain ⟨rfl, rfl⟩ := trodVars_none hV
  obtain ⟨m, rfl, _, _, wm⟩ := open_int Try.underlying57 (hval 0 _ v0 rfl rfl) h0
  obtain ⟨n, rfl, _, _, wn⟩ := open_int Try.underlying2 (hval 1 _ v1 rfl rfl) h1
  obtain ⟨am, ar, rfl, ba, ba'⟩ := open_cong (hval 2 _ v2 rfl rfl) h2
  obtain ⟨bm, br, rfl, bb, bb'⟩ := open_cong (hval 3 _ v3 rfl rfl) h3
  have bm0 := bounds_u64 wm
  have bn0 := bounds_i64 wn
  refine (congMakes_c m n am ar bm br W bm0.1 bm0.2 bn0.1 bn0.2 ba.1 ba.2 ba'.1 ba'.2 bb.1 bb.2 bb'.1 bb'.2).mono fun e W' ⟨he, hb⟩ => ?_
  subst he
  exact ⟨_, rfl, post_law laidOut (by kernel_rfl) rfl hW' rfl rfl Try.underlying4 hb⟩

theorem congMakes_holds : Rows.CongMakesSaid :=
  OpenClaim.holds_of_wide 4 Try.f4 rfl rfl rfl rfl rfl rfl rfl ⟨rfl, rfl, rfl, rfl, rfl⟩ rfl rfl rfl rfl rfl (by kernel_rfl) Try.func4 (by kernel_rfl)
    (of_decide_eq_true (by kernel_rfl)) (by unfold Func.isWrapper; rw [if_neg (of_decide_eq_false (by kernel_rfl))]; exact ⟨rfl, rfl⟩)
    (fun os started H enc _ => congMakes_lifted os started H enc)

#print axioms congMakes_holds
end Go.Proofs.Ytiefoahdikmilaa
