import Derived.Lib.SlicesCompact
import Derived.Test.YthekpmpcbidjiaaGreatT35
import Derived.Test.YthekpmpcbidjiaaGreatT44
import Derived.Test.YthekpmpcbidjiaaGreatT46
import Derived.Test.YthekpmpcbidjiaaGreatT49
namespace Go.Proofs.YthekpmpcbidjiaaGreat
open Go Go.RowKit Go.Sort U
set_option linter.unusedVariables false
set_option linter.unusedSimpArgs false
theorem rise_eq : ∀ {a b : List Int}, a.Pairwise (· < ·) → b.Pairwise (· < ·) → (∀ x, x ∈ a ↔ x ∈ b) → a = b
  | [], [], _, _, _ => rfl
  | [], y :: b, _, _, h => by have := (h y).2 (by simp); cases this
  | x :: a, [], _, _, h => by have := (h x).1 (by simp); cases this
  | x :: a, y :: b, ha, hb, h => by
    obtain ⟨a1, a2⟩ := List.pairwise_cons.1 ha
    obtain ⟨b1, b2⟩ := List.pairwise_cons.1 hb
    have hxy : x = y := by
      have h1 := (h x).1 (by simp)
      have h2 := (h y).2 (by simp)
      rcases List.mem_cons.1 h1 with e | h1
      · exact e
      · rcases List.mem_cons.1 h2 with e | h2
        · exact e.symm
        · have := b1 x h1
          have := a1 y h2
          omega
    subst hxy
    congr 1
    refine rise_eq a2 b2 fun z => ⟨fun hz => ?_, fun hz => ?_⟩
    · rcases List.mem_cons.1 ((h z).1 (by simp [hz])) with e | h1
      · have := a1 z hz; omega
      · exact h1
    · rcases List.mem_cons.1 ((h z).2 (by simp [hz])) with e | h1
      · have := b1 z hz; omega
      · exact h1
theorem arr_at (zs : List Int) (j : Nat) : zs.toArray[j]! = gt0 zs j := by
  simp [gt0, List.getElem!_eq_getElem?_getD]
theorem compact_mem (zs : List Int) (x : Int) : x ∈ Lib.compact zs ↔ x ∈ zs := by
  unfold Lib.compact Lib.compactUpTo
  simp only [List.mem_map, List.mem_filter, List.mem_range, Lib.keeps, decide_eq_true_eq, arr_at]
  constructor
  · rintro ⟨j, ⟨hj, _⟩, rfl⟩
    simp [gt0, hj]
  · intro hx
    obtain ⟨i, hi, e⟩ := List.mem_iff_getElem.1 hx
    have hex : ∃ i, i < zs.length ∧ gt0 zs i = x := ⟨i, hi, by simp [gt0, hi, e]⟩
    have least : ∀ n, (∃ i, i ≤ n ∧ i < zs.length ∧ gt0 zs i = x) → ∃ i, i < zs.length ∧ gt0 zs i = x ∧ ∀ k, k < i → gt0 zs k ≠ x := fun n => by
      induction n with
      | zero =>
        rintro ⟨i, h0, h1, h2⟩
        exact ⟨i, h1, h2, fun k hk => by omega⟩
      | succ n ih =>
        rintro ⟨i, h0, h1, h2⟩
        by_cases h3 : ∃ k, k < i ∧ gt0 zs k = x
        · obtain ⟨k, hk, hk2⟩ := h3
          exact ih ⟨k, by omega, by omega, hk2⟩
        · exact ⟨i, h1, h2, fun k hk h4 => h3 ⟨k, hk, h4⟩⟩
    obtain ⟨i, h1, h2, h3⟩ := least i ⟨i, Nat.le_refl _, hi, by simp [gt0, hi, e]⟩
    refine ⟨i, ⟨h1, ?_⟩, h2⟩
    rcases Nat.eq_zero_or_pos i with h0 | h0
    · exact .inl h0
    · exact .inr fun h4 => h3 (i - 1) (by omega) (h4 ▸ h2)
theorem sorted_le {zs : List Int} (h : zs.Pairwise (· ≤ ·)) {i j : Nat} (hij : i ≤ j) (hj : j < zs.length) : gt0 zs i ≤ gt0 zs j := by
  have e1 : gt0 zs i = zs[i] := by simp [gt0, show i < zs.length by omega]
  have e2 : gt0 zs j = zs[j] := by simp [gt0, hj]
  rcases Nat.lt_or_ge i j with h1 | h1
  · rw [e1, e2]; exact List.pairwise_iff_getElem.1 h i j (by omega) hj h1
  · have : i = j := by omega
    subst this; exact Int.le_refl _
theorem compact_rise {zs : List Int} (h : zs.Pairwise (· ≤ ·)) : (Lib.compact zs).Pairwise (· < ·) := by
  unfold Lib.compact Lib.compactUpTo
  rw [List.pairwise_map]
  have h1 : ((List.range zs.length).filter (Lib.keeps zs.toArray)).Pairwise (· < ·) := List.pairwise_lt_range.filter _
  refine h1.imp_of_mem fun {a b} ha hb hab => ?_
  obtain ⟨hb1, hb2⟩ := List.mem_filter.1 hb
  have hb1 := List.mem_range.1 hb1
  simp only [Lib.keeps, decide_eq_true_eq, arr_at] at hb2 ⊢
  have h2 := sorted_le h (i := a) (j := b - 1) (by omega) (by omega)
  have h3 := sorted_le h (i := b - 1) (j := b) (by omega) hb1
  rcases hb2 with hb2 | hb2 <;> omega
theorem sort_le (zs : List Int) : (zs.mergeSort fun x y => decide (x ≤ y)).Pairwise (· ≤ ·) := by
  have := List.pairwise_mergeSort (le := fun x y : Int => decide (x ≤ y)) (fun a b c h1 h2 => by simp at *; omega) (fun a b => by simp; omega) zs
  exact this.imp fun h => by simpa using h
theorem callees_plain {n : Nat} {row : List Int} (hr : ∀ t ∈ row, ∃ k : Nat, t = (k : Int) ∧ k < n) : Lib.compact (row.mergeSort fun x y => decide (x ≤ y)) = rowR n row := by
  refine rise_eq (compact_rise (sort_le row)) ?_ fun x => ?_
  · rw [rowR, List.pairwise_map]
    exact (List.pairwise_lt_range.filter _).imp fun h => by omega
  · rw [compact_mem, List.mem_mergeSort, rowR_mem]
    constructor
    · intro hx
      obtain ⟨k, rfl, hk⟩ := hr x hx
      exact ⟨k, hk, rfl, hx⟩
    · rintro ⟨i, _, _, h⟩
      exact h
theorem compact_len (zs : List Int) : (Lib.compact zs).length ≤ zs.length := by
  unfold Lib.compact Lib.compactUpTo
  rw [List.length_map]
  exact Nat.le_trans (List.length_filter_le ..) (by simp)
def calV (g : Gz) (node : Int) : List Int := if rightG g = true then calR g node else []
theorem calV_len (g : Gz) (node : Int) : (calV g node).length ≤ g.nm.length := by
  unfold calV calR
  split
  · split
    · exact rowR_len ..
    · simp
  · simp
end Go.Proofs.YthekpmpcbidjiaaGreat
namespace Go.Proofs.YthekpmpcbidjiaaGreat
open Go Go.RowKit Go.Sort U
set_option linter.unusedVariables false
set_option linter.unusedSimpArgs false
set_option maxRecDepth 100000
set_option maxHeartbeats 4000000
theorem ring_no (g : Gz) (hg : okG g) (hR : rightG g = false) : DenU Tryz.prog [] 14 [encG g] (imS (iL [])) := by
  refine denU_of_body hmixU rfl Tryz.func14 rfl rfl rfl 0 ?_
  intro Ts
  have c1 := cright_d g hg
  rw [hR] at c1
  obtain ⟨nm, st⟩ := g
  have cg := cleanG ⟨nm, st⟩
  (repeat' ((conv => whnf); first | refine goD ?_ | refine ⟨_, c1, clN, tab0 _, ?_⟩ | refine U.lw_c (fun hb => ?_) (fun hb => ?_)))
  (conv => whnf)
  exact .nil
theorem order_walk (g : Gz) (node : Int) (hg : g.st.length ≤ maxI ∧ ∀ r ∈ g.st, r.length ≤ maxI) (hW : DenU Tryz.prog [] 7 [] (.bool true)) (hC : fewB g = true → DenU Tryz.prog [] 13 [encG g, .int .i64 node] (imS (iL (calV g node)))) : DenU Tryz.prog [] 4 [encG g, .int .i64 node] (.bool true) := by
  refine denU_of_sound hmixU fun Ts => SoundAt.body hmixU Tryz.func4 rfl rfl rfl 0 ?_
  have cF := few_d g hg
  have cg := cleanG g
  cases hf : fewB g
  · rw [hf] at cF
    obtain ⟨nm, st⟩ := g
    (repeat' ((conv => whnf); first | refine goD ?_ | refine U.SoundAt.u (cF) clN ?_ | refine U.SoundAt.u (hW) clN ?_ | refine U.SoundC.u (cF) clN ?_ | refine U.SoundC.u (hW) clN ?_ | refine U.lw_c (fun hb => ?_) (fun hb => ?_)))
    all_goals (conv => whnf)
    all_goals exact .clean _ (.flat _ rfl)
  rw [hf] at cF
  replace hC := hC hf
  obtain ⟨b1, b2, b3, b4⟩ := few_bounds hf
  replace hg : okG g := ⟨by omega, hg⟩
  have hst : g.st.length ≤ 29000 := by omega
  have cL := lref_d g hg (by omega) hst fun r hr => Nat.le_trans (b3 r hr) (by omega)
  have cP := cright_d g hg
  have cT := rright_d g hg
  have cO := order_g g hg hst b4
  have cD := deep_d g hg hst b4
  have cl := cleanIL (calV g node)
  cases hr : rightG g
  · rw [hr] at cP cT
    have cR := ring_no g hg hr
    have hOG : ordG g = ([], false) := by unfold ordG; rw [if_neg (by simp [hr])]
    have hDV : depV g = [] := by unfold depV; rw [hOG]; simp
    have hCV : calV g node = [] := by unfold calV; rw [if_neg (by simp [hr])]
    rw [hOG] at cO
    rw [hDV] at cD
    rw [hCV] at hC
    replace cO : DenU Tryz.prog [] 12 [encG g] (.tuple ⟨[imS (iL []), .bool false]⟩) := cO
    obtain ⟨nm, st⟩ := g
    (repeat' ((conv => whnf); first | refine goD ?_ | refine U.SoundAt.u (cF) clN ?_ | refine U.SoundAt.u (cL) clN ?_ | refine U.SoundAt.u (cP) clN ?_ | refine U.SoundAt.u (cT) clN ?_ | refine U.SoundAt.u (cO) clN ?_ | refine U.SoundAt.u (hC) clN ?_ | refine U.SoundAt.u (cR) clN ?_ | refine U.SoundAt.u (cD) clN ?_ | refine U.SoundAt.u (hW) clN ?_ | refine U.SoundC.u (cF) clN ?_ | refine U.SoundC.u (cL) clN ?_ | refine U.SoundC.u (cP) clN ?_ | refine U.SoundC.u (cT) clN ?_ | refine U.SoundC.u (cO) clN ?_ | refine U.SoundC.u (hC) clN ?_ | refine U.SoundC.u (cR) clN ?_ | refine U.SoundC.u (cD) clN ?_ | refine U.SoundC.u (hW) clN ?_ | refine U.drawX_p (D := U.propX) 5 [] (by decide +kernel) (by decide +kernel) ?_ | refine U.lw_c (fun hb => ?_) (fun hb => ?_)))
    all_goals (conv => whnf)
    all_goals exact .clean _ (.flat _ rfl)
  · rw [hr] at cP cT
    obtain ⟨L, hLl, cR, cRR⟩ := ring_u g hg hst b4 hr
    have hCV : calV g node = calR g node := by unfold calV; rw [if_pos hr]
    have cRC := rcallees_d g node (by omega) hg.2.2
    rw [← hCV] at cRC
    have hOG : ordG g = orderR g.st := by unfold ordG; rw [if_pos hr]
    have cQ := rorder_d g (by omega) hg.2.2
    rw [← hOG] at cQ
    replace cO : DenU Tryz.prog [] 12 [encG g] (.tuple ⟨[imS (iL (ordG g).1), .bool (ordG g).2]⟩) := cO
    have co := cleanIL (ordG g).1
    have cq := cleanIL (nL L)
    have hOl := (ordG_ok g).len
    have cS1 := same_d (ordG g).1 (ordG g).1 (by unfold maxI; omega)
    have cS2 := same_d (calV g node) (calV g node) (by have := calV_len g node; unfold maxI; omega)
    have cS3 := same_d (nL L) (nL L) (by rw [nL_len]; unfold maxI; omega)
    rw [decide_eq_true rfl] at cS1 cS2 cS3
    cases hok : (ordG g).2
    · have hDV : depV g = [] := by unfold depV; rw [if_neg (by simp [hok])]
      rw [hDV] at cD
      rw [hok] at cO cQ
      generalize (ordG g).1 = ord at *
      generalize calV g node = C at *
      obtain ⟨nm, st⟩ := g
      (repeat' ((conv => whnf); first | refine goD ?_ | refine U.SoundAt.u (cF) clN ?_ | refine U.SoundAt.u (cL) clN ?_ | refine U.SoundAt.u (cP) clN ?_ | refine U.SoundAt.u (cT) clN ?_ | refine U.SoundAt.u (cO) clN ?_ | refine U.SoundAt.u (hC) clN ?_ | refine U.SoundAt.u (cR) clN ?_ | refine U.SoundAt.u (cD) clN ?_ | refine U.SoundAt.u (cQ) clN ?_ | refine U.SoundAt.u (cRC) clN ?_ | refine U.SoundAt.u (cRR) clN ?_ | refine U.SoundAt.u (cS1) clN ?_ | refine U.SoundAt.u (cS2) clN ?_ | refine U.SoundAt.u (cS3) clN ?_ | refine U.SoundAt.u (hW) clN ?_ | refine U.SoundC.u (cF) clN ?_ | refine U.SoundC.u (cL) clN ?_ | refine U.SoundC.u (cP) clN ?_ | refine U.SoundC.u (cT) clN ?_ | refine U.SoundC.u (cO) clN ?_ | refine U.SoundC.u (hC) clN ?_ | refine U.SoundC.u (cR) clN ?_ | refine U.SoundC.u (cD) clN ?_ | refine U.SoundC.u (cQ) clN ?_ | refine U.SoundC.u (cRC) clN ?_ | refine U.SoundC.u (cRR) clN ?_ | refine U.SoundC.u (cS1) clN ?_ | refine U.SoundC.u (cS2) clN ?_ | refine U.SoundC.u (cS3) clN ?_ | refine U.SoundC.u (hW) clN ?_ | refine U.drawX_p (D := U.propX) 5 [] (by decide +kernel) (by decide +kernel) ?_ | refine U.drawX_p (D := U.propX) 27 [] (by decide +kernel) (by decide +kernel) ?_ | refine U.lw_c (fun hb => ?_) (fun hb => ?_)))
      all_goals (conv => whnf)
      all_goals exact .clean _ (.flat _ rfl)
    · have hDV : depV g = foldO (dep1 g.st) (orderR g.st).1 (List.replicate g.st.length 0) := by unfold depV; rw [if_pos hok, hOG]
      have cRD := rdeep_d g hst hg.2.2
      rw [← hDV] at cRD
      have cS4 := same_d (depV g) (depV g) (by rw [hDV, foldO_len]; simp; unfold maxI; omega)
      rw [decide_eq_true rfl] at cS4
      have cd := cleanIL (depV g)
      rw [hok] at cO cQ
      generalize (ordG g).1 = ord at *
      generalize calV g node = C at *
      generalize depV g = E at *
      obtain ⟨nm, st⟩ := g
      (repeat' ((conv => whnf); first | refine goD ?_ | refine U.SoundAt.u (cF) clN ?_ | refine U.SoundAt.u (cL) clN ?_ | refine U.SoundAt.u (cP) clN ?_ | refine U.SoundAt.u (cT) clN ?_ | refine U.SoundAt.u (cO) clN ?_ | refine U.SoundAt.u (hC) clN ?_ | refine U.SoundAt.u (cR) clN ?_ | refine U.SoundAt.u (cD) clN ?_ | refine U.SoundAt.u (cQ) clN ?_ | refine U.SoundAt.u (cRC) clN ?_ | refine U.SoundAt.u (cRR) clN ?_ | refine U.SoundAt.u (cRD) clN ?_ | refine U.SoundAt.u (cS1) clN ?_ | refine U.SoundAt.u (cS2) clN ?_ | refine U.SoundAt.u (cS3) clN ?_ | refine U.SoundAt.u (cS4) clN ?_ | refine U.SoundAt.u (hW) clN ?_ | refine U.SoundC.u (cF) clN ?_ | refine U.SoundC.u (cL) clN ?_ | refine U.SoundC.u (cP) clN ?_ | refine U.SoundC.u (cT) clN ?_ | refine U.SoundC.u (cO) clN ?_ | refine U.SoundC.u (hC) clN ?_ | refine U.SoundC.u (cR) clN ?_ | refine U.SoundC.u (cD) clN ?_ | refine U.SoundC.u (cQ) clN ?_ | refine U.SoundC.u (cRC) clN ?_ | refine U.SoundC.u (cRR) clN ?_ | refine U.SoundC.u (cRD) clN ?_ | refine U.SoundC.u (cS1) clN ?_ | refine U.SoundC.u (cS2) clN ?_ | refine U.SoundC.u (cS3) clN ?_ | refine U.SoundC.u (cS4) clN ?_ | refine U.SoundC.u (hW) clN ?_ | refine U.drawX_p (D := U.propX) 5 [] (by decide +kernel) (by decide +kernel) ?_ | refine U.drawX_p (D := U.propX) 27 [] (by decide +kernel) (by decide +kernel) ?_ | refine U.drawX_p (D := U.propX) 9 [] (by decide +kernel) (by decide +kernel) ?_ | refine U.lw_c (fun hb => ?_) (fun hb => ?_)))
      all_goals (conv => whnf)
      all_goals exact .clean _ (.flat _ rfl)
end Go.Proofs.YthekpmpcbidjiaaGreat
