/- How many parts statements of layer 13 have: few are told, if they are few. -/
import Derived.Test.YthbhnbnlbhpooaaTH
import Derived.Test.YthbhnbnlbhpooaaUG
namespace Go.Proofs.Ythbhnbnlbhpooaa
open Go Go.RowKit Go.Sort U
set_option linter.unusedVariables false
set_option linter.unusedSimpArgs false
set_option maxRecDepth 100000
set_option maxHeartbeats 4000000
theorem wid {x : Int} (h1 : -9223372036854775808 ≤ x) (h2 : x < 9223372036854775808) : IntKind.i64.wrap x = x := by
  rw [IntKind.wrap_i64]; omega
mutual
theorem cntE_few : ∀ (e : Ex) (m d : Int), 0 ≤ m → m ≤ 1000 → 0 ≤ cntE e m d ∧ cntE e m d ≤ m + 1 ∧ (cntE e m d ≤ m → cntE e m d = szE e)
  | .mk k n a o l, m, d, h0, h1 => by
    rw [cntE, szE]
    split
    · rw [wid (by omega) (by omega)]; omega
    · have := cntEs_few l m d 1 h0 h1 (by omega) (by omega)
      omega
theorem cntEs_few : ∀ (l : List Ex) (m d n : Int), 0 ≤ m → m ≤ 1000 → 0 ≤ n → n ≤ m + 1 → n ≤ cntEs l m d n ∧ cntEs l m d n ≤ m + 1 ∧ (cntEs l m d n ≤ m → cntEs l m d n = n + szEs l)
  | [], m, d, n, h0, h1, h2, h3 => by rw [cntEs, szEs]; omega
  | e :: l, m, d, n, h0, h1, h2, h3 => by
    rw [cntEs, szEs]
    split
    · rename_i h4
      rw [wid (x := m - n) (by omega) (by omega)]
      have h5 := cntE_few e (m - n) (IntKind.i64.wrap (d - 1)) (by omega) (by omega)
      rw [wid (by omega) (by omega)]
      have h6 := cntEs_few l m d (n + cntE e (m - n) (IntKind.i64.wrap (d - 1))) h0 h1 (by omega) (by omega)
      omega
    · omega
end
theorem cntX_few : ∀ (l : List Ex) (m n : Int), -1 ≤ m → m ≤ 1000 → 0 ≤ n → n ≤ m + 1 → n ≤ cntX l m n ∧ cntX l m n ≤ m + 1 ∧ (cntX l m n ≤ m → cntX l m n = n + szEs l)
  | [], m, n, h0, h1, h2, h3 => by rw [cntX, szEs]; omega
  | e :: l, m, n, h0, h1, h2, h3 => by
    rw [cntX, szEs]
    split
    · rename_i h4
      rw [wid (x := m - n) (by omega) (by omega)]
      have h5 := cntE_few e (m - n) 60 (by omega) (by omega)
      rw [wid (by omega) (by omega)]
      have h6 := cntX_few l m (n + cntE e (m - n) 60) h0 h1 (by omega) (by omega)
      omega
    · omega
mutual
theorem cntS_few : ∀ (e : St) (m d n : Int), m ≤ 1000 → 0 ≤ n → n ≤ m → n ≤ cntS e m d n ∧ cntS e m d n ≤ m + 1 ∧ (cntS e m d n ≤ m → cntS e m d n = n + szS e)
  | .mk k a xs th el no, m, d, n, h1, h2, h3 => by
    rw [cntS_eq, szS, wid (x := n + 1) (by omega) (by omega)]
    have ha := cntX_few xs m (n + 1) (by omega) h1 (by omega) (by omega)
    generalize cntX xs m (n + 1) = A at ha ⊢
    rw [wid (x := m - A) (by omega) (by omega)]
    have hb : ∀ d', 0 ≤ cntL th (m - A) d' ∧ cntL th (m - A) d' ≤ m - A + 1 ∧ (cntL th (m - A) d' ≤ m - A → cntL th (m - A) d' = szSs th) := fun d' => by
      rw [cntL]
      split
      · rw [wid (by omega) (by omega)]; omega
      · have := cntSs_few th (m - A) d' 0 (by omega) (by omega) (Int.le_refl _) (by omega)
        omega
    have hb := hb (IntKind.i64.wrap (d - 1))
    generalize cntL th (m - A) (IntKind.i64.wrap (d - 1)) = B at hb ⊢
    rw [wid (x := A + B) (by omega) (by omega), wid (x := m - (A + B)) (by omega) (by omega)]
    have hc : ∀ d', 0 ≤ cntL el (m - (A + B)) d' ∧ cntL el (m - (A + B)) d' ≤ m - (A + B) + 1 ∧ (cntL el (m - (A + B)) d' ≤ m - (A + B) → cntL el (m - (A + B)) d' = szSs el) := fun d' => by
      rw [cntL]
      split
      · rw [wid (by omega) (by omega)]; omega
      · have := cntSs_few el (m - (A + B)) d' 0 (by omega) (by omega) (Int.le_refl _) (by omega)
        omega
    have hc := hc (IntKind.i64.wrap (d - 1))
    generalize cntL el (m - (A + B)) (IntKind.i64.wrap (d - 1)) = C at hc ⊢
    rw [wid (by omega) (by omega)]
    omega
theorem cntSs_few : ∀ (l : List St) (m d n : Int), -1 ≤ m → m ≤ 1000 → 0 ≤ n → n ≤ m + 1 → n ≤ cntSs l m d n ∧ cntSs l m d n ≤ m + 1 ∧ (cntSs l m d n ≤ m → cntSs l m d n = n + szSs l)
  | [], m, d, n, h0, h1, h2, h3 => by rw [cntSs, szSs]; omega
  | e :: l, m, d, n, h0, h1, h2, h3 => by
    rw [cntSs, szSs]
    split
    · rename_i h4
      have h5 := cntS_few e m d n h1 h2 h4
      have h6 := cntSs_few l m d (cntS e m d n) h0 h1 (by omega) (by omega)
      omega
    · omega
end
theorem cntL_few (l : List St) (m d : Int) (h0 : -1 ≤ m) (h1 : m ≤ 1000) : 0 ≤ cntL l m d ∧ cntL l m d ≤ m + 1 ∧ (cntL l m d ≤ m → cntL l m d = szSs l) := by
  rw [cntL]
  split
  · rw [wid (by omega) (by omega)]; omega
  · have := cntSs_few l m d 0 h0 h1 (Int.le_refl _) (by omega)
    omega
theorem okSs_mem : ∀ {l : List St}, okSs l → ∀ e ∈ l, okS e
  | [], _, e, h => by cases h
  | x :: l, h, e, he => by
    rcases List.mem_cons.1 he with rfl | he
    · exact h.1
    · exact okSs_mem h.2 e he
theorem irStmts_all : ∀ (N : Nat) (l : List St), szSs l ≤ N → okSs l → l.length ≤ maxI → ∀ m d, DenU Try.prog [] 12 [imS (encSs l), .int .i64 m, .int .i64 d] (.int .i64 (cntL l m d))
  | 0, l, h0, hok, hl, m, d => irStmts_d l hl (fun k a xs th el no hm => by
    have := szSs_mem hm
    rw [szS] at this
    omega) m d
  | N + 1, l, h0, hok, hl, m, d => irStmts_d l hl (fun k a xs th el no hm => by
    have h1 := szSs_mem hm
    rw [szS] at h1
    have h2 := okSs_mem hok _ hm
    rw [okS] at h2
    exact ⟨h2.1, fun e he m d => irExpr_all e (okEs_mem h2.2.1 e he) m d, fun m d => irStmts_all N th (by omega) h2.2.2.2.1 h2.2.2.1 m d, fun m d => irStmts_all N el (by omega) h2.2.2.2.2.2 h2.2.2.2.2.1 m d⟩) m d
end Go.Proofs.Ythbhnbnlbhpooaa
