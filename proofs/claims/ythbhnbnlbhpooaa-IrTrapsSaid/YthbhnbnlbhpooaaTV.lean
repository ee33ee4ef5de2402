/- Statements of layer 13 that came in. No condition. -/
import Derived.Test.YthbhnbnlbhpooaaUO
import Derived.Test.YthbhnbnlbhpooaaTH
import Derived.Test.YthbhnbnlbhpooaaP
import Derived.Handed
namespace Go.Proofs.Ythbhnbnlbhpooaa
open Go Go.ChangeShapes Go.WideShapes Go.ChangeAt Go.RowKit Go.Joins U
set_option linter.unusedVariables false
set_option maxRecDepth 100000

def tysS : List TypeId := [26, 46, 24, 23, 3, 2, 43, 22, 44]
theorem tysS_ok : okTys Try.prog tysS = true := by kernel_rfl
theorem cells_Expr : Try.prog.cellsOf 46 = 5 := by kernel_rfl
theorem cells_Stmt : Try.prog.cellsOf 26 = 6 := by kernel_rfl
theorem cells_int : Try.prog.cellsOf 3 = 1 := by kernel_rfl
theorem datF_int {t : TypeId} (ht : Try.prog.underlying t = some (.int .i64)) {n : Nat} {us : List Value} (h : DatF Try.prog n t us) : ∃ m, us = [.int .i64 m] := by
  cases n with
  | zero => exact h.elim
  | succ n =>
    unfold DatF at h
    rw [ht] at h
    obtain ⟨m, h, _⟩ := h
    exact ⟨m, h⟩
theorem datF_row {t e : TypeId} (ht : Try.prog.underlying t = some (.slice e)) {n : Nat} {us : List Value} (h : DatF Try.prog n t us) : ∃ (k : Nat) (rows : List (List Value)), n = k + 1 ∧ us = [imS (rows.map (packV Try.prog e))] ∧ rows.length ≤ maxLen ∧ ∀ r ∈ rows, r.length = Try.prog.cellsOf e ∧ DatF Try.prog k e r := by
  cases n with
  | zero => exact h.elim
  | succ n =>
    unfold DatF at h
    rw [ht] at h
    obtain ⟨rows, h⟩ := h
    exact ⟨n, rows, rfl, h⟩
theorem okEs_of : ∀ {l : List Ex}, (∀ e ∈ l, okE e) → okEs l
  | [], _ => trivial
  | e :: l, h => ⟨h e (by simp), okEs_of fun x hx => h x (List.mem_cons_of_mem _ hx)⟩
theorem okSs_of : ∀ {l : List St}, (∀ e ∈ l, okS e) → okSs l
  | [], _ => trivial
  | e :: l, h => ⟨h e (by simp), okSs_of fun x hx => h x (List.mem_cons_of_mem _ hx)⟩
theorem pack_E (e : Ex) : packV Try.prog 46 (cellsOf (encE e)) = encE e := by
  unfold packV
  rw [Try.underlying46]
  cases e; rfl
theorem pack_S (e : St) : packV Try.prog 26 (cellsOf (encS e)) = encS e := by
  unfold packV
  rw [Try.underlying26]
  cases e; rfl
theorem exprs_data {n : Nat} (ih : ∀ k < n, ∀ us, DatF Try.prog k 46 us → ∃ e : Ex, okE e ∧ us = cellsOf (encE e)) {us : List Value} (h : DatF Try.prog n 23 us) : ∃ l : List Ex, okEs l ∧ l.length ≤ maxI ∧ us = [imS (encEs l)] := by
  obtain ⟨k, rows, rfl, rfl, hl, hr⟩ := datF_row Try.underlying23 h
  obtain ⟨l, h1, rfl⟩ := all_map (p := okE) (g := fun e => cellsOf (encE e)) rows fun r hr' => ih k (by omega) r (hr r hr').2
  refine ⟨l, okEs_of h1, by rw [List.length_map] at hl; exact hl, ?_⟩
  rw [List.map_map, encEs_map]
  congr 2
  exact List.map_congr_left fun e _ => pack_E e
theorem expr_data : ∀ (n : Nat) (us : List Value), DatF Try.prog n 46 us → ∃ e : Ex, okE e ∧ us = cellsOf (encE e) := by
  intro n
  induction n using Nat.strongRecOn with
  | ind n ih =>
    intro us h
    cases n with
    | zero => exact h.elim
    | succ n =>
      unfold DatF at h
      rw [Try.underlying46] at h
      obtain ⟨hl, h⟩ := h
      rw [cells_Expr] at hl
      obtain ⟨c0, c1, c2, c3, c4, rfl⟩ : ∃ c0 c1 c2 c3 c4, us = [c0, c1, c2, c3, c4] := by match us, hl with | [c0, c1, c2, c3, c4], _ => exact ⟨c0, c1, c2, c3, c4, rfl⟩
      have h0 := h _ (List.mem_cons_self ..)
      have h1 := h _ (List.mem_cons_of_mem _ (List.mem_cons_self ..))
      have h2 := h _ (List.mem_cons_of_mem _ (List.mem_cons_of_mem _ (List.mem_cons_self ..)))
      have h3 := h _ (List.mem_cons_of_mem _ (List.mem_cons_of_mem _ (List.mem_cons_of_mem _ (List.mem_cons_self ..))))
      have h4 := h _ (List.mem_cons_of_mem _ (List.mem_cons_of_mem _ (List.mem_cons_of_mem _ (List.mem_cons_of_mem _ (List.mem_cons_self ..)))))
      obtain ⟨m0, e0⟩ := datF_int Try.underlying43 h0
      obtain ⟨m1, e1⟩ := datF_int Try.underlying2 h1
      obtain ⟨m2, e2⟩ := datF_int Try.underlying3 h2
      obtain ⟨m3, e3⟩ := datF_int Try.underlying44 h3
      obtain ⟨l, k1, k2, e4⟩ := exprs_data (fun k hk => ih k (by omega)) h4
      replace e0 : [c0] = _ := e0
      replace e1 : [c1] = _ := e1
      replace e2 : [c2] = _ := e2
      replace e3 : [c3] = _ := e3
      replace e4 : [c4] = _ := e4
      simp only [List.cons.injEq, and_true] at e0 e1 e2 e3 e4
      subst e0 e1 e2 e3 e4
      exact ⟨.mk m0 m1 m2 m3 l, by rw [okE]; exact ⟨k2, k1⟩, rfl⟩
theorem stmts_data {n : Nat} (ih : ∀ k < n, ∀ us, DatF Try.prog k 26 us → ∃ e : St, okS e ∧ us = cellsOf (encS e)) {us : List Value} (h : DatF Try.prog n 24 us) : ∃ l : List St, okSs l ∧ l.length ≤ maxI ∧ us = [imS (encSs l)] := by
  obtain ⟨k, rows, rfl, rfl, hl, hr⟩ := datF_row Try.underlying24 h
  obtain ⟨l, h1, rfl⟩ := all_map (p := okS) (g := fun e => cellsOf (encS e)) rows fun r hr' => ih k (by omega) r (hr r hr').2
  refine ⟨l, okSs_of h1, by rw [List.length_map] at hl; exact hl, ?_⟩
  rw [List.map_map, encSs_map]
  congr 2
  exact List.map_congr_left fun e _ => pack_S e
theorem stmt_data : ∀ (n : Nat) (us : List Value), DatF Try.prog n 26 us → ∃ e : St, okS e ∧ us = cellsOf (encS e) := by
  intro n
  induction n using Nat.strongRecOn with
  | ind n ih =>
    intro us h
    cases n with
    | zero => exact h.elim
    | succ n =>
      unfold DatF at h
      rw [Try.underlying26] at h
      obtain ⟨hl, h⟩ := h
      rw [cells_Stmt] at hl
      obtain ⟨c0, c1, c2, c3, c4, c5, rfl⟩ : ∃ c0 c1 c2 c3 c4 c5, us = [c0, c1, c2, c3, c4, c5] := by match us, hl with | [c0, c1, c2, c3, c4, c5], _ => exact ⟨c0, c1, c2, c3, c4, c5, rfl⟩
      have h0 := h _ (List.mem_cons_self ..)
      have h1 := h _ (List.mem_cons_of_mem _ (List.mem_cons_self ..))
      have h2 := h _ (List.mem_cons_of_mem _ (List.mem_cons_of_mem _ (List.mem_cons_self ..)))
      have h3 := h _ (List.mem_cons_of_mem _ (List.mem_cons_of_mem _ (List.mem_cons_of_mem _ (List.mem_cons_self ..))))
      have h4 := h _ (List.mem_cons_of_mem _ (List.mem_cons_of_mem _ (List.mem_cons_of_mem _ (List.mem_cons_of_mem _ (List.mem_cons_self ..)))))
      have h5 := h _ (List.mem_cons_of_mem _ (List.mem_cons_of_mem _ (List.mem_cons_of_mem _ (List.mem_cons_of_mem _ (List.mem_cons_of_mem _ (List.mem_cons_self ..))))))
      obtain ⟨m0, e0⟩ := datF_int Try.underlying22 h0
      obtain ⟨m1, e1⟩ := datF_int Try.underlying3 h1
      obtain ⟨xs, k1, k2, e2⟩ := exprs_data (fun k _ => expr_data k) h2
      obtain ⟨th, k3, k4, e3⟩ := stmts_data (fun k hk => ih k (by omega)) h3
      obtain ⟨el, k5, k6, e4⟩ := stmts_data (fun k hk => ih k (by omega)) h4
      obtain ⟨m5, e5⟩ := datF_int Try.underlying3 h5
      replace e0 : [c0] = _ := e0
      replace e1 : [c1] = _ := e1
      replace e2 : [c2] = _ := e2
      replace e3 : [c3] = _ := e3
      replace e4 : [c4] = _ := e4
      replace e5 : [c5] = _ := e5
      simp only [List.cons.injEq, and_true] at e0 e1 e2 e3 e4 e5
      subst e0 e1 e2 e3 e4 e5
      exact ⟨.mk m0 m1 xs th el m5, by rw [okS]; exact ⟨k2, k1, k4, k3, k6, k5⟩, rfl⟩
/-- A statement that came in. -/
theorem open_stmt {H : Type} {enc : TypeId × Value → H} {W : World} {v : Value} {d : DataW H} {p : List MemPlace} {b0 base : Nat} {r : Reach} {held : Bool} (hv : Value.okWide Try.prog W r b0 26 v) (h : DataW.Trod enc Try.prog W base (fun _ => true) held 26 v d p) : ∃ s : St, okS s ∧ VR (bz W) (encS s) v := by
  obtain ⟨cs, rfl, _⟩ := okWide_struct Try.underlying26 hv
  obtain ⟨fuel, hf⟩ := h
  obtain ⟨us, h1, h2, _⟩ := open_data tysS_ok fuel _ _ _ (List.mem_cons_self ..) hf
  obtain ⟨s, h3, rfl⟩ := stmt_data fuel us h1
  refine ⟨s, h3, ?_⟩
  obtain ⟨l⟩ := cs
  cases s with
  | mk k a xs th el no => exact .agg _ _ h2.1 h2.2

end Go.Proofs.Ythbhnbnlbhpooaa
