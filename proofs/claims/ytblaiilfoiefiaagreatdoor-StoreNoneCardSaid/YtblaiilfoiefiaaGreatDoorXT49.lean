import Derived.Handed
import Derived.Test.YtblaiilfoiefiaaGreatDoorXT01
import Derived.Test.YtblaiilfoiefiaaGreatDoorXT48
namespace Go.Proofs.YtblaiilfoiefiaaGreatDoor
open Go Go.ChangeShapes Go.WideShapes Go.ChangeAt Go.RowKit Go.Joins U
set_option linter.unusedVariables false
set_option linter.unusedSimpArgs false
set_option maxRecDepth 100000
def tysP : List TypeId := [27, 136, 122, 23, 24, 80, 126, 25, 78, 3, 2, 9, 4, 96, 123, 77, 124, 22, 100, 95, 98, 102]
theorem tysP_ok : okTys Tryz.prog tysP = true := by kernel_rfl
theorem cells_Expr : Tryz.prog.cellsOf 126 = 5 := by kernel_rfl
theorem cells_Stmt : Tryz.prog.cellsOf 80 = 6 := by kernel_rfl
theorem cells_Input : Tryz.prog.cellsOf 136 = 5 := by kernel_rfl
theorem cells_Proc : Tryz.prog.cellsOf 122 = 3 := by kernel_rfl
theorem cells_Program : Tryz.prog.cellsOf 27 = 5 := by kernel_rfl
theorem cells_Inter : Tryz.prog.cellsOf 95 = 2 := by kernel_rfl
theorem cells_Cong : Tryz.prog.cellsOf 98 = 2 := by kernel_rfl
theorem cells_Value : Tryz.prog.cellsOf 100 = 4 := by kernel_rfl
theorem cells_Act : Tryz.prog.cellsOf 102 = 9 := by kernel_rfl
theorem datF_intw {t : TypeId} (ht : Tryz.prog.underlying t = some (.int .i64)) {n : Nat} {us : List Value} (h : DatF Tryz.prog n t us) : ∃ m, inI m ∧ us = [.int .i64 m] := by
  cases n with
  | zero => exact h.elim
  | succ n =>
    unfold DatF at h
    rw [ht] at h
    obtain ⟨m, h, hw⟩ := h
    simp only [Lit.wf, Bool.and_eq_true, decide_eq_true_eq] at hw
    exact ⟨m, hw, h⟩
theorem okEs_of : ∀ {l : List Ex}, (∀ e ∈ l, okE e) → okEs l
  | [], _ => trivial
  | e :: l, h => ⟨h e (by simp), okEs_of fun x hx => h x (List.mem_cons_of_mem _ hx)⟩
theorem okSs_of : ∀ {l : List St}, (∀ e ∈ l, okS e) → okSs l
  | [], _ => trivial
  | e :: l, h => ⟨h e (by simp), okSs_of fun x hx => h x (List.mem_cons_of_mem _ hx)⟩
theorem pack_E (e : Ex) : packV Tryz.prog 126 (cellsOf (encE e)) = encE e := by
  unfold packV
  rw [Tryz.underlying126]
  cases e; rfl
theorem pack_S (e : St) : packV Tryz.prog 80 (cellsOf (encS e)) = encS e := by
  unfold packV
  rw [Tryz.underlying80]
  cases e; rfl
theorem exprs_data {n : Nat} (ih : ∀ k < n, ∀ us, DatF Tryz.prog k 126 us → ∃ e : Ex, okE e ∧ us = cellsOf (encE e)) {us : List Value} (h : DatF Tryz.prog n 78 us) : ∃ l : List Ex, okEs l ∧ l.length ≤ maxI ∧ us = [imS (encEs l)] := by
  obtain ⟨k, rows, rfl, rfl, hl, hr⟩ := datF_row Tryz.underlying78 h
  obtain ⟨l, h1, rfl⟩ := all_map (p := okE) (g := fun e => cellsOf (encE e)) rows fun r hr' => ih k (by omega) r (hr r hr').2
  refine ⟨l, okEs_of h1, by rw [List.length_map] at hl; exact hl, ?_⟩
  rw [List.map_map, encEs_map]
  congr 2
  exact List.map_congr_left fun e _ => pack_E e
theorem expr_data : ∀ (n : Nat) (us : List Value), DatF Tryz.prog n 126 us → ∃ e : Ex, okE e ∧ us = cellsOf (encE e) := by
  intro n
  induction n using Nat.strongRecOn with
  | ind n ih =>
    intro us h
    cases n with
    | zero => exact h.elim
    | succ n =>
      unfold DatF at h
      rw [Tryz.underlying126] at h
      obtain ⟨hl, h⟩ := h
      rw [cells_Expr] at hl
      obtain ⟨c0, c1, c2, c3, c4, rfl⟩ : ∃ c0 c1 c2 c3 c4, us = [c0, c1, c2, c3, c4] := by match us, hl with | [c0, c1, c2, c3, c4], _ => exact ⟨c0, c1, c2, c3, c4, rfl⟩
      have h0 := h _ (List.mem_cons_self ..)
      have h1 := h _ (List.mem_cons_of_mem _ (List.mem_cons_self ..))
      have h2 := h _ (List.mem_cons_of_mem _ (List.mem_cons_of_mem _ (List.mem_cons_self ..)))
      have h3 := h _ (List.mem_cons_of_mem _ (List.mem_cons_of_mem _ (List.mem_cons_of_mem _ (List.mem_cons_self ..))))
      have h4 := h _ (List.mem_cons_of_mem _ (List.mem_cons_of_mem _ (List.mem_cons_of_mem _ (List.mem_cons_of_mem _ (List.mem_cons_self ..)))))
      obtain ⟨m0, e0⟩ := datF_int Tryz.underlying123 h0
      obtain ⟨m1, e1⟩ := datF_int Tryz.underlying2 h1
      obtain ⟨m2, e2⟩ := datF_int Tryz.underlying3 h2
      obtain ⟨m3, e3⟩ := datF_int Tryz.underlying124 h3
      obtain ⟨l, k1, k2, e4⟩ := exprs_data (fun k hk => ih k (by omega)) h4
      replace e0 : [c0] = _ := e0
      replace e1 : [c1] = _ := e1
      replace e2 : [c2] = _ := e2
      replace e3 : [c3] = _ := e3
      replace e4 : [c4] = _ := e4
      simp only [List.cons.injEq, and_true] at e0 e1 e2 e3 e4
      subst e0 e1 e2 e3 e4
      exact ⟨.mk m0 m1 m2 m3 l, by rw [okE]; exact ⟨k2, k1⟩, rfl⟩
theorem stmts_data {n : Nat} (ih : ∀ k < n, ∀ us, DatF Tryz.prog k 80 us → ∃ e : St, okS e ∧ us = cellsOf (encS e)) {us : List Value} (h : DatF Tryz.prog n 25 us) : ∃ l : List St, okSs l ∧ l.length ≤ maxI ∧ us = [imS (encSs l)] := by
  obtain ⟨k, rows, rfl, rfl, hl, hr⟩ := datF_row Tryz.underlying25 h
  obtain ⟨l, h1, rfl⟩ := all_map (p := okS) (g := fun e => cellsOf (encS e)) rows fun r hr' => ih k (by omega) r (hr r hr').2
  refine ⟨l, okSs_of h1, by rw [List.length_map] at hl; exact hl, ?_⟩
  rw [List.map_map, encSs_map]
  congr 2
  exact List.map_congr_left fun e _ => pack_S e
theorem stmt_data : ∀ (n : Nat) (us : List Value), DatF Tryz.prog n 80 us → ∃ e : St, okS e ∧ us = cellsOf (encS e) := by
  intro n
  induction n using Nat.strongRecOn with
  | ind n ih =>
    intro us h
    cases n with
    | zero => exact h.elim
    | succ n =>
      unfold DatF at h
      rw [Tryz.underlying80] at h
      obtain ⟨hl, h⟩ := h
      rw [cells_Stmt] at hl
      obtain ⟨c0, c1, c2, c3, c4, c5, rfl⟩ : ∃ c0 c1 c2 c3 c4 c5, us = [c0, c1, c2, c3, c4, c5] := by match us, hl with | [c0, c1, c2, c3, c4, c5], _ => exact ⟨c0, c1, c2, c3, c4, c5, rfl⟩
      have h0 := h _ (List.mem_cons_self ..)
      have h1 := h _ (List.mem_cons_of_mem _ (List.mem_cons_self ..))
      have h2 := h _ (List.mem_cons_of_mem _ (List.mem_cons_of_mem _ (List.mem_cons_self ..)))
      have h3 := h _ (List.mem_cons_of_mem _ (List.mem_cons_of_mem _ (List.mem_cons_of_mem _ (List.mem_cons_self ..))))
      have h4 := h _ (List.mem_cons_of_mem _ (List.mem_cons_of_mem _ (List.mem_cons_of_mem _ (List.mem_cons_of_mem _ (List.mem_cons_self ..)))))
      have h5 := h _ (List.mem_cons_of_mem _ (List.mem_cons_of_mem _ (List.mem_cons_of_mem _ (List.mem_cons_of_mem _ (List.mem_cons_of_mem _ (List.mem_cons_self ..))))))
      obtain ⟨m0, e0⟩ := datF_int Tryz.underlying77 h0
      obtain ⟨m1, e1⟩ := datF_int Tryz.underlying3 h1
      obtain ⟨xs, k1, k2, e2⟩ := exprs_data (fun k _ => expr_data k) h2
      obtain ⟨th, k3, k4, e3⟩ := stmts_data (fun k hk => ih k (by omega)) h3
      obtain ⟨el, k5, k6, e4⟩ := stmts_data (fun k hk => ih k (by omega)) h4
      obtain ⟨m5, e5⟩ := datF_int Tryz.underlying3 h5
      replace e0 : [c0] = _ := e0
      replace e1 : [c1] = _ := e1
      replace e2 : [c2] = _ := e2
      replace e3 : [c3] = _ := e3
      replace e4 : [c4] = _ := e4
      replace e5 : [c5] = _ := e5
      simp only [List.cons.injEq, and_true] at e0 e1 e2 e3 e4 e5
      subst e0 e1 e2 e3 e4 e5
      exact ⟨.mk m0 m1 xs th el m5, by rw [okS]; exact ⟨k2, k1, k4, k3, k6, k5⟩, rfl⟩
theorem ints_data {n : Nat} {us : List Value} (h : DatF Tryz.prog n 22 us) : ∃ l : List Int, l.length ≤ maxI ∧ us = [imS (iL l)] := by
  obtain ⟨k, rows, rfl, rfl, hl, hr⟩ := datF_row Tryz.underlying22 h
  obtain ⟨l, _, rfl⟩ := all_map (p := fun _ => True) (g := fun m : Int => [Value.int .i64 m]) rows fun r hr' => by
    obtain ⟨m, hm⟩ := datF_int Tryz.underlying3 (hr r hr').2
    exact ⟨m, trivial, hm⟩
  refine ⟨l, by rw [List.length_map] at hl; exact hl, ?_⟩
  rw [List.map_map]
  congr 2
theorem input_data {n : Nat} {us : List Value} (h : DatF Tryz.prog n 136 us) : ∃ x : In13, (inI x.lo ∧ inI x.hi) ∧ us = cellsOf (encIn x) := by
  cases n with
  | zero => exact h.elim
  | succ n =>
    unfold DatF at h
    rw [Tryz.underlying136] at h
    obtain ⟨hl, h⟩ := h
    rw [cells_Input] at hl
    obtain ⟨c0, c1, c2, c3, c4, rfl⟩ : ∃ c0 c1 c2 c3 c4, us = [c0, c1, c2, c3, c4] := by match us, hl with | [c0, c1, c2, c3, c4], _ => exact ⟨c0, c1, c2, c3, c4, rfl⟩
    have h0 := h _ (List.mem_cons_self ..)
    have h1 := h _ (List.mem_cons_of_mem _ (List.mem_cons_self ..))
    have h2 := h _ (List.mem_cons_of_mem _ (List.mem_cons_of_mem _ (List.mem_cons_self ..)))
    have h3 := h _ (List.mem_cons_of_mem _ (List.mem_cons_of_mem _ (List.mem_cons_of_mem _ (List.mem_cons_self ..))))
    have h4 := h _ (List.mem_cons_of_mem _ (List.mem_cons_of_mem _ (List.mem_cons_of_mem _ (List.mem_cons_of_mem _ (List.mem_cons_self ..)))))
    obtain ⟨m0, e0, k0⟩ := datF_str Tryz.underlying9 h0
    obtain ⟨m1, e1⟩ := datF_int Tryz.underlying3 h1
    obtain ⟨m2, k2, e2⟩ := datF_intw Tryz.underlying2 h2
    obtain ⟨m3, k3, e3⟩ := datF_intw Tryz.underlying2 h3
    obtain ⟨m4, e4⟩ := datF_bool Tryz.underlying4 h4
    replace e0 : [c0] = _ := e0
    replace e1 : [c1] = _ := e1
    replace e2 : [c2] = _ := e2
    replace e3 : [c3] = _ := e3
    replace e4 : [c4] = _ := e4
    simp only [cellsOf, encV, List.cons.injEq, and_true] at e0 e1 e2 e3 e4
    subst e0 e1 e2 e3 e4
    exact ⟨⟨m0, m1, m2, m3, m4⟩, ⟨k2, k3⟩, rfl⟩
theorem inputs_data {n : Nat} {us : List Value} (h : DatF Tryz.prog n 23 us) : ∃ l : List In13, (l.length ≤ maxI ∧ ∀ x ∈ l, inI x.lo ∧ inI x.hi) ∧ us = [imS (inL l)] := by
  obtain ⟨k, rows, rfl, rfl, hl, hr⟩ := datF_row Tryz.underlying23 h
  obtain ⟨l, h1, rfl⟩ := all_map (p := fun x : In13 => inI x.lo ∧ inI x.hi) (g := fun b => cellsOf (encIn b)) rows fun r hr' => input_data (hr r hr').2
  refine ⟨l, ⟨by rw [List.length_map] at hl; exact hl, h1⟩, ?_⟩
  rw [List.map_map, inL_map]
  congr 2
theorem proc_data {n : Nat} {us : List Value} (h : DatF Tryz.prog n 122 us) : ∃ x : Pr13, (okSs x.body ∧ x.body.length ≤ maxI ∧ x.ps.length ≤ maxI) ∧ us = cellsOf (encPr x) := by
  cases n with
  | zero => exact h.elim
  | succ n =>
    unfold DatF at h
    rw [Tryz.underlying122] at h
    obtain ⟨hl, h⟩ := h
    rw [cells_Proc] at hl
    obtain ⟨c0, c1, c2, rfl⟩ : ∃ c0 c1 c2, us = [c0, c1, c2] := by match us, hl with | [c0, c1, c2], _ => exact ⟨c0, c1, c2, rfl⟩
    have h0 := h _ (List.mem_cons_self ..)
    have h1 := h _ (List.mem_cons_of_mem _ (List.mem_cons_self ..))
    have h2 := h _ (List.mem_cons_of_mem _ (List.mem_cons_of_mem _ (List.mem_cons_self ..)))
    obtain ⟨m0, e0, k0⟩ := datF_str Tryz.underlying9 h0
    obtain ⟨m1, k1, e1⟩ := ints_data h1
    obtain ⟨m2, k2, k3, e2⟩ := stmts_data (fun k _ => stmt_data k) h2
    replace e0 : [c0] = _ := e0
    replace e1 : [c1] = _ := e1
    replace e2 : [c2] = _ := e2
    simp only [cellsOf, encV, List.cons.injEq, and_true] at e0 e1 e2
    subst e0 e1 e2
    exact ⟨⟨m0, m1, m2⟩, ⟨k2, k3, k1⟩, rfl⟩
theorem procs_data {n : Nat} {us : List Value} (h : DatF Tryz.prog n 24 us) : ∃ l : List Pr13, (l.length ≤ maxI ∧ ∀ x ∈ l, okSs x.body ∧ x.body.length ≤ maxI ∧ x.ps.length ≤ maxI) ∧ us = [imS (prL l)] := by
  obtain ⟨k, rows, rfl, rfl, hl, hr⟩ := datF_row Tryz.underlying24 h
  obtain ⟨l, h1, rfl⟩ := all_map (p := fun x : Pr13 => okSs x.body ∧ x.body.length ≤ maxI ∧ x.ps.length ≤ maxI) (g := fun b => cellsOf (encPr b)) rows fun r hr' => proc_data (hr r hr').2
  refine ⟨l, ⟨by rw [List.length_map] at hl; exact hl, h1⟩, ?_⟩
  rw [List.map_map, prL_map]
  congr 2
theorem program_data {n : Nat} {us : List Value} (h : DatF Tryz.prog n 27 us) : ∃ p : Pg, (OkP p ∧ ∀ x ∈ p.ins, inI x.lo ∧ inI x.hi) ∧ us = cellsOf (encP p) := by
  cases n with
  | zero => exact h.elim
  | succ n =>
    unfold DatF at h
    rw [Tryz.underlying27] at h
    obtain ⟨hl, h⟩ := h
    rw [cells_Program] at hl
    obtain ⟨c0, c1, c2, c3, c4, rfl⟩ : ∃ c0 c1 c2 c3 c4, us = [c0, c1, c2, c3, c4] := by match us, hl with | [c0, c1, c2, c3, c4], _ => exact ⟨c0, c1, c2, c3, c4, rfl⟩
    have h0 := h _ (List.mem_cons_self ..)
    have h1 := h _ (List.mem_cons_of_mem _ (List.mem_cons_self ..))
    have h2 := h _ (List.mem_cons_of_mem _ (List.mem_cons_of_mem _ (List.mem_cons_self ..)))
    have h3 := h _ (List.mem_cons_of_mem _ (List.mem_cons_of_mem _ (List.mem_cons_of_mem _ (List.mem_cons_self ..))))
    have h4 := h _ (List.mem_cons_of_mem _ (List.mem_cons_of_mem _ (List.mem_cons_of_mem _ (List.mem_cons_of_mem _ (List.mem_cons_self ..)))))
    obtain ⟨m0, e0⟩ := datF_int Tryz.underlying3 h0
    obtain ⟨m1, k1, e1⟩ := ints_data h1
    obtain ⟨m2, k2, e2⟩ := inputs_data h2
    obtain ⟨m3, k3, e3⟩ := procs_data h3
    obtain ⟨m4, k4, k5, e4⟩ := stmts_data (fun k _ => stmt_data k) h4
    replace e0 : [c0] = _ := e0
    replace e1 : [c1] = _ := e1
    replace e2 : [c2] = _ := e2
    replace e3 : [c3] = _ := e3
    replace e4 : [c4] = _ := e4
    simp only [cellsOf, encV, List.cons.injEq, and_true] at e0 e1 e2 e3 e4
    subst e0 e1 e2 e3 e4
    exact ⟨⟨m0, m1, m2, m3, m4⟩, ⟨⟨k1, k2.1, k3.1, k3.2, k4, k5⟩, k2.2⟩, rfl⟩
theorem inter_data {n : Nat} {us : List Value} (h : DatF Tryz.prog n 95 us) : ∃ a b, us = [.int .i64 a, .int .i64 b] := by
  cases n with
  | zero => exact h.elim
  | succ n =>
    unfold DatF at h
    rw [Tryz.underlying95] at h
    obtain ⟨hl, h⟩ := h
    rw [cells_Inter] at hl
    obtain ⟨c0, c1, rfl⟩ : ∃ c0 c1, us = [c0, c1] := by match us, hl with | [c0, c1], _ => exact ⟨c0, c1, rfl⟩
    have h0 := h _ (List.mem_cons_self ..)
    have h1 := h _ (List.mem_cons_of_mem _ (List.mem_cons_self ..))
    obtain ⟨m0, e0⟩ := datF_int Tryz.underlying2 h0
    obtain ⟨m1, e1⟩ := datF_int Tryz.underlying2 h1
    replace e0 : [c0] = _ := e0
    replace e1 : [c1] = _ := e1
    simp only [cellsOf, encV, List.cons.injEq, and_true] at e0 e1
    subst e0 e1
    exact ⟨m0, m1, rfl⟩
theorem cong_data {n : Nat} {us : List Value} (h : DatF Tryz.prog n 98 us) : ∃ a b, us = [.int .u64 a, .int .u64 b] := by
  cases n with
  | zero => exact h.elim
  | succ n =>
    unfold DatF at h
    rw [Tryz.underlying98] at h
    obtain ⟨hl, h⟩ := h
    rw [cells_Cong] at hl
    obtain ⟨c0, c1, rfl⟩ : ∃ c0 c1, us = [c0, c1] := by match us, hl with | [c0, c1], _ => exact ⟨c0, c1, rfl⟩
    have h0 := h _ (List.mem_cons_self ..)
    have h1 := h _ (List.mem_cons_of_mem _ (List.mem_cons_self ..))
    obtain ⟨m0, e0⟩ := datF_int Tryz.underlying96 h0
    obtain ⟨m1, e1⟩ := datF_int Tryz.underlying96 h1
    replace e0 : [c0] = _ := e0
    replace e1 : [c1] = _ := e1
    simp only [cellsOf, encV, List.cons.injEq, and_true] at e0 e1
    subst e0 e1
    exact ⟨m0, m1, rfl⟩
theorem value_data {n : Nat} {us : List Value} (h : DatF Tryz.prog n 100 us) : ∃ v : VZ, us = cellsOf (encV v) := by
  cases n with
  | zero => exact h.elim
  | succ n =>
    unfold DatF at h
    rw [Tryz.underlying100] at h
    obtain ⟨hl, h⟩ := h
    rw [cells_Value] at hl
    obtain ⟨c0, c1, c2, c3, rfl⟩ : ∃ c0 c1 c2 c3, us = [c0, c1, c2, c3] := by match us, hl with | [c0, c1, c2, c3], _ => exact ⟨c0, c1, c2, c3, rfl⟩
    have h0 := h _ (List.mem_cons_self ..)
    have h1 := h _ (List.mem_cons_of_mem _ (List.mem_cons_self ..))
    obtain ⟨a, b, e0⟩ := inter_data h0
    obtain ⟨m, r, e1⟩ := cong_data h1
    replace e0 : [c0, c1] = _ := e0
    replace e1 : [c2, c3] = _ := e1
    simp only [cellsOf, encV, List.cons.injEq, and_true] at e0 e1
    obtain ⟨rfl, rfl⟩ := e0
    obtain ⟨rfl, rfl⟩ := e1
    exact ⟨⟨a, b, m, r⟩, rfl⟩
theorem act_data {n : Nat} {us : List Value} (h : DatF Tryz.prog n 102 us) : ∃ a : Act25, us = cellsOf (encA a) := by
  cases n with
  | zero => exact h.elim
  | succ n =>
    unfold DatF at h
    rw [Tryz.underlying102] at h
    obtain ⟨hl, h⟩ := h
    rw [cells_Act] at hl
    obtain ⟨c0, c1, c2, c3, c4, c5, c6, c7, c8, rfl⟩ : ∃ c0 c1 c2 c3 c4 c5 c6 c7 c8, us = [c0, c1, c2, c3, c4, c5, c6, c7, c8] := by match us, hl with | [c0, c1, c2, c3, c4, c5, c6, c7, c8], _ => exact ⟨c0, c1, c2, c3, c4, c5, c6, c7, c8, rfl⟩
    have h0 := h _ (List.mem_cons_self ..)
    have h1 := h _ (List.mem_cons_of_mem _ (List.mem_cons_self ..))
    have h2 := h _ (List.mem_cons_of_mem _ (List.mem_cons_of_mem _ (List.mem_cons_self ..)))
    have h3 := h _ (List.mem_cons_of_mem _ (List.mem_cons_of_mem _ (List.mem_cons_of_mem _ (List.mem_cons_self ..))))
    have h4 := h _ (List.mem_cons_of_mem _ (List.mem_cons_of_mem _ (List.mem_cons_of_mem _ (List.mem_cons_of_mem _ (List.mem_cons_self ..)))))
    have h5 := h _ (List.mem_cons_of_mem _ (List.mem_cons_of_mem _ (List.mem_cons_of_mem _ (List.mem_cons_of_mem _ (List.mem_cons_of_mem _ (List.mem_cons_self ..))))))
    obtain ⟨m0, e0⟩ := datF_int Tryz.underlying3 h0
    obtain ⟨m1, e1⟩ := datF_int Tryz.underlying3 h1
    obtain ⟨v, e2⟩ := value_data h2
    obtain ⟨b, e3⟩ := datF_bool Tryz.underlying4 h3
    obtain ⟨m4, k4, e4⟩ := ints_data h4
    obtain ⟨m5, k5, e5⟩ := ints_data h5
    replace e0 : [c0] = _ := e0
    replace e1 : [c1] = _ := e1
    replace e2 : [c2, c3, c4, c5] = _ := e2
    replace e3 : [c6] = _ := e3
    replace e4 : [c7] = _ := e4
    replace e5 : [c8] = _ := e5
    simp only [cellsOf, encV, List.cons.injEq, and_true] at e0 e1 e2 e3 e4 e5
    obtain ⟨rfl, rfl, rfl, rfl⟩ := e2
    subst e0 e1 e3 e4 e5
    exact ⟨⟨m0, m1, v, b, m4, m5⟩, rfl⟩
theorem open_program {H : Type} {enc : TypeId × Value → H} {W : World} {v : Value} {d : DataW H} {p : List MemPlace} {b0 base : Nat} {r : Reach} {held : Bool} (hv : Value.okWide Tryz.prog W r b0 27 v) (h : DataW.Trod enc Tryz.prog W base (fun _ => true) held 27 v d p) : ∃ s : Pg, (OkP s ∧ ∀ x ∈ s.ins, inI x.lo ∧ inI x.hi) ∧ VR (bz W) (encP s) v := by
  obtain ⟨cs, rfl, _⟩ := okWide_struct Tryz.underlying27 hv
  obtain ⟨fuel, hf⟩ := h
  obtain ⟨us, h1, h2, _⟩ := open_data tysP_ok fuel _ _ _ (by decide) hf
  obtain ⟨s, h3, rfl⟩ := program_data h1
  refine ⟨s, h3, ?_⟩
  obtain ⟨l⟩ := cs
  exact .agg _ _ h2.1 h2.2
theorem open_act {H : Type} {enc : TypeId × Value → H} {W : World} {v : Value} {d : DataW H} {p : List MemPlace} {b0 base : Nat} {r : Reach} {held : Bool} (hv : Value.okWide Tryz.prog W r b0 102 v) (h : DataW.Trod enc Tryz.prog W base (fun _ => true) held 102 v d p) : ∃ a : Act25, VR (bz W) (encA a) v := by
  obtain ⟨cs, rfl, _⟩ := okWide_struct Tryz.underlying102 hv
  obtain ⟨fuel, hf⟩ := h
  obtain ⟨us, h1, h2, _⟩ := open_data tysP_ok fuel _ _ _ (by decide) hf
  obtain ⟨a, rfl⟩ := act_data h1
  refine ⟨a, ?_⟩
  obtain ⟨l⟩ := cs
  exact .agg _ _ h2.1 h2.2
end Go.Proofs.YtblaiilfoiefiaaGreatDoor
