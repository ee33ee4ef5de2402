import Derived.Handed
import Derived.Test.YtphbcejnnoijfaaKG19
import Derived.Test.YtphbcejnnoijfaaKG20
import Derived.Test.YtphbcejnnoijfaaKG37
namespace Go.Proofs.Ytphbcejnnoijfaa
open Go Go.ChangeShapes Go.WideShapes Go.ChangeAt Go.RowKit Go.Joins U
set_option linter.unusedVariables false
set_option linter.unusedSimpArgs false
set_option maxRecDepth 100000
def tys6 : List TypeId := [25, 60, 22, 65, 117, 23, 63, 3, 2, 9, 33, 114, 62, 58, 115, 45]
theorem tys6_ok : okTys Try.prog tys6 = true := by kernel_rfl
theorem cells_Expr : Try.prog.cellsOf 117 = 7 := by kernel_rfl
theorem cells_Stmt : Try.prog.cellsOf 65 = 7 := by kernel_rfl
theorem cells_Decl : Try.prog.cellsOf 60 = 9 := by kernel_rfl
theorem cells_Program : Try.prog.cellsOf 25 = 2 := by kernel_rfl
theorem cells_Pos : Try.prog.cellsOf 45 = 2 := by kernel_rfl
theorem mapf_cons {L : List (Field × Nat)} {f : Field} {l : List Field} (h : L.map (·.1) = f :: l) : ∃ b L', L = (f, b) :: L' ∧ L'.map (·.1) = l := by
  cases L with
  | nil => cases h
  | cons q L =>
    obtain ⟨g, b⟩ := q
    rw [List.map_cons] at h
    cases h
    exact ⟨b, L, rfl, rfl⟩
theorem mapf_nil {L : List (Field × Nat)} (h : L.map (·.1) = []) : L = [] := List.map_eq_nil_iff.1 h
theorem datB_int {t : TypeId} {k : IntKind} (ht : Try.prog.underlying t = some (.int k)) {n b : Nat} {us : List Value} (h : DatB Try.prog n t us b) : ∃ m, us = [.int k m] := by
  cases n with
  | zero => exact h.elim
  | succ n =>
    unfold DatB at h
    rw [ht] at h
    obtain ⟨m, h, _⟩ := h
    exact ⟨m, h⟩
theorem datB_str {t : TypeId} (ht : Try.prog.underlying t = some .string) {n b : Nat} {us : List Value} (h : DatB Try.prog n t us b) : ∃ s : ByteArray, us = [.string s] := by
  cases n with
  | zero => exact h.elim
  | succ n =>
    unfold DatB at h
    rw [ht] at h
    obtain ⟨s, h, _⟩ := h
    exact ⟨s, h⟩
theorem datB_row {t e : TypeId} (ht : Try.prog.underlying t = some (.slice e)) {n b : Nat} {us : List Value} (h : DatB Try.prog n t us b) : ∃ (k : Nat) (rows : List (List Value × Nat)), n = k + 1 ∧ us = [imS ((rows.map (·.1)).map (packV Try.prog e))] ∧ (∀ r ∈ rows, r.1.length = Try.prog.cellsOf e ∧ DatB Try.prog k e r.1 r.2) ∧ (rows.map (·.2)).sum ≤ b := by
  cases n with
  | zero => exact h.elim
  | succ n =>
    unfold DatB at h
    rw [ht] at h
    obtain ⟨rows, h1, _, h2, h3⟩ := h
    exact ⟨n, rows, rfl, h1, h2, h3⟩
theorem sum_two {α : Type} (g : α → Nat) : ∀ l : List α, (l.map fun e => 2 * g e).sum = 2 * (l.map g).sum
  | [] => rfl
  | e :: l => by rw [List.map_cons, List.sum_cons, sum_two g l, List.map_cons, List.sum_cons]; omega
theorem szAs_sum : ∀ l : List AE, szAs l = (l.map szA).sum
  | [] => rfl
  | e :: l => by rw [szAs, szAs_sum l, List.map_cons, List.sum_cons]
theorem szTs_sum : ∀ l : List AS6, szTs l = (l.map szT).sum
  | [] => rfl
  | e :: l => by rw [szTs, szTs_sum l, List.map_cons, List.sum_cons]
theorem pack_E (e : AE) : packV Try.prog 117 (cellsOf (encA e)) = encA e := by
  unfold packV
  rw [Try.underlying117]
  cases e; rfl
theorem pack_S (e : AS6) : packV Try.prog 65 (cellsOf (encT e)) = encT e := by
  unfold packV
  rw [Try.underlying65]
  cases e; rfl
theorem pos_dataB {n b : Nat} {us : List Value} (h : DatB Try.prog n 45 us b) : ∃ x y, us = [.int .i64 x, .int .i64 y] := by
  cases n with
  | zero => exact h.elim
  | succ n =>
    unfold DatB at h
    rw [Try.underlying45] at h
    obtain ⟨hl, L0, hL0, h, hb⟩ := h
    rw [cells_Pos] at hl
    obtain ⟨c0, c1, rfl⟩ : ∃ c0 c1, us = [c0, c1] := by match us, hl with | [c0, c1], _ => exact ⟨c0, c1, rfl⟩
    obtain ⟨b0, L1, rfl, hL1⟩ := mapf_cons hL0
    obtain ⟨b1, L2, rfl, hL2⟩ := mapf_cons hL1
    obtain rfl := mapf_nil hL2
    obtain ⟨g0, h0⟩ := h _ (List.mem_cons_self ..)
    obtain ⟨g1, h1⟩ := h _ (List.mem_cons_of_mem _ (List.mem_cons_self ..))
    simp only [List.map_cons, List.map_nil, List.sum_cons, List.sum_nil] at hb
    obtain ⟨x, e0⟩ := datB_int Try.underlying3 h0
    obtain ⟨y, e1⟩ := datB_int Try.underlying3 h1
    replace e0 : [c0] = _ := e0
    replace e1 : [c1] = _ := e1
    simp only [List.cons.injEq, and_true] at e0 e1
    subst e0 e1
    exact ⟨x, y, rfl⟩
theorem exprs_dataB {n b : Nat} (ih : ∀ k < n, ∀ us b, DatB Try.prog k 117 us b → ∃ e : AE, 2 * szA e ≤ b ∧ us = cellsOf (encA e)) {us : List Value} (h : DatB Try.prog n 63 us b) : ∃ l : List AE, 2 * szAs l ≤ b ∧ us = [imS (encAs l)] := by
  obtain ⟨k, rows, rfl, rfl, hr, hs⟩ := datB_row Try.underlying63 h
  obtain ⟨l, _, h2, h3⟩ := all_mapB (p := fun _ => True) (sz := fun e => 2 * szA e) (g := fun e => cellsOf (encA e)) rows fun r hr' => by
    obtain ⟨e, h1, h2⟩ := ih k (by omega) r.1 r.2 (hr r hr').2
    exact ⟨e, ⟨trivial, h1⟩, h2⟩
  refine ⟨l, by rw [szAs_sum, ← sum_two]; omega, ?_⟩
  rw [h2, List.map_map, encAs_map]
  congr 2
  exact List.map_congr_left fun e _ => pack_E e
theorem expr_dataB : ∀ (n : Nat) (us : List Value) (b : Nat), DatB Try.prog n 117 us b → ∃ e : AE, 2 * szA e ≤ b ∧ us = cellsOf (encA e) := by
  intro n
  induction n using Nat.strongRecOn with
  | ind n ih =>
    intro us b h
    cases n with
    | zero => exact h.elim
    | succ n =>
      unfold DatB at h
      rw [Try.underlying117] at h
      obtain ⟨hl, L0, hL0, h, hb⟩ := h
      rw [cells_Expr] at hl
      obtain ⟨c0, c1, c2, c3, c4, c5, c6, rfl⟩ : ∃ c0 c1 c2 c3 c4 c5 c6, us = [c0, c1, c2, c3, c4, c5, c6] := by match us, hl with | [c0, c1, c2, c3, c4, c5, c6], _ => exact ⟨c0, c1, c2, c3, c4, c5, c6, rfl⟩
      obtain ⟨b0, L1, rfl, hL1⟩ := mapf_cons hL0
      obtain ⟨b1, L2, rfl, hL2⟩ := mapf_cons hL1
      obtain ⟨b2, L3, rfl, hL3⟩ := mapf_cons hL2
      obtain ⟨b3, L4, rfl, hL4⟩ := mapf_cons hL3
      obtain ⟨b4, L5, rfl, hL5⟩ := mapf_cons hL4
      obtain ⟨b5, L6, rfl, hL6⟩ := mapf_cons hL5
      obtain rfl := mapf_nil hL6
      obtain ⟨g0, h0⟩ := h _ (List.mem_cons_self ..)
      obtain ⟨g1, h1⟩ := h _ (List.mem_cons_of_mem _ (List.mem_cons_self ..))
      obtain ⟨g2, h2⟩ := h _ (List.mem_cons_of_mem _ (List.mem_cons_of_mem _ (List.mem_cons_self ..)))
      obtain ⟨g3, h3⟩ := h _ (List.mem_cons_of_mem _ (List.mem_cons_of_mem _ (List.mem_cons_of_mem _ (List.mem_cons_self ..))))
      obtain ⟨g4, h4⟩ := h _ (List.mem_cons_of_mem _ (List.mem_cons_of_mem _ (List.mem_cons_of_mem _ (List.mem_cons_of_mem _ (List.mem_cons_self ..)))))
      obtain ⟨g5, h5⟩ := h _ (List.mem_cons_of_mem _ (List.mem_cons_of_mem _ (List.mem_cons_of_mem _ (List.mem_cons_of_mem _ (List.mem_cons_of_mem _ (List.mem_cons_self ..))))))
      simp only [List.map_cons, List.map_nil, List.sum_cons, List.sum_nil] at hb
      obtain ⟨m0, e0⟩ := datB_int Try.underlying114 h0
      obtain ⟨m1, e1⟩ := datB_int Try.underlying2 h1
      obtain ⟨m2, e2⟩ := datB_str Try.underlying9 h2
      obtain ⟨m3, e3⟩ := datB_int Try.underlying115 h3
      obtain ⟨l, k4, e4⟩ := exprs_dataB (fun k hk => ih k (by omega)) h4
      obtain ⟨m5, m6, e5⟩ := pos_dataB h5
      replace e0 : [c0] = _ := e0
      replace e1 : [c1] = _ := e1
      replace e2 : [c2] = _ := e2
      replace e3 : [c3] = _ := e3
      replace e4 : [c4] = _ := e4
      replace e5 : [c5, c6] = _ := e5
      simp only [List.cons.injEq, and_true] at e0 e1 e2 e3 e4 e5
      obtain ⟨e5, e6⟩ := e5
      subst e0 e1 e2 e3 e4 e5 e6
      exact ⟨.mk m0 m1 m2 m3 l m5 m6, by rw [szA]; omega, rfl⟩
theorem stmts_dataB {n b : Nat} (ih : ∀ k < n, ∀ us b, DatB Try.prog k 65 us b → ∃ e : AS6, 2 * szT e ≤ b ∧ us = cellsOf (encT e)) {us : List Value} (h : DatB Try.prog n 23 us b) : ∃ l : List AS6, 2 * szTs l ≤ b ∧ us = [imS (encTs l)] := by
  obtain ⟨k, rows, rfl, rfl, hr, hs⟩ := datB_row Try.underlying23 h
  obtain ⟨l, _, h2, h3⟩ := all_mapB (p := fun _ => True) (sz := fun e => 2 * szT e) (g := fun e => cellsOf (encT e)) rows fun r hr' => by
    obtain ⟨e, h1, h2⟩ := ih k (by omega) r.1 r.2 (hr r hr').2
    exact ⟨e, ⟨trivial, h1⟩, h2⟩
  refine ⟨l, by rw [szTs_sum, ← sum_two]; omega, ?_⟩
  rw [h2, List.map_map, encTs_map]
  congr 2
  exact List.map_congr_left fun e _ => pack_S e
theorem stmt_dataB : ∀ (n : Nat) (us : List Value) (b : Nat), DatB Try.prog n 65 us b → ∃ e : AS6, 2 * szT e ≤ b ∧ us = cellsOf (encT e) := by
  intro n
  induction n using Nat.strongRecOn with
  | ind n ih =>
    intro us b h
    cases n with
    | zero => exact h.elim
    | succ n =>
      unfold DatB at h
      rw [Try.underlying65] at h
      obtain ⟨hl, L0, hL0, h, hb⟩ := h
      rw [cells_Stmt] at hl
      obtain ⟨c0, c1, c2, c3, c4, c5, c6, rfl⟩ : ∃ c0 c1 c2 c3 c4 c5 c6, us = [c0, c1, c2, c3, c4, c5, c6] := by match us, hl with | [c0, c1, c2, c3, c4, c5, c6], _ => exact ⟨c0, c1, c2, c3, c4, c5, c6, rfl⟩
      obtain ⟨b0, L1, rfl, hL1⟩ := mapf_cons hL0
      obtain ⟨b1, L2, rfl, hL2⟩ := mapf_cons hL1
      obtain ⟨b2, L3, rfl, hL3⟩ := mapf_cons hL2
      obtain ⟨b3, L4, rfl, hL4⟩ := mapf_cons hL3
      obtain ⟨b4, L5, rfl, hL5⟩ := mapf_cons hL4
      obtain ⟨b5, L6, rfl, hL6⟩ := mapf_cons hL5
      obtain rfl := mapf_nil hL6
      obtain ⟨g0, h0⟩ := h _ (List.mem_cons_self ..)
      obtain ⟨g1, h1⟩ := h _ (List.mem_cons_of_mem _ (List.mem_cons_self ..))
      obtain ⟨g2, h2⟩ := h _ (List.mem_cons_of_mem _ (List.mem_cons_of_mem _ (List.mem_cons_self ..)))
      obtain ⟨g3, h3⟩ := h _ (List.mem_cons_of_mem _ (List.mem_cons_of_mem _ (List.mem_cons_of_mem _ (List.mem_cons_self ..))))
      obtain ⟨g4, h4⟩ := h _ (List.mem_cons_of_mem _ (List.mem_cons_of_mem _ (List.mem_cons_of_mem _ (List.mem_cons_of_mem _ (List.mem_cons_self ..)))))
      obtain ⟨g5, h5⟩ := h _ (List.mem_cons_of_mem _ (List.mem_cons_of_mem _ (List.mem_cons_of_mem _ (List.mem_cons_of_mem _ (List.mem_cons_of_mem _ (List.mem_cons_self ..))))))
      simp only [List.map_cons, List.map_nil, List.sum_cons, List.sum_nil] at hb
      obtain ⟨m0, e0⟩ := datB_int Try.underlying62 h0
      obtain ⟨m1, e1⟩ := datB_str Try.underlying9 h1
      obtain ⟨m2, k2, e2⟩ := exprs_dataB (fun k _ => expr_dataB k) h2
      obtain ⟨m3, k3, e3⟩ := stmts_dataB (fun k hk => ih k (by omega)) h3
      obtain ⟨m4, k4, e4⟩ := stmts_dataB (fun k hk => ih k (by omega)) h4
      obtain ⟨m5, m6, e5⟩ := pos_dataB h5
      replace e0 : [c0] = _ := e0
      replace e1 : [c1] = _ := e1
      replace e2 : [c2] = _ := e2
      replace e3 : [c3] = _ := e3
      replace e4 : [c4] = _ := e4
      replace e5 : [c5, c6] = _ := e5
      simp only [List.cons.injEq, and_true] at e0 e1 e2 e3 e4 e5
      obtain ⟨e5, e6⟩ := e5
      subst e0 e1 e2 e3 e4 e5 e6
      exact ⟨.mk m0 m1 m2 m3 m4 m5 m6, by rw [szT]; omega, rfl⟩
theorem strs_dataB {n b : Nat} {us : List Value} (h : DatB Try.prog n 33 us b) : ∃ l : List ByteArray, us = [imS (sL l)] := by
  obtain ⟨k, rows, rfl, rfl, hr, hs⟩ := datB_row Try.underlying33 h
  obtain ⟨l, _, h2, _⟩ := all_mapB (p := fun _ => True) (sz := fun _ => 0) (g := fun s : ByteArray => [Value.string s]) rows fun r hr' => by
    obtain ⟨s, h1⟩ := datB_str Try.underlying9 (hr r hr').2
    exact ⟨s, ⟨trivial, Nat.zero_le _⟩, h1⟩
  refine ⟨l, ?_⟩
  rw [h2, List.map_map]
  rfl
theorem decl_dataB {n b : Nat} {us : List Value} (h : DatB Try.prog n 60 us b) : ∃ d : ADc, 2 * (1 + szTs d.body) ≤ b ∧ us = cellsOf (encDc d) := by
  cases n with
  | zero => exact h.elim
  | succ n =>
    unfold DatB at h
    rw [Try.underlying60] at h
    obtain ⟨hl, L0, hL0, h, hb⟩ := h
    rw [cells_Decl] at hl
    obtain ⟨c0, c1, c2, c3, c4, c5, c6, c7, c8, rfl⟩ : ∃ c0 c1 c2 c3 c4 c5 c6 c7 c8, us = [c0, c1, c2, c3, c4, c5, c6, c7, c8] := by match us, hl with | [c0, c1, c2, c3, c4, c5, c6, c7, c8], _ => exact ⟨c0, c1, c2, c3, c4, c5, c6, c7, c8, rfl⟩
    obtain ⟨b0, L1, rfl, hL1⟩ := mapf_cons hL0
    obtain ⟨b1, L2, rfl, hL2⟩ := mapf_cons hL1
    obtain ⟨b2, L3, rfl, hL3⟩ := mapf_cons hL2
    obtain ⟨b3, L4, rfl, hL4⟩ := mapf_cons hL3
    obtain ⟨b4, L5, rfl, hL5⟩ := mapf_cons hL4
    obtain ⟨b5, L6, rfl, hL6⟩ := mapf_cons hL5
    obtain ⟨b6, L7, rfl, hL7⟩ := mapf_cons hL6
    obtain ⟨b7, L8, rfl, hL8⟩ := mapf_cons hL7
    obtain rfl := mapf_nil hL8
    obtain ⟨g0, h0⟩ := h _ (List.mem_cons_self ..)
    obtain ⟨g1, h1⟩ := h _ (List.mem_cons_of_mem _ (List.mem_cons_self ..))
    obtain ⟨g2, h2⟩ := h _ (List.mem_cons_of_mem _ (List.mem_cons_of_mem _ (List.mem_cons_self ..)))
    obtain ⟨g3, h3⟩ := h _ (List.mem_cons_of_mem _ (List.mem_cons_of_mem _ (List.mem_cons_of_mem _ (List.mem_cons_self ..))))
    obtain ⟨g4, h4⟩ := h _ (List.mem_cons_of_mem _ (List.mem_cons_of_mem _ (List.mem_cons_of_mem _ (List.mem_cons_of_mem _ (List.mem_cons_self ..)))))
    obtain ⟨g5, h5⟩ := h _ (List.mem_cons_of_mem _ (List.mem_cons_of_mem _ (List.mem_cons_of_mem _ (List.mem_cons_of_mem _ (List.mem_cons_of_mem _ (List.mem_cons_self ..))))))
    obtain ⟨g6, h6⟩ := h _ (List.mem_cons_of_mem _ (List.mem_cons_of_mem _ (List.mem_cons_of_mem _ (List.mem_cons_of_mem _ (List.mem_cons_of_mem _ (List.mem_cons_of_mem _ (List.mem_cons_self ..)))))))
    obtain ⟨g7, h7⟩ := h _ (List.mem_cons_of_mem _ (List.mem_cons_of_mem _ (List.mem_cons_of_mem _ (List.mem_cons_of_mem _ (List.mem_cons_of_mem _ (List.mem_cons_of_mem _ (List.mem_cons_of_mem _ (List.mem_cons_self ..))))))))
    simp only [List.map_cons, List.map_nil, List.sum_cons, List.sum_nil] at hb
    obtain ⟨m0, e0⟩ := datB_int Try.underlying58 h0
    obtain ⟨m1, e1⟩ := datB_str Try.underlying9 h1
    obtain ⟨m2, e2⟩ := datB_int Try.underlying2 h2
    obtain ⟨m3, e3⟩ := datB_int Try.underlying2 h3
    obtain ⟨m4, e4⟩ := datB_int Try.underlying2 h4
    obtain ⟨m5, e5⟩ := strs_dataB h5
    obtain ⟨m6, k6, e6⟩ := stmts_dataB (fun k _ => stmt_dataB k) h6
    obtain ⟨m7, m8, e7⟩ := pos_dataB h7
    replace e0 : [c0] = _ := e0
    replace e1 : [c1] = _ := e1
    replace e2 : [c2] = _ := e2
    replace e3 : [c3] = _ := e3
    replace e4 : [c4] = _ := e4
    replace e5 : [c5] = _ := e5
    replace e6 : [c6] = _ := e6
    replace e7 : [c7, c8] = _ := e7
    simp only [List.cons.injEq, and_true] at e0 e1 e2 e3 e4 e5 e6 e7
    obtain ⟨e7, e8⟩ := e7
    subst e0 e1 e2 e3 e4 e5 e6 e7 e8
    exact ⟨⟨m0, m1, m2, m3, m4, m5, m6, m7, m8⟩, by dsimp only; omega, rfl⟩
theorem decls_dataB {n b : Nat} {us : List Value} (h : DatB Try.prog n 22 us b) : ∃ l : List ADc, 2 * szDs l ≤ b ∧ us = [imS (encDcs l)] := by
  obtain ⟨k, rows, rfl, rfl, hr, hs⟩ := datB_row Try.underlying22 h
  obtain ⟨l, _, h2, h3⟩ := all_mapB (p := fun _ => True) (sz := fun d : ADc => 2 * (1 + szTs d.body)) (g := fun e => cellsOf (encDc e)) rows fun r hr' => by
    obtain ⟨e, h1, h2⟩ := decl_dataB (hr r hr').2
    exact ⟨e, ⟨trivial, h1⟩, h2⟩
  refine ⟨l, by rw [szDs, ← sum_two]; omega, ?_⟩
  rw [h2, List.map_map, encDcs_map]
  congr 2
theorem program_dataB {n b : Nat} {us : List Value} (h : DatB Try.prog n 25 us b) : ∃ p : APr, 2 * szPr p ≤ b ∧ us = cellsOf (encPr p) := by
  cases n with
  | zero => exact h.elim
  | succ n =>
    unfold DatB at h
    rw [Try.underlying25] at h
    obtain ⟨hl, L0, hL0, h, hb⟩ := h
    rw [cells_Program] at hl
    obtain ⟨c0, c1, rfl⟩ : ∃ c0 c1, us = [c0, c1] := by match us, hl with | [c0, c1], _ => exact ⟨c0, c1, rfl⟩
    obtain ⟨b0, L1, rfl, hL1⟩ := mapf_cons hL0
    obtain ⟨b1, L2, rfl, hL2⟩ := mapf_cons hL1
    obtain rfl := mapf_nil hL2
    obtain ⟨g0, h0⟩ := h _ (List.mem_cons_self ..)
    obtain ⟨g1, h1⟩ := h _ (List.mem_cons_of_mem _ (List.mem_cons_self ..))
    simp only [List.map_cons, List.map_nil, List.sum_cons, List.sum_nil] at hb
    obtain ⟨m0, k0, e0⟩ := decls_dataB h0
    obtain ⟨m1, k1, e1⟩ := stmts_dataB (fun k _ => stmt_dataB k) h1
    replace e0 : [c0] = _ := e0
    replace e1 : [c1] = _ := e1
    simp only [List.cons.injEq, and_true] at e0 e1
    subst e0 e1
    exact ⟨⟨m0, m1⟩, by rw [szPr]; dsimp only; omega, rfl⟩
theorem open_program {H : Type} {enc : TypeId × Value → H} {W : World} {v : Value} {d : DataW H} {p : List MemPlace} {b0 base : Nat} {r : Reach} {held : Bool} (hv : Value.okWide Try.prog W r b0 25 v) (h : DataW.Trod enc Try.prog W base (fun _ => true) held 25 v d p) : ∃ s : APr, 2 * szPr s ≤ Rows.uptoBulk d ∧ VR (bz W) (encPr s) v := by
  obtain ⟨cs, rfl, _⟩ := okWide_struct Try.underlying25 hv
  obtain ⟨fuel, hf⟩ := h
  obtain ⟨us, h1, h2, _⟩ := open_dataB tys6_ok fuel _ _ _ (by decide) hf
  obtain ⟨s, h3, rfl⟩ := program_dataB h1
  refine ⟨s, h3, ?_⟩
  obtain ⟨l⟩ := cs
  exact .agg _ _ h2.1 h2.2
end Go.Proofs.Ytphbcejnnoijfaa
