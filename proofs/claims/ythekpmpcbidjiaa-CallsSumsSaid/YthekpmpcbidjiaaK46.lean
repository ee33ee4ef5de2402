
import Derived.Test.YthekpmpcbidjiaaK01
import Derived.Test.YthekpmpcbidjiaaK27
import Derived.Test.YthekpmpcbidjiaaK38
/- Layer 11: graphs and rows of numbers as data that came in. No condition. -/
namespace Go.Proofs.Ythekpmpcbidjiaa
open Go Go.ChangeShapes Go.WideShapes Go.ChangeAt Go.RowKit Go.Joins U
set_option linter.unusedVariables false
set_option linter.unusedSimpArgs false
set_option maxRecDepth 100000
set_option maxHeartbeats 1000000
def tysC : List TypeId := [25, 22, 23, 28, 32, 9, 3, 33]
theorem tysC_ok : okTys Try.prog tysC = true := by kernel_rfl
theorem cells_Gr : Try.prog.cellsOf 25 = 2 := by kernel_rfl
theorem nums_data {n : Nat} {us : List Value} (h : DatF Try.prog n 28 us) : ∃ l : List Int, l.length ≤ maxI ∧ us = [imS (iL l)] := by
  obtain ⟨k, rows, rfl, rfl, hl, hr⟩ := datF_row Try.underlying28 h
  obtain ⟨l, _, rfl⟩ := all_map (p := fun _ : Int => True) (g := fun m => [Value.int .i64 m]) rows fun r hr' => by
    obtain ⟨m, e⟩ := datF_int Try.underlying3 (hr r hr').2
    exact ⟨m, trivial, e⟩
  refine ⟨l, by rw [List.length_map] at hl; exact hl, ?_⟩
  rw [List.map_map, iL]
  congr 2
theorem unums_data {n : Nat} {us : List Value} (h : DatF Try.prog n 32 us) : ∃ l : List Int, l.length ≤ maxI ∧ (∀ x ∈ l, 0 ≤ x ∧ x ≤ 18446744073709551615) ∧ us = [imS (uL l)] := by
  obtain ⟨k, rows, rfl, rfl, hl, hr⟩ := datF_row Try.underlying32 h
  obtain ⟨l, hp, rfl⟩ := all_map (p := fun x : Int => 0 ≤ x ∧ x ≤ 18446744073709551615) (g := fun m => [Value.int .u64 m]) rows fun r hr' => by
    have h2 := (hr r hr').2
    cases k with
    | zero => exact h2.elim
    | succ k =>
      unfold DatF at h2
      rw [Try.underlying33] at h2
      obtain ⟨m, e, hw⟩ := h2
      simp only [Lit.wf, Bool.and_eq_true, decide_eq_true_eq] at hw
      exact ⟨m, ⟨hw.1, hw.2⟩, e⟩
  refine ⟨l, by rw [List.length_map] at hl; exact hl, hp, ?_⟩
  rw [List.map_map, uL]
  congr 2
theorem strs_data {n : Nat} {us : List Value} (h : DatF Try.prog n 22 us) : ∃ l : List ByteArray, us = [imS (sL l)] := by
  obtain ⟨k, rows, rfl, rfl, hl, hr⟩ := datF_row Try.underlying22 h
  obtain ⟨l, _, rfl⟩ := all_map (p := fun _ : ByteArray => True) (g := fun m => [Value.string m]) rows fun r hr' => by
    obtain ⟨m, e, _⟩ := datF_str Try.underlying9 (hr r hr').2
    exact ⟨m, trivial, e⟩
  refine ⟨l, ?_⟩
  rw [List.map_map, sL]
  congr 2
theorem rows_data {n : Nat} {us : List Value} (h : DatF Try.prog n 23 us) : ∃ l : List (List Int), l.length ≤ maxI ∧ (∀ r ∈ l, r.length ≤ maxI) ∧ us = [imS (gL l)] := by
  obtain ⟨k, rows, rfl, rfl, hl, hr⟩ := datF_row Try.underlying23 h
  obtain ⟨l, hp, rfl⟩ := all_map (p := fun r : List Int => r.length ≤ maxI) (g := fun r => [imS (iL r)]) rows fun r hr' => nums_data (hr r hr').2
  refine ⟨l, by rw [List.length_map] at hl; exact hl, hp, ?_⟩
  rw [List.map_map, gL]
  congr 2
theorem graph_data {n : Nat} {us : List Value} (h : DatF Try.prog n 25 us) : ∃ g : Gz, (g.st.length ≤ maxI ∧ ∀ r ∈ g.st, r.length ≤ maxI) ∧ us = [imS (sL g.nm), imS (gL g.st)] := by
  cases n with
  | zero => exact h.elim
  | succ n =>
    unfold DatF at h
    rw [Try.underlying25] at h
    obtain ⟨hl, h⟩ := h
    rw [cells_Gr] at hl
    obtain ⟨c0, c1, rfl⟩ : ∃ c0 c1, us = [c0, c1] := by match us, hl with | [c0, c1], _ => exact ⟨c0, c1, rfl⟩
    have h0 := h _ (List.mem_cons_self ..)
    have h1 := h _ (List.mem_cons_of_mem _ (List.mem_cons_self ..))
    obtain ⟨nm, e0⟩ := strs_data h0
    obtain ⟨st, h2, h3, e1⟩ := rows_data h1
    replace e0 : [c0] = _ := e0
    replace e1 : [c1] = _ := e1
    simp only [List.cons.injEq, and_true] at e0 e1
    subst e0 e1
    exact ⟨⟨nm, st⟩, ⟨h2, h3⟩, rfl⟩
section
variable {H : Type} {enc : TypeId × Value → H} {W : World} {v : Value} {d : DataW H} {p : List MemPlace} {b0 base : Nat} {r : Reach} {held : Bool}
theorem open_one {t e : TypeId} (ht : Try.prog.underlying t = some (.slice e)) (hm : t ∈ tysC) (hv : Value.okWide Try.prog W r b0 t v) (h : DataW.Trod enc Try.prog W base (fun _ => true) held t v d p) {Q : Value → Prop} (hQ : ∀ n us, DatF Try.prog n t us → ∃ u, us = [u] ∧ Q u) : ∃ u, Q u ∧ VR (bz W) u v := by
  obtain ⟨a, l, c, rfl⟩ := okWide_slice ht hv
  obtain ⟨fuel, hf⟩ := h
  obtain ⟨us, h1, h2, _⟩ := open_data tysC_ok fuel _ _ _ hm hf
  obtain ⟨u, rfl, hq⟩ := hQ _ _ h1
  exact ⟨u, hq, h2.2 0 u _ rfl rfl⟩
theorem open_graph (hv : Value.okWide Try.prog W r b0 25 v) (h : DataW.Trod enc Try.prog W base (fun _ => true) held 25 v d p) : ∃ g : Gz, (g.st.length ≤ maxI ∧ ∀ r ∈ g.st, r.length ≤ maxI) ∧ VR (bz W) (encG g) v := by
  obtain ⟨cs, rfl, _⟩ := okWide_struct Try.underlying25 hv
  obtain ⟨fuel, hf⟩ := h
  obtain ⟨us, h1, h2, _⟩ := open_data tysC_ok fuel _ _ _ (List.mem_cons_self ..) hf
  obtain ⟨g, h3, rfl⟩ := graph_data h1
  obtain ⟨l⟩ := cs
  exact ⟨g, h3, .agg _ _ h2.1 h2.2⟩
theorem open_nums (hv : Value.okWide Try.prog W r b0 28 v) (h : DataW.Trod enc Try.prog W base (fun _ => true) held 28 v d p) : ∃ l : List Int, l.length ≤ maxI ∧ VR (bz W) (imS (iL l)) v := by
  obtain ⟨u, ⟨l, h1, rfl⟩, h2⟩ := open_one Try.underlying28 (by simp [tysC]) hv h (Q := fun u => ∃ l : List Int, l.length ≤ maxI ∧ u = imS (iL l)) fun n us h => by
    obtain ⟨l, h1, h2⟩ := nums_data h
    exact ⟨_, h2, l, h1, rfl⟩
  exact ⟨l, h1, h2⟩
theorem open_unums (hv : Value.okWide Try.prog W r b0 32 v) (h : DataW.Trod enc Try.prog W base (fun _ => true) held 32 v d p) : ∃ l : List Int, (l.length ≤ maxI ∧ ∀ x ∈ l, 0 ≤ x ∧ x ≤ 18446744073709551615) ∧ VR (bz W) (imS (uL l)) v := by
  obtain ⟨u, ⟨l, h1, rfl⟩, h2⟩ := open_one Try.underlying32 (by simp [tysC]) hv h (Q := fun u => ∃ l : List Int, (l.length ≤ maxI ∧ ∀ x ∈ l, 0 ≤ x ∧ x ≤ 18446744073709551615) ∧ u = imS (uL l)) fun n us h => by
    obtain ⟨l, h1, h2, h3⟩ := unums_data h
    exact ⟨_, h3, l, ⟨h1, h2⟩, rfl⟩
  exact ⟨l, h1, h2⟩
theorem open_rows (hv : Value.okWide Try.prog W r b0 23 v) (h : DataW.Trod enc Try.prog W base (fun _ => true) held 23 v d p) : ∃ l : List (List Int), (l.length ≤ maxI ∧ ∀ r ∈ l, r.length ≤ maxI) ∧ VR (bz W) (imS (gL l)) v := by
  obtain ⟨u, ⟨l, h1, rfl⟩, h2⟩ := open_one Try.underlying23 (by simp [tysC]) hv h (Q := fun u => ∃ l : List (List Int), (l.length ≤ maxI ∧ ∀ r ∈ l, r.length ≤ maxI) ∧ u = imS (gL l)) fun n us h => by
    obtain ⟨l, h1, h2, h3⟩ := rows_data h
    exact ⟨_, h3, l, ⟨h1, h2⟩, rfl⟩
  exact ⟨l, h1, h2⟩
end
end Go.Proofs.Ythekpmpcbidjiaa
