
import Derived.Test.YthekpmpcbidjiaaS01
import Derived.Test.YthekpmpcbidjiaaS23
import Derived.Test.YthekpmpcbidjiaaS30
namespace Go.Proofs.Ythekpmpcbidjiaa
open Go Go.RowKit Go.Sort U
set_option linter.unusedVariables false
set_option linter.unusedSimpArgs false
def foldO (rule : List Int → Nat → Int) (ord F : List Int) : List Int := ord.foldl (fun F t => F.set t.toNat (rule F t.toNat)) F
theorem foldO_nil (rule : List Int → Nat → Int) (F : List Int) : foldO rule [] F = F := rfl
theorem foldO_cons (rule : List Int → Nat → Int) (t : Int) (ord F : List Int) : foldO rule (t :: ord) F = foldO rule ord (F.set t.toNat (rule F t.toNat)) := rfl
theorem foldO_snoc (rule : List Int → Nat → Int) (ord F : List Int) (t : Int) : foldO rule (ord ++ [t]) F = (foldO rule ord F).set t.toNat (rule (foldO rule ord F) t.toNat) := by simp [foldO]
theorem foldO_len (rule : List Int → Nat → Int) : ∀ (ord F : List Int), (foldO rule ord F).length = F.length
  | [], F => rfl
  | t :: ord, F => by rw [foldO_cons, foldO_len rule ord]; simp
theorem greedy_mem (R : List (List Int)) : ∀ (k : Nat) (out : List Int), out.Nodup → (∀ t ∈ out, ∃ v : Nat, v < R.length ∧ t = (v : Int)) → (∀ (a b : List Int) (v : Nat), out = a ++ (v : Int) :: b → ∀ t ∈ R.getD v [], t ∈ a) → (greedy R k out).Nodup ∧ (∀ t ∈ greedy R k out, ∃ v : Nat, v < R.length ∧ t = (v : Int)) ∧ ∀ (a b : List Int) (v : Nat), greedy R k out = a ++ (v : Int) :: b → ∀ t ∈ R.getD v [], t ∈ a
  | 0, out, h1, h2, h3 => ⟨h1, h2, h3⟩
  | k + 1, out, h1, h2, h3 => by
    rw [greedy]
    cases hs : stepO R out with
    | none => exact ⟨h1, h2, h3⟩
    | some v =>
      have hv := List.find?_some hs
      have hm := List.mem_range.1 (List.mem_of_find?_eq_some hs)
      obtain ⟨r1, r2⟩ := rdy_iff.1 hv
      rw [cntW_zero] at r2
      refine greedy_mem R k (out ++ [(v : Int)]) ?_ (fun t ht => ?_) fun a b w e t ht => ?_
      · rw [List.nodup_append]
        exact ⟨h1, by simp, fun a ha b hb e => by simp at hb; subst hb; subst e; exact r1 ha⟩
      · rcases List.mem_append.1 ht with ht | ht
        · exact h2 t ht
        · simp at ht; exact ⟨v, hm, ht⟩
      · rcases List.eq_nil_or_concat b with rfl | ⟨b', x, rfl⟩
        · have := List.append_inj' e rfl
          obtain ⟨e1, e2⟩ := this
          subst e1
          have : w = v := by simp at e2; omega
          subst this
          exact r2 t ht
        · have e' : out ++ [(v : Int)] = (a ++ (w : Int) :: b') ++ [x] := by simpa using e
          obtain ⟨e1, _⟩ := List.append_inj' e' rfl
          exact h3 a b' w e1 t ht
theorem order_facts (R : List (List Int)) : (greedy R R.length []).Nodup ∧ (∀ t ∈ greedy R R.length [], ∃ v : Nat, v < R.length ∧ t = (v : Int)) ∧ ∀ (a b : List Int) (v : Nat), greedy R R.length [] = a ++ (v : Int) :: b → ∀ t ∈ R.getD v [], t ∈ a :=
  greedy_mem R R.length [] List.nodup_nil (fun t ht => by cases ht) (fun a b v e => by simp at e)
theorem rdy_eq {R S : List (List Int)} {out : List Int} {v : Nat} (h : ∀ t, t ∈ R.getD v [] ↔ t ∈ S.getD v []) : rdy R out v = rdy S out v := by
  unfold rdy
  congr 1
  rw [Bool.eq_iff_iff, List.all_eq_true, List.all_eq_true]
  exact ⟨fun k t ht => k t ((h t).2 ht), fun k t ht => k t ((h t).1 ht)⟩
theorem order_eq {R S : List (List Int)} (hl : R.length = S.length) (h : ∀ v t, t ∈ R.getD v [] ↔ t ∈ S.getD v []) : orderR R = orderR S := by
  have hs : ∀ out, stepO R out = stepO S out := fun out => by
    unfold stepO
    rw [hl]
    exact find_congr fun v _ => rdy_eq (h v)
  have hg : ∀ k out, greedy R k out = greedy S k out := fun k => by
    induction k with
    | zero => intro out; rfl
    | succ k ih =>
      intro out
      rw [greedy, greedy, hs]
      cases stepO S out with
      | none => rfl
      | some v => exact ih _
  unfold orderR
  rw [hg, hl]
theorem rowR_iff {g : Gz} (hr : rightG g = true) {r : List Int} (h : r ∈ g.st) (t : Int) : t ∈ rowR g.nm.length r ↔ t ∈ r := by
  simp only [rightG, Bool.and_eq_true, List.all_eq_true, okT, decide_eq_true_eq] at hr
  rw [rowR_mem]
  constructor
  · rintro ⟨i, _, _, h2⟩
    exact h2
  · intro ht
    obtain ⟨b1, b2⟩ := hr.2 r h t ht
    exact ⟨t.toNat, by omega, by omega, ht⟩
theorem order_callees {g : Gz} (hr : rightG g = true) : orderR (calleesR g) = orderR g.st := by
  refine order_eq (by simp [calleesR]) fun v t => ?_
  by_cases hv : v < g.st.length
  · rw [show (calleesR g).getD v [] = rowR g.nm.length g.st[v] by simp [calleesR, hv], show g.st.getD v [] = g.st[v] by simp [hv]]
    exact rowR_iff hr (List.getElem_mem hv) t
  · rw [show (calleesR g).getD v [] = [] by simp [calleesR, hv], show g.st.getD v [] = [] by simp [hv]]
end Go.Proofs.Ythekpmpcbidjiaa
namespace Go.Proofs.Ythekpmpcbidjiaa
open Go Go.RowKit Go.Sort U
set_option linter.unusedVariables false
set_option linter.unusedSimpArgs false
set_option maxRecDepth 100000
set_option maxHeartbeats 4000000
def uL (l : List Int) : List Value := l.map (Value.int .u64)
theorem gt0_at {l : List Int} {i : Nat} (h : i < l.length) : l[i]? = some (gt0 l i) := by simp [gt0, h]
theorem iL_at {l : List Int} {i : Nat} (h : i < l.length) : nth (iL l) i = some (.int .i64 (gt0 l i)) := by
  rw [nth_eq, iL, List.getElem?_map, gt0_at h]; rfl
structure OrdOk (st : List (List Int)) (ord : List Int) : Prop where
  nd : ord.Nodup
  inn : ∀ t ∈ ord, ∃ v : Nat, v < st.length ∧ t = (v : Int)
  cl : ∀ (a b : List Int) (v : Nat), ord = a ++ (v : Int) :: b → ∀ t ∈ st.getD v [], t ∈ a
theorem ordOk_of (st : List (List Int)) : OrdOk st (orderR st).1 := by
  obtain ⟨h1, h2, h3⟩ := order_facts st
  unfold orderR
  split
  · exact ⟨List.nodup_nil, fun t ht => (by cases ht), fun a b v e => (by simp at e)⟩
  · exact ⟨h1, h2, h3⟩
theorem OrdOk.len {st : List (List Int)} {ord : List Int} (h : OrdOk st ord) : ord.length ≤ st.length := nodup_le h.nd h.inn
end Go.Proofs.Ythekpmpcbidjiaa
namespace Go.Proofs.Ythekpmpcbidjiaa
open Go Go.ChangeShapes Go.WideShapes Go.ChangeAt Go.RowKit Go.Joins U
set_option linter.unusedVariables false
set_option linter.unusedSimpArgs false
set_option maxRecDepth 100000
set_option maxHeartbeats 1000000
def tysC : List TypeId := [25, 22, 23, 28, 32, 9, 3, 33]
theorem tysC_ok : okTys Try.prog tysC = true := by kernel_rfl
theorem cells_Gr : Try.prog.cellsOf 25 = 2 := by kernel_rfl
theorem nums_data {n : Nat} {us : List Value} (h : DatF Try.prog n 28 us) : ∃ l : List Int, l.length ≤ maxI ∧ us = [imS (iL l)] := by
  obtain ⟨k, rows, rfl, rfl, hl, hr⟩ := datF_row Try.underlying28 h
  obtain ⟨l, _, rfl⟩ := all_map (p := fun _ : Int => True) (g := fun m => [Value.int .i64 m]) rows fun r hr' => by
    obtain ⟨m, e⟩ := datF_int Try.underlying3 (hr r hr').2
    exact ⟨m, trivial, e⟩
  refine ⟨l, by rw [List.length_map] at hl; exact hl, ?_⟩
  rw [List.map_map, iL]
  congr 2
theorem strs_data {n : Nat} {us : List Value} (h : DatF Try.prog n 22 us) : ∃ l : List ByteArray, us = [imS (sL l)] := by
  obtain ⟨k, rows, rfl, rfl, hl, hr⟩ := datF_row Try.underlying22 h
  obtain ⟨l, _, rfl⟩ := all_map (p := fun _ : ByteArray => True) (g := fun m => [Value.string m]) rows fun r hr' => by
    obtain ⟨m, e, _⟩ := datF_str Try.underlying9 (hr r hr').2
    exact ⟨m, trivial, e⟩
  refine ⟨l, ?_⟩
  rw [List.map_map, sL]
  congr 2
theorem rows_data {n : Nat} {us : List Value} (h : DatF Try.prog n 23 us) : ∃ l : List (List Int), l.length ≤ maxI ∧ (∀ r ∈ l, r.length ≤ maxI) ∧ us = [imS (gL l)] := by
  obtain ⟨k, rows, rfl, rfl, hl, hr⟩ := datF_row Try.underlying23 h
  obtain ⟨l, hp, rfl⟩ := all_map (p := fun r : List Int => r.length ≤ maxI) (g := fun r => [imS (iL r)]) rows fun r hr' => nums_data (hr r hr').2
  refine ⟨l, by rw [List.length_map] at hl; exact hl, hp, ?_⟩
  rw [List.map_map, gL]
  congr 2
theorem graph_data {n : Nat} {us : List Value} (h : DatF Try.prog n 25 us) : ∃ g : Gz, (g.st.length ≤ maxI ∧ ∀ r ∈ g.st, r.length ≤ maxI) ∧ us = [imS (sL g.nm), imS (gL g.st)] := by
  cases n with
  | zero => exact h.elim
  | succ n =>
    unfold DatF at h
    rw [Try.underlying25] at h
    obtain ⟨hl, h⟩ := h
    rw [cells_Gr] at hl
    obtain ⟨c0, c1, rfl⟩ : ∃ c0 c1, us = [c0, c1] := by match us, hl with | [c0, c1], _ => exact ⟨c0, c1, rfl⟩
    have h0 := h _ (List.mem_cons_self ..)
    have h1 := h _ (List.mem_cons_of_mem _ (List.mem_cons_self ..))
    obtain ⟨nm, e0⟩ := strs_data h0
    obtain ⟨st, h2, h3, e1⟩ := rows_data h1
    replace e0 : [c0] = _ := e0
    replace e1 : [c1] = _ := e1
    simp only [List.cons.injEq, and_true] at e0 e1
    subst e0 e1
    exact ⟨⟨nm, st⟩, ⟨h2, h3⟩, rfl⟩
section
variable {H : Type} {enc : TypeId × Value → H} {W : World} {v : Value} {d : DataW H} {p : List MemPlace} {b0 base : Nat} {r : Reach} {held : Bool}
theorem open_graph (hv : Value.okWide Try.prog W r b0 25 v) (h : DataW.Trod enc Try.prog W base (fun _ => true) held 25 v d p) : ∃ g : Gz, (g.st.length ≤ maxI ∧ ∀ r ∈ g.st, r.length ≤ maxI) ∧ VR (bz W) (encG g) v := by
  obtain ⟨cs, rfl, _⟩ := okWide_struct Try.underlying25 hv
  obtain ⟨fuel, hf⟩ := h
  obtain ⟨us, h1, h2, _⟩ := open_data tysC_ok fuel _ _ _ (List.mem_cons_self ..) hf
  obtain ⟨g, h3, rfl⟩ := graph_data h1
  obtain ⟨l⟩ := cs
  exact ⟨g, h3, .agg _ _ h2.1 h2.2⟩
end
end Go.Proofs.Ythekpmpcbidjiaa
