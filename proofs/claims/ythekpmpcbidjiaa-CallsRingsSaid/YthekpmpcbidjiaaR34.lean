
import Derived.Test.YthekpmpcbidjiaaR01
import Derived.Test.YthekpmpcbidjiaaR25
import Derived.Test.YthekpmpcbidjiaaR33
/- Layer 11: numbers told along the order: in plain words. -/
namespace Go.Proofs.Ythekpmpcbidjiaa
open Go Go.RowKit Go.Sort U
set_option linter.unusedVariables false
set_option linter.unusedSimpArgs false
/-- Each node of the order gets what the rule tells of those ahead of it. -/
def foldO (rule : List Int → Nat → Int) (ord F : List Int) : List Int := ord.foldl (fun F t => F.set t.toNat (rule F t.toNat)) F
theorem foldO_nil (rule : List Int → Nat → Int) (F : List Int) : foldO rule [] F = F := rfl
theorem foldO_cons (rule : List Int → Nat → Int) (t : Int) (ord F : List Int) : foldO rule (t :: ord) F = foldO rule ord (F.set t.toNat (rule F t.toNat)) := rfl
theorem foldO_snoc (rule : List Int → Nat → Int) (ord F : List Int) (t : Int) : foldO rule (ord ++ [t]) F = (foldO rule ord F).set t.toNat (rule (foldO rule ord F) t.toNat) := by simp [foldO]
theorem foldO_len (rule : List Int → Nat → Int) : ∀ (ord F : List Int), (foldO rule ord F).length = F.length
  | [], F => rfl
  | t :: ord, F => by rw [foldO_cons, foldO_len rule ord]; simp
def maxU : Int := 18446744073709551615
def satA (s x : Int) : Int := if s + x > maxU then maxU else s + x
def inl1 (own : List Int) (st : List (List Int)) (F : List Int) (v : Nat) : Int := (st.getD v []).foldl (fun s t => satA s (gt0 F t.toNat)) (gt0 own v)
def okU (l : List Int) : Prop := ∀ x ∈ l, 0 ≤ x ∧ x ≤ maxU
theorem okU_at {l : List Int} (h : okU l) (i : Nat) : 0 ≤ gt0 l i ∧ gt0 l i ≤ maxU := by
  unfold gt0
  rw [List.getD_eq_getElem?_getD]
  cases hi : l[i]? with
  | none => simp [maxU]
  | some x => exact h x (List.mem_of_getElem? hi)
theorem satA_in {s x : Int} (hs : 0 ≤ s ∧ s ≤ maxU) (hx : 0 ≤ x ∧ x ≤ maxU) : 0 ≤ satA s x ∧ satA s x ≤ maxU := by
  unfold satA
  split <;> constructor <;> omega
theorem satA_top {x : Int} (hx : 0 ≤ x) : satA maxU x = maxU := by
  unfold satA
  split
  · rfl
  · omega
theorem fold_top (F : List Int) (hF : okU F) : ∀ q : List Int, q.foldl (fun s t => satA s (gt0 F t.toNat)) maxU = maxU
  | [] => rfl
  | t :: q => by rw [List.foldl_cons, satA_top (okU_at hF _).1, fold_top F hF q]
theorem fold_in (F : List Int) (hF : okU F) : ∀ (q : List Int) (s : Int), 0 ≤ s ∧ s ≤ maxU → 0 ≤ q.foldl (fun s t => satA s (gt0 F t.toNat)) s ∧ q.foldl (fun s t => satA s (gt0 F t.toNat)) s ≤ maxU
  | [], s, h => h
  | t :: q, s, h => by rw [List.foldl_cons]; exact fold_in F hF q _ (satA_in h (okU_at hF _))
theorem inl1_in {own : List Int} {st : List (List Int)} {F : List Int} (ho : okU own) (hF : okU F) (v : Nat) : 0 ≤ inl1 own st F v ∧ inl1 own st F v ≤ maxU := fold_in F hF _ _ (okU_at ho v)
theorem okU_set {F : List Int} (hF : okU F) (i : Nat) {x : Int} (hx : 0 ≤ x ∧ x ≤ maxU) : okU (F.set i x) := fun y hy => by
  rcases List.mem_or_eq_of_mem_set hy with h | rfl
  · exact hF y h
  · exact hx
theorem okU_zero (n : Nat) : okU (List.replicate n 0) := fun x hx => by
  rw [(List.mem_replicate.1 hx).2]
  simp [maxU]
theorem satA_wrap {s x : Int} (hs : 0 ≤ s ∧ s ≤ maxU) (hx : 0 ≤ x ∧ x ≤ maxU) : (IntKind.u64.wrap (s + x) < s ↔ s + x > maxU) ∧ (¬ IntKind.u64.wrap (s + x) < s → IntKind.u64.wrap (s + x) = satA s x) := by
  have e : IntKind.u64.wrap (s + x) = (s + x) % 18446744073709551616 := rfl
  unfold maxU at *
  rw [e]
  constructor
  · constructor <;> intro h <;> omega
  · intro h
    unfold satA maxU
    rw [if_neg (by omega)]
    omega
/-- An order is one in which callees stand ahead. -/
theorem greedy_mem (R : List (List Int)) : ∀ (k : Nat) (out : List Int), out.Nodup → (∀ t ∈ out, ∃ v : Nat, v < R.length ∧ t = (v : Int)) → (∀ (a b : List Int) (v : Nat), out = a ++ (v : Int) :: b → ∀ t ∈ R.getD v [], t ∈ a) → (greedy R k out).Nodup ∧ (∀ t ∈ greedy R k out, ∃ v : Nat, v < R.length ∧ t = (v : Int)) ∧ ∀ (a b : List Int) (v : Nat), greedy R k out = a ++ (v : Int) :: b → ∀ t ∈ R.getD v [], t ∈ a
  | 0, out, h1, h2, h3 => ⟨h1, h2, h3⟩
  | k + 1, out, h1, h2, h3 => by
    rw [greedy]
    cases hs : stepO R out with
    | none => exact ⟨h1, h2, h3⟩
    | some v =>
      have hv := List.find?_some hs
      have hm := List.mem_range.1 (List.mem_of_find?_eq_some hs)
      obtain ⟨r1, r2⟩ := rdy_iff.1 hv
      rw [cntW_zero] at r2
      refine greedy_mem R k (out ++ [(v : Int)]) ?_ (fun t ht => ?_) fun a b w e t ht => ?_
      · rw [List.nodup_append]
        exact ⟨h1, by simp, fun a ha b hb e => by simp at hb; subst hb; subst e; exact r1 ha⟩
      · rcases List.mem_append.1 ht with ht | ht
        · exact h2 t ht
        · simp at ht; exact ⟨v, hm, ht⟩
      · rcases List.eq_nil_or_concat b with rfl | ⟨b', x, rfl⟩
        · have := List.append_inj' e rfl
          obtain ⟨e1, e2⟩ := this
          subst e1
          have : w = v := by simp at e2; omega
          subst this
          exact r2 t ht
        · have e' : out ++ [(v : Int)] = (a ++ (w : Int) :: b') ++ [x] := by simpa using e
          obtain ⟨e1, _⟩ := List.append_inj' e' rfl
          exact h3 a b' w e1 t ht
theorem order_facts (R : List (List Int)) : (greedy R R.length []).Nodup ∧ (∀ t ∈ greedy R R.length [], ∃ v : Nat, v < R.length ∧ t = (v : Int)) ∧ ∀ (a b : List Int) (v : Nat), greedy R R.length [] = a ++ (v : Int) :: b → ∀ t ∈ R.getD v [], t ∈ a :=
  greedy_mem R R.length [] List.nodup_nil (fun t ht => by cases ht) (fun a b v e => by simp at e)
/-! The order by callees is the order by sites. -/
theorem rdy_eq {R S : List (List Int)} {out : List Int} {v : Nat} (h : ∀ t, t ∈ R.getD v [] ↔ t ∈ S.getD v []) : rdy R out v = rdy S out v := by
  unfold rdy
  congr 1
  rw [Bool.eq_iff_iff, List.all_eq_true, List.all_eq_true]
  exact ⟨fun k t ht => k t ((h t).2 ht), fun k t ht => k t ((h t).1 ht)⟩
theorem order_eq {R S : List (List Int)} (hl : R.length = S.length) (h : ∀ v t, t ∈ R.getD v [] ↔ t ∈ S.getD v []) : orderR R = orderR S := by
  have hs : ∀ out, stepO R out = stepO S out := fun out => by
    unfold stepO
    rw [hl]
    exact find_congr fun v _ => rdy_eq (h v)
  have hg : ∀ k out, greedy R k out = greedy S k out := fun k => by
    induction k with
    | zero => intro out; rfl
    | succ k ih =>
      intro out
      rw [greedy, greedy, hs]
      cases stepO S out with
      | none => rfl
      | some v => exact ih _
  unfold orderR
  rw [hg, hl]
theorem rowR_iff {g : Gz} (hr : rightG g = true) {r : List Int} (h : r ∈ g.st) (t : Int) : t ∈ rowR g.nm.length r ↔ t ∈ r := by
  simp only [rightG, Bool.and_eq_true, List.all_eq_true, okT, decide_eq_true_eq] at hr
  rw [rowR_mem]
  constructor
  · rintro ⟨i, _, _, h2⟩
    exact h2
  · intro ht
    obtain ⟨b1, b2⟩ := hr.2 r h t ht
    exact ⟨t.toNat, by omega, by omega, ht⟩
theorem order_callees {g : Gz} (hr : rightG g = true) : orderR (calleesR g) = orderR g.st := by
  refine order_eq (by simp [calleesR]) fun v t => ?_
  by_cases hv : v < g.st.length
  · rw [show (calleesR g).getD v [] = rowR g.nm.length g.st[v] by simp [calleesR, hv], show g.st.getD v [] = g.st[v] by simp [hv]]
    exact rowR_iff hr (List.getElem_mem hv) t
  · rw [show (calleesR g).getD v [] = [] by simp [calleesR, hv], show g.st.getD v [] = [] by simp [hv]]
end Go.Proofs.Ythekpmpcbidjiaa
/- Layer 11: the reference's Inlined. -/
namespace Go.Proofs.Ythekpmpcbidjiaa
open Go Go.RowKit Go.Sort U
set_option linter.unusedVariables false
set_option linter.unusedSimpArgs false
set_option maxRecDepth 100000
set_option maxHeartbeats 4000000
def uL (l : List Int) : List Value := l.map (Value.int .u64)
theorem uL_len (l : List Int) : (uL l).length = l.length := List.length_map ..
theorem cellsU : ∀ l : List Int, cellsAll (uL l) = uL l
  | [] => rfl
  | x :: l => by rw [uL, List.map_cons, cellsAll, List.flatMap_cons]; exact congrArg _ (cellsU l)
theorem cleanUC (l : List Int) : ∀ x, x ∈ cellsAll (uL l) → NoNm x := fun c hc => by
  rw [cellsU] at hc
  obtain ⟨n, _, rfl⟩ := List.mem_map.1 hc
  exact .flat _ rfl
theorem cleanUl (l : List Int) : ∀ x, x ∈ uL l → NoNm x := fun x hx => cleanUC l x (by rw [cellsU]; exact hx)
theorem cleanUL (l : List Int) : NoNm (imS (uL l)) := .ims _ (cleanUC l)
theorem uL_1 {l : List Int} : ∀ y, y ∈ uL l → (cellsOf y).length = 1 := fun y hy => by
  obtain ⟨n, _, rfl⟩ := List.mem_map.1 hy
  rfl
theorem gt0_at {l : List Int} {i : Nat} (h : i < l.length) : l[i]? = some (gt0 l i) := by simp [gt0, h]
theorem uL_at {l : List Int} {i : Nat} (h : i < l.length) : nth (uL l) i = some (.int .u64 (gt0 l i)) := by
  rw [nth_eq, uL, List.getElem?_map, gt0_at h]; rfl
theorem uL_nth {l : List Int} {i : Nat} (h : i < l.length) : nth (uL l) (0 + i * 1) = some (.int .u64 (gt0 l i)) := by
  rw [Nat.zero_add, Nat.mul_one, uL_at h]
theorem iL_at {l : List Int} {i : Nat} (h : i < l.length) : nth (iL l) i = some (.int .i64 (gt0 l i)) := by
  rw [nth_eq, iL, List.getElem?_map, gt0_at h]; rfl
theorem uL_store {L : List Int} {i : Nat} {x : Int} (h : i < L.length) : (uL L).take (0 + i * 1) ++ [Value.int .u64 x] ++ (uL L).drop (0 + i * 1 + [Value.int .u64 x].length) = uL (L.set i x) := by
  rw [Nat.zero_add, Nat.mul_one, List.length_singleton, uL, uL, ← List.map_take, ← List.map_drop, List.set_eq_take_append_cons_drop, if_pos h]
  simp
theorem uL_zero (n : Nat) : uL (List.replicate n 0) = repX n [.int .u64 0] := by rw [repX_one, uL]; simp
/-- What an order of a right graph is. -/
structure OrdOk (st : List (List Int)) (ord : List Int) : Prop where
  nd : ord.Nodup
  inn : ∀ t ∈ ord, ∃ v : Nat, v < st.length ∧ t = (v : Int)
  cl : ∀ (a b : List Int) (v : Nat), ord = a ++ (v : Int) :: b → ∀ t ∈ st.getD v [], t ∈ a
theorem ordOk_of (st : List (List Int)) : OrdOk st (orderR st).1 := by
  obtain ⟨h1, h2, h3⟩ := order_facts st
  unfold orderR
  split
  · exact ⟨List.nodup_nil, fun t ht => (by cases ht), fun a b v e => (by simp at e)⟩
  · exact ⟨h1, h2, h3⟩
theorem OrdOk.len {st : List (List Int)} {ord : List Int} (h : OrdOk st ord) : ord.length ≤ st.length := nodup_le h.nd h.inn
theorem foldO_ok {own : List Int} {st : List (List Int)} (ho : okU own) : ∀ (ord : List Int) {F : List Int}, okU F → okU (foldO (inl1 own st) ord F)
  | [], F, h => h
  | t :: ord, F, h => by rw [foldO_cons]; exact foldO_ok ho ord (okU_set h _ (inl1_in ho h _))
end Go.Proofs.Ythekpmpcbidjiaa
/- Layer 11: graphs and rows of numbers as data that came in. No condition. -/
namespace Go.Proofs.Ythekpmpcbidjiaa
open Go Go.ChangeShapes Go.WideShapes Go.ChangeAt Go.RowKit Go.Joins U
set_option linter.unusedVariables false
set_option linter.unusedSimpArgs false
set_option maxRecDepth 100000
set_option maxHeartbeats 1000000
def tysC : List TypeId := [25, 22, 23, 28, 32, 9, 3, 33]
theorem tysC_ok : okTys Try.prog tysC = true := by kernel_rfl
theorem cells_Gr : Try.prog.cellsOf 25 = 2 := by kernel_rfl
theorem nums_data {n : Nat} {us : List Value} (h : DatF Try.prog n 28 us) : ∃ l : List Int, l.length ≤ maxI ∧ us = [imS (iL l)] := by
  obtain ⟨k, rows, rfl, rfl, hl, hr⟩ := datF_row Try.underlying28 h
  obtain ⟨l, _, rfl⟩ := all_map (p := fun _ : Int => True) (g := fun m => [Value.int .i64 m]) rows fun r hr' => by
    obtain ⟨m, e⟩ := datF_int Try.underlying3 (hr r hr').2
    exact ⟨m, trivial, e⟩
  refine ⟨l, by rw [List.length_map] at hl; exact hl, ?_⟩
  rw [List.map_map, iL]
  congr 2
theorem strs_data {n : Nat} {us : List Value} (h : DatF Try.prog n 22 us) : ∃ l : List ByteArray, us = [imS (sL l)] := by
  obtain ⟨k, rows, rfl, rfl, hl, hr⟩ := datF_row Try.underlying22 h
  obtain ⟨l, _, rfl⟩ := all_map (p := fun _ : ByteArray => True) (g := fun m => [Value.string m]) rows fun r hr' => by
    obtain ⟨m, e, _⟩ := datF_str Try.underlying9 (hr r hr').2
    exact ⟨m, trivial, e⟩
  refine ⟨l, ?_⟩
  rw [List.map_map, sL]
  congr 2
theorem rows_data {n : Nat} {us : List Value} (h : DatF Try.prog n 23 us) : ∃ l : List (List Int), l.length ≤ maxI ∧ (∀ r ∈ l, r.length ≤ maxI) ∧ us = [imS (gL l)] := by
  obtain ⟨k, rows, rfl, rfl, hl, hr⟩ := datF_row Try.underlying23 h
  obtain ⟨l, hp, rfl⟩ := all_map (p := fun r : List Int => r.length ≤ maxI) (g := fun r => [imS (iL r)]) rows fun r hr' => nums_data (hr r hr').2
  refine ⟨l, by rw [List.length_map] at hl; exact hl, hp, ?_⟩
  rw [List.map_map, gL]
  congr 2
theorem graph_data {n : Nat} {us : List Value} (h : DatF Try.prog n 25 us) : ∃ g : Gz, (g.st.length ≤ maxI ∧ ∀ r ∈ g.st, r.length ≤ maxI) ∧ us = [imS (sL g.nm), imS (gL g.st)] := by
  cases n with
  | zero => exact h.elim
  | succ n =>
    unfold DatF at h
    rw [Try.underlying25] at h
    obtain ⟨hl, h⟩ := h
    rw [cells_Gr] at hl
    obtain ⟨c0, c1, rfl⟩ : ∃ c0 c1, us = [c0, c1] := by match us, hl with | [c0, c1], _ => exact ⟨c0, c1, rfl⟩
    have h0 := h _ (List.mem_cons_self ..)
    have h1 := h _ (List.mem_cons_of_mem _ (List.mem_cons_self ..))
    obtain ⟨nm, e0⟩ := strs_data h0
    obtain ⟨st, h2, h3, e1⟩ := rows_data h1
    replace e0 : [c0] = _ := e0
    replace e1 : [c1] = _ := e1
    simp only [List.cons.injEq, and_true] at e0 e1
    subst e0 e1
    exact ⟨⟨nm, st⟩, ⟨h2, h3⟩, rfl⟩
section
variable {H : Type} {enc : TypeId × Value → H} {W : World} {v : Value} {d : DataW H} {p : List MemPlace} {b0 base : Nat} {r : Reach} {held : Bool}
theorem open_graph (hv : Value.okWide Try.prog W r b0 25 v) (h : DataW.Trod enc Try.prog W base (fun _ => true) held 25 v d p) : ∃ g : Gz, (g.st.length ≤ maxI ∧ ∀ r ∈ g.st, r.length ≤ maxI) ∧ VR (bz W) (encG g) v := by
  obtain ⟨cs, rfl, _⟩ := okWide_struct Try.underlying25 hv
  obtain ⟨fuel, hf⟩ := h
  obtain ⟨us, h1, h2, _⟩ := open_data tysC_ok fuel _ _ _ (List.mem_cons_self ..) hf
  obtain ⟨g, h3, rfl⟩ := graph_data h1
  obtain ⟨l⟩ := cs
  exact ⟨g, h3, .agg _ _ h2.1 h2.2⟩
end
end Go.Proofs.Ythekpmpcbidjiaa
