
import Derived.Test.YtblaiilfoiefiaaGreatDoorXT19
import Derived.Test.YtblaiilfoiefiaaGreatDoorXT23
namespace Go.Proofs.YtblaiilfoiefiaaGreatDoor
open Go Go.RowKit Go.Sort U
set_option linter.unusedVariables false
set_option linter.unusedSimpArgs false
set_option maxRecDepth 100000
set_option maxHeartbeats 4000000
theorem hmixU : Tryz.prog.follows .mixedOrders = true := by kernel_rfl
def maxI : Nat := 9223372036854775807
theorem cleanI (n : Int) : NoNm (.int .i64 n) := .flat _ rfl
theorem wadd1 {i : Nat} (h : i < 9223372036854775807) : IntKind.i64.wrap ((i : Int) + 1) = ((i + 1 : Nat) : Int) := by
  rw [IntKind.wrap_i64]
  omega
theorem nth_mid {α : Type} (x : α) : ∀ (l m : List α), nth (l ++ x :: m) l.length = some x
  | [], m => rfl
  | y :: l, m => nth_mid x l m
def iL (l : List Int) : List Value := l.map (Value.int .i64)
theorem iL_map (l : List Int) : iL l = l.map (Value.int .i64) := rfl
theorem iL_len (l : List Int) : (iL l).length = l.length := List.length_map ..
theorem cellsI : ∀ l : List Int, cellsAll (iL l) = iL l
  | [] => rfl
  | x :: l => by rw [iL, List.map_cons, cellsAll, List.flatMap_cons]; exact congrArg _ (cellsI l)
theorem cleanIC (l : List Int) : ∀ x, x ∈ cellsAll (iL l) → NoNm x := fun c hc => by
  rw [cellsI] at hc
  obtain ⟨n, _, rfl⟩ := List.mem_map.1 hc
  exact cleanI n
theorem cleanIL (l : List Int) : NoNm (imS (iL l)) := .ims _ (cleanIC l)
theorem clN {P : Prop} (h : P := by (repeat (first | exact trivial | ((conv => whnf); first | exact trivial | refine And.intro (by first | assumption | exact cleanI _ | exact cleanIL _ | exact NoNm.flat _ rfl) ?_)))) : P := h
theorem iL_1 {l : List Int} : ∀ y, y ∈ iL l → (cellsOf y).length = 1 := fun y hy => by
  obtain ⟨n, _, rfl⟩ := List.mem_map.1 hy
  rfl
theorem iL_app (l m : List Int) : iL (l ++ m) = iL l ++ iL m := List.map_append
def gL (l : List (List Int)) : List Value := l.map fun r => imS (iL r)
theorem gL_map (l : List (List Int)) : gL l = l.map fun r => imS (iL r) := rfl
theorem gL_len (l : List (List Int)) : (gL l).length = l.length := List.length_map ..
theorem cellsG : ∀ l : List (List Int), cellsAll (gL l) = gL l
  | [] => rfl
  | x :: l => by rw [gL, List.map_cons, cellsAll, List.flatMap_cons]; exact congrArg _ (cellsG l)
theorem cleanGC (l : List (List Int)) : ∀ x, x ∈ cellsAll (gL l) → NoNm x := fun c hc => by
  rw [cellsG] at hc
  obtain ⟨n, _, rfl⟩ := List.mem_map.1 hc
  exact cleanIL n
theorem cleanGL (l : List (List Int)) : NoNm (imS (gL l)) := .ims _ (cleanGC l)
theorem gL_1 {l : List (List Int)} : ∀ y, y ∈ gL l → (cellsOf y).length = 1 := fun y hy => by
  obtain ⟨n, _, rfl⟩ := List.mem_map.1 hy
  rfl
def sL (l : List ByteArray) : List Value := l.map Value.string
theorem sL_len (l : List ByteArray) : (sL l).length = l.length := List.length_map ..
theorem cellsS : ∀ l : List ByteArray, cellsAll (sL l) = sL l
  | [] => rfl
  | x :: l => by rw [sL, List.map_cons, cellsAll, List.flatMap_cons]; exact congrArg _ (cellsS l)
theorem cleanSC (l : List ByteArray) : ∀ x, x ∈ cellsAll (sL l) → NoNm x := fun c hc => by
  rw [cellsS] at hc
  obtain ⟨n, _, rfl⟩ := List.mem_map.1 hc
  exact .flat _ rfl
theorem cleanSL (l : List ByteArray) : NoNm (imS (sL l)) := .ims _ (cleanSC l)
theorem sL_1 {l : List ByteArray} : ∀ y, y ∈ sL l → (cellsOf y).length = 1 := fun y hy => by
  obtain ⟨n, _, rfl⟩ := List.mem_map.1 hy
  rfl
theorem datF_int {t : TypeId} {k : IntKind} (ht : Tryz.prog.underlying t = some (.int k)) {n : Nat} {us : List Value} (h : DatF Tryz.prog n t us) : ∃ m, us = [.int k m] := by
  cases n with
  | zero => exact h.elim
  | succ n =>
    unfold DatF at h
    rw [ht] at h
    obtain ⟨m, h, _⟩ := h
    exact ⟨m, h⟩
theorem datF_bool {t : TypeId} (ht : Tryz.prog.underlying t = some .bool) {n : Nat} {us : List Value} (h : DatF Tryz.prog n t us) : ∃ m, us = [.bool m] := by
  cases n with
  | zero => exact h.elim
  | succ n =>
    unfold DatF at h
    rw [ht] at h
    exact h
theorem datF_str {t : TypeId} (ht : Tryz.prog.underlying t = some .string) {n : Nat} {us : List Value} (h : DatF Tryz.prog n t us) : ∃ s : ByteArray, us = [.string s] ∧ s.size ≤ maxLen := by
  cases n with
  | zero => exact h.elim
  | succ n =>
    unfold DatF at h
    rw [ht] at h
    exact h
theorem datF_row {t e : TypeId} (ht : Tryz.prog.underlying t = some (.slice e)) {n : Nat} {us : List Value} (h : DatF Tryz.prog n t us) : ∃ (k : Nat) (rows : List (List Value)), n = k + 1 ∧ us = [imS (rows.map (packV Tryz.prog e))] ∧ rows.length ≤ maxLen ∧ ∀ r ∈ rows, r.length = Tryz.prog.cellsOf e ∧ DatF Tryz.prog k e r := by
  cases n with
  | zero => exact h.elim
  | succ n =>
    unfold DatF at h
    rw [ht] at h
    obtain ⟨rows, h⟩ := h
    exact ⟨n, rows, rfl, h⟩
inductive Ex where
  | mk (k n a o : Int) (l : List Ex)
mutual
def encE : Ex → Value
  | .mk k n a o l => .agg ⟨[.int .i64 k, .int .i64 n, .int .i64 a, .int .i64 o, imS (encEs l)]⟩
def encEs : List Ex → List Value
  | [] => []
  | e :: l => encE e :: encEs l
end
theorem encEs_map : ∀ l, encEs l = l.map encE
  | [] => rfl
  | e :: l => by rw [encEs, encEs_map l]; rfl
mutual
def okE : Ex → Prop
  | .mk _ _ _ _ l => l.length ≤ maxI ∧ okEs l
def okEs : List Ex → Prop
  | [] => True
  | e :: l => okE e ∧ okEs l
end
theorem okEs_mem : ∀ {l : List Ex}, okEs l → ∀ e ∈ l, okE e
  | [], _, e, h => by cases h
  | x :: l, h, e, he => by
    rcases List.mem_cons.1 he with rfl | he
    · exact h.1
    · exact okEs_mem h.2 e he
theorem cleanE_cells : ∀ (e : Ex), ∀ c ∈ cellsOf (encE e), NoNm c
  | .mk k n a o l, c, hc => by
    simp only [encE, cellsOf, List.mem_cons, List.not_mem_nil, or_false] at hc
    rcases hc with rfl | rfl | rfl | rfl | rfl
    · exact .flat _ rfl
    · exact .flat _ rfl
    · exact .flat _ rfl
    · exact .flat _ rfl
    · refine .ims _ fun c hc => ?_
      rw [encEs_map] at hc
      obtain ⟨v, hv, hc⟩ := List.mem_flatMap.1 hc
      obtain ⟨e, he, rfl⟩ := List.mem_map.1 hv
      exact cleanE_cells e c hc
theorem cleanE (e : Ex) : NoNm (encE e) := by
  have h := cleanE_cells e
  cases e with
  | mk k n a o l =>
    rw [encE] at h ⊢
    exact .agg _ h
theorem cleanCells (l : List Ex) : ∀ c, c ∈ cellsAll (encEs l) → NoNm c := fun c hc => by
  rw [encEs_map] at hc
  obtain ⟨v, hv, hc⟩ := List.mem_flatMap.1 hc
  obtain ⟨e, he, rfl⟩ := List.mem_map.1 hv
  exact cleanE_cells e c hc
theorem cleanEs (l : List Ex) : NoNm (imS (encEs l)) := .ims _ (cleanCells l)
inductive St where
  | mk (k a : Int) (xs : List Ex) (th el : List St) (no : Int)
mutual
def encS : St → Value
  | .mk k a xs th el no => .agg ⟨[.int .i64 k, .int .i64 a, imS (encEs xs), imS (encSs th), imS (encSs el), .int .i64 no]⟩
def encSs : List St → List Value
  | [] => []
  | e :: l => encS e :: encSs l
end
theorem encSs_map : ∀ l, encSs l = l.map encS
  | [] => rfl
  | e :: l => by rw [encSs, encSs_map l]; rfl
theorem cleanS_cells : ∀ (e : St), ∀ c ∈ cellsOf (encS e), NoNm c
  | .mk k a xs th el no, c, hc => by
    simp only [encS, cellsOf, List.mem_cons, List.not_mem_nil, or_false] at hc
    rcases hc with rfl | rfl | rfl | rfl | rfl | rfl
    · exact .flat _ rfl
    · exact .flat _ rfl
    · exact cleanEs xs
    · refine .ims _ fun c hc => ?_
      rw [encSs_map] at hc
      obtain ⟨v, hv, hc⟩ := List.mem_flatMap.1 hc
      obtain ⟨e, he, rfl⟩ := List.mem_map.1 hv
      exact cleanS_cells e c hc
    · refine .ims _ fun c hc => ?_
      rw [encSs_map] at hc
      obtain ⟨v, hv, hc⟩ := List.mem_flatMap.1 hc
      obtain ⟨e, he, rfl⟩ := List.mem_map.1 hv
      exact cleanS_cells e c hc
    · exact .flat _ rfl
theorem cleanSCells (l : List St) : ∀ c, c ∈ cellsAll (encSs l) → NoNm c := fun c hc => by
  rw [encSs_map] at hc
  obtain ⟨v, hv, hc⟩ := List.mem_flatMap.1 hc
  obtain ⟨e, he, rfl⟩ := List.mem_map.1 hv
  exact cleanS_cells e c hc
theorem cleanSs (l : List St) : NoNm (imS (encSs l)) := .ims _ (cleanSCells l)
mutual
def szE : Ex → Nat
  | .mk _ _ _ _ l => szEs l + 1
def szEs : List Ex → Nat
  | [] => 0
  | e :: l => szE e + szEs l
end
mutual
def szS : St → Nat
  | .mk _ _ xs th el _ => szEs xs + szSs th + szSs el + 1
def szSs : List St → Nat
  | [] => 0
  | e :: l => szS e + szSs l
end
theorem szE_pos : ∀ e : Ex, 1 ≤ szE e
  | .mk _ _ _ _ l => by rw [szE]; omega
theorem szS_pos : ∀ e : St, 1 ≤ szS e
  | .mk _ _ _ _ _ _ => by rw [szS]; omega
theorem szEs_len : ∀ l : List Ex, l.length ≤ szEs l
  | [] => Nat.zero_le _
  | e :: l => by
    rw [szEs, List.length_cons]
    have := szE_pos e
    have := szEs_len l
    omega
theorem szSs_len : ∀ l : List St, l.length ≤ szSs l
  | [] => Nat.zero_le _
  | e :: l => by
    rw [szSs, List.length_cons]
    have := szS_pos e
    have := szSs_len l
    omega
theorem szEs_mem : ∀ {l : List Ex} {e : Ex}, e ∈ l → szE e ≤ szEs l
  | [], e, h => by cases h
  | x :: l, e, h => by
    rw [szEs]
    rcases List.mem_cons.1 h with rfl | h
    · omega
    · have := szEs_mem h; omega
theorem szSs_mem : ∀ {l : List St} {e : St}, e ∈ l → szS e ≤ szSs l
  | [], e, h => by cases h
  | x :: l, e, h => by
    rw [szSs]
    rcases List.mem_cons.1 h with rfl | h
    · omega
    · have := szSs_mem h; omega
mutual
def okS : St → Prop
  | .mk _ _ xs th el _ => xs.length ≤ maxI ∧ okEs xs ∧ th.length ≤ maxI ∧ okSs th ∧ el.length ≤ maxI ∧ okSs el
def okSs : List St → Prop
  | [] => True
  | e :: l => okS e ∧ okSs l
end
theorem okSs_mem : ∀ {l : List St}, okSs l → ∀ e ∈ l, okS e
  | [], _, e, h => by cases h
  | x :: l, h, e, he => by
    rcases List.mem_cons.1 he with rfl | he
    · exact h.1
    · exact okSs_mem h.2 e he
structure In13 where
  nm : ByteArray
  slot : Int
  lo : Int
  hi : Int
  sec : Bool
def encIn (x : In13) : Value := .agg ⟨[.string x.nm, .int .i64 x.slot, .int .i64 x.lo, .int .i64 x.hi, .bool x.sec]⟩
def inL (l : List In13) : List Value := l.map encIn
theorem inL_map (l : List In13) : inL l = l.map encIn := rfl
theorem inL_len (l : List In13) : (inL l).length = l.length := List.length_map ..
theorem cleanIn_cells (x : In13) : ∀ c ∈ cellsOf (encIn x), NoNm c := fun c hc => by
  simp only [encIn, cellsOf, List.mem_cons, List.not_mem_nil, or_false] at hc
  rcases hc with rfl | rfl | rfl | rfl | rfl <;> exact .flat _ rfl
theorem cleanInC (l : List In13) : ∀ c, c ∈ cellsAll (inL l) → NoNm c := fun c hc => by
  obtain ⟨v, hv, hc⟩ := List.mem_flatMap.1 hc
  obtain ⟨e, he, rfl⟩ := List.mem_map.1 hv
  exact cleanIn_cells e c hc
theorem cleanInL (l : List In13) : NoNm (imS (inL l)) := .ims _ (cleanInC l)
structure Pr13 where
  nm : ByteArray
  ps : List Int
  body : List St
def encPr (x : Pr13) : Value := .agg ⟨[.string x.nm, imS (iL x.ps), imS (encSs x.body)]⟩
def prL (l : List Pr13) : List Value := l.map encPr
theorem prL_map (l : List Pr13) : prL l = l.map encPr := rfl
theorem prL_len (l : List Pr13) : (prL l).length = l.length := List.length_map ..
theorem cleanPr_cells (x : Pr13) : ∀ c ∈ cellsOf (encPr x), NoNm c := fun c hc => by
  simp only [encPr, cellsOf, List.mem_cons, List.not_mem_nil, or_false] at hc
  rcases hc with rfl | rfl | rfl
  · exact .flat _ rfl
  · exact cleanIL _
  · exact cleanSs _
theorem cleanPrC (l : List Pr13) : ∀ c, c ∈ cellsAll (prL l) → NoNm c := fun c hc => by
  obtain ⟨v, hv, hc⟩ := List.mem_flatMap.1 hc
  obtain ⟨e, he, rfl⟩ := List.mem_map.1 hv
  exact cleanPr_cells e c hc
theorem cleanPrL (l : List Pr13) : NoNm (imS (prL l)) := .ims _ (cleanPrC l)
structure Pg where
  slots : Int
  arrs : List Int
  ins : List In13
  procs : List Pr13
  main : List St
def encP (p : Pg) : Value := .agg ⟨[.int .i64 p.slots, imS (iL p.arrs), imS (inL p.ins), imS (prL p.procs), imS (encSs p.main)]⟩
theorem cleanP_cells (p : Pg) : ∀ c ∈ [.int .i64 p.slots, imS (iL p.arrs), imS (inL p.ins), imS (prL p.procs), imS (encSs p.main)], NoNm c := fun c hc => by
  simp only [List.mem_cons, List.not_mem_nil, or_false] at hc
  rcases hc with rfl | rfl | rfl | rfl | rfl
  · exact .flat _ rfl
  · exact cleanIL _
  · exact cleanInL _
  · exact cleanPrL _
  · exact cleanSs _
theorem cleanP (p : Pg) : NoNm (encP p) := .agg _ (cleanP_cells p)
def szPrs : List Pr13 → Nat
  | [] => 0
  | x :: l => szSs x.body + szPrs l
theorem szPrs_mem : ∀ {l : List Pr13} {x : Pr13}, x ∈ l → szSs x.body ≤ szPrs l
  | [], x, h => by cases h
  | y :: l, x, h => by
    rw [szPrs]
    rcases List.mem_cons.1 h with rfl | h
    · omega
    · have := szPrs_mem h; omega
structure FewP (p : Pg) : Prop where
  arrs : p.arrs.length ≤ 20
  ins : p.ins.length ≤ 20
  procs : p.procs.length ≤ 20
  ps : ∀ x ∈ p.procs, x.ps.length ≤ 20
  sz : szPrs p.procs + szSs p.main ≤ 900
structure Gz where
  nm : List ByteArray
  st : List (List Int)
def encG (g : Gz) : Value := .agg ⟨[imS (sL g.nm), imS (gL g.st)]⟩
def okG (g : Gz) : Prop := g.nm.length ≤ 1000000 ∧ g.st.length ≤ maxI ∧ ∀ r ∈ g.st, r.length ≤ maxI
theorem cleanG_cells (g : Gz) : ∀ c ∈ [imS (sL g.nm), imS (gL g.st)], NoNm c := fun c hc => by
  simp only [List.mem_cons, List.not_mem_nil, or_false] at hc
  rcases hc with rfl | rfl
  · exact cleanSL _
  · exact cleanGL _
theorem cleanG (g : Gz) : NoNm (encG g) := .agg _ (cleanG_cells g)
def okT (n : Nat) (t : Int) : Bool := decide (0 ≤ t) && decide (t < n)
def rightG (g : Gz) : Bool := decide (g.st.length = g.nm.length + 1) && g.st.all fun r => r.all (okT g.nm.length)
theorem cright_d (g : Gz) (hg : okG g) : DenU Tryz.prog [] 183 [encG g] (.bool (rightG g)) := by
  refine denU_of_body hmixU rfl Tryz.func183 rfl rfl rfl 0 ?_
  intro Ts
  obtain ⟨nm, st⟩ := g
  obtain ⟨g1, g2, g3⟩ := hg
  dsimp only at g1 g2 g3
  have hw : IntKind.i64.wrap (((sL nm).length : Int) + 1) = ((nm.length + 1 : Nat) : Int) := by rw [sL_len]; exact wadd1 (by omega)
  by_cases hl : st.length = nm.length + 1
  · have hne : (((gL st).length : Int) != IntKind.i64.wrap (((sL nm).length : Int) + 1)) = false := by rw [hw, gL_len, hl]; simp
    (repeat' ((conv => whnf); first | refine goD ?_ | refine U.lw_c (fun hb => ?_) (fun hb => ?_)))
    (conv => whnf)
    refine loop_inv (α := List (List Int) × List (List Int)) (fun x => x.1 ++ x.2 = st ∧ (x.1.all fun r => r.all (okT nm.length)) = true) (fun x => (mkF [(1, .pointer (some ⟨0, 0, none⟩)), (2, .bool false), (16, imS (gL st)), (17, .int .i64 (gL st).length), (18, .int .i64 x.1.length)], ⟨mkO [(0, some (.cells 204 [imS (sL nm), imS (gL st)] false))], 1, 0, 0⟩)) (fun x => x.2.length) ([], st) ⟨rfl, rfl⟩ (Cov.renO (fun k => k) rfl rfl (Nat.le_refl 1) (Nat.zero_le _) (fun _ _ => rfl) rfl (fun k hk => absurd hk (Nat.not_lt_zero k)) (.cons rfl (.row _ _ _ _ (cleanG_cells ⟨nm, st⟩) rfl) .nil) (.cons rfl (.P rfl) (.cons rfl (.F rfl rfl) (.cons rfl (.clean _ _ (cleanGL _) rfl) (.cons rfl .I (.cons rfl .I .nil)))))) ?_
    rintro ⟨pre, rest⟩ ⟨p1, p2⟩
    dsimp only at p1 p2
    subst p1
    dsimp only
    rcases rest with _ | ⟨x, rest⟩
    · rw [List.append_nil] at *
      have h3b := U.lt_no gL_map pre
      (repeat' ((conv => whnf); first | refine goD ?_ | refine U.lw_c (fun hb => ?_) (fun hb => ?_)))
      (conv => whnf)
      exact .same (.flat _ rfl) (congrArg Value.bool (by simp [rightG, hl, p2]))
    · obtain ⟨h3b, h3c, h3n, h3w⟩ := U.at4 gL_map pre (x) rest (g2)
      have hx := g3 x (by simp)
      (repeat' ((conv => whnf); first | refine goD ?_ | refine U.lw_c (fun hb => ?_) (fun hb => ?_)))
      (conv => whnf)
      refine loop_inv (α := List Int × List Int) (fun y => y.1 ++ y.2 = x ∧ y.1.all (okT nm.length) = true) (fun y => (mkF [(1, .pointer (some ⟨0, 0, none⟩)), (2, .bool false), (16, imS (gL (pre ++ x :: rest))), (17, .int .i64 (gL (pre ++ x :: rest)).length), (18, .int .i64 pre.length), (22, imS (iL x)), (23, .int .i64 (iL x).length), (24, .int .i64 y.1.length)], ⟨mkO [(0, some (.cells 204 [imS (sL nm), imS (gL (pre ++ x :: rest))] false))], 1, 0, 0⟩)) (fun y => y.2.length) ([], x) ⟨rfl, rfl⟩ (Cov.slots (Nat.le_refl _) ⟨rfl, rfl, rfl, rfl, rfl, rfl, rfl, rfl, trivial⟩) ?_
      rintro ⟨p, q⟩ ⟨p3, p4⟩
      dsimp only at p3 p4
      subst p3
      dsimp only
      rcases q with _ | ⟨t, q⟩
      · rw [List.append_nil] at *
        have h4b := U.lt_no iL_map p
        (repeat' ((conv => whnf); first | refine goD ?_ | refine U.lw_c (fun hb => ?_) (fun hb => ?_)))
        (conv => whnf)
        refine ⟨(pre ++ [p], rest), ⟨by simp, by rw [List.all_append, p2]; simp [p4]⟩, by simp, ?_⟩
        refine Cov.slots (s := ⟨mkO [(0, some (.cells 204 [imS (sL nm), imS (gL (pre ++ p :: rest))] false))], 1, 0, 0⟩) (Nat.le_refl 1) ⟨rfl, rfl, rfl, rfl, ?_, trivial⟩
        exact congrArg some (congrArg (Value.int .i64) h3w)
      · obtain ⟨h4b, h4c, h4n, h4w⟩ := U.at4 iL_map p (t) q (hx)
        (repeat' ((conv => whnf); first | refine goD ?_ | refine U.lw_c (fun hb => ?_) (fun hb => ?_)))
        all_goals (conv => whnf)
        · have h5 : ¬ okT nm.length t = true := by simp at hb; simp [okT]; omega
          exact .same (.flat _ rfl) (congrArg Value.bool (by simp [rightG, h5]))
        · have h5 : ¬ okT nm.length t = true := by rw [sL_len] at hb; simp at hb; simp [okT]; omega
          exact .same (.flat _ rfl) (congrArg Value.bool (by simp [rightG, h5]))
        · have h5 : okT nm.length t = true := by rename_i hb0; rw [sL_len] at hb; simp at hb hb0; simp [okT]; omega
          refine ⟨(p ++ [t], q), ⟨by simp, by rw [List.all_append, p4]; simp [h5]⟩, by simp, ?_⟩
          refine Cov.slots (s := ⟨mkO [(0, some (.cells 204 [imS (sL nm), imS (gL (pre ++ (p ++ t :: q) :: rest))] false))], 1, 0, 0⟩) (Nat.le_refl 1) ⟨rfl, rfl, rfl, rfl, rfl, rfl, rfl, ?_, trivial⟩
          exact congrArg some (congrArg (Value.int .i64) h4w)
  · have hne : (((gL st).length : Int) != IntKind.i64.wrap (((sL nm).length : Int) + 1)) = true := by rw [hw, gL_len]; simp; omega
    (repeat' ((conv => whnf); first | refine goD ?_ | refine U.lw_c (fun hb => ?_) (fun hb => ?_)))
    (conv => whnf)
    exact .same (.flat _ rfl) (congrArg Value.bool (by simp [rightG, hl]))
def letB (n : Int) : Bool := (decide (n ≥ 97) && decide (n ≤ 122)) || (decide (n ≥ 65) && decide (n ≤ 90)) || (n == 95)
def okC (first : Bool) (c : UInt8) : Bool := letB c.toNat || (!first && decide ((c.toNat : Int) ≥ 48) && decide ((c.toNat : Int) ≤ 57))
def okAll : List UInt8 → Bool
  | [] => true
  | c :: l => okC true c && l.all (okC false)
theorem okAll_snoc (l : List UInt8) (c : UInt8) : okAll (l ++ [c]) = (okAll l && okC l.isEmpty c) := by
  cases l with
  | nil => simp [okAll]
  | cons d l => simp [okAll, Bool.and_assoc]
theorem okAll_app (l m : List UInt8) : okAll (l ++ m) = true → okAll l = true := by
  cases l with
  | nil => intro; rfl
  | cons d l => simp only [List.cons_append, okAll, List.all_append, Bool.and_eq_true]; exact fun h => ⟨h.1, h.2.1⟩
def wordB (b : ByteArray) : Bool := decide (1 ≤ b.size) && decide (b.size ≤ 32) && okAll b.data.toList
def kwB : List ByteArray := [⟨#[97, 114, 114, 97, 121]⟩, ⟨#[99, 97, 108, 108]⟩, ⟨#[101, 108, 115, 101]⟩, ⟨#[105, 102]⟩, ⟨#[105, 110]⟩, ⟨#[109, 97, 105, 110]⟩, ⟨#[111, 117, 116, 112, 117, 116]⟩, ⟨#[112, 114, 111, 99]⟩, ⟨#[112, 117, 98, 108, 105, 99]⟩, ⟨#[115, 101, 99, 114, 101, 116]⟩, ⟨#[115, 107, 105, 112]⟩, ⟨#[118, 97, 114]⟩, ⟨#[119, 104, 105, 108, 101]⟩]
def nameB (b : ByteArray) : Bool := !kwB.any (fun k => decide (k = b)) && wordB b
def oneB (o : Int) : Bool := decide (o ≥ 18) && decide (o ≤ 20)
def ownE (sl na : Int) : Ex → Bool
  | .mk k n a o l =>
    if k = 0 then decide (a = 0) && l.isEmpty && decide (o = 0)
    else if k = 1 then decide (0 ≤ a) && decide (a < sl) && l.isEmpty && decide (n = 0) && decide (o = 0)
    else if k = 2 then decide (0 ≤ a) && decide (a < na) && decide (l.length = 1) && decide (n = 0) && decide (o = 0)
    else if k = 3 then decide (a = 0) && decide (l.length = 1) && decide (n = 0) && oneB o
    else if k = 4 then decide (a = 0) && decide (l.length = 2) && decide (n = 0) && decide (0 ≤ o) && decide (o ≤ 17)
    else false
mutual
def postE : Ex → List Ex
  | .mk k n a o l => postEs l ++ [.mk k n a o l]
def postEs : List Ex → List Ex
  | [] => []
  | e :: l => postE e ++ postEs l
end
def parN (ps : List Pr13) (a : Int) : Nat := match ps[a.toNat]? with
  | some x => x.ps.length
  | none => 0
def ownS (p : Pg) : St → Bool
  | .mk k a xs th el no =>
    if k = 0 then decide (0 ≤ a) && decide (a < p.slots) && decide (xs.length = 1) && th.isEmpty && el.isEmpty
    else if k = 1 then decide (0 ≤ a) && decide (a < p.arrs.length) && decide (xs.length = 2) && th.isEmpty && el.isEmpty
    else if k = 2 then decide (a = 0) && decide (xs.length = 1)
    else if k = 3 then decide (a = 0) && decide (xs.length = 1) && el.isEmpty
    else if k = 4 then decide (a = 0) && decide (xs.length = 1) && th.isEmpty && el.isEmpty
    else if k = 5 then decide (0 ≤ a) && decide (a < p.procs.length) && decide (xs.length = parN p.procs a) && th.isEmpty && el.isEmpty
    else if k = 6 then decide (a = 0) && decide (xs.length = 0) && th.isEmpty && el.isEmpty
    else false
def exsB (p : Pg) (xs : List Ex) : Bool := (postEs xs).all (ownE p.slots p.arrs.length)
def standsB (p : Pg) : St → Bool
  | .mk k a xs th el no => ownS p (.mk k a xs th el no) && exsB p xs
mutual
def allS : St → List St
  | .mk k a xs th el no => .mk k a xs th el no :: (allSs th ++ allSs el)
def allSs : List St → List St
  | [] => []
  | e :: l => allS e ++ allSs l
end
def noS : St → Int
  | .mk _ _ _ _ _ no => no
def nums : List St → Int → Bool
  | [], _ => true
  | s :: l, n => decide (noS s = n) && nums l (n + 1)
theorem nums_app : ∀ (a b : List St) (n : Int), nums (a ++ b) n = (nums a n && nums b (n + a.length))
  | [], b, n => by simp [nums]
  | s :: a, b, n => by
    rw [List.cons_append, nums, nums, nums_app a b, Bool.and_assoc, List.length_cons]
    congr 3
    omega
def preP (p : Pg) : List St := (p.procs.flatMap fun x => allSs x.body) ++ allSs p.main
mutual
theorem allS_len : ∀ s : St, (allS s).length ≤ szS s
  | .mk k a xs th el no => by
    have := allSs_len th
    have := allSs_len el
    rw [allS, szS, List.length_cons, List.length_append]; omega
theorem allSs_len : ∀ l : List St, (allSs l).length ≤ szSs l
  | [] => by simp [allSs]
  | e :: l => by
    have := allS_len e
    have := allSs_len l
    rw [allSs, szSs, List.length_append]; omega
end
theorem preP_len (p : Pg) : (preP p).length ≤ szPrs p.procs + szSs p.main := by
  have h : ∀ l : List Pr13, (l.flatMap fun x => allSs x.body).length ≤ szPrs l := fun l => by
    induction l with
    | nil => simp [szPrs]
    | cons x l ih =>
      have := allSs_len x.body
      rw [List.flatMap_cons, List.length_append, szPrs]; omega
  have := h p.procs
  have := allSs_len p.main
  rw [preP, List.length_append]; omega
def arrsB (l : List Int) : Bool := l.all (fun n => decide (1 ≤ n) && decide (n ≤ 1024)) && decide (l.sum ≤ 4096)
def insB (l : List In13) : Bool := l.all (fun x => nameB x.nm && decide (x.lo ≤ x.hi)) && decide (l.map (·.nm)).Nodup
def prsB (l : List Pr13) : Bool := l.all (fun x => nameB x.nm) && decide (l.map (·.nm)).Nodup
def slotL (p : Pg) : List Int := p.ins.map (·.slot) ++ p.procs.flatMap (·.ps)
def slotB (p : Pg) : Bool := (slotL p).all (fun s => decide (0 ≤ s) && decide (s < p.slots)) && decide (slotL p).Nodup
def callL (l : List St) : List Int := l.filterMap fun s => match s with
  | .mk k a _ _ _ _ => if k = 5 then some a else none
def graphP (p : Pg) : Gz := ⟨p.procs.map (·.nm), p.procs.map (fun x => callL (allSs x.body)) ++ [callL (allSs p.main)]⟩
end Go.Proofs.YtblaiilfoiefiaaGreatDoor
