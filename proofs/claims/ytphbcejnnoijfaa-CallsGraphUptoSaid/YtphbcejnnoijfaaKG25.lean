
import Derived.Test.YtphbcejnnoijfaaKG19
import Derived.Test.YtphbcejnnoijfaaKG24
namespace Go.Proofs.Ytphbcejnnoijfaa
open Go Go.RowKit Go.Sort U
set_option linter.unusedVariables false
set_option linter.unusedSimpArgs false
set_option maxRecDepth 100000
set_option maxHeartbeats 4000000
theorem hmixU : Try.prog.follows .mixedOrders = true := by kernel_rfl
def maxI : Nat := 9223372036854775807
theorem cleanI (n : Int) : NoNm (.int .i64 n) := .flat _ rfl
theorem wadd1 {i : Nat} (h : i < 9223372036854775807) : IntKind.i64.wrap ((i : Int) + 1) = ((i + 1 : Nat) : Int) := by
  rw [IntKind.wrap_i64]
  omega
def iL (l : List Int) : List Value := l.map (Value.int .i64)
theorem iL_map (l : List Int) : iL l = l.map (Value.int .i64) := rfl
theorem iL_len (l : List Int) : (iL l).length = l.length := List.length_map ..
theorem cellsI : ∀ l : List Int, cellsAll (iL l) = iL l
  | [] => rfl
  | x :: l => by rw [iL, List.map_cons, cellsAll, List.flatMap_cons]; exact congrArg _ (cellsI l)
theorem cleanIC (l : List Int) : ∀ x, x ∈ cellsAll (iL l) → NoNm x := fun c hc => by
  rw [cellsI] at hc
  obtain ⟨n, _, rfl⟩ := List.mem_map.1 hc
  exact cleanI n
theorem cleanIL (l : List Int) : NoNm (imS (iL l)) := .ims _ (cleanIC l)
theorem clN {P : Prop} (h : P := by (repeat (first | exact trivial | ((conv => whnf); first | exact trivial | refine And.intro (by first | assumption | exact cleanI _ | exact cleanIL _ | exact NoNm.flat _ rfl) ?_)))) : P := h
theorem iL_1 {l : List Int} : ∀ y, y ∈ iL l → (cellsOf y).length = 1 := fun y hy => by
  obtain ⟨n, _, rfl⟩ := List.mem_map.1 hy
  rfl
theorem iL_app (l m : List Int) : iL (l ++ m) = iL l ++ iL m := List.map_append
def gL (l : List (List Int)) : List Value := l.map fun r => imS (iL r)
theorem gL_map (l : List (List Int)) : gL l = l.map fun r => imS (iL r) := rfl
theorem gL_len (l : List (List Int)) : (gL l).length = l.length := List.length_map ..
theorem cellsG : ∀ l : List (List Int), cellsAll (gL l) = gL l
  | [] => rfl
  | x :: l => by rw [gL, List.map_cons, cellsAll, List.flatMap_cons]; exact congrArg _ (cellsG l)
theorem cleanGC (l : List (List Int)) : ∀ x, x ∈ cellsAll (gL l) → NoNm x := fun c hc => by
  rw [cellsG] at hc
  obtain ⟨n, _, rfl⟩ := List.mem_map.1 hc
  exact cleanIL n
theorem cleanGL (l : List (List Int)) : NoNm (imS (gL l)) := .ims _ (cleanGC l)
theorem gL_1 {l : List (List Int)} : ∀ y, y ∈ gL l → (cellsOf y).length = 1 := fun y hy => by
  obtain ⟨n, _, rfl⟩ := List.mem_map.1 hy
  rfl
def sL (l : List ByteArray) : List Value := l.map Value.string
theorem sL_map (l : List ByteArray) : sL l = l.map Value.string := rfl
theorem sL_len (l : List ByteArray) : (sL l).length = l.length := List.length_map ..
theorem cellsS : ∀ l : List ByteArray, cellsAll (sL l) = sL l
  | [] => rfl
  | x :: l => by rw [sL, List.map_cons, cellsAll, List.flatMap_cons]; exact congrArg _ (cellsS l)
theorem cleanSC (l : List ByteArray) : ∀ x, x ∈ cellsAll (sL l) → NoNm x := fun c hc => by
  rw [cellsS] at hc
  obtain ⟨n, _, rfl⟩ := List.mem_map.1 hc
  exact .flat _ rfl
theorem cleanSL (l : List ByteArray) : NoNm (imS (sL l)) := .ims _ (cleanSC l)
theorem sL_1 {l : List ByteArray} : ∀ y, y ∈ sL l → (cellsOf y).length = 1 := fun y hy => by
  obtain ⟨n, _, rfl⟩ := List.mem_map.1 hy
  rfl
structure Gz where
  nm : List ByteArray
  st : List (List Int)
def encG (g : Gz) : Value := .agg ⟨[imS (sL g.nm), imS (gL g.st)]⟩
def okG (g : Gz) : Prop := g.nm.length ≤ 1000000 ∧ g.st.length ≤ maxI ∧ ∀ r ∈ g.st, r.length ≤ maxI
theorem cleanG_cells (g : Gz) : ∀ c ∈ [imS (sL g.nm), imS (gL g.st)], NoNm c := fun c hc => by
  simp only [List.mem_cons, List.not_mem_nil, or_false] at hc
  rcases hc with rfl | rfl
  · exact cleanSL _
  · exact cleanGL _
theorem cleanG (g : Gz) : NoNm (encG g) := .agg _ (cleanG_cells g)
def okT (n : Nat) (t : Int) : Bool := decide (0 ≤ t) && decide (t < n)
def rightG (g : Gz) : Bool := decide (g.st.length = g.nm.length + 1) && g.st.all fun r => r.all (okT g.nm.length)
theorem cright_d (g : Gz) (hg : okG g) : DenU Try.prog [] 10 [encG g] (.bool (rightG g)) := by
  refine denU_of_body hmixU rfl Try.func10 rfl rfl rfl 0 ?_
  intro Ts
  obtain ⟨nm, st⟩ := g
  obtain ⟨g1, g2, g3⟩ := hg
  dsimp only at g1 g2 g3
  have hw : IntKind.i64.wrap (((sL nm).length : Int) + 1) = ((nm.length + 1 : Nat) : Int) := by rw [sL_len]; exact wadd1 (by omega)
  by_cases hl : st.length = nm.length + 1
  · have hne : (((gL st).length : Int) != IntKind.i64.wrap (((sL nm).length : Int) + 1)) = false := by rw [hw, gL_len, hl]; simp
    (repeat' ((conv => whnf); first | refine goD ?_ | refine U.lw_c (fun hb => ?_) (fun hb => ?_)))
    (conv => whnf)
    refine loop_inv (α := List (List Int) × List (List Int)) (fun x => x.1 ++ x.2 = st ∧ (x.1.all fun r => r.all (okT nm.length)) = true) (fun x => (mkF [(1, .pointer (some ⟨0, 0, none⟩)), (2, .bool false), (16, imS (gL st)), (17, .int .i64 (gL st).length), (18, .int .i64 x.1.length)], ⟨mkO [(0, some (.cells 44 [imS (sL nm), imS (gL st)] false))], 1, 0, 0⟩)) (fun x => x.2.length) ([], st) ⟨rfl, rfl⟩ (Cov.renO (fun k => k) rfl rfl (Nat.le_refl 1) (Nat.zero_le _) (fun _ _ => rfl) rfl (fun k hk => absurd hk (Nat.not_lt_zero k)) (.cons rfl (.row _ _ _ _ (cleanG_cells ⟨nm, st⟩) rfl) .nil) (.cons rfl (.P rfl) (.cons rfl (.F rfl rfl) (.cons rfl (.clean _ _ (cleanGL _) rfl) (.cons rfl .I (.cons rfl .I .nil)))))) ?_
    rintro ⟨pre, rest⟩ ⟨p1, p2⟩
    dsimp only at p1 p2
    subst p1
    dsimp only
    rcases rest with _ | ⟨x, rest⟩
    · rw [List.append_nil] at *
      have h3b := U.lt_no gL_map pre
      (repeat' ((conv => whnf); first | refine goD ?_ | refine U.lw_c (fun hb => ?_) (fun hb => ?_)))
      (conv => whnf)
      exact .same (.flat _ rfl) (congrArg Value.bool (by simp [rightG, hl, p2]))
    · obtain ⟨h3b, h3c, h3n, h3w⟩ := U.at4 gL_map pre (x) rest (g2)
      have hx := g3 x (by simp)
      (repeat' ((conv => whnf); first | refine goD ?_ | refine U.lw_c (fun hb => ?_) (fun hb => ?_)))
      (conv => whnf)
      refine loop_inv (α := List Int × List Int) (fun y => y.1 ++ y.2 = x ∧ y.1.all (okT nm.length) = true) (fun y => (mkF [(1, .pointer (some ⟨0, 0, none⟩)), (2, .bool false), (16, imS (gL (pre ++ x :: rest))), (17, .int .i64 (gL (pre ++ x :: rest)).length), (18, .int .i64 pre.length), (22, imS (iL x)), (23, .int .i64 (iL x).length), (24, .int .i64 y.1.length)], ⟨mkO [(0, some (.cells 44 [imS (sL nm), imS (gL (pre ++ x :: rest))] false))], 1, 0, 0⟩)) (fun y => y.2.length) ([], x) ⟨rfl, rfl⟩ (Cov.slots (Nat.le_refl _) ⟨rfl, rfl, rfl, rfl, rfl, rfl, rfl, rfl, trivial⟩) ?_
      rintro ⟨p, q⟩ ⟨p3, p4⟩
      dsimp only at p3 p4
      subst p3
      dsimp only
      rcases q with _ | ⟨t, q⟩
      · rw [List.append_nil] at *
        have h4b := U.lt_no iL_map p
        (repeat' ((conv => whnf); first | refine goD ?_ | refine U.lw_c (fun hb => ?_) (fun hb => ?_)))
        (conv => whnf)
        refine ⟨(pre ++ [p], rest), ⟨by simp, by rw [List.all_append, p2]; simp [p4]⟩, by simp, ?_⟩
        refine Cov.slots (s := ⟨mkO [(0, some (.cells 44 [imS (sL nm), imS (gL (pre ++ p :: rest))] false))], 1, 0, 0⟩) (Nat.le_refl 1) ⟨rfl, rfl, rfl, rfl, ?_, trivial⟩
        exact congrArg some (congrArg (Value.int .i64) h3w)
      · obtain ⟨h4b, h4c, h4n, h4w⟩ := U.at4 iL_map p (t) q (hx)
        (repeat' ((conv => whnf); first | refine goD ?_ | refine U.lw_c (fun hb => ?_) (fun hb => ?_)))
        all_goals (conv => whnf)
        · have h5 : ¬ okT nm.length t = true := by simp at hb; simp [okT]; omega
          exact .same (.flat _ rfl) (congrArg Value.bool (by simp [rightG, h5]))
        · have h5 : ¬ okT nm.length t = true := by rw [sL_len] at hb; simp at hb; simp [okT]; omega
          exact .same (.flat _ rfl) (congrArg Value.bool (by simp [rightG, h5]))
        · have h5 : okT nm.length t = true := by rename_i hb0; rw [sL_len] at hb; simp at hb hb0; simp [okT]; omega
          refine ⟨(p ++ [t], q), ⟨by simp, by rw [List.all_append, p4]; simp [h5]⟩, by simp, ?_⟩
          refine Cov.slots (s := ⟨mkO [(0, some (.cells 44 [imS (sL nm), imS (gL (pre ++ (p ++ t :: q) :: rest))] false))], 1, 0, 0⟩) (Nat.le_refl 1) ⟨rfl, rfl, rfl, rfl, rfl, rfl, rfl, ?_, trivial⟩
          exact congrArg some (congrArg (Value.int .i64) h4w)
  · have hne : (((gL st).length : Int) != IntKind.i64.wrap (((sL nm).length : Int) + 1)) = true := by rw [hw, gL_len]; simp; omega
    (repeat' ((conv => whnf); first | refine goD ?_ | refine U.lw_c (fun hb => ?_) (fun hb => ?_)))
    (conv => whnf)
    exact .same (.flat _ rfl) (congrArg Value.bool (by simp [rightG, hl]))
end Go.Proofs.Ytphbcejnnoijfaa
namespace Go.Proofs.Ytphbcejnnoijfaa.U
open Go Go.RowKit Go.Sort
set_option linter.unusedVariables false
set_option linter.unusedSimpArgs false
set_option maxRecDepth 100000
set_option maxHeartbeats 4000000
def mE {K V : Type} (ek : K → Value) (ev : V → Value) (m : List (K × V)) : List (Value × Value) := m.map fun e => (ek e.1, ev e.2)
theorem mE_len {K V : Type} {ek : K → Value} {ev : V → Value} (m : List (K × V)) : (mE ek ev m).length = m.length := List.length_map ..
theorem mE_app {K V : Type} {ek : K → Value} {ev : V → Value} (a b : List (K × V)) : mE ek ev (a ++ b) = mE ek ev a ++ mE ek ev b := List.map_append
theorem mE_snoc {K V : Type} {ek : K → Value} {ev : V → Value} (m : List (K × V)) (z : K) (u : V) : mE ek ev m ++ [(ek z, ev u)] = mE ek ev (m ++ [(z, u)]) := by rw [mE_app]; rfl
theorem mE_noNm {K V : Type} {ek : K → Value} {ev : V → Value} (h : ∀ u, NoNm (ev u)) (m : List (K × V)) : ∀ e ∈ mE ek ev m, NoNm e.2 := fun e he => by
  obtain ⟨x, _, rfl⟩ := List.mem_map.1 he
  exact h _
def lookM {K V : Type} [DecidableEq K] (z : K) : List (K × V) → Nat → Option (Nat × V)
  | [], _ => none
  | (y, u) :: m, i => if z = y then some (i, u) else lookM z m (i + 1)
theorem lookM_none {K V : Type} [DecidableEq K] {z : K} : ∀ {m : List (K × V)} {i : Nat}, z ∉ m.map (·.1) → lookM z m i = none
  | [], i, h => rfl
  | (y, u) :: m, i, h => by
    simp only [List.map_cons, List.mem_cons, not_or] at h
    rw [lookM, if_neg h.1]
    exact lookM_none h.2
theorem lookM_mid {K V : Type} [DecidableEq K] {z : K} {u : V} {q : List (K × V)} : ∀ {p : List (K × V)} {i : Nat}, z ∉ p.map (·.1) → lookM z (p ++ (z, u) :: q) i = some (i + p.length, u)
  | [], i, h => by simp [lookM]
  | (y, v) :: p, i, h => by
    simp only [List.map_cons, List.mem_cons, not_or] at h
    rw [List.cons_append, lookM, if_neg h.1, lookM_mid h.2]
    simp; omega
theorem look_cases {K V : Type} [DecidableEq K] (z : K) : ∀ (m : List (K × V)), (z ∉ m.map (·.1)) ∨ ∃ p u q, m = p ++ (z, u) :: q ∧ z ∉ p.map (·.1)
  | [] => .inl (by simp)
  | (y, u) :: m => by
    by_cases h : z = y
    · subst h
      exact .inr ⟨[], u, m, rfl, by simp⟩
    · rcases look_cases z m with h1 | ⟨p, v, q, rfl, h2⟩
      · exact .inl (by simp only [List.map_cons, List.mem_cons, not_or]; exact ⟨h, h1⟩)
      · exact .inr ⟨(y, u) :: p, v, q, rfl, by simp only [List.map_cons, List.mem_cons, not_or]; exact ⟨h, h2⟩⟩
def KeyOk {K : Type} [DecidableEq K] (P : Program) (kt : TypeId) (d : TypeDesc) (ek : K → Value) : Prop := ∀ (V : Type) (ev : V → Value) (z : K) (m : List (K × V)), findC P kt d (ek z) (mE ek ev m) = some ((lookM z m 0).map fun r => (r.1, ev r.2))
theorem keyOk_arr {K : Type} [DecidableEq K] {P : Program} {kt : TypeId} {a : TypeId} {n : Nat} {ek : K → Value} (h : ∀ a b, pureRun P (Op.equal kt (ek a) (ek b)) = some (decide (a = b))) (hs : ∀ a, Instr.sameBits 10000 (ek a) (ek a) = true) : KeyOk P kt (.array a n) ek := fun V ev z m => by
  have key : ∀ (m : List (K × V)) (i : Nat), findA P kt (ek z) (mE ek ev m) i = some ((lookM z m i).map fun r => (r.1, ev r.2)) := fun m => by
    induction m with
    | nil => intro i; rfl
    | cons e m ih =>
      intro i
      obtain ⟨y, u⟩ := e
      show findA P kt (ek z) ((ek y, ev u) :: mE ek ev m) i = _
      rw [findA, h z y, lookM]
      by_cases hz : z = y
      · subst hz
        simp [hs]
      · simp only [hz, decide_false, if_false]
        rw [natC_eq]
        exact ih (i + 1)
  exact key m 0
theorem keyOk_flat {K : Type} [DecidableEq K] {P : Program} {kt : TypeId} {d : TypeDesc} {ek : K → Value} (hd : ∀ a n, d ≠ .array a n) (h : ∀ a b, Instr.sameNow d (ek a) (ek b) = some (decide (a = b))) : KeyOk P kt d ek := fun V ev z m => by
  have key : ∀ (m : List (K × V)) (i : Nat), findO d (ek z) (mE ek ev m) i = some ((lookM z m i).map fun r => (r.1, ev r.2)) := fun m => by
    induction m with
    | nil => intro i; rfl
    | cons e m ih =>
      intro i
      obtain ⟨y, u⟩ := e
      show findO d (ek z) ((ek y, ev u) :: mE ek ev m) i = _
      rw [findO, h z y, lookM]
      by_cases hz : z = y
      · subst hz
        simp
      · simp only [hz, decide_false, if_false]
        exact ih (i + 1)
  have e : findC P kt d (ek z) (mE ek ev m) = findO d (ek z) (mE ek ev m) 0 := by
    unfold findC
    split
    · rename_i a n
      exact absurd rfl (hd a n)
    · rfl
  rw [e, key]
theorem KeyOk.none {K V : Type} [DecidableEq K] {P : Program} {kt : TypeId} {d : TypeDesc} {ek : K → Value} {ev : V → Value} (h : KeyOk P kt d ek) {z : K} {m : List (K × V)} (hz : z ∉ m.map (·.1)) : findC P kt d (ek z) (mE ek ev m) = some none := by
  rw [h V ev z m, lookM_none hz]
  rfl
theorem KeyOk.mid {K V : Type} [DecidableEq K] {P : Program} {kt : TypeId} {d : TypeDesc} {ek : K → Value} {ev : V → Value} (h : KeyOk P kt d ek) {z : K} {p q : List (K × V)} {u : V} (hz : z ∉ p.map (·.1)) : findC P kt d (ek z) (mE ek ev (p ++ (z, u) :: q)) = some (some (p.length, ev u)) := by
  rw [h V ev z _, lookM_mid hz]
  simp
theorem nthN_range {n i : Nat} (h : i < n) : nthN (List.range n) i = some i := by
  rw [nthN_eq]
  simp [h]
theorem idxB_from {b : Nat} : ∀ (n c i : Nat), c ≤ b → b < c + n → idxB b (List.range' c n) i = some (i + (b - c))
  | 0, c, i, h1, h2 => by omega
  | n + 1, c, i, h1, h2 => by
    rw [List.range'_succ, idxB]
    split
    · rename_i hb
      have := Nat.eq_of_beq_eq_true hb
      rw [this]; simp
    · rename_i hb
      have := Nat.ne_of_beq_eq_false hb
      rw [natC_eq, idxB_from n (c + 1) (i + 1) (by omega) (by omega)]
      congr 1; omega
theorem idxB_range {n b : Nat} (h : b < n) : idxB b (List.range n) 0 = some b := by
  rw [List.range_eq_range', idxB_from n 0 0 (by omega) (by omega)]
  simp
theorem range_snoc (n : Nat) : List.range n ++ [n] = List.range (n + 1) := (List.range_succ ..).symm
theorem idxB_snoc (n : Nat) : idxB n (List.range n ++ [n]) 0 = some n := by rw [range_snoc]; exact idxB_range (by omega)
theorem nthP_at {K V : Type} {ek : K → Value} {ev : V → Value} {m : List (K × V)} {i : Nat} {z : K} {u : V} (h : m[i]? = some (z, u)) : nthP (mE ek ev m) i = some (ek z, ev u) := by
  rw [nthP_eq]
  simp [mE, h]
theorem setP_mid {K V : Type} {ek : K → Value} {ev : V → Value} (p q : List (K × V)) (z : K) (u w : V) : setL (mE ek ev (p ++ (z, u) :: q)) p.length (ek z, ev w) = mE ek ev (p ++ (z, w) :: q) := by
  rw [setL_eq]
  simp [mE]
theorem nthP_setP {l : List (Value × Value)} {n : Nat} {e : Value × Value} (h : n < l.length) : nthP (setL l n e) n = some e := by
  rw [nthP_eq, setL_eq]
  simp [h]
theorem setP_setP {l : List (Value × Value)} {n : Nat} {e e' : Value × Value} : setL (setL l n e) n e' = setL l n e' := by
  rw [setL_eq, setL_eq, setL_eq]
  simp
theorem nthP_snoc {l : List (Value × Value)} {n : Nat} {e : Value × Value} (h : n = l.length) : nthP (l ++ [e]) n = some e := by
  rw [nthP_eq]
  simp [h]
theorem setP_snoc {l : List (Value × Value)} {n : Nat} {e e' : Value × Value} (h : n = l.length) : setL (l ++ [e]) n e' = l ++ [e'] := by
  rw [setL_eq]
  simp [h]
theorem bornB_range (n : Nat) : bornB n n (List.range n) = true := by
  simp [bornB]
theorem left_nil {seen : List Nat} {n : Nat} (h : leftI seen (List.range n) 0 = []) : ∀ i, i < n → i ∈ seen := fun i hi => by
  by_cases hs : i ∈ seen
  · exact hs
  · have := (leftI_mem (seen := seen) (List.range n) 0 i).2 ⟨i, i, by omega, by simp [hi], hs⟩
    rw [h] at this
    cases this
theorem left_in {seen : List Nat} {n i : Nat} (h : i ∈ leftI seen (List.range n) 0) : i < n ∧ i ∉ seen := by
  obtain ⟨j, b, e1, e2, e3⟩ := (leftI_mem (List.range n) 0 i).1 h
  have hj : j < n := by
    by_cases hj : j < n
    · exact hj
    · rw [List.getElem?_eq_none (by simp; omega)] at e2
      cases e2
  have : b = j := by
    simp [hj] at e2
    exact e2.symm
  subst this
  exact ⟨by omega, by rw [show i = b by omega]; exact e3⟩
theorem onV_p {α : Type} {x : Option α} {u : α} {k : α → Prop} (hx : x = some u) (h : k u) : onV propX.toDom x k := by rw [hx]; exact h
theorem valB_int (k : IntKind) (n : Int) : valB (.int k n) (.int k n) = true := by simp [valB, valB1]
theorem exB_map {K V : Type} {ek : K → Value} {ev : V → Value} (hk : ∀ a, valB (ek a) (ek a) = true) (hv : ∀ a, valB (ev a) (ev a) = true) {es : List (Value × Value)} {m : List (K × V)} (he : es = mE ek ev m) {bs : List Nat} {cl : Nat} {c : Bool} (hc : c = true) : (exB (some (.map es bs cl)) (.map es bs cl) && c) = true := by
  have key : ∀ m : List (K × V), entsB (mE ek ev m) (mE ek ev m) = true := fun m => by
    induction m with
    | nil => rfl
    | cons e m ih =>
      show (valB (ek e.1) (ek e.1) && valB (ev e.2) (ev e.2) && entsB (mE ek ev m) (mE ek ev m)) = true
      rw [hk, hv, ih]
      rfl
  subst he
  show (entsB (mE ek ev m) (mE ek ev m) && (decide (bs = bs) && Nat.beq cl cl) && c) = true
  rw [key, hc, decide_eq_true rfl, Nat.beq_refl]
  rfl
theorem RenB.mapE {n : Nat} {ρ : Ren} {es es' : List (Value × Value)} {bs bs' : List Nat} {cl cl' : Nat} (he : es = es') (hb : bs = bs') (hc : cl = cl') (h : ∀ e ∈ es, NoNm e.2) : RenB n ρ (.map es bs cl) (.map es' bs' cl') := by
  subst he; subst hb; subst hc
  exact .map _ _ _ h
theorem nodup_len : ∀ {n : Nat} {l : List Nat}, l.Nodup → (∀ i ∈ l, i < n) → l.length ≤ n
  | 0, [], _, _ => Nat.le_refl _
  | 0, x :: l, _, h => absurd (h x List.mem_cons_self) (Nat.not_lt_zero _)
  | n + 1, l, hn, h => by
    have h2 : (l.erase n).length ≤ n := nodup_len (hn.erase n) fun i hi => by
      have h3 := (hn.mem_erase_iff).1 hi
      have := h i h3.2
      omega
    by_cases hm : n ∈ l
    · rw [List.length_erase_of_mem hm] at h2; omega
    · rw [List.erase_of_not_mem hm] at h2; omega
theorem mk_cap {zs : List Value} {n : Nat} {b : Int} (h1 : zs.all flat1 = true) (h2 : zs.all Value.oneCell' = true) (h3 : 0 ≤ b ∧ b ≤ 100) (hn : n ≤ 500000) : (zs.all flat1 && zs.all Value.oneCell' && decide ((0 : Int) ≤ 0) && decide ((0 : Int) ≤ (n : Int)) && decide ((n : Int) * b ≤ 140737488355328) && decide ((n : Int) ≤ 1000000)) = true := by
  have : (n : Int) * b ≤ 500000 * 100 := Int.mul_le_mul (by omega) h3.2 h3.1 (by omega)
  simp only [h1, h2, Bool.and_eq_true, decide_eq_true_eq]
  refine ⟨⟨⟨⟨⟨trivial, trivial⟩, Int.le_refl _⟩, by omega⟩, by omega⟩, by omega⟩
theorem mk_full {zs : List Value} {n : Nat} {b : Int} (h1 : zs.all flat1 = true) (h2 : zs.all Value.oneCell' = true) (h3 : 0 ≤ b ∧ b ≤ 100) (hn : n ≤ 500000) : (zs.all flat1 && zs.all Value.oneCell' && decide ((0 : Int) ≤ (n : Int)) && decide ((n : Int) ≤ (n : Int)) && decide ((n : Int) * b ≤ 140737488355328) && decide ((n : Int) ≤ 1000000)) = true := by
  have : (n : Int) * b ≤ 500000 * 100 := Int.mul_le_mul (by omega) h3.2 h3.1 (by omega)
  simp only [h1, h2, Bool.and_eq_true, decide_eq_true_eq]
  refine ⟨⟨⟨⟨⟨trivial, trivial⟩, by omega⟩, Int.le_refl _⟩, by omega⟩, by omega⟩
theorem CodeS.then_ {P : Program} {N : Nat} {a b : Code} {fr : Tr Value} {s : AS} {k : KontC Prop} (fr2 : Tr Value) (s2 : AS) (ha : CodeS P N a fr s fun e fr1 s1 => match e with | .normal => Cov P N s.next fr1 s1 fr2 s2 | e => k e fr1 s1) (hb : CodeS P N b fr2 s2 k) : CodeS P N (a.seq b) fr s k :=
  CodeS.seq ha fun e fr1 s1 h _ => by
    cases e <;> first
      | exact ⟨fr2, s2, h, hb⟩
      | exact h
end Go.Proofs.Ytphbcejnnoijfaa.U
