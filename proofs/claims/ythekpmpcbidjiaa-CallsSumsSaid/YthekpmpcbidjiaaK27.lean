
import Derived.Test.YthekpmpcbidjiaaK22
import Derived.Test.YthekpmpcbidjiaaK23
import Derived.Test.YthekpmpcbidjiaaK26
/- Layer 11: graphs as data; whether a graph is right. -/
namespace Go.Proofs.Ythekpmpcbidjiaa
open Go Go.RowKit Go.Sort U
set_option linter.unusedVariables false
set_option linter.unusedSimpArgs false
set_option maxRecDepth 100000
set_option maxHeartbeats 4000000
structure Gz where
  nm : List ByteArray
  st : List (List Int)
def encG (g : Gz) : Value := .agg ⟨[imS (sL g.nm), imS (gL g.st)]⟩
def okG (g : Gz) : Prop := g.nm.length ≤ 1000000 ∧ g.st.length ≤ maxI ∧ ∀ r ∈ g.st, r.length ≤ maxI
theorem cleanG_cells (g : Gz) : ∀ c ∈ [imS (sL g.nm), imS (gL g.st)], NoNm c := fun c hc => by
  simp only [List.mem_cons, List.not_mem_nil, or_false] at hc
  rcases hc with rfl | rfl
  · exact cleanSL _
  · exact cleanGL _
theorem cleanG (g : Gz) : NoNm (encG g) := .agg _ (cleanG_cells g)
def okT (n : Nat) (t : Int) : Bool := decide (0 ≤ t) && decide (t < n)
def rightG (g : Gz) : Bool := decide (g.st.length = g.nm.length + 1) && g.st.all fun r => r.all (okT g.nm.length)
theorem cright_d (g : Gz) (hg : okG g) : DenU Try.prog [] 8 [encG g] (.bool (rightG g)) := by
  refine denU_of_body hmixU rfl Try.func8 rfl rfl rfl 0 ?_
  intro Ts
  obtain ⟨nm, st⟩ := g
  obtain ⟨g1, g2, g3⟩ := hg
  dsimp only at g1 g2 g3
  have hw : IntKind.i64.wrap (((sL nm).length : Int) + 1) = ((nm.length + 1 : Nat) : Int) := by rw [sL_len]; exact wadd1 (by omega)
  by_cases hl : st.length = nm.length + 1
  · have hne : (((gL st).length : Int) != IntKind.i64.wrap (((sL nm).length : Int) + 1)) = false := by rw [hw, gL_len, hl]; simp
    (repeat' ((conv => whnf); first | refine U.lw_t ?_ | refine U.lw_f ?_ | refine U.lit_t ?_ | refine U.lit_f ?_ | refine U.ob_t ?_ | refine U.ob_c (by first | (with_reducible assumption) | exact Nat.ble_eq_true_of_le (by omega) | exact Nat.ble_eq_true_of_le (by simp at *; omega)) ?_ | refine U.nv_c (by with_reducible assumption) ?_ | refine U.lw_t' (by with_reducible assumption) ?_ | refine U.lw_f' (by with_reducible assumption) ?_ | refine U.lw_c (fun hb => ?_) (fun hb => ?_)))
    (conv => whnf)
    refine loop_inv (α := List (List Int) × List (List Int)) (fun x => x.1 ++ x.2 = st ∧ (x.1.all fun r => r.all (okT nm.length)) = true) (fun x => (mkF [(1, .pointer (some ⟨0, 0, none⟩)), (2, .bool false), (16, imS (gL st)), (17, .int .i64 (gL st).length), (18, .int .i64 x.1.length)], ⟨mkO [(0, some (.cells 25 [imS (sL nm), imS (gL st)] false))], 1, 0, 0⟩)) (fun x => x.2.length) ([], st) ⟨rfl, rfl⟩ (Cov.renO (fun k => k) rfl rfl (Nat.le_refl 1) (Nat.zero_le _) (fun _ _ => rfl) rfl (fun k hk => absurd hk (Nat.not_lt_zero k)) (.cons rfl (.row _ _ _ _ (cleanG_cells ⟨nm, st⟩) rfl) .nil) (.cons rfl (.ptr _ _ _ (by decide) rfl) (.cons rfl (.clean _ _ (.flat _ rfl) rfl) (.cons rfl (.clean _ _ (cleanGL _) rfl) (.cons rfl (.clean _ _ (cleanI _) rfl) (.cons rfl (.clean _ _ (cleanI _) rfl) .nil)))))) ?_
    rintro ⟨pre, rest⟩ ⟨p1, p2⟩
    dsimp only at p1 p2
    subst p1
    dsimp only
    rcases rest with _ | ⟨x, rest⟩
    · rw [List.append_nil] at *
      have h3b := U.lt_no gL_map pre
      (repeat' ((conv => whnf); first | refine U.lw_t ?_ | refine U.lw_f ?_ | refine U.lit_t ?_ | refine U.lit_f ?_ | refine U.ob_t ?_ | refine U.ob_c (by first | (with_reducible assumption) | exact Nat.ble_eq_true_of_le (by omega) | exact Nat.ble_eq_true_of_le (by simp at *; omega)) ?_ | refine U.nv_c (by with_reducible assumption) ?_ | refine U.lw_t' (by with_reducible assumption) ?_ | refine U.lw_f' (by with_reducible assumption) ?_ | refine U.lw_c (fun hb => ?_) (fun hb => ?_)))
      (conv => whnf)
      exact .same (.flat _ rfl) (congrArg Value.bool (by simp [rightG, hl, p2]))
    · have h3b := U.lt_yes gL_map pre (x) rest; have h3c := U.blt_yes gL_map pre (x) rest; have h3n := U.nth_at gL_map pre (x) rest; have h3w := U.len_snoc (pre := pre) (x := x) (post := rest) (g2)
      have hx := g3 x (by simp)
      (repeat' ((conv => whnf); first | refine U.lw_t ?_ | refine U.lw_f ?_ | refine U.lit_t ?_ | refine U.lit_f ?_ | refine U.ob_t ?_ | refine U.ob_c (by first | (with_reducible assumption) | exact Nat.ble_eq_true_of_le (by omega) | exact Nat.ble_eq_true_of_le (by simp at *; omega)) ?_ | refine U.nv_c (by with_reducible assumption) ?_ | refine U.lw_t' (by with_reducible assumption) ?_ | refine U.lw_f' (by with_reducible assumption) ?_ | refine U.lw_c (fun hb => ?_) (fun hb => ?_)))
      (conv => whnf)
      refine loop_inv (α := List Int × List Int) (fun y => y.1 ++ y.2 = x ∧ y.1.all (okT nm.length) = true) (fun y => (mkF [(1, .pointer (some ⟨0, 0, none⟩)), (2, .bool false), (16, imS (gL (pre ++ x :: rest))), (17, .int .i64 (gL (pre ++ x :: rest)).length), (18, .int .i64 pre.length), (22, imS (iL x)), (23, .int .i64 (iL x).length), (24, .int .i64 y.1.length)], ⟨mkO [(0, some (.cells 25 [imS (sL nm), imS (gL (pre ++ x :: rest))] false))], 1, 0, 0⟩)) (fun y => y.2.length) ([], x) ⟨rfl, rfl⟩ (Cov.slots (Nat.le_refl _) ⟨rfl, rfl, rfl, rfl, rfl, rfl, rfl, rfl, trivial⟩) ?_
      rintro ⟨p, q⟩ ⟨p3, p4⟩
      dsimp only at p3 p4
      subst p3
      dsimp only
      rcases q with _ | ⟨t, q⟩
      · rw [List.append_nil] at *
        have h4b := U.lt_no iL_map p
        (repeat' ((conv => whnf); first | refine U.lw_t ?_ | refine U.lw_f ?_ | refine U.lit_t ?_ | refine U.lit_f ?_ | refine U.ob_t ?_ | refine U.ob_c (by first | (with_reducible assumption) | exact Nat.ble_eq_true_of_le (by omega) | exact Nat.ble_eq_true_of_le (by simp at *; omega)) ?_ | refine U.nv_c (by with_reducible assumption) ?_ | refine U.lw_t' (by with_reducible assumption) ?_ | refine U.lw_f' (by with_reducible assumption) ?_ | refine U.lw_c (fun hb => ?_) (fun hb => ?_)))
        (conv => whnf)
        refine ⟨(pre ++ [p], rest), ⟨by simp, by rw [List.all_append, p2]; simp [p4]⟩, by simp, ?_⟩
        refine Cov.slots (s := ⟨mkO [(0, some (.cells 25 [imS (sL nm), imS (gL (pre ++ p :: rest))] false))], 1, 0, 0⟩) (Nat.le_refl 1) ⟨rfl, rfl, rfl, rfl, ?_, trivial⟩
        exact congrArg some (congrArg (Value.int .i64) h3w)
      · have h4b := U.lt_yes iL_map p (t) q; have h4c := U.blt_yes iL_map p (t) q; have h4n := U.nth_at iL_map p (t) q; have h4w := U.len_snoc (pre := p) (x := t) (post := q) (hx)
        (repeat' ((conv => whnf); first | refine U.lw_t ?_ | refine U.lw_f ?_ | refine U.lit_t ?_ | refine U.lit_f ?_ | refine U.ob_t ?_ | refine U.ob_c (by first | (with_reducible assumption) | exact Nat.ble_eq_true_of_le (by omega) | exact Nat.ble_eq_true_of_le (by simp at *; omega)) ?_ | refine U.nv_c (by with_reducible assumption) ?_ | refine U.lw_t' (by with_reducible assumption) ?_ | refine U.lw_f' (by with_reducible assumption) ?_ | refine U.lw_c (fun hb => ?_) (fun hb => ?_)))
        all_goals (conv => whnf)
        · have h5 : ¬ okT nm.length t = true := by simp at hb; simp [okT]; omega
          exact .same (.flat _ rfl) (congrArg Value.bool (by simp [rightG, h5]))
        · have h5 : ¬ okT nm.length t = true := by rw [sL_len] at hb; simp at hb; simp [okT]; omega
          exact .same (.flat _ rfl) (congrArg Value.bool (by simp [rightG, h5]))
        · have h5 : okT nm.length t = true := by rename_i hb0; rw [sL_len] at hb; simp at hb hb0; simp [okT]; omega
          refine ⟨(p ++ [t], q), ⟨by simp, by rw [List.all_append, p4]; simp [h5]⟩, by simp, ?_⟩
          refine Cov.slots (s := ⟨mkO [(0, some (.cells 25 [imS (sL nm), imS (gL (pre ++ (p ++ t :: q) :: rest))] false))], 1, 0, 0⟩) (Nat.le_refl 1) ⟨rfl, rfl, rfl, rfl, rfl, rfl, rfl, ?_, trivial⟩
          exact congrArg some (congrArg (Value.int .i64) h4w)
  · have hne : (((gL st).length : Int) != IntKind.i64.wrap (((sL nm).length : Int) + 1)) = true := by rw [hw, gL_len]; simp; omega
    (repeat' ((conv => whnf); first | refine U.lw_t ?_ | refine U.lw_f ?_ | refine U.lit_t ?_ | refine U.lit_f ?_ | refine U.ob_t ?_ | refine U.ob_c (by first | (with_reducible assumption) | exact Nat.ble_eq_true_of_le (by omega) | exact Nat.ble_eq_true_of_le (by simp at *; omega)) ?_ | refine U.nv_c (by with_reducible assumption) ?_ | refine U.lw_t' (by with_reducible assumption) ?_ | refine U.lw_f' (by with_reducible assumption) ?_ | refine U.lw_c (fun hb => ?_) (fun hb => ?_)))
    (conv => whnf)
    exact .same (.flat _ rfl) (congrArg Value.bool (by simp [rightG, hl]))
end Go.Proofs.Ythekpmpcbidjiaa
/- Layer 11: the edges of a graph, counted in a map. -/
namespace Go.Proofs.Ythekpmpcbidjiaa
open Go Go.RowKit Go.Sort U
set_option linter.unusedVariables false
set_option linter.unusedSimpArgs false
set_option maxRecDepth 100000
set_option maxHeartbeats 4000000
def eK (e : Int × Int) : Value := .agg ⟨[.int .i64 e.1, .int .i64 e.2]⟩
theorem eK_same (a : Int × Int) : Instr.sameBits 10000 (eK a) (eK a) = true := by
  obtain ⟨a1, a2⟩ := a
  simp [eK, Instr.sameBits]
theorem pureRun_bind {α β : Type} {P : Program} (m : Sem α) (f : α → Sem β) : pureRun P (m.bind f) = (pureRun P m).bind fun a => pureRun P (f a) := by
  induction m with
  | pure a => rfl
  | program k ih => exact ih P
  | mark _ k ih => exact ih
  | _ => rfl
theorem pureRun_bind' {α β : Type} {P : Program} (m : Sem α) (f : α → Sem β) : pureRun P (m >>= f) = (pureRun P m).bind fun a => pureRun P (f a) := pureRun_bind m f
theorem eK_eq (a b : Int × Int) : pureRun Try.prog (Op.equal 124 (eK a) (eK b)) = some (decide (a = b)) := by
  obtain ⟨a1, a2⟩ := a
  obtain ⟨b1, b2⟩ := b
  have hi : Try.prog.underlying 124 = some (.array 2 3) := by kernel_rfl
  have hz : pureRun Try.prog (sizeOf 3) = some 1 := by kernel_rfl
  have he : ∀ x y : Int, pureRun Try.prog (Op.equalIn 9999 3 (.int .i64 x) (.int .i64 y)) = some (x == y) := fun x y => rfl
  have hp : ∀ x y : Int, pureRun Try.prog (part 3 #[.int .i64 x, .int .i64 y] 0) = some (.int .i64 x) ∧ pureRun Try.prog (part 3 #[.int .i64 x, .int .i64 y] 1) = some (.int .i64 y) := fun x y => ⟨rfl, rfl⟩
  have hu : pureRun Try.prog (underlying 124) = some (.array 2 3) := by kernel_rfl
  show pureRun _ (Op.equalIn (9999 + 1) 124 (.agg #[.int .i64 a1, .int .i64 a2]) (.agg #[.int .i64 b1, .int .i64 b2])) = _
  unfold Op.equalIn
  rw [pureRun_bind', hu]
  dsimp only [Option.bind]
  rw [pureRun_bind', hz]
  dsimp only [Option.bind]
  rw [pureRun_bind']
  simp only [Std.Legacy.Range.forIn_eq_forIn_range', Std.Legacy.Range.size]
  simp [pureRun_bind', he, hp, List.range', pureRun, pure, forIn]
  by_cases h1 : a1 = b1 <;> by_cases h2 : a2 = b2 <;> simp [h1, h2, pureRun_bind', he, hp, pureRun]
theorem eK_key (e : Int × Int) : (keyC Try.prog 124 (.array 2 3) (eK e) && flatV (eK e) && flatV (.int .i64 0)) = true := by kernel_rfl
theorem eK_val (e : Int × Int) : valB (eK e) (eK e) = true := by simp [eK, valB, valsB, valB1]
theorem eK_ok : KeyOk Try.prog 124 (.array 2 3) eK := keyOk_arr eK_eq eK_same
def edgeIn (rows : List (List Int)) (e : Int × Int) : Prop := ∃ (i : Nat) (r : List Int), rows[i]? = some r ∧ e.1 = (i : Int) ∧ e.2 ∈ r
def sumL (l : List (List Int)) : Nat := (l.map List.length).sum
abbrev mEd (m : List ((Int × Int) × Int)) : U.Blk := .map (mE eK (Value.int .i64) m) (List.range m.length) m.length
structure EdgesI (m : List ((Int × Int) × Int)) (rows : List (List Int)) : Prop where
  nd : (m.map (·.1)).Nodup
  iff : ∀ e, e ∈ m.map (·.1) ↔ edgeIn rows e
  len : m.length ≤ sumL rows
theorem edgeIn_nil {rows : List (List Int)} {e : Int × Int} : edgeIn (rows ++ [[]]) e ↔ edgeIn rows e := by
  constructor
  · rintro ⟨i, r, h1, h2, h3⟩
    rw [List.getElem?_append] at h1
    split at h1
    · exact ⟨i, r, h1, h2, h3⟩
    · rcases h : i - rows.length with _ | n <;> rw [h] at h1 <;> simp at h1
      subst h1; cases h3
  · rintro ⟨i, r, h1, h2, h3⟩
    exact ⟨i, r, by rw [List.getElem?_append_left (List.getElem?_eq_some_iff.1 h1).1]; exact h1, h2, h3⟩
theorem EdgesI.next {m : List ((Int × Int) × Int)} {rows : List (List Int)} (h : EdgesI m rows) : EdgesI m (rows ++ [[]]) := ⟨h.nd, fun e => (h.iff e).trans edgeIn_nil.symm, by have := h.len; simp [sumL] at *; omega⟩
theorem edgeIn_snoc {rows : List (List Int)} {p : List Int} {t : Int} {e : Int × Int} : edgeIn (rows ++ [p ++ [t]]) e ↔ edgeIn (rows ++ [p]) e ∨ e = ((rows.length : Int), t) := by
  have key : ∀ (q : List Int) (e : Int × Int), edgeIn (rows ++ [q]) e ↔ edgeIn rows e ∨ (e.1 = (rows.length : Int) ∧ e.2 ∈ q) := fun q e => by
    constructor
    · rintro ⟨i, r, h1, h2, h3⟩
      by_cases hi : i < rows.length
      · rw [List.getElem?_append_left hi] at h1
        exact .inl ⟨i, r, h1, h2, h3⟩
      · rw [List.getElem?_append_right (by omega)] at h1
        rcases h : i - rows.length with _ | n <;> rw [h] at h1 <;> simp at h1
        subst h1
        exact .inr ⟨by rw [h2]; congr 1; omega, h3⟩
    · rintro (⟨i, r, h1, h2, h3⟩ | ⟨h1, h2⟩)
      · exact ⟨i, r, by rw [List.getElem?_append_left (List.getElem?_eq_some_iff.1 h1).1]; exact h1, h2, h3⟩
      · exact ⟨rows.length, q, by simp, h1, h2⟩
  rw [key, key, List.mem_append, List.mem_singleton, or_assoc]
  obtain ⟨e1, e2⟩ := e
  simp only [Prod.mk.injEq]
  constructor
  · rintro (h | ⟨h1, h2 | h2⟩)
    · exact .inl h
    · exact .inr (.inl ⟨h1, h2⟩)
    · exact .inr (.inr ⟨h1, h2⟩)
  · rintro (h | ⟨h1, h2⟩ | ⟨h1, h2⟩)
    · exact .inl h
    · exact .inr ⟨h1, .inl h2⟩
    · exact .inr ⟨h1, .inr h2⟩
theorem sumL_snoc (rows : List (List Int)) (p : List Int) : sumL (rows ++ [p]) = sumL rows + p.length := by simp [sumL]
theorem EdgesI.new {m : List ((Int × Int) × Int)} {rows : List (List Int)} {p : List Int} {t n : Int} (h : EdgesI m (rows ++ [p])) (hz : ((rows.length : Int), t) ∉ m.map (·.1)) : EdgesI (m ++ [(((rows.length : Int), t), n)]) (rows ++ [p ++ [t]]) := by
  refine ⟨?_, fun e => ?_, ?_⟩
  · rw [List.map_append, List.nodup_append]
    refine ⟨h.nd, by simp, ?_⟩
    rintro x hx y hy rfl
    simp at hy
    subst hy
    exact hz hx
  · rw [edgeIn_snoc, ← h.iff e, List.map_append, List.mem_append]
    simp
  · have := h.len
    rw [sumL_snoc] at *
    simp at *; omega
theorem EdgesI.old {a b : List ((Int × Int) × Int)} {rows : List (List Int)} {p : List Int} {t u n : Int} (h : EdgesI (a ++ (((rows.length : Int), t), u) :: b) (rows ++ [p])) : EdgesI (a ++ (((rows.length : Int), t), n) :: b) (rows ++ [p ++ [t]]) := by
  have hk : (a ++ (((rows.length : Int), t), n) :: b).map (·.1) = (a ++ (((rows.length : Int), t), u) :: b).map (·.1) := by simp
  refine ⟨by rw [hk]; exact h.nd, fun e => ?_, ?_⟩
  · rw [hk, edgeIn_snoc, ← h.iff e]
    constructor
    · exact .inl
    · rintro (h | rfl)
      · exact h
      · simp
  · have := h.len
    rw [sumL_snoc] at *
    simp at *; omega
def keyAt (m : List ((Int × Int) × Int)) (i : Nat) : Int × Int := (m.map (·.1)).getD i (0, 0)
def row2 (l : List (Int × Int)) (k : Nat) : List Value := (l.flatMap fun e => [Value.int .i64 e.1, Value.int .i64 e.2]) ++ repX k [.int .i64 0, .int .i64 0]
theorem repX_mem {zs : List Value} {v : Value} : ∀ {k : Nat}, v ∈ repX k zs → v ∈ zs
  | 0, h => by cases h
  | k + 1, h => by
    unfold repX at h
    rcases List.mem_append.1 h with h | h
    · exact h
    · exact repX_mem h
theorem row2_clean (l : List (Int × Int)) (k : Nat) : ∀ x ∈ row2 l k, NoNm x := fun x hx => by
  rcases List.mem_append.1 hx with h | h
  · obtain ⟨e, _, he⟩ := List.mem_flatMap.1 h
    simp only [List.mem_cons, List.not_mem_nil, or_false] at he
    rcases he with rfl | rfl <;> exact cleanI _
  · have := repX_mem h
    simp only [List.mem_cons, List.not_mem_nil, or_false] at this
    rcases this with rfl | rfl <;> exact cleanI _
theorem row2_nil (m : List ((Int × Int) × Int)) : row2 ([].map (keyAt m)) (m.length - 0) = repX ((((mE eK (Value.int .i64) m).length : Nat) : Int).toNat) [.int .i64 0, .int .i64 0] := by
  rw [mE_len]
  rfl
theorem keyAt_at {m : List ((Int × Int) × Int)} {i : Nat} (h : i < m.length) : ∃ c, m[i]? = some (keyAt m i, c) := by
  refine ⟨m[i].2, ?_⟩
  simp [keyAt, h]
theorem repX2_len {zs : List Value} : ∀ k, (repX k zs).length = k * zs.length
  | 0 => by simp [repX]
  | k + 1 => by rw [repX, List.length_append, repX2_len k, Nat.succ_mul, Nat.add_comm]
theorem row2_len (l : List (Int × Int)) (k : Nat) : (row2 l k).length = l.length * 2 + k * 2 := by
  rw [row2, List.length_append, repX2_len]
  have : ∀ l : List (Int × Int), (l.flatMap fun e => [Value.int .i64 e.1, Value.int .i64 e.2]).length = l.length * 2 := fun l => by
    induction l with
    | nil => rfl
    | cons e l ih => rw [List.flatMap_cons, List.length_append, ih]; simp; omega
  rw [this]
  simp
theorem row2_store (l : List (Int × Int)) (e : Int × Int) (k : Nat) : row2 (l ++ [e]) k = (row2 l (k + 1)).take (l.length * 2) ++ [Value.int .i64 e.1, Value.int .i64 e.2] ++ (row2 l (k + 1)).drop (l.length * 2 + [Value.int .i64 e.1, Value.int .i64 e.2].length) := by
  have hl : (l.flatMap fun e => [Value.int .i64 e.1, Value.int .i64 e.2]).length = l.length * 2 := by
    have := row2_len l 0
    rw [row2, List.length_append] at this
    simp [repX] at this
    simpa using this
  simp only [row2, repX, List.flatMap_append, List.flatMap_cons, List.flatMap_nil, List.append_nil]
  rw [← hl, List.take_left, List.drop_append]
  simp
end Go.Proofs.Ythekpmpcbidjiaa
