
import Derived.Test.YthekpmpcbidjiaaK37
/- Layer 11: numbers told along the order: in plain words. -/
namespace Go.Proofs.Ythekpmpcbidjiaa
open Go Go.RowKit Go.Sort U
set_option linter.unusedVariables false
set_option linter.unusedSimpArgs false
/-- Each node of the order gets what the rule tells of those ahead of it. -/
def foldO (rule : List Int → Nat → Int) (ord F : List Int) : List Int := ord.foldl (fun F t => F.set t.toNat (rule F t.toNat)) F
theorem foldO_nil (rule : List Int → Nat → Int) (F : List Int) : foldO rule [] F = F := rfl
theorem foldO_cons (rule : List Int → Nat → Int) (t : Int) (ord F : List Int) : foldO rule (t :: ord) F = foldO rule ord (F.set t.toNat (rule F t.toNat)) := rfl
theorem foldO_snoc (rule : List Int → Nat → Int) (ord F : List Int) (t : Int) : foldO rule (ord ++ [t]) F = (foldO rule ord F).set t.toNat (rule (foldO rule ord F) t.toNat) := by simp [foldO]
theorem foldO_len (rule : List Int → Nat → Int) : ∀ (ord F : List Int), (foldO rule ord F).length = F.length
  | [], F => rfl
  | t :: ord, F => by rw [foldO_cons, foldO_len rule ord]; simp
def maxU : Int := 18446744073709551615
def satA (s x : Int) : Int := if s + x > maxU then maxU else s + x
def inl1 (own : List Int) (st : List (List Int)) (F : List Int) (v : Nat) : Int := (st.getD v []).foldl (fun s t => satA s (gt0 F t.toNat)) (gt0 own v)
def okU (l : List Int) : Prop := ∀ x ∈ l, 0 ≤ x ∧ x ≤ maxU
theorem okU_at {l : List Int} (h : okU l) (i : Nat) : 0 ≤ gt0 l i ∧ gt0 l i ≤ maxU := by
  unfold gt0
  rw [List.getD_eq_getElem?_getD]
  cases hi : l[i]? with
  | none => simp [maxU]
  | some x => exact h x (List.mem_of_getElem? hi)
theorem satA_in {s x : Int} (hs : 0 ≤ s ∧ s ≤ maxU) (hx : 0 ≤ x ∧ x ≤ maxU) : 0 ≤ satA s x ∧ satA s x ≤ maxU := by
  unfold satA
  split <;> constructor <;> omega
theorem satA_top {x : Int} (hx : 0 ≤ x) : satA maxU x = maxU := by
  unfold satA
  split
  · rfl
  · omega
theorem fold_top (F : List Int) (hF : okU F) : ∀ q : List Int, q.foldl (fun s t => satA s (gt0 F t.toNat)) maxU = maxU
  | [] => rfl
  | t :: q => by rw [List.foldl_cons, satA_top (okU_at hF _).1, fold_top F hF q]
theorem fold_in (F : List Int) (hF : okU F) : ∀ (q : List Int) (s : Int), 0 ≤ s ∧ s ≤ maxU → 0 ≤ q.foldl (fun s t => satA s (gt0 F t.toNat)) s ∧ q.foldl (fun s t => satA s (gt0 F t.toNat)) s ≤ maxU
  | [], s, h => h
  | t :: q, s, h => by rw [List.foldl_cons]; exact fold_in F hF q _ (satA_in h (okU_at hF _))
theorem inl1_in {own : List Int} {st : List (List Int)} {F : List Int} (ho : okU own) (hF : okU F) (v : Nat) : 0 ≤ inl1 own st F v ∧ inl1 own st F v ≤ maxU := fold_in F hF _ _ (okU_at ho v)
theorem okU_set {F : List Int} (hF : okU F) (i : Nat) {x : Int} (hx : 0 ≤ x ∧ x ≤ maxU) : okU (F.set i x) := fun y hy => by
  rcases List.mem_or_eq_of_mem_set hy with h | rfl
  · exact hF y h
  · exact hx
theorem okU_zero (n : Nat) : okU (List.replicate n 0) := fun x hx => by
  rw [(List.mem_replicate.1 hx).2]
  simp [maxU]
theorem satA_wrap {s x : Int} (hs : 0 ≤ s ∧ s ≤ maxU) (hx : 0 ≤ x ∧ x ≤ maxU) : (IntKind.u64.wrap (s + x) < s ↔ s + x > maxU) ∧ (¬ IntKind.u64.wrap (s + x) < s → IntKind.u64.wrap (s + x) = satA s x) := by
  have e : IntKind.u64.wrap (s + x) = (s + x) % 18446744073709551616 := rfl
  unfold maxU at *
  rw [e]
  constructor
  · constructor <;> intro h <;> omega
  · intro h
    unfold satA maxU
    rw [if_neg (by omega)]
    omega
/-- An order is one in which callees stand ahead. -/
theorem greedy_mem (R : List (List Int)) : ∀ (k : Nat) (out : List Int), out.Nodup → (∀ t ∈ out, ∃ v : Nat, v < R.length ∧ t = (v : Int)) → (∀ (a b : List Int) (v : Nat), out = a ++ (v : Int) :: b → ∀ t ∈ R.getD v [], t ∈ a) → (greedy R k out).Nodup ∧ (∀ t ∈ greedy R k out, ∃ v : Nat, v < R.length ∧ t = (v : Int)) ∧ ∀ (a b : List Int) (v : Nat), greedy R k out = a ++ (v : Int) :: b → ∀ t ∈ R.getD v [], t ∈ a
  | 0, out, h1, h2, h3 => ⟨h1, h2, h3⟩
  | k + 1, out, h1, h2, h3 => by
    rw [greedy]
    cases hs : stepO R out with
    | none => exact ⟨h1, h2, h3⟩
    | some v =>
      have hv := List.find?_some hs
      have hm := List.mem_range.1 (List.mem_of_find?_eq_some hs)
      obtain ⟨r1, r2⟩ := rdy_iff.1 hv
      rw [cntW_zero] at r2
      refine greedy_mem R k (out ++ [(v : Int)]) ?_ (fun t ht => ?_) fun a b w e t ht => ?_
      · rw [List.nodup_append]
        exact ⟨h1, by simp, fun a ha b hb e => by simp at hb; subst hb; subst e; exact r1 ha⟩
      · rcases List.mem_append.1 ht with ht | ht
        · exact h2 t ht
        · simp at ht; exact ⟨v, hm, ht⟩
      · rcases List.eq_nil_or_concat b with rfl | ⟨b', x, rfl⟩
        · have := List.append_inj' e rfl
          obtain ⟨e1, e2⟩ := this
          subst e1
          have : w = v := by simp at e2; omega
          subst this
          exact r2 t ht
        · have e' : out ++ [(v : Int)] = (a ++ (w : Int) :: b') ++ [x] := by simpa using e
          obtain ⟨e1, _⟩ := List.append_inj' e' rfl
          exact h3 a b' w e1 t ht
theorem order_facts (R : List (List Int)) : (greedy R R.length []).Nodup ∧ (∀ t ∈ greedy R R.length [], ∃ v : Nat, v < R.length ∧ t = (v : Int)) ∧ ∀ (a b : List Int) (v : Nat), greedy R R.length [] = a ++ (v : Int) :: b → ∀ t ∈ R.getD v [], t ∈ a :=
  greedy_mem R R.length [] List.nodup_nil (fun t ht => by cases ht) (fun a b v e => by simp at e)
/-! The order by callees is the order by sites. -/
theorem rdy_eq {R S : List (List Int)} {out : List Int} {v : Nat} (h : ∀ t, t ∈ R.getD v [] ↔ t ∈ S.getD v []) : rdy R out v = rdy S out v := by
  unfold rdy
  congr 1
  rw [Bool.eq_iff_iff, List.all_eq_true, List.all_eq_true]
  exact ⟨fun k t ht => k t ((h t).2 ht), fun k t ht => k t ((h t).1 ht)⟩
theorem order_eq {R S : List (List Int)} (hl : R.length = S.length) (h : ∀ v t, t ∈ R.getD v [] ↔ t ∈ S.getD v []) : orderR R = orderR S := by
  have hs : ∀ out, stepO R out = stepO S out := fun out => by
    unfold stepO
    rw [hl]
    exact find_congr fun v _ => rdy_eq (h v)
  have hg : ∀ k out, greedy R k out = greedy S k out := fun k => by
    induction k with
    | zero => intro out; rfl
    | succ k ih =>
      intro out
      rw [greedy, greedy, hs]
      cases stepO S out with
      | none => rfl
      | some v => exact ih _
  unfold orderR
  rw [hg, hl]
theorem rowR_iff {g : Gz} (hr : rightG g = true) {r : List Int} (h : r ∈ g.st) (t : Int) : t ∈ rowR g.nm.length r ↔ t ∈ r := by
  simp only [rightG, Bool.and_eq_true, List.all_eq_true, okT, decide_eq_true_eq] at hr
  rw [rowR_mem]
  constructor
  · rintro ⟨i, _, _, h2⟩
    exact h2
  · intro ht
    obtain ⟨b1, b2⟩ := hr.2 r h t ht
    exact ⟨t.toNat, by omega, by omega, ht⟩
theorem order_callees {g : Gz} (hr : rightG g = true) : orderR (calleesR g) = orderR g.st := by
  refine order_eq (by simp [calleesR]) fun v t => ?_
  by_cases hv : v < g.st.length
  · rw [show (calleesR g).getD v [] = rowR g.nm.length g.st[v] by simp [calleesR, hv], show g.st.getD v [] = g.st[v] by simp [hv]]
    exact rowR_iff hr (List.getElem_mem hv) t
  · rw [show (calleesR g).getD v [] = [] by simp [calleesR, hv], show g.st.getD v [] = [] by simp [hv]]
end Go.Proofs.Ythekpmpcbidjiaa
/- Layer 11: the reference's Inlined. -/
namespace Go.Proofs.Ythekpmpcbidjiaa
open Go Go.RowKit Go.Sort U
set_option linter.unusedVariables false
set_option linter.unusedSimpArgs false
set_option maxRecDepth 100000
set_option maxHeartbeats 4000000
def uL (l : List Int) : List Value := l.map (Value.int .u64)
theorem uL_map (l : List Int) : uL l = l.map (Value.int .u64) := rfl
theorem uL_len (l : List Int) : (uL l).length = l.length := List.length_map ..
theorem cellsU : ∀ l : List Int, cellsAll (uL l) = uL l
  | [] => rfl
  | x :: l => by rw [uL, List.map_cons, cellsAll, List.flatMap_cons]; exact congrArg _ (cellsU l)
theorem cleanUC (l : List Int) : ∀ x, x ∈ cellsAll (uL l) → NoNm x := fun c hc => by
  rw [cellsU] at hc
  obtain ⟨n, _, rfl⟩ := List.mem_map.1 hc
  exact .flat _ rfl
theorem cleanUl (l : List Int) : ∀ x, x ∈ uL l → NoNm x := fun x hx => cleanUC l x (by rw [cellsU]; exact hx)
theorem cleanUL (l : List Int) : NoNm (imS (uL l)) := .ims _ (cleanUC l)
theorem uL_1 {l : List Int} : ∀ y, y ∈ uL l → (cellsOf y).length = 1 := fun y hy => by
  obtain ⟨n, _, rfl⟩ := List.mem_map.1 hy
  rfl
theorem gt0_at {l : List Int} {i : Nat} (h : i < l.length) : l[i]? = some (gt0 l i) := by simp [gt0, h]
theorem uL_at {l : List Int} {i : Nat} (h : i < l.length) : nth (uL l) i = some (.int .u64 (gt0 l i)) := by
  rw [nth_eq, uL, List.getElem?_map, gt0_at h]; rfl
theorem uL_nth {l : List Int} {i : Nat} (h : i < l.length) : nth (uL l) (0 + i * 1) = some (.int .u64 (gt0 l i)) := by
  rw [Nat.zero_add, Nat.mul_one, uL_at h]
theorem iL_at {l : List Int} {i : Nat} (h : i < l.length) : nth (iL l) i = some (.int .i64 (gt0 l i)) := by
  rw [nth_eq, iL, List.getElem?_map, gt0_at h]; rfl
theorem uL_store {L : List Int} {i : Nat} {x : Int} (h : i < L.length) : (uL L).take (0 + i * 1) ++ [Value.int .u64 x] ++ (uL L).drop (0 + i * 1 + [Value.int .u64 x].length) = uL (L.set i x) := by
  rw [Nat.zero_add, Nat.mul_one, List.length_singleton, uL, uL, ← List.map_take, ← List.map_drop, List.set_eq_take_append_cons_drop, if_pos h]
  simp
theorem uL_zero (n : Nat) : uL (List.replicate n 0) = repX n [.int .u64 0] := by rw [repX_one, uL]; simp
/-- What an order of a right graph is. -/
structure OrdOk (st : List (List Int)) (ord : List Int) : Prop where
  nd : ord.Nodup
  inn : ∀ t ∈ ord, ∃ v : Nat, v < st.length ∧ t = (v : Int)
  cl : ∀ (a b : List Int) (v : Nat), ord = a ++ (v : Int) :: b → ∀ t ∈ st.getD v [], t ∈ a
theorem ordOk_of (st : List (List Int)) : OrdOk st (orderR st).1 := by
  obtain ⟨h1, h2, h3⟩ := order_facts st
  unfold orderR
  split
  · exact ⟨List.nodup_nil, fun t ht => (by cases ht), fun a b v e => (by simp at e)⟩
  · exact ⟨h1, h2, h3⟩
theorem OrdOk.len {st : List (List Int)} {ord : List Int} (h : OrdOk st ord) : ord.length ≤ st.length := nodup_le h.nd h.inn
theorem foldO_ok {own : List Int} {st : List (List Int)} (ho : okU own) : ∀ (ord : List Int) {F : List Int}, okU F → okU (foldO (inl1 own st) ord F)
  | [], F, h => h
  | t :: ord, F, h => by rw [foldO_cons]; exact foldO_ok ho ord (okU_set h _ (inl1_in ho h _))
theorem satMin {s x : Int} (hs : 0 ≤ s ∧ s ≤ maxU) (hx : 0 ≤ x ∧ x ≤ maxU) : IntKind.u64.wrap (s + if IntKind.u64.wrap (18446744073709551615 - s) < x then IntKind.u64.wrap (18446744073709551615 - s) else x) = satA s x := by
  have e : ∀ y : Int, IntKind.u64.wrap y = y % 18446744073709551616 := fun _ => rfl
  unfold satA maxU at *
  simp only [e]
  split <;> split <;> omega
theorem rinl_d (g : Gz) (own : List Int) (hst : g.st.length ≤ 29000) (hrow : ∀ r ∈ g.st, r.length ≤ maxI) (hown : own.length = g.st.length) (hu : okU own) : DenU Try.prog [] 18 [encG g, imS (uL own)] (imS (uL (foldO (inl1 own g.st) (orderR g.st).1 (List.replicate g.st.length 0)))) := by
  refine denU_of_sound hmixU fun Ts => SoundAt.body hmixU Try.func18 rfl rfl rfl 0 ?_
  have c1 := rorder_d g (by omega) hrow
  have hO := ordOk_of g.st
  obtain ⟨nm, st⟩ := g
  have cg := cleanG ⟨nm, st⟩
  dsimp only at hown hst hrow c1 hO ⊢
  have hmf := mk_full (zs := [.int .u64 0]) (n := (gL st).length) (b := 8) rfl rfl (by decide) (by rw [gL_len]; omega)
  generalize hord : (orderR st).1 = ord at *
  (repeat' ((conv => whnf); first | refine U.ob_c hmf ?_ | refine U.lw_t ?_ | refine U.lw_f ?_ | refine U.lit_t ?_ | refine U.lit_f ?_ | refine U.ob_t ?_ | refine U.spineC_p ?_ | refine U.ob_c (by first | (with_reducible assumption) | exact Nat.ble_eq_true_of_le (by omega) | exact Nat.ble_eq_true_of_le (by simp at *; omega)) ?_ | refine U.nv_c (by with_reducible assumption) ?_ | refine U.SoundAt.u (c1) (by (repeat (first | exact trivial | ((conv => whnf); first | exact trivial | refine And.intro (by first | assumption | exact cleanI _ | exact cleanEs _ | exact cleanSs _ | exact cleanTs _ | exact cleanE _ | exact cleanIL _ | exact cleanBL _ | exact cleanR _ | exact NoNm.flat _ rfl) ?_)))) ?_ | refine U.SoundC.u (c1) (by (repeat (first | exact trivial | ((conv => whnf); first | exact trivial | refine And.intro (by first | assumption | exact cleanI _ | exact cleanEs _ | exact cleanSs _ | exact cleanTs _ | exact cleanE _ | exact cleanIL _ | exact cleanBL _ | exact cleanR _ | exact NoNm.flat _ rfl) ?_)))) ?_ | refine U.lw_t' (by with_reducible assumption) ?_ | refine U.lw_f' (by with_reducible assumption) ?_ | refine U.lw_c (fun hb => ?_) (fun hb => ?_)))
  (conv => whnf)
  have hol := hO.len
  refine loop_inv (α := List Int × List Int) (fun x => x.1 ++ x.2 = ord) (fun x => (mkF [(1, imS (uL own)), (2, .pointer (some ⟨0, 0, none⟩)), (4, .slice none 0 0), (5, .slice (some ⟨1, 0, none⟩) (gL st).length (gL st).length), (6, imS (iL ord)), (8, .int .i64 x.1.length)], ⟨mkO [(0, some (.cells 36 [imS (sL nm), imS (gL st)] false)), (1, some (.cells 33 (uL (foldO (inl1 own st) x.1 (List.replicate st.length 0))) false))], 2, 0, 0⟩)) (fun x => x.2.length) ([], ord) rfl (Cov.renO (fun k => k) rfl rfl (Nat.le_of_ble_eq_true rfl) (Nat.zero_le _) (fun _ _ => rfl) rfl (fun k hk => absurd hk (Nat.not_lt_zero k)) (.cons rfl (.row _ _ _ _ (cleanG_cells ⟨nm, st⟩) rfl) (.cons rfl (.row _ _ _ _ (cleanUl _) ((by rw [foldO_nil, uL_zero, gL_len]; rfl))) .nil)) (.cons rfl (.clean _ _ (cleanUL _) rfl) (.cons rfl (.ptr _ _ _ (by decide) rfl) (.cons rfl (.clean _ _ (.flat _ rfl) rfl) (.cons rfl (.sl _ _ _ _ _ _ _ (by decide) rfl (rfl) (rfl)) (.cons rfl (.clean _ _ (cleanIL _) rfl) (.cons rfl (.clean _ _ (cleanI _) rfl) .nil))))))) ?_
  rintro ⟨pre, rest⟩ p1
  dsimp only at p1
  dsimp only
  rcases rest with _ | ⟨x, rest⟩
  · rw [List.append_nil] at p1
    subst p1
    have h3b := U.lt_no iL_map pre
    (repeat' ((conv => whnf); first | refine U.lw_t ?_ | refine U.lw_f ?_ | refine U.lit_t ?_ | refine U.lit_f ?_ | refine U.ob_t ?_ | refine U.ob_c (by first | (with_reducible assumption) | exact Nat.ble_eq_true_of_le (by omega) | exact Nat.ble_eq_true_of_le (by simp at *; omega)) ?_ | refine U.nv_c (by with_reducible assumption) ?_ | refine U.lw_t' (by with_reducible assumption) ?_ | refine U.lw_f' (by with_reducible assumption) ?_ | refine U.lw_c (fun hb => ?_) (fun hb => ?_)))
    (conv => whnf)
    exact .rowL (k := 1) (Nat.zero_le _) rfl (by rw [cellsU]) uL_1 (by rw [uL_len, foldO_len, gL_len]; simp) (Nat.le_refl _) (cleanUC _)
  · have hpo : (pre ++ x :: rest).length ≤ maxI := by rw [p1]; unfold maxI; omega
    have h3b := U.lt_yes iL_map pre (x) rest; have h3c := U.blt_yes iL_map pre (x) rest; have h3n := U.nth_at iL_map pre (x) rest; have h3w := U.len_snoc (pre := pre) (x := x) (post := rest) (hpo)
    rw [p1] at h3b h3c h3n
    obtain ⟨u, hul, rfl⟩ := hO.inn x (by rw [← p1]; simp)
    have hFl : (foldO (inl1 own st) pre (List.replicate st.length 0)).length = st.length := by rw [foldO_len]; simp
    have hFu := foldO_ok (st := st) hu pre (okU_zero st.length)
    have hfs := foldO_snoc (inl1 own st) pre (List.replicate st.length 0) (u : Int)
    rw [show ((u : Nat) : Int).toNat = u from rfl] at hfs
    generalize foldO (inl1 own st) pre (List.replicate st.length 0) = F at *
    obtain ⟨row, hrw⟩ : ∃ row, st[u]? = some row := ⟨st[u], by simp [hul]⟩
    have hrd : st.getD u [] = row := by simp [hrw]
    have hrl := hrow row (List.mem_of_getElem? hrw)
    have hub : u.blt (gL st).length = true := by rw [gL_len]; exact Nat.ble_eq_true_of_le hul
    have hun : nth (gL st) u = some (imS (iL row)) := by rw [nth_eq, gL]; simp [hrw]
    have hob : u.blt (uL own).length = true := by rw [uL_len, hown]; exact Nat.ble_eq_true_of_le hul
    have hon := uL_at (l := own) (i := u) (by omega)
    (repeat' ((conv => whnf); first | refine U.lw_t ?_ | refine U.lw_f ?_ | refine U.lit_t ?_ | refine U.lit_f ?_ | refine U.ob_t ?_ | refine U.ob_c (by first | (with_reducible assumption) | exact Nat.ble_eq_true_of_le (by omega) | exact Nat.ble_eq_true_of_le (by simp at *; omega)) ?_ | refine U.nv_c (by with_reducible assumption) ?_ | refine U.lw_t' (by with_reducible assumption) ?_ | refine U.lw_f' (by with_reducible assumption) ?_ | refine U.lw_c (fun hb => ?_) (fun hb => ?_)))
    (conv => whnf)
    refine loop_inv (α := List Int × List Int) (fun y => y.1 ++ y.2 = row) (fun y => (mkF [(1, imS (uL own)), (2, .pointer (some ⟨0, 0, none⟩)), (4, .slice none 0 0), (5, .slice (some ⟨1, 0, none⟩) (gL st).length (gL st).length), (6, imS (iL ord)), (8, .int .i64 pre.length), (9, .int .i64 u), (10, .int .u64 (y.1.foldl (fun s t => satA s (gt0 F t.toNat)) (gt0 own u))), (11, .int .i64 y.1.length)], ⟨mkO [(0, some (.cells 36 [imS (sL nm), imS (gL st)] false)), (1, some (.cells 33 (uL F) false))], 2, 0, 0⟩)) (fun y => y.2.length) ([], row) rfl (Cov.slots (s := ⟨mkO [(0, some (.cells 36 [imS (sL nm), imS (gL st)] false)), (1, some (.cells 33 (uL F) false))], 2, 0, 0⟩) (Nat.le_refl _) ⟨rfl, rfl, rfl, rfl, rfl, rfl, rfl, rfl, rfl, trivial⟩) ?_
    rintro ⟨p, q⟩ p3
    dsimp only at p3
    dsimp only
    rcases q with _ | ⟨t, q⟩
    · rw [List.append_nil] at p3
      subst p3
      have h4b := U.lt_no iL_map p
      have hst4 : ∀ v : Value, 0 + u * 1 + [v].length ≤ (uL F).length := fun v => by rw [uL_len, hFl, List.length_singleton]; omega
      (repeat' ((conv => whnf); first | refine U.lw_t ?_ | refine U.lw_f ?_ | refine U.lit_t ?_ | refine U.lit_f ?_ | refine U.ob_t ?_ | refine U.storeC_p (hst4 _) ?_ | refine U.ob_c (by first | (with_reducible assumption) | exact Nat.ble_eq_true_of_le (by omega) | exact Nat.ble_eq_true_of_le (by simp at *; omega)) ?_ | refine U.nv_c (by with_reducible assumption) ?_ | refine U.lw_t' (by with_reducible assumption) ?_ | refine U.lw_f' (by with_reducible assumption) ?_ | refine U.lw_c (fun hb => ?_) (fun hb => ?_)))
      (conv => whnf)
      refine ⟨(pre ++ [(u : Int)], rest), by rw [← p1]; simp, by simp, ?_⟩
      dsimp only
      rw [hfs]
      have es : uL (F.set u (inl1 own st F u)) = _ := (uL_store (L := F) (i := u) (x := inl1 own st F u) (by rw [hFl]; exact hul)).symm
      have ei : inl1 own st F u = p.foldl (fun s t => satA s (gt0 F t.toNat)) (gt0 own u) := by rw [inl1, hrd]
      rw [ei] at es ⊢
      exact (Cov.renO (fun k => k) rfl rfl (Nat.le_of_ble_eq_true rfl) (Nat.zero_le _) (fun _ _ => rfl) rfl (fun k hk => absurd hk (Nat.not_lt_zero k)) (.cons rfl (.row _ _ _ _ (cleanG_cells ⟨nm, st⟩) rfl) (.cons rfl (.row _ _ _ _ (cleanUl _) (es)) .nil)) (.cons rfl (.clean _ _ (cleanUL _) rfl) (.cons rfl (.ptr _ _ _ (by decide) rfl) (.cons rfl (.clean _ _ (.flat _ rfl) rfl) (.cons rfl (.sl _ _ _ _ _ _ _ (by decide) rfl (rfl) (rfl)) (.cons rfl (.clean _ _ (cleanIL _) rfl) (.cons rfl (.clean _ _ (cleanI _) (congrArg (Value.int .i64) (h3w.symm))) .nil)))))))
    · have hrl2 := hrl
      rw [← p3] at hrl2
      have h4b := U.lt_yes iL_map p (t) q; have h4c := U.blt_yes iL_map p (t) q; have h4n := U.nth_at iL_map p (t) q; have h4w := U.len_snoc (pre := p) (x := t) (post := q) (hrl2)
      rw [p3] at h4b h4c h4n
      obtain ⟨j, hjl, rfl⟩ := hO.inn t (by rw [← p1]; exact List.mem_append_left _ (hO.cl pre rest u p1.symm t (by rw [hrd, ← p3]; simp)))
      have hjb : j.blt (gL st).length = true := by rw [gL_len]; exact Nat.ble_eq_true_of_le hjl
      have hjn := uL_nth (l := F) (i := j) (by omega)
      have hsi := fold_in F hFu p _ (okU_at hu u)
      have hsn : (p ++ [(j : Int)]).foldl (fun s t => satA s (gt0 F t.toNat)) (gt0 own u) = satA (p.foldl (fun s t => satA s (gt0 F t.toNat)) (gt0 own u)) (gt0 F j) := by simp
      have hFj := okU_at hFu j
      generalize p.foldl (fun s t => satA s (gt0 F t.toNat)) (gt0 own u) = s0 at *
      (repeat' ((conv => whnf); first | refine U.lw_t ?_ | refine U.lw_f ?_ | refine U.lit_t ?_ | refine U.lit_f ?_ | refine U.ob_t ?_ | (conv in (nth _ _) => (change nth _ (0 + j * 1); rw [hjn])) | refine U.ob_c (by first | (with_reducible assumption) | exact Nat.ble_eq_true_of_le (by omega) | exact Nat.ble_eq_true_of_le (by simp at *; omega)) ?_ | refine U.nv_c (by with_reducible assumption) ?_ | refine U.lw_t' (by with_reducible assumption) ?_ | refine U.lw_f' (by with_reducible assumption) ?_ | refine U.lw_c (fun hb => ?_) (fun hb => ?_)))
      (conv => whnf)
      refine ⟨(p ++ [(j : Int)], q), by rw [← p3]; simp, by simp, Cov.slots (s := ⟨mkO [(0, some (.cells 36 [imS (sL nm), imS (gL st)] false)), (1, some (.cells 33 (uL F) false))], 2, 0, 0⟩) (Nat.le_refl _) ⟨rfl, rfl, rfl, rfl, rfl, rfl, rfl, congrArg some (congrArg (Value.int .u64) ?_), congrArg some (congrArg (Value.int .i64) h4w), trivial⟩⟩
      rw [hsn]
      exact satMin hsi hFj
end Go.Proofs.Ythekpmpcbidjiaa
