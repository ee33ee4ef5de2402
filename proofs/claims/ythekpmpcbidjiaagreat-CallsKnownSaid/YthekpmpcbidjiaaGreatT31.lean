
import Derived.Test.YthekpmpcbidjiaaGreatT01
import Derived.Test.YthekpmpcbidjiaaGreatT23
import Derived.Test.YthekpmpcbidjiaaGreatT30
namespace Go.Proofs.YthekpmpcbidjiaaGreat
open Go Go.RowKit Go.Sort U
set_option linter.unusedVariables false
set_option linter.unusedSimpArgs false
def foldO (rule : List Int → Nat → Int) (ord F : List Int) : List Int := ord.foldl (fun F t => F.set t.toNat (rule F t.toNat)) F
theorem foldO_nil (rule : List Int → Nat → Int) (F : List Int) : foldO rule [] F = F := rfl
theorem foldO_cons (rule : List Int → Nat → Int) (t : Int) (ord F : List Int) : foldO rule (t :: ord) F = foldO rule ord (F.set t.toNat (rule F t.toNat)) := rfl
theorem foldO_snoc (rule : List Int → Nat → Int) (ord F : List Int) (t : Int) : foldO rule (ord ++ [t]) F = (foldO rule ord F).set t.toNat (rule (foldO rule ord F) t.toNat) := by simp [foldO]
theorem foldO_len (rule : List Int → Nat → Int) : ∀ (ord F : List Int), (foldO rule ord F).length = F.length
  | [], F => rfl
  | t :: ord, F => by rw [foldO_cons, foldO_len rule ord]; simp
def maxU : Int := 18446744073709551615
def satA (s x : Int) : Int := if s + x > maxU then maxU else s + x
def inl1 (own : List Int) (st : List (List Int)) (F : List Int) (v : Nat) : Int := (st.getD v []).foldl (fun s t => satA s (gt0 F t.toNat)) (gt0 own v)
def okU (l : List Int) : Prop := ∀ x ∈ l, 0 ≤ x ∧ x ≤ maxU
theorem okU_at {l : List Int} (h : okU l) (i : Nat) : 0 ≤ gt0 l i ∧ gt0 l i ≤ maxU := by
  unfold gt0
  rw [List.getD_eq_getElem?_getD]
  cases hi : l[i]? with
  | none => simp [maxU]
  | some x => exact h x (List.mem_of_getElem? hi)
theorem satA_in {s x : Int} (hs : 0 ≤ s ∧ s ≤ maxU) (hx : 0 ≤ x ∧ x ≤ maxU) : 0 ≤ satA s x ∧ satA s x ≤ maxU := by
  unfold satA
  split <;> constructor <;> omega
theorem satA_top {x : Int} (hx : 0 ≤ x) : satA maxU x = maxU := by
  unfold satA
  split
  · rfl
  · omega
theorem fold_top (F : List Int) (hF : okU F) : ∀ q : List Int, q.foldl (fun s t => satA s (gt0 F t.toNat)) maxU = maxU
  | [] => rfl
  | t :: q => by rw [List.foldl_cons, satA_top (okU_at hF _).1, fold_top F hF q]
theorem fold_in (F : List Int) (hF : okU F) : ∀ (q : List Int) (s : Int), 0 ≤ s ∧ s ≤ maxU → 0 ≤ q.foldl (fun s t => satA s (gt0 F t.toNat)) s ∧ q.foldl (fun s t => satA s (gt0 F t.toNat)) s ≤ maxU
  | [], s, h => h
  | t :: q, s, h => by rw [List.foldl_cons]; exact fold_in F hF q _ (satA_in h (okU_at hF _))
theorem inl1_in {own : List Int} {st : List (List Int)} {F : List Int} (ho : okU own) (hF : okU F) (v : Nat) : 0 ≤ inl1 own st F v ∧ inl1 own st F v ≤ maxU := fold_in F hF _ _ (okU_at ho v)
theorem okU_set {F : List Int} (hF : okU F) (i : Nat) {x : Int} (hx : 0 ≤ x ∧ x ≤ maxU) : okU (F.set i x) := fun y hy => by
  rcases List.mem_or_eq_of_mem_set hy with h | rfl
  · exact hF y h
  · exact hx
theorem okU_zero (n : Nat) : okU (List.replicate n 0) := fun x hx => by
  rw [(List.mem_replicate.1 hx).2]
  simp [maxU]
theorem satA_wrap {s x : Int} (hs : 0 ≤ s ∧ s ≤ maxU) (hx : 0 ≤ x ∧ x ≤ maxU) : (IntKind.u64.wrap (s + x) < s ↔ s + x > maxU) ∧ (¬ IntKind.u64.wrap (s + x) < s → IntKind.u64.wrap (s + x) = satA s x) := by
  have e : IntKind.u64.wrap (s + x) = (s + x) % 18446744073709551616 := rfl
  unfold maxU at *
  rw [e]
  constructor
  · constructor <;> intro h <;> omega
  · intro h
    unfold satA maxU
    rw [if_neg (by omega)]
    omega
theorem greedy_mem (R : List (List Int)) : ∀ (k : Nat) (out : List Int), out.Nodup → (∀ t ∈ out, ∃ v : Nat, v < R.length ∧ t = (v : Int)) → (∀ (a b : List Int) (v : Nat), out = a ++ (v : Int) :: b → ∀ t ∈ R.getD v [], t ∈ a) → (greedy R k out).Nodup ∧ (∀ t ∈ greedy R k out, ∃ v : Nat, v < R.length ∧ t = (v : Int)) ∧ ∀ (a b : List Int) (v : Nat), greedy R k out = a ++ (v : Int) :: b → ∀ t ∈ R.getD v [], t ∈ a
  | 0, out, h1, h2, h3 => ⟨h1, h2, h3⟩
  | k + 1, out, h1, h2, h3 => by
    rw [greedy]
    cases hs : stepO R out with
    | none => exact ⟨h1, h2, h3⟩
    | some v =>
      have hv := List.find?_some hs
      have hm := List.mem_range.1 (List.mem_of_find?_eq_some hs)
      obtain ⟨r1, r2⟩ := rdy_iff.1 hv
      rw [cntW_zero] at r2
      refine greedy_mem R k (out ++ [(v : Int)]) ?_ (fun t ht => ?_) fun a b w e t ht => ?_
      · rw [List.nodup_append]
        exact ⟨h1, by simp, fun a ha b hb e => by simp at hb; subst hb; subst e; exact r1 ha⟩
      · rcases List.mem_append.1 ht with ht | ht
        · exact h2 t ht
        · simp at ht; exact ⟨v, hm, ht⟩
      · rcases List.eq_nil_or_concat b with rfl | ⟨b', x, rfl⟩
        · have := List.append_inj' e rfl
          obtain ⟨e1, e2⟩ := this
          subst e1
          have : w = v := by simp at e2; omega
          subst this
          exact r2 t ht
        · have e' : out ++ [(v : Int)] = (a ++ (w : Int) :: b') ++ [x] := by simpa using e
          obtain ⟨e1, _⟩ := List.append_inj' e' rfl
          exact h3 a b' w e1 t ht
theorem order_facts (R : List (List Int)) : (greedy R R.length []).Nodup ∧ (∀ t ∈ greedy R R.length [], ∃ v : Nat, v < R.length ∧ t = (v : Int)) ∧ ∀ (a b : List Int) (v : Nat), greedy R R.length [] = a ++ (v : Int) :: b → ∀ t ∈ R.getD v [], t ∈ a :=
  greedy_mem R R.length [] List.nodup_nil (fun t ht => by cases ht) (fun a b v e => by simp at e)
theorem rdy_eq {R S : List (List Int)} {out : List Int} {v : Nat} (h : ∀ t, t ∈ R.getD v [] ↔ t ∈ S.getD v []) : rdy R out v = rdy S out v := by
  unfold rdy
  congr 1
  rw [Bool.eq_iff_iff, List.all_eq_true, List.all_eq_true]
  exact ⟨fun k t ht => k t ((h t).2 ht), fun k t ht => k t ((h t).1 ht)⟩
theorem order_eq {R S : List (List Int)} (hl : R.length = S.length) (h : ∀ v t, t ∈ R.getD v [] ↔ t ∈ S.getD v []) : orderR R = orderR S := by
  have hs : ∀ out, stepO R out = stepO S out := fun out => by
    unfold stepO
    rw [hl]
    exact find_congr fun v _ => rdy_eq (h v)
  have hg : ∀ k out, greedy R k out = greedy S k out := fun k => by
    induction k with
    | zero => intro out; rfl
    | succ k ih =>
      intro out
      rw [greedy, greedy, hs]
      cases stepO S out with
      | none => rfl
      | some v => exact ih _
  unfold orderR
  rw [hg, hl]
theorem rowR_iff {g : Gz} (hr : rightG g = true) {r : List Int} (h : r ∈ g.st) (t : Int) : t ∈ rowR g.nm.length r ↔ t ∈ r := by
  simp only [rightG, Bool.and_eq_true, List.all_eq_true, okT, decide_eq_true_eq] at hr
  rw [rowR_mem]
  constructor
  · rintro ⟨i, _, _, h2⟩
    exact h2
  · intro ht
    obtain ⟨b1, b2⟩ := hr.2 r h t ht
    exact ⟨t.toNat, by omega, by omega, ht⟩
theorem order_callees {g : Gz} (hr : rightG g = true) : orderR (calleesR g) = orderR g.st := by
  refine order_eq (by simp [calleesR]) fun v t => ?_
  by_cases hv : v < g.st.length
  · rw [show (calleesR g).getD v [] = rowR g.nm.length g.st[v] by simp [calleesR, hv], show g.st.getD v [] = g.st[v] by simp [hv]]
    exact rowR_iff hr (List.getElem_mem hv) t
  · rw [show (calleesR g).getD v [] = [] by simp [calleesR, hv], show g.st.getD v [] = [] by simp [hv]]
end Go.Proofs.YthekpmpcbidjiaaGreat
namespace Go.Proofs.YthekpmpcbidjiaaGreat
open Go Go.RowKit Go.Sort U
set_option linter.unusedVariables false
set_option linter.unusedSimpArgs false
set_option maxRecDepth 100000
set_option maxHeartbeats 4000000
def uL (l : List Int) : List Value := l.map (Value.int .u64)
theorem uL_map (l : List Int) : uL l = l.map (Value.int .u64) := rfl
theorem uL_len (l : List Int) : (uL l).length = l.length := List.length_map ..
theorem cellsU : ∀ l : List Int, cellsAll (uL l) = uL l
  | [] => rfl
  | x :: l => by rw [uL, List.map_cons, cellsAll, List.flatMap_cons]; exact congrArg _ (cellsU l)
theorem cleanUC (l : List Int) : ∀ x, x ∈ cellsAll (uL l) → NoNm x := fun c hc => by
  rw [cellsU] at hc
  obtain ⟨n, _, rfl⟩ := List.mem_map.1 hc
  exact .flat _ rfl
theorem cleanUl (l : List Int) : ∀ x, x ∈ uL l → NoNm x := fun x hx => cleanUC l x (by rw [cellsU]; exact hx)
theorem cleanUL (l : List Int) : NoNm (imS (uL l)) := .ims _ (cleanUC l)
theorem uL_1 {l : List Int} : ∀ y, y ∈ uL l → (cellsOf y).length = 1 := fun y hy => by
  obtain ⟨n, _, rfl⟩ := List.mem_map.1 hy
  rfl
theorem gt0_at {l : List Int} {i : Nat} (h : i < l.length) : l[i]? = some (gt0 l i) := by simp [gt0, h]
theorem uL_at {l : List Int} {i : Nat} (h : i < l.length) : nth (uL l) i = some (.int .u64 (gt0 l i)) := by
  rw [nth_eq, uL, List.getElem?_map, gt0_at h]; rfl
theorem uL_nth {l : List Int} {i : Nat} (h : i < l.length) : nth (uL l) (0 + i * 1) = some (.int .u64 (gt0 l i)) := by
  rw [Nat.zero_add, Nat.mul_one, uL_at h]
theorem iL_at {l : List Int} {i : Nat} (h : i < l.length) : nth (iL l) i = some (.int .i64 (gt0 l i)) := by
  rw [nth_eq, iL, List.getElem?_map, gt0_at h]; rfl
theorem uL_store {L : List Int} {i : Nat} {x : Int} (h : i < L.length) : (uL L).take (0 + i * 1) ++ [Value.int .u64 x] ++ (uL L).drop (0 + i * 1 + [Value.int .u64 x].length) = uL (L.set i x) := by
  rw [Nat.zero_add, Nat.mul_one, List.length_singleton, uL, uL, ← List.map_take, ← List.map_drop, List.set_eq_take_append_cons_drop, if_pos h]
  simp
theorem uL_zero (n : Nat) : uL (List.replicate n 0) = repX n [.int .u64 0] := by rw [repX_one, uL]; simp
structure OrdOk (st : List (List Int)) (ord : List Int) : Prop where
  nd : ord.Nodup
  inn : ∀ t ∈ ord, ∃ v : Nat, v < st.length ∧ t = (v : Int)
  cl : ∀ (a b : List Int) (v : Nat), ord = a ++ (v : Int) :: b → ∀ t ∈ st.getD v [], t ∈ a
theorem ordOk_of (st : List (List Int)) : OrdOk st (orderR st).1 := by
  obtain ⟨h1, h2, h3⟩ := order_facts st
  unfold orderR
  split
  · exact ⟨List.nodup_nil, fun t ht => (by cases ht), fun a b v e => (by simp at e)⟩
  · exact ⟨h1, h2, h3⟩
theorem OrdOk.len {st : List (List Int)} {ord : List Int} (h : OrdOk st ord) : ord.length ≤ st.length := nodup_le h.nd h.inn
theorem foldO_ok {own : List Int} {st : List (List Int)} (ho : okU own) : ∀ (ord : List Int) {F : List Int}, okU F → okU (foldO (inl1 own st) ord F)
  | [], F, h => h
  | t :: ord, F, h => by rw [foldO_cons]; exact foldO_ok ho ord (okU_set h _ (inl1_in ho h _))
theorem satMin {s x : Int} (hs : 0 ≤ s ∧ s ≤ maxU) (hx : 0 ≤ x ∧ x ≤ maxU) : IntKind.u64.wrap (s + if IntKind.u64.wrap (18446744073709551615 - s) < x then IntKind.u64.wrap (18446744073709551615 - s) else x) = satA s x := by
  have e : ∀ y : Int, IntKind.u64.wrap y = y % 18446744073709551616 := fun _ => rfl
  unfold satA maxU at *
  simp only [e]
  split <;> split <;> omega
theorem rinl_d (g : Gz) (own : List Int) (hst : g.st.length ≤ 29000) (hrow : ∀ r ∈ g.st, r.length ≤ maxI) (hown : own.length = g.st.length) (hu : okU own) : DenU Tryz.prog [] 24 [encG g, imS (uL own)] (imS (uL (foldO (inl1 own g.st) (orderR g.st).1 (List.replicate g.st.length 0)))) := by
  refine denU_of_sound hmixU fun Ts => SoundAt.body hmixU Tryz.func24 rfl rfl rfl 0 ?_
  have c1 := rorder_d g (by omega) hrow
  have hO := ordOk_of g.st
  obtain ⟨nm, st⟩ := g
  have cg := cleanG ⟨nm, st⟩
  dsimp only at hown hst hrow c1 hO ⊢
  have hmf := mk_full (zs := [.int .u64 0]) (n := (gL st).length) (b := 8) rfl rfl (by decide) (by rw [gL_len]; omega)
  generalize hord : (orderR st).1 = ord at *
  (repeat' ((conv => whnf); first | refine U.ob_c hmf ?_ | refine goA ?_ | refine U.spineC_p ?_ | refine goB ?_ | refine U.SoundAt.u (c1) clN ?_ | refine U.SoundC.u (c1) clN ?_ | refine U.lw_c (fun hb => ?_) (fun hb => ?_)))
  (conv => whnf)
  have hol := hO.len
  refine loop_inv (α := List Int × List Int) (fun x => x.1 ++ x.2 = ord) (fun x => (mkF [(1, imS (uL own)), (2, .pointer (some ⟨0, 0, none⟩)), (4, .slice none 0 0), (5, .slice (some ⟨1, 0, none⟩) (gL st).length (gL st).length), (6, imS (iL ord)), (8, .int .i64 x.1.length)], ⟨mkO [(0, some (.cells 34 [imS (sL nm), imS (gL st)] false)), (1, some (.cells 30 (uL (foldO (inl1 own st) x.1 (List.replicate st.length 0))) false))], 2, 0, 0⟩)) (fun x => x.2.length) ([], ord) rfl (Cov.renI rfl rfl rfl rfl (.cons rfl (.row _ _ _ _ (cleanG_cells ⟨nm, st⟩) rfl) (.cons rfl (.row _ _ _ _ (cleanUl _) ((by rw [foldO_nil, uL_zero, gL_len]; rfl))) .nil)) (.cons rfl (.clean _ _ (cleanUL _) rfl) (.cons rfl (.P rfl) (.cons rfl (.F rfl rfl) (.cons rfl (.S rfl rfl rfl) (.cons rfl (.clean _ _ (cleanIL _) rfl) (.cons rfl .I .nil))))))) ?_
  rintro ⟨pre, rest⟩ p1
  dsimp only at p1
  dsimp only
  rcases rest with _ | ⟨x, rest⟩
  · rw [List.append_nil] at p1
    subst p1
    have h3b := U.lt_no iL_map pre
    (repeat' ((conv => whnf); first | refine goD ?_ | refine U.lw_c (fun hb => ?_) (fun hb => ?_)))
    (conv => whnf)
    exact .rowL (k := 1) (Nat.zero_le _) rfl (by rw [cellsU]) uL_1 (by rw [uL_len, foldO_len, gL_len]; simp) (Nat.le_refl _) (cleanUC _)
  · have hpo : (pre ++ x :: rest).length ≤ maxI := by rw [p1]; unfold maxI; omega
    obtain ⟨h3b, h3c, h3n, h3w⟩ := U.at4 iL_map pre (x) rest (hpo)
    rw [p1] at h3b h3c h3n
    obtain ⟨u, hul, rfl⟩ := hO.inn x (by rw [← p1]; simp)
    have hFl : (foldO (inl1 own st) pre (List.replicate st.length 0)).length = st.length := by rw [foldO_len]; simp
    have hFu := foldO_ok (st := st) hu pre (okU_zero st.length)
    have hfs := foldO_snoc (inl1 own st) pre (List.replicate st.length 0) (u : Int)
    rw [show ((u : Nat) : Int).toNat = u from rfl] at hfs
    generalize foldO (inl1 own st) pre (List.replicate st.length 0) = F at *
    obtain ⟨row, hrw⟩ : ∃ row, st[u]? = some row := ⟨st[u], by simp [hul]⟩
    have hrd : st.getD u [] = row := by simp [hrw]
    have hrl := hrow row (List.mem_of_getElem? hrw)
    have hub : u.blt (gL st).length = true := by rw [gL_len]; exact bLe hul
    have hun : nth (gL st) u = some (imS (iL row)) := by rw [nth_eq, gL]; simp [hrw]
    have hob : u.blt (uL own).length = true := by rw [uL_len, hown]; exact bLe hul
    have hon := uL_at (l := own) (i := u) (by omega)
    (repeat' ((conv => whnf); first | refine goD ?_ | refine U.lw_c (fun hb => ?_) (fun hb => ?_)))
    (conv => whnf)
    refine loop_inv (α := List Int × List Int) (fun y => y.1 ++ y.2 = row) (fun y => (mkF [(1, imS (uL own)), (2, .pointer (some ⟨0, 0, none⟩)), (4, .slice none 0 0), (5, .slice (some ⟨1, 0, none⟩) (gL st).length (gL st).length), (6, imS (iL ord)), (8, .int .i64 pre.length), (9, .int .i64 u), (10, .int .u64 (y.1.foldl (fun s t => satA s (gt0 F t.toNat)) (gt0 own u))), (11, .int .i64 y.1.length)], ⟨mkO [(0, some (.cells 34 [imS (sL nm), imS (gL st)] false)), (1, some (.cells 30 (uL F) false))], 2, 0, 0⟩)) (fun y => y.2.length) ([], row) rfl (Cov.slots (s := ⟨mkO [(0, some (.cells 34 [imS (sL nm), imS (gL st)] false)), (1, some (.cells 30 (uL F) false))], 2, 0, 0⟩) (Nat.le_refl _) ⟨rfl, rfl, rfl, rfl, rfl, rfl, rfl, rfl, rfl, trivial⟩) ?_
    rintro ⟨p, q⟩ p3
    dsimp only at p3
    dsimp only
    rcases q with _ | ⟨t, q⟩
    · rw [List.append_nil] at p3
      subst p3
      have h4b := U.lt_no iL_map p
      have hst4 : ∀ v : Value, 0 + u * 1 + [v].length ≤ (uL F).length := fun v => by rw [uL_len, hFl, List.length_singleton]; omega
      (repeat' ((conv => whnf); first | refine goA ?_ | refine U.storeC_p (hst4 _) ?_ | refine goB ?_ | refine U.lw_c (fun hb => ?_) (fun hb => ?_)))
      (conv => whnf)
      refine ⟨(pre ++ [(u : Int)], rest), by rw [← p1]; simp, by simp, ?_⟩
      dsimp only
      rw [hfs]
      have es : uL (F.set u (inl1 own st F u)) = _ := (uL_store (L := F) (i := u) (x := inl1 own st F u) (by rw [hFl]; exact hul)).symm
      have ei : inl1 own st F u = p.foldl (fun s t => satA s (gt0 F t.toNat)) (gt0 own u) := by rw [inl1, hrd]
      rw [ei] at es ⊢
      exact (Cov.renI rfl rfl rfl rfl (.cons rfl (.row _ _ _ _ (cleanG_cells ⟨nm, st⟩) rfl) (.cons rfl (.row _ _ _ _ (cleanUl _) (es)) .nil)) (.cons rfl (.clean _ _ (cleanUL _) rfl) (.cons rfl (.P rfl) (.cons rfl (.F rfl rfl) (.cons rfl (.S rfl rfl rfl) (.cons rfl (.clean _ _ (cleanIL _) rfl) (.cons rfl (.clean _ _ (cleanI _) (congrArg (Value.int .i64) (h3w.symm))) .nil)))))))
    · have hrl2 := hrl
      rw [← p3] at hrl2
      obtain ⟨h4b, h4c, h4n, h4w⟩ := U.at4 iL_map p (t) q (hrl2)
      rw [p3] at h4b h4c h4n
      obtain ⟨j, hjl, rfl⟩ := hO.inn t (by rw [← p1]; exact List.mem_append_left _ (hO.cl pre rest u p1.symm t (by rw [hrd, ← p3]; simp)))
      have hjb : j.blt (gL st).length = true := by rw [gL_len]; exact bLe hjl
      have hjn := uL_nth (l := F) (i := j) (by omega)
      have hsi := fold_in F hFu p _ (okU_at hu u)
      have hsn : (p ++ [(j : Int)]).foldl (fun s t => satA s (gt0 F t.toNat)) (gt0 own u) = satA (p.foldl (fun s t => satA s (gt0 F t.toNat)) (gt0 own u)) (gt0 F j) := by simp
      have hFj := okU_at hFu j
      generalize p.foldl (fun s t => satA s (gt0 F t.toNat)) (gt0 own u) = s0 at *
      (repeat' ((conv => whnf); first | refine goA ?_ | (conv in (nth _ _) => (change nth _ (0 + j * 1); rw [hjn])) | refine goB ?_ | refine U.lw_c (fun hb => ?_) (fun hb => ?_)))
      (conv => whnf)
      refine ⟨(p ++ [(j : Int)], q), by rw [← p3]; simp, by simp, Cov.slots (s := ⟨mkO [(0, some (.cells 34 [imS (sL nm), imS (gL st)] false)), (1, some (.cells 30 (uL F) false))], 2, 0, 0⟩) (Nat.le_refl _) ⟨rfl, rfl, rfl, rfl, rfl, rfl, rfl, congrArg some (congrArg (Value.int .u64) ?_), congrArg some (congrArg (Value.int .i64) h4w), trivial⟩⟩
      rw [hsn]
      exact satMin hsi hFj
end Go.Proofs.YthekpmpcbidjiaaGreat
namespace Go.Proofs.YthekpmpcbidjiaaGreat
open Go Go.ChangeShapes Go.WideShapes Go.ChangeAt Go.RowKit Go.Joins U
set_option linter.unusedVariables false
set_option linter.unusedSimpArgs false
set_option maxRecDepth 100000
set_option maxHeartbeats 1000000
section
variable {H : Type} {enc : TypeId × Value → H} {W : World} {v : Value} {d : DataW H} {p : List MemPlace} {b0 base : Nat} {r : Reach} {held : Bool}
end
end Go.Proofs.YthekpmpcbidjiaaGreat
namespace Go.Proofs.YthekpmpcbidjiaaGreat
open Go Go.RowKit Go.Sort U
set_option linter.unusedVariables false
set_option linter.unusedSimpArgs false
set_option maxRecDepth 100000
set_option maxHeartbeats 4000000
def brg (n : Int) : Int := max 0 (min n 1073741824)
theorem brg_in (n : Int) : 0 ≤ brg n ∧ brg n ≤ 1073741824 := by unfold brg; omega
theorem brought_d (n : Int) : DenU Tryz.prog [] 46 [.int .i64 n] (.int .i64 (brg n)) := by
  refine denU_of_body hmixU rfl Tryz.func46 rfl rfl rfl 0 ?_
  intro Ts
  (repeat' ((conv => whnf); first | refine goD ?_ | refine U.lw_c (fun hb => ?_) (fun hb => ?_)))
  all_goals (conv => whnf)
  refine .same (.flat _ rfl) (congrArg (Value.int .i64) ?_)
  show _ = brg n
  unfold brg
  split <;> (try split) <;> omega
theorem bring_d (n : Int) : DenU Tryz.prog [] 47 [.int .i64 n] (.int .i64 (brg n)) := by
  refine denU_of_body hmixU rfl Tryz.func47 rfl rfl rfl 0 ?_
  intro Ts
  (repeat' ((conv => whnf); first | refine goD ?_ | refine U.lw_c (fun hb => ?_) (fun hb => ?_)))
  all_goals (conv => whnf)
  refine .same (.flat _ rfl) (congrArg (Value.int .i64) ?_)
  show _ = brg n
  unfold brg
  split <;> split <;> omega
def nstF (F : List Int) (l : List (Int × Int)) (s : Int) : Int := l.foldl (fun s e => max s (brg (brg e.2 + gt0 F e.1.toNat))) s
def nst1 (own : List Int) (ats st : List (List Int)) (F : List Int) (v : Nat) : Int := nstF F ((st.getD v []).zip (ats.getD v [])) (brg (gt0 own v))
def okN (l : List Int) : Prop := ∀ x ∈ l, 0 ≤ x ∧ x ≤ 1073741824
theorem okN_at {l : List Int} (h : okN l) (i : Nat) : 0 ≤ gt0 l i ∧ gt0 l i ≤ 1073741824 := by
  unfold gt0
  rw [List.getD_eq_getElem?_getD]
  cases hi : l[i]? with
  | none => simp
  | some x => exact h x (List.mem_of_getElem? hi)
theorem nstF_in (F : List Int) : ∀ (l : List (Int × Int)) (s : Int), 0 ≤ s ∧ s ≤ 1073741824 → 0 ≤ nstF F l s ∧ nstF F l s ≤ 1073741824
  | [], s, h => h
  | e :: l, s, h => by
    have h2 : 0 ≤ max s (brg (brg e.2 + gt0 F e.1.toNat)) ∧ max s (brg (brg e.2 + gt0 F e.1.toNat)) ≤ 1073741824 := by
      have := brg_in (brg e.2 + gt0 F e.1.toNat)
      omega
    exact nstF_in F l _ h2
theorem nst1_in (own : List Int) (ats st : List (List Int)) (F : List Int) (v : Nat) : 0 ≤ nst1 own ats st F v ∧ nst1 own ats st F v ≤ 1073741824 := nstF_in _ _ _ (brg_in _)
theorem okN_set {F : List Int} (hF : okN F) (i : Nat) {x : Int} (hx : 0 ≤ x ∧ x ≤ 1073741824) : okN (F.set i x) := fun y hy => by
  rcases List.mem_or_eq_of_mem_set hy with h | rfl
  · exact hF y h
  · exact hx
theorem okN_zero (n : Nat) : okN (List.replicate n 0) := fun x hx => by
  rw [(List.mem_replicate.1 hx).2]
  simp
theorem foldN_ok (own : List Int) (ats st : List (List Int)) : ∀ (ord : List Int) {F : List Int}, okN F → okN (foldO (nst1 own ats st) ord F)
  | [], F, h => h
  | t :: ord, F, h => by rw [foldO_cons]; exact foldN_ok own ats st ord (okN_set h _ (nst1_in ..))
theorem iL_nth0 {L : List Int} {i : Nat} (h : i < L.length) : nth (iL L) (0 + i * 1) = some (.int .i64 (gt0 L i)) := by
  rw [Nat.zero_add, Nat.mul_one, nth_eq]
  simp [iL, gt0, h]
theorem iL_store0 {L : List Int} {i : Nat} {x : Int} (h : i < L.length) : (iL L).take (0 + i * 1) ++ [Value.int .i64 x] ++ (iL L).drop (0 + i * 1 + [Value.int .i64 x].length) = iL (L.set i x) := by
  rw [Nat.zero_add, Nat.mul_one, List.length_singleton, iL, iL, ← List.map_take, ← List.map_drop, List.set_eq_take_append_cons_drop, if_pos h]
  simp
theorem cleanIl0 (l : List Int) : ∀ x, x ∈ iL l → NoNm x := fun x hx => cleanIC l x (by rw [cellsI]; exact hx)
theorem iL_zero (n : Nat) : iL (List.replicate n 0) = repX n [.int .i64 0] := by rw [repX_one, iL]; simp
theorem brg_wrap (a x : Int) (hx : 0 ≤ x ∧ x ≤ 1073741824) : IntKind.i64.wrap (brg a + x) = brg a + x := by
  rw [IntKind.wrap_i64]
  have := brg_in a
  omega
theorem gt0_set_same {L : List Int} {m : Nat} {x : Int} (h : m < L.length) : gt0 (L.set m x) m = x := by simp [gt0, h]
theorem gt0_set_ne {L : List Int} {m k : Nat} {x : Int} (hk : k ≠ m) : gt0 (L.set m x) k = gt0 L k := by
  unfold gt0
  simp only [List.getD_eq_getElem?_getD, List.getElem?_set]
  rw [if_neg (fun e => hk e.symm)]
def okAt (st ats : List (List Int)) : Prop := ats.length = st.length ∧ ∀ v : Nat, v < st.length → (ats.getD v []).length = (st.getD v []).length
theorem zip_snoc : ∀ {p arow : List Int} {t : Int}, p.length < arow.length → (p ++ [t]).zip arow = p.zip arow ++ [(t, gt0 arow p.length)]
  | [], [], _, h => by simp at h
  | [], a :: l, t, _ => by simp [gt0]
  | x :: p, [], _, h => by simp at h
  | x :: p, a :: l, t, h => by
    have := zip_snoc (p := p) (arow := l) (t := t) (by simpa using h)
    simp only [List.cons_append, List.zip_cons_cons, this]
    simp [gt0]
theorem max_if (a b : Int) : max a b = if b > a then b else a := by split <;> omega
theorem rnes_d (g : Gz) (own : List Int) (ats : List (List Int)) (hst : g.st.length ≤ 29000) (hrow : ∀ r ∈ g.st, r.length ≤ maxI) (hown : own.length = g.st.length) (hat : okAt g.st ats) : DenU Tryz.prog [] 25 [encG g, imS (iL own), imS (gL ats)] (imS (iL (foldO (nst1 own ats g.st) (orderR g.st).1 (List.replicate g.st.length 0)))) := by
  refine denU_of_sound hmixU fun Ts => SoundAt.body hmixU Tryz.func25 rfl rfl rfl 0 ?_
  have c1 := rorder_d g (by omega) hrow
  have hO := ordOk_of g.st
  obtain ⟨nm, st⟩ := g
  have cg := cleanG ⟨nm, st⟩
  dsimp only at hown hst hrow c1 hO hat ⊢
  have hmf := mk_full (zs := [.int .i64 0]) (n := (gL st).length) (b := 8) rfl rfl (by decide) (by rw [gL_len]; omega)
  generalize hord : (orderR st).1 = ord at *
  (repeat' ((conv => whnf); first | refine U.ob_c hmf ?_ | refine goA ?_ | refine U.spineC_p ?_ | refine goB ?_ | refine U.SoundAt.u (c1) clN ?_ | refine U.SoundC.u (c1) clN ?_ | refine U.lw_c (fun hb => ?_) (fun hb => ?_)))
  (conv => whnf)
  have hol := hO.len
  refine loop_inv (α := List Int × List Int) (fun x => x.1 ++ x.2 = ord) (fun x => (mkF [(1, imS (iL own)), (2, imS (gL ats)), (3, .pointer (some ⟨0, 0, none⟩)), (6, .slice none 0 0), (7, .slice (some ⟨1, 0, none⟩) (gL st).length (gL st).length), (8, imS (iL ord)), (10, .int .i64 x.1.length)], ⟨mkO [(0, some (.cells 34 [imS (sL nm), imS (gL st)] false)), (1, some (.cells 3 (iL (foldO (nst1 own ats st) x.1 (List.replicate st.length 0))) false))], 2, 0, 0⟩)) (fun x => x.2.length) ([], ord) rfl (Cov.renI rfl rfl rfl rfl (.cons rfl (.row _ _ _ _ (cleanG_cells ⟨nm, st⟩) rfl) (.cons rfl (.row _ _ _ _ (cleanIl0 _) ((by rw [foldO_nil, iL_zero, gL_len]; rfl))) .nil)) (.cons rfl (.clean _ _ (cleanIL _) rfl) (.cons rfl (.clean _ _ (cleanGL _) rfl) (.cons rfl (.P rfl) (.cons rfl (.F rfl rfl) (.cons rfl (.S rfl rfl rfl) (.cons rfl (.clean _ _ (cleanIL _) rfl) (.cons rfl .I .nil)))))))) ?_
  rintro ⟨pre, rest⟩ p1
  dsimp only at p1
  dsimp only
  rcases rest with _ | ⟨x, rest⟩
  · rw [List.append_nil] at p1
    subst p1
    have h3b := U.lt_no iL_map pre
    (repeat' ((conv => whnf); first | refine goD ?_ | refine U.lw_c (fun hb => ?_) (fun hb => ?_)))
    (conv => whnf)
    exact .rowL (k := 1) (Nat.zero_le _) rfl (by rw [cellsI]) iL_1 (by rw [iL_len, foldO_len, gL_len]; simp) (Nat.le_refl _) (cleanIC _)
  · have hpo : (pre ++ x :: rest).length ≤ maxI := by rw [p1]; unfold maxI; omega
    obtain ⟨h3b, h3c, h3n, h3w⟩ := U.at4 iL_map pre (x) rest (hpo)
    rw [p1] at h3b h3c h3n
    obtain ⟨u, hul, rfl⟩ := hO.inn x (by rw [← p1]; simp)
    have hFl : (foldO (nst1 own ats st) pre (List.replicate st.length 0)).length = st.length := by rw [foldO_len]; simp
    have hFu := foldN_ok own ats st pre (okN_zero st.length)
    have hfs := foldO_snoc (nst1 own ats st) pre (List.replicate st.length 0) (u : Int)
    rw [show ((u : Nat) : Int).toNat = u from rfl] at hfs
    generalize foldO (nst1 own ats st) pre (List.replicate st.length 0) = F at *
    obtain ⟨row, hrw⟩ : ∃ row, st[u]? = some row := ⟨st[u], by simp [hul]⟩
    obtain ⟨arow, har⟩ : ∃ row, ats[u]? = some row := ⟨ats[u]'(by rw [hat.1]; exact hul), by simp [hat.1, hul]⟩
    have hrd : st.getD u [] = row := by simp [hrw]
    have hard : ats.getD u [] = arow := by simp [har]
    have hal : arow.length = row.length := by rw [← hrd, ← hard]; exact hat.2 u hul
    have hrl := hrow row (List.mem_of_getElem? hrw)
    have hub : u.blt (gL st).length = true := by rw [gL_len]; exact bLe hul
    have hun : nth (gL st) u = some (imS (iL row)) := by rw [nth_eq, gL]; simp [hrw]
    have hab : u.blt (gL ats).length = true := by rw [gL_len, hat.1]; exact bLe hul
    have han : nth (gL ats) u = some (imS (iL arow)) := by rw [nth_eq, gL]; simp [har]
    have hob : u.blt (iL own).length = true := by rw [iL_len, hown]; exact bLe hul
    have hon := iL_at (l := own) (i := u) (by omega)
    have c2 := bring_d (gt0 own u)
    have hst4 : ∀ (M : List Int) (v : Value), M.length = st.length → 0 + u * 1 + [v].length ≤ (iL M).length := fun M v h => by rw [iL_len, h, List.length_singleton]; omega
    have es := iL_store0 (L := F) (i := u) (x := brg (gt0 own u)) (by omega)
    (repeat' ((conv => whnf); first | refine goA ?_ | refine U.storeC_p (hst4 F _ hFl) ?_ | refine goB ?_ | refine U.SoundAt.u (c2) clN ?_ | refine U.SoundC.u (c2) clN ?_ | refine U.lw_c (fun hb => ?_) (fun hb => ?_)))
    (conv => whnf)
    refine loop_inv (α := List Int × List Int) (fun y => y.1 ++ y.2 = row) (fun y => (mkF [(1, imS (iL own)), (2, imS (gL ats)), (3, .pointer (some ⟨0, 0, none⟩)), (6, .slice none 0 0), (7, .slice (some ⟨1, 0, none⟩) (gL st).length (gL st).length), (8, imS (iL ord)), (10, .int .i64 pre.length), (11, .int .i64 u), (12, .int .i64 y.1.length)], ⟨mkO [(0, some (.cells 34 [imS (sL nm), imS (gL st)] false)), (1, some (.cells 3 (iL (F.set u (nstF F (y.1.zip arow) (brg (gt0 own u))))) false))], 2, 0, 0⟩)) (fun y => y.2.length) ([], row) rfl (Cov.renI rfl rfl rfl rfl (.cons rfl (.row _ _ _ _ (cleanG_cells ⟨nm, st⟩) rfl) (.cons rfl (.row _ _ _ _ (cleanIl0 _) (es.symm)) .nil)) (.cons rfl (.clean _ _ (cleanIL _) rfl) (.cons rfl (.clean _ _ (cleanGL _) rfl) (.cons rfl (.P rfl) (.cons rfl (.F rfl rfl) (.cons rfl (.S rfl rfl rfl) (.cons rfl (.clean _ _ (cleanIL _) rfl) (.cons rfl .I (.cons rfl .I (.cons rfl .I .nil)))))))))) ?_
    rintro ⟨p, q⟩ p3
    dsimp only at p3
    dsimp only
    rcases q with _ | ⟨t, q⟩
    · rw [List.append_nil] at p3
      subst p3
      have h4b := U.lt_no iL_map p
      (repeat' ((conv => whnf); first | refine goD ?_ | refine U.lw_c (fun hb => ?_) (fun hb => ?_)))
      (conv => whnf)
      refine ⟨(pre ++ [(u : Int)], rest), by rw [← p1]; simp, by simp, ?_⟩
      dsimp only
      rw [hfs, nst1, hrd, hard]
      exact Cov.slots (s := ⟨mkO [(0, some (.cells 34 [imS (sL nm), imS (gL st)] false)), (1, some (.cells 3 (iL (F.set u (nstF F (p.zip arow) (brg (gt0 own u))))) false))], 2, 0, 0⟩) (Nat.le_of_ble_eq_true rfl) ⟨rfl, rfl, rfl, rfl, rfl, rfl, congrArg some (congrArg (Value.int .i64) h3w), trivial⟩
    · have hrl2 := hrl
      rw [← p3] at hrl2
      obtain ⟨h4b, h4c, h4n, h4w⟩ := U.at4 iL_map p (t) q (hrl2)
      rw [p3] at h4b h4c h4n
      have htp := hO.cl pre rest u p1.symm t (by rw [hrd, ← p3]; simp)
      obtain ⟨j, hjl, rfl⟩ := hO.inn t (by rw [← p1]; exact List.mem_append_left _ htp)
      have hju : j ≠ u := fun e => by
        subst e
        have := hO.nd
        rw [← p1] at this
        exact (List.nodup_append.1 this).2.2 _ htp (j : Int) (by simp) rfl
      have hpl : p.length < arow.length := by rw [hal, ← p3]; simp
      have hjb : j.blt (gL st).length = true := by rw [gL_len]; exact bLe hjl
      have hub2 : p.length.blt (iL arow).length = true := by rw [iL_len]; exact bLe hpl
      have han2 := iL_at (l := arow) (i := p.length) hpl
      have hzs := zip_snoc (t := (j : Int)) hpl
      have hFj := okN_at hFu j
      have hst5 : ∀ (x : Int) (v : Value), 0 + u * 1 + [v].length ≤ (iL (F.set u x)).length := fun x v => by rw [iL_len, List.length_set, hFl, List.length_singleton]; omega
      have hss : nstF F ((p ++ [(j : Int)]).zip arow) (brg (gt0 own u)) = max (nstF F (p.zip arow) (brg (gt0 own u))) (brg (brg (gt0 arow p.length) + gt0 F j)) := by
        rw [hzs]; simp [nstF]
      generalize nstF F (p.zip arow) (brg (gt0 own u)) = s0 at *
      have hn1 := iL_nth0 (L := F.set u s0) (i := u) (by rw [List.length_set]; omega)
      rw [gt0_set_same (by omega)] at hn1
      have hn2 := iL_nth0 (L := F.set u s0) (i := j) (by rw [List.length_set]; omega)
      rw [gt0_set_ne hju] at hn2
      have c3 := bring_d (gt0 arow p.length)
      have c4 := bring_d (IntKind.i64.wrap (brg (gt0 arow p.length) + gt0 F j))
      rw [brg_wrap _ _ hFj] at c4
      have ew := brg_wrap (gt0 arow p.length) (gt0 F j) hFj
      (repeat' ((conv => whnf); first | refine goA ?_ | (conv in (nth _ _) => (change nth _ (0 + u * 1); rw [hn1])) | (conv in (nth _ _) => (change nth _ (0 + j * 1); rw [hn2])) | rw [ew] | refine U.storeC_p (hst5 s0 _) ?_ | refine goB ?_ | refine U.SoundAt.u (c3) clN ?_ | refine U.SoundAt.u (c4) clN ?_ | refine U.SoundC.u (c3) clN ?_ | refine U.SoundC.u (c4) clN ?_ | refine U.drawX_p (D := U.propX) 29 [] (by decide +kernel) (by decide +kernel) ?_ | refine U.lw_c (fun hb => ?_) (fun hb => ?_)))
      (conv => whnf)
      have es2 := iL_store0 (L := F.set u s0) (i := u) (x := if brg (brg (gt0 arow p.length) + gt0 F j) > s0 then brg (brg (gt0 arow p.length) + gt0 F j) else s0) (by rw [List.length_set]; omega)
      rw [List.set_set, ← max_if] at es2
      refine ⟨(p ++ [(j : Int)], q), by rw [← p3]; simp, by simp, ?_⟩
      dsimp only
      rw [hss]
      rw [max_if] at es2 ⊢
      exact (Cov.renI rfl rfl rfl rfl (.cons rfl (.row _ _ _ _ (cleanG_cells ⟨nm, st⟩) rfl) (.cons rfl (.row _ _ _ _ (cleanIl0 _) (es2.symm)) .nil)) (.cons rfl (.clean _ _ (cleanIL _) rfl) (.cons rfl (.clean _ _ (cleanGL _) rfl) (.cons rfl (.P rfl) (.cons rfl (.F rfl rfl) (.cons rfl (.S rfl rfl rfl) (.cons rfl (.clean _ _ (cleanIL _) rfl) (.cons rfl .I (.cons rfl .I (.cons rfl (.clean _ _ (cleanI _) (congrArg (Value.int .i64) (h4w.symm))) .nil))))))))))
end Go.Proofs.YthekpmpcbidjiaaGreat
