
import Derived.Test.YthekpmpcbidjiaaGreatT29
namespace Go.Proofs.YthekpmpcbidjiaaGreat
open Go Go.RowKit Go.Sort U
set_option linter.unusedVariables false
set_option linter.unusedSimpArgs false
set_option maxRecDepth 100000
set_option maxHeartbeats 4000000
theorem rhas_d (l : List Int) (n : Int) (hl : l.length ≤ maxI) : DenU Tryz.prog [] 41 [imS (iL l), .int .i64 n] (.bool (decide (n ∈ l))) := by
  refine denU_of_body hmixU rfl Tryz.func41 rfl rfl rfl 0 ?_
  intro Ts
  (repeat' ((conv => whnf); first | refine goD ?_ | refine U.lw_c (fun hb => ?_) (fun hb => ?_)))
  (conv => whnf)
  refine loop_inv (α := List Int × List Int) (fun x => x.1 ++ x.2 = l ∧ n ∉ x.1) (fun x => (mkF [(0, imS (iL l)), (1, .int .i64 n), (4, .bool false), (5, .int .i64 x.1.length)], ⟨.e, 0, 0, 0⟩)) (fun x => x.2.length) ([], l) ⟨rfl, by simp⟩ (Cov.slots (Nat.le_refl _) ⟨rfl, rfl, rfl, rfl, trivial⟩) ?_
  rintro ⟨pre, rest⟩ ⟨p1, p2⟩
  dsimp only at p1 p2
  subst p1
  dsimp only
  rcases rest with _ | ⟨x, rest⟩
  · rw [List.append_nil] at *
    have h3b := U.lt_no iL_map pre
    (repeat' ((conv => whnf); first | refine goD ?_ | refine U.lw_c (fun hb => ?_) (fun hb => ?_)))
    (conv => whnf)
    exact .same (.flat _ rfl) (congrArg Value.bool (decide_eq_false p2).symm)
  · obtain ⟨h3b, h3c, h3n, h3w⟩ := U.at4 iL_map pre (x) rest (hl)
    (repeat' ((conv => whnf); first | refine goD ?_ | refine U.lw_c (fun hb => ?_) (fun hb => ?_)))
    all_goals (conv => whnf)
    · have : x = n := by simpa using hb
      exact .same (.flat _ rfl) (congrArg Value.bool (decide_eq_true (by simp [this])).symm)
    · have hx : ¬ x = n := by simpa using hb
      refine ⟨(pre ++ [x], rest), ⟨by simp, by simp [p2]; exact fun e => hx e.symm⟩, by simp, Cov.slots (s := ⟨.e, 0, 0, 0⟩) (Nat.le_refl 0) ⟨rfl, rfl, rfl, congrArg some (congrArg (Value.int .i64) h3w), trivial⟩⟩
theorem rright_d (g : Gz) (hg : okG g) : DenU Tryz.prog [] 11 [encG g] (.bool (rightG g)) := by
  refine denU_of_body hmixU rfl Tryz.func11 rfl rfl rfl 0 ?_
  intro Ts
  obtain ⟨nm, st⟩ := g
  obtain ⟨g1, g2, g3⟩ := hg
  dsimp only at g1 g2 g3
  have hw : IntKind.i64.wrap (((sL nm).length : Int) + 1) = ((nm.length + 1 : Nat) : Int) := by rw [sL_len]; exact wadd1 (by omega)
  (repeat' ((conv => whnf); first | refine goD ?_ | refine U.lw_c (fun hb => ?_) (fun hb => ?_)))
  (conv => whnf)
  refine loop_inv (α := List (List Int) × List (List Int)) (fun x => x.1 ++ x.2 = st ∧ (x.1.all fun r => r.all (okT nm.length)) = true) (fun x => (mkF [(1, .pointer (some ⟨0, 0, none⟩)), (2, .bool false), (3, .int .i64 x.1.length)], ⟨mkO [(0, some (.cells 34 [imS (sL nm), imS (gL st)] false))], 1, 0, 0⟩)) (fun x => x.2.length) ([], st) ⟨rfl, rfl⟩ (Cov.renI rfl rfl rfl rfl (.cons rfl (.row _ _ _ _ (cleanG_cells ⟨nm, st⟩) rfl) .nil) (.cons rfl (.P rfl) (.cons rfl (.F rfl rfl) (.cons rfl .I .nil)))) ?_
  rintro ⟨pre, rest⟩ ⟨p1, p2⟩
  dsimp only at p1 p2
  subst p1
  dsimp only
  rcases rest with _ | ⟨x, rest⟩
  · rw [List.append_nil] at *
    have h3b := U.lt_no gL_map pre
    (repeat' ((conv => whnf); first | refine goD ?_ | refine U.lw_c (fun hb => ?_) (fun hb => ?_)))
    (conv => whnf)
    refine .same (.flat _ rfl) (congrArg Value.bool ?_)
    rw [hw, gL_len]
    by_cases h : pre.length = nm.length + 1
    · simp [rightG, h, p2]
    · have h' : ¬ (pre.length : Int) = (nm.length : Int) + 1 := by omega
      simp [rightG, h, h']
  · obtain ⟨h3b, h3c, h3n, h3w⟩ := U.at4 gL_map pre (x) rest (g2)
    have hx := g3 x (by simp)
    (repeat' ((conv => whnf); first | refine goD ?_ | refine U.lw_c (fun hb => ?_) (fun hb => ?_)))
    (conv => whnf)
    refine loop_inv (α := List Int × List Int) (fun y => y.1 ++ y.2 = x ∧ y.1.all (okT nm.length) = true) (fun y => (mkF [(1, .pointer (some ⟨0, 0, none⟩)), (2, .bool false), (3, .int .i64 pre.length), (4, .int .i64 y.1.length)], ⟨mkO [(0, some (.cells 34 [imS (sL nm), imS (gL (pre ++ x :: rest))] false))], 1, 0, 0⟩)) (fun y => y.2.length) ([], x) ⟨rfl, rfl⟩ (Cov.slots (Nat.le_refl _) ⟨rfl, rfl, rfl, rfl, trivial⟩) ?_
    rintro ⟨p, q⟩ ⟨p3, p4⟩
    dsimp only at p3 p4
    subst p3
    dsimp only
    rcases q with _ | ⟨t, q⟩
    · rw [List.append_nil] at *
      have h4b := U.lt_no iL_map p
      (repeat' ((conv => whnf); first | refine goD ?_ | refine U.lw_c (fun hb => ?_) (fun hb => ?_)))
      (conv => whnf)
      refine ⟨(pre ++ [p], rest), ⟨by simp, by rw [List.all_append, p2]; simp [p4]⟩, by simp, ?_⟩
      refine Cov.slots (s := ⟨mkO [(0, some (.cells 34 [imS (sL nm), imS (gL (pre ++ p :: rest))] false))], 1, 0, 0⟩) (Nat.le_refl 1) ⟨rfl, rfl, ?_, trivial⟩
      exact congrArg some (congrArg (Value.int .i64) h3w)
    · obtain ⟨h4b, h4c, h4n, h4w⟩ := U.at4 iL_map p (t) q (hx)
      (repeat' ((conv => whnf); first | refine goD ?_ | refine U.drawX_p (D := U.propX) 23 [] (by decide +kernel) (by decide +kernel) ?_ | refine U.lw_c (fun hb => ?_) (fun hb => ?_)))
      all_goals (conv => whnf)
      · have h5 : ¬ okT nm.length t = true := by simp at hb; simp [okT]; omega
        exact .same (.flat _ rfl) (congrArg Value.bool (by simp [rightG, h5]))
      · have h5 : ¬ okT nm.length t = true := by rw [sL_len] at hb; simp at hb; simp [okT]; omega
        exact .same (.flat _ rfl) (congrArg Value.bool (by simp [rightG, h5]))
      · have h5 : okT nm.length t = true := by rename_i hb0; rw [sL_len] at hb; simp at hb hb0; simp [okT]; omega
        refine ⟨(p ++ [t], q), ⟨by simp, by rw [List.all_append, p4]; simp [h5]⟩, by simp, ?_⟩
        refine Cov.slots (s := ⟨mkO [(0, some (.cells 34 [imS (sL nm), imS (gL (pre ++ (p ++ t :: q) :: rest))] false))], 1, 0, 0⟩) (Nat.le_refl 1) ⟨rfl, rfl, rfl, congrArg some (congrArg (Value.int .i64) h4w), trivial⟩
def fndI (st : List (List Int)) (out : List Int) (k : Nat) : Int := match (List.range st.length).find? (fun v => decide (k ≤ v) && rdy st out v) with
  | some v => (v : Int)
  | none => -1
theorem fndI_top (st : List (List Int)) (out : List Int) : fndI st out st.length = -1 := by
  unfold fndI
  rw [List.find?_eq_none.2 fun v hv => by
    have := List.mem_range.1 hv
    simp; intro h; omega]
theorem fndI_zero (st : List (List Int)) (out : List Int) : fndI st out 0 = match stepO st out with
    | some v => (v : Int)
    | none => -1 := by
  unfold fndI stepO
  simp
theorem range_split {n k : Nat} (h : k < n) : List.range n = List.range k ++ k :: (List.range (n - k - 1)).map (k + 1 + ·) := by
  rw [show k :: List.map (k + 1 + ·) (List.range (n - k - 1)) = List.map (k + ·) (List.range (n - k)) from ?_]
  · rw [← List.range_add]; congr 1; omega
  · rw [show n - k = (n - k - 1) + 1 by omega, List.range_succ_eq_map]
    simp
    intro a _
    omega
theorem find_congr {α : Type} {p q : α → Bool} : ∀ {l : List α}, (∀ v ∈ l, p v = q v) → l.find? p = l.find? q
  | [], _ => rfl
  | a :: l, h => by
    rw [List.find?_cons, List.find?_cons, h a (by simp), find_congr fun v hv => h v (by simp [hv])]
theorem fndI_step {st : List (List Int)} {out : List Int} {k : Nat} (h : k < st.length) : fndI st out k = if rdy st out k = true then (k : Int) else fndI st out (k + 1) := by
  unfold fndI
  have e1 : (List.range k).find? (fun v => decide (k ≤ v) && rdy st out v) = none := List.find?_eq_none.2 fun v hv => by
    have := List.mem_range.1 hv
    simp; intro h; omega
  have e2 : (List.range k).find? (fun v => decide (k + 1 ≤ v) && rdy st out v) = none := List.find?_eq_none.2 fun v hv => by
    have := List.mem_range.1 hv
    simp; intro h; omega
  rw [range_split h, List.find?_append, List.find?_append, e1, e2]
  simp only [Option.none_or]
  rw [List.find?_cons, List.find?_cons]
  have e3 : (decide (k + 1 ≤ k) && rdy st out k) = false := by
    rw [decide_eq_false (by omega)]; rfl
  rw [e3]
  by_cases hr : rdy st out k = true
  · rw [if_pos hr]
    simp [hr]
  · rw [if_neg hr]
    have hr' : rdy st out k = false := by simpa using hr
    simp only [hr', Bool.and_false]
    rw [find_congr (p := fun v => decide (k ≤ v) && rdy st out v) (q := fun v => decide (k + 1 ≤ v) && rdy st out v) fun v hv => by
      obtain ⟨a, _, rfl⟩ := List.mem_map.1 hv
      rw [decide_eq_true (by omega : k ≤ k + 1 + a), decide_eq_true (by omega : k + 1 ≤ k + 1 + a)]]
def slV (b : Nat) (l : List Int) : Value := .slice (match l with
  | [] => none
  | _ :: _ => some ⟨b, 0, none⟩) l.length l.length
theorem slV_ren {n : Nat} {ρ : Ren} {b b' : Nat} {l l' : List Int} (hb : b < n) (e : ρ b = b') (e2 : l = l') : U.RenV n ρ (slV b l) (slV b' l') := by
  subst e2
  cases l with
  | nil => exact .F rfl rfl
  | cons y l => exact .sl _ _ _ _ _ _ _ hb e rfl rfl
theorem slV_grown {n : Nat} {ρ : Ren} {b b' m c : Nat} {l : List Int} (hb : b < n) (e : ρ b = b') (h0 : l ≠ []) (e2 : l.length = m) (e3 : l.length = c) : U.RenV n ρ (slV b l) (.slice (some ⟨b', 0, none⟩) m c) := by
  cases l with
  | nil => exact absurd rfl h0
  | cons y l => exact .sl _ _ _ _ _ _ _ hb e e2 e3
theorem slV_frz {P : Program} {s : AS} {b : Nat} {T : TypeId} {l : List Int} (hlo : s.lo ≤ b) (hk : Tr.at (pt b) s.heap = rowO T (iL l)) : U.FrzV P s (slV b l) (imS (iL l)) := by
  cases l with
  | nil => exact .nil
  | cons y l => exact .rowL hlo hk rfl iL_1 (by rw [iL_len]) (Nat.le_refl _) (cleanIC _)
def rbO (out : List Int) (k : Nat) (p : List Int) : Bool := !decide ((k : Int) ∈ out) && p.all fun t => decide (t ∈ out)
theorem rbO_snoc (out : List Int) (k : Nat) (p : List Int) (t : Int) : rbO out k (p ++ [t]) = (rbO out k p && decide (t ∈ out)) := by
  simp [rbO, Bool.and_assoc]
theorem rorder_d (g : Gz) (hst : g.st.length ≤ 30000) (hrow : ∀ r ∈ g.st, r.length ≤ maxI) : DenU Tryz.prog [] 16 [encG g] (.tuple ⟨[imS (iL (orderR g.st).1), .bool (orderR g.st).2]⟩) := by
  refine denU_of_sound hmixU fun Ts => SoundAt.body hmixU Tryz.func16 rfl rfl rfl 0 ?_
  obtain ⟨nm, st⟩ := g
  dsimp only at hst hrow
  dsimp only
  (repeat' ((conv => whnf); first | refine goD ?_ | refine U.lw_c (fun hb => ?_) (fun hb => ?_)))
  (conv => whnf)
  refine loop_inv (α := List Int) (fun out => greedy st (st.length - out.length) out = greedy st st.length [] ∧ out.length ≤ st.length) (fun out => (mkF [(1, .pointer (some ⟨0, 0, none⟩)), (2, .slice none 0 0), (3, .bool false), (4, slV 1 out)], ⟨mkO [(0, some (.cells 34 [imS (sL nm), imS (gL st)] false)), (1, rowO 3 (iL out))], 2, 0, 0⟩)) (fun out => st.length - out.length) [] ⟨rfl, Nat.zero_le _⟩ (Cov.renI rfl rfl rfl rfl (.cons rfl (.row _ _ _ _ (cleanG_cells ⟨nm, st⟩) rfl) (.none .nil)) (.cons rfl (.P rfl) (.cons rfl (.F rfl rfl) (.cons rfl (.F rfl rfl) (.cons rfl (.F rfl rfl) .nil))))) ?_
  rintro out ⟨p1, p2⟩
  dsimp only
  have hol : out.length ≤ maxI := by unfold maxI; omega
  rcases Nat.lt_or_ge out.length st.length with hlt | hge
  · have g0 : decide ((out.length : Int) < ((gL st).length : Int)) = true := by rw [gL_len]; simp; omega
    (repeat' ((conv => whnf); first | refine goD ?_ | refine U.lw_c (fun hb => ?_) (fun hb => ?_)))
    (conv => whnf)
    refine loop_inv (α := Nat) (fun k => k ≤ st.length) (fun k => (mkF [(1, .pointer (some ⟨0, 0, none⟩)), (2, .slice none 0 0), (3, .bool false), (4, slV 1 out), (5, .int .i64 (fndI st out k)), (6, .int .i64 ((k : Int) - 1))], ⟨mkO [(0, some (.cells 34 [imS (sL nm), imS (gL st)] false)), (1, rowO 3 (iL out))], 2, 0, 0⟩)) (fun k => k) st.length (Nat.le_refl _) (Cov.slots (Nat.le_refl _) ⟨rfl, rfl, rfl, rfl, congrArg some (congrArg (Value.int .i64) (fndI_top st out).symm), congrArg some (congrArg (Value.int .i64) ?_), trivial⟩) ?_
    · rw [gL_len, IntKind.wrap_i64]; omega
    rintro k hk
    dsimp only
    rcases k with _ | k
    · have g1 : decide ((((0 : Nat) : Int) - 1) ≥ 0) = false := by decide
      have hz := fndI_zero st out
      have hsl := p1
      rw [show st.length - out.length = (st.length - (out.length + 1)) + 1 by omega, greedy] at hsl
      rcases hs : stepO st out with _ | v
      · rw [hs] at hz hsl
        dsimp only at hz hsl
        have hout : orderR st = ([], false) := order_no hsl hlt
        have g2 : decide ((-1 : Int) < 0) = true := by decide
        rw [hz]
        (repeat' ((conv => whnf); first | refine goD ?_ | refine U.lw_c (fun hb => ?_) (fun hb => ?_)))
        (conv => whnf)
        rw [hout]
        exact .tupL (.cons .nil (.cons (.clean _ (.flat _ rfl)) .nil))
      · rw [hs] at hz hsl
        dsimp only at hz hsl
        have g2 : decide ((v : Int) < 0) = false := by simp
        rw [hz]
        have hfin : greedy st (st.length - (out ++ [(v : Int)]).length) (out ++ [(v : Int)]) = greedy st st.length [] ∧ (out ++ [(v : Int)]).length ≤ st.length := by
          rw [List.length_append]
          exact ⟨hsl, hlt⟩
        rcases out with _ | ⟨y, ys⟩
        · (repeat' ((conv => whnf); first | refine goA ?_ | refine U.catC_p ?_ | refine goB ?_ | refine U.lw_c (fun hb => ?_) (fun hb => ?_)))
          (conv => whnf)
          refine ⟨[] ++ [(v : Int)], hfin, by simp at hlt ⊢; omega, ?_⟩
          exact (Cov.renO (fun k => if k = 1 then 3 else k) rfl rfl (Nat.le_of_ble_eq_true rfl) (Nat.zero_le _) (fun k hk => by have : k < 1 := hk; rw [if_neg (by omega)]) rfl (fun k hk => absurd hk (Nat.not_lt_zero k)) (.cons rfl (.row _ _ _ _ (cleanG_cells ⟨nm, st⟩) rfl) (blksO.grown rfl rfl (cleanIC _) .nil)) (.cons rfl (.P rfl) (.cons rfl (.F rfl rfl) (.cons rfl (.F rfl rfl) (.cons rfl (slV_grown (by decide) rfl (by simp) rfl rfl) .nil)))))
        · have hyl : (cellsAll (iL (y :: ys))).length = (ys.length + 1) * (0 + 1) := by rw [cellsI, iL_len]; simp
          have hys : ys.length + 1 ≤ 30000 := by simp at hlt; omega
          have hb7 : (Nat.ble ((ys.length + 1 + (0 + 1)) * 8) 140737488355328 && Nat.ble (ys.length + 1 + (0 + 1)) 1000000) = true := by
            rw [bLe (by omega), bLe (by omega)]
            rfl
          have hgr : cellsAll (iL (y :: ys ++ [(v : Int)])) = cellsAll (iL (y :: ys)) ++ [Value.int .i64 (v : Int)] := by
            rw [cellsI, cellsI, iL_app]; rfl
          (repeat' ((conv => whnf); first | refine goA ?_ | refine U.ob_c hb7 ?_ | (rw [ble_f]; dsimp only; refine growRow_p hyl rfl ?_) | refine goB ?_ | refine U.lw_c (fun hb => ?_) (fun hb => ?_)))
          (conv => whnf)
          refine ⟨y :: ys ++ [(v : Int)], hfin, by simp at hlt ⊢; omega, ?_⟩
          exact (Cov.renO (fun k => if k = 1 then 3 else k) rfl rfl (Nat.le_of_ble_eq_true rfl) (Nat.zero_le _) (fun k hk => by have : k < 1 := hk; rw [if_neg (by omega)]) rfl (fun k hk => absurd hk (Nat.not_lt_zero k)) (.cons rfl (.row _ _ _ _ (cleanG_cells ⟨nm, st⟩) rfl) (blksO.grown rfl (hgr) (cleanIC _) .nil)) (.cons rfl (.P rfl) (.cons rfl (.F rfl rfl) (.cons rfl (.F rfl rfl) (.cons rfl (slV_grown (by decide) rfl (by simp) (by simp) (by simp)) .nil)))))
    · have ek : (((k + 1 : Nat) : Int) - 1) = (k : Int) := by omega
      rw [ek]
      have g1 : decide ((k : Int) ≥ 0) = true := by simp
      have hkl : k < st.length := by omega
      obtain ⟨row, hrw⟩ : ∃ row, st[k]? = some row := ⟨st[k], by simp [hkl]⟩
      have hrl := hrow row (List.mem_of_getElem? hrw)
      have hkb : k.blt (gL st).length = true := by rw [gL_len]; exact bLe hkl
      have hkn : nth (gL st) k = some (imS (iL row)) := by rw [nth_eq, gL]; simp [hrw]
      (repeat' ((conv => whnf); first | refine goA ?_ | refine .c (SoundC.uF (rhas_d out k hol) rfl (.cons (slV_frz (T := 3) (Nat.zero_le _) rfl) (.cons (.clean _ (cleanI _)) .nil)) ?_) | refine goB ?_ | refine U.lw_c (fun hb => ?_) (fun hb => ?_)))
      (conv => whnf)
      refine loop_inv (α := List Int × List Int) (fun y => y.1 ++ y.2 = row) (fun y => (mkF [(1, .pointer (some ⟨0, 0, none⟩)), (2, .slice none 0 0), (3, .bool false), (4, slV 1 out), (5, .int .i64 (fndI st out (k + 1))), (6, .int .i64 (k : Int)), (7, .bool (rbO out k y.1)), (8, .int .i64 y.1.length)], ⟨mkO [(0, some (.cells 34 [imS (sL nm), imS (gL st)] false)), (1, rowO 3 (iL out))], 2, 0, 0⟩)) (fun y => y.2.length) ([], row) rfl (Cov.slots (Nat.le_refl _) ⟨rfl, rfl, rfl, rfl, rfl, rfl, congrArg some (congrArg Value.bool (by simp [rbO])), rfl, trivial⟩) ?_
      rintro ⟨p, q⟩ p3
      dsimp only at p3
      dsimp only
      rcases q with _ | ⟨t, q⟩
      · rw [List.append_nil] at p3
        subst p3
        have h4b := U.lt_no iL_map p
        have hfs := fndI_step (out := out) hkl
        have hrd : rdy st out k = rbO out k p := by
          unfold rdy rbO
          rw [show st.getD k [] = p by simp [hrw]]
          simp
        have ew : IntKind.i64.wrap ((k : Int) - 1) = (k : Int) - 1 := by rw [IntKind.wrap_i64]; omega
        rw [hrd] at hfs
        cases hrb : rbO out k p
        · rw [hrb, if_neg (by simp)] at hfs
          (repeat' ((conv => whnf); first | refine goD ?_ | refine U.lw_c (fun hb => ?_) (fun hb => ?_)))
          (conv => whnf)
          exact ⟨k, by omega, by omega, Cov.slots (s := ⟨mkO [(0, some (.cells 34 [imS (sL nm), imS (gL st)] false)), (1, rowO 3 (iL out))], 2, 0, 0⟩) (Nat.le_refl _) ⟨rfl, rfl, rfl, rfl, congrArg some (congrArg (Value.int .i64) hfs.symm), congrArg some (congrArg (Value.int .i64) ew), trivial⟩⟩
        · rw [hrb, if_pos rfl] at hfs
          (repeat' ((conv => whnf); first | refine goD ?_ | refine U.lw_c (fun hb => ?_) (fun hb => ?_)))
          (conv => whnf)
          exact ⟨k, by omega, by omega, Cov.slots (s := ⟨mkO [(0, some (.cells 34 [imS (sL nm), imS (gL st)] false)), (1, rowO 3 (iL out))], 2, 0, 0⟩) (Nat.le_refl _) ⟨rfl, rfl, rfl, rfl, congrArg some (congrArg (Value.int .i64) hfs.symm), congrArg some (congrArg (Value.int .i64) ew), trivial⟩⟩
      · have hrl2 := hrl
        rw [← p3] at hrl2
        obtain ⟨h4b, h4c, h4n, h4w⟩ := U.at4 iL_map p (t) q (hrl2)
        rw [p3] at h4b h4c h4n
        have hsn := rbO_snoc out k p t
        cases hrb : rbO out k p
        · rw [hrb, Bool.false_and] at hsn
          (repeat' ((conv => whnf); first | refine goD ?_ | refine U.lw_c (fun hb => ?_) (fun hb => ?_)))
          (conv => whnf)
          exact ⟨(p ++ [t], q), by rw [← p3]; simp, by simp, Cov.slots (s := ⟨mkO [(0, some (.cells 34 [imS (sL nm), imS (gL st)] false)), (1, rowO 3 (iL out))], 2, 0, 0⟩) (Nat.le_refl _) ⟨rfl, rfl, rfl, rfl, rfl, rfl, congrArg some (congrArg Value.bool hsn.symm), congrArg some (congrArg (Value.int .i64) h4w), trivial⟩⟩
        · rw [hrb, Bool.true_and] at hsn
          (repeat' ((conv => whnf); first | refine goA ?_ | refine SoundC.uF (rhas_d out t hol) rfl (.cons (slV_frz (T := 3) (Nat.zero_le _) rfl) (.cons (.clean _ (cleanI _)) .nil)) ?_ | refine .c (SoundC.uF (rhas_d out t hol) rfl (.cons (slV_frz (T := 3) (Nat.zero_le _) rfl) (.cons (.clean _ (cleanI _)) .nil)) ?_) | refine goB ?_ | refine U.lw_c (fun hb => ?_) (fun hb => ?_)))
          (conv => whnf)
          exact ⟨(p ++ [t], q), by rw [← p3]; simp, by simp, Cov.slots (s := ⟨mkO [(0, some (.cells 34 [imS (sL nm), imS (gL st)] false)), (1, rowO 3 (iL out))], 2, 0, 0⟩) (Nat.le_refl _) ⟨rfl, rfl, rfl, rfl, rfl, rfl, congrArg some (congrArg Value.bool hsn.symm), congrArg some (congrArg (Value.int .i64) h4w), trivial⟩⟩
  · have he : out.length = st.length := by omega
    have g0 : decide ((out.length : Int) < ((gL st).length : Int)) = false := by rw [gL_len]; simp; omega
    have hout : orderR st = (out, true) := by
      have : out = greedy st st.length [] := by rw [← p1, he, Nat.sub_self]; rfl
      exact order_yes this (by omega)
    (repeat' ((conv => whnf); first | refine goD ?_ | refine U.lw_c (fun hb => ?_) (fun hb => ?_)))
    (conv => whnf)
    rw [hout]
    exact .tupL (.cons (slV_frz (T := 3) (Nat.zero_le _) rfl) (.cons (.clean _ (.flat _ rfl)) .nil))
end Go.Proofs.YthekpmpcbidjiaaGreat
