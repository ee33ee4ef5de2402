
import Derived.Test.YthekpmpcbidjiaaGreatT28
namespace Go.Proofs.YthekpmpcbidjiaaGreat
open Go Go.RowKit Go.Sort U
set_option linter.unusedVariables false
set_option linter.unusedSimpArgs false
set_option maxRecDepth 100000
set_option maxHeartbeats 4000000
def okRows (n : Nat) (rows : List (List Int)) : Prop := ∀ r ∈ rows, r.Nodup ∧ r.length ≤ maxI ∧ ∀ t ∈ r, ∃ k : Nat, t = (k : Int) ∧ k < n
theorem froms_len (pre : List (List Int)) (c : Nat) : (froms pre c).length ≤ pre.length := by
  rw [froms, List.length_map]
  exact Nat.le_trans (List.length_filter_le ..) (by simp)
def tHd (n : Nat) : List Int → Nat
  | [] => n
  | t :: _ => t.toNat
theorem rowS_snoc (b : Nat) (y x : Int) (ys : List Int) : rowS b (iL (y :: (ys ++ [x]))) = .slice (some ⟨b, 0, none⟩) ((iL ys).length + 1 + (0 + 1)) ((iL ys).length + 1 + (0 + 1)) := by
  show Value.slice (some ⟨b, 0, none⟩) ((iL (ys ++ [x])).length + 1) ((iL (ys ++ [x])).length + 1) = _
  rw [iL_len, iL_len, List.length_append]
  rfl
theorem turned_d (rows : List (List Int)) (hn : rows.length ≤ 65000) (ho : okRows rows.length rows) : DenU Tryz.prog [] 29 [imS (gL rows)] (imS (gL (turnedR rows))) := by
  refine denU_of_sound hmixU fun Ts => SoundAt.body hmixU Tryz.func29 rfl rfl rfl 0 ?_
  have hmf := mk_full (zs := [.slice none 0 0]) (n := (gL rows).length) (b := 24) rfl rfl (by decide) (by rw [gL_len]; omega)
  have g2 : rows.length ≤ maxI := by unfold maxI; omega
  (repeat' ((conv => whnf); first | refine U.ob_c hmf ?_ | refine goA ?_ | refine U.spineC_p ?_ | refine goB ?_ | refine U.lw_c (fun hb => ?_) (fun hb => ?_)))
  (conv => whnf)
  refine loop_inv (α := List (List Int) × List (List Int)) (fun x => x.1 ++ x.2 = rows) (fun x => (mkF [(2, .slice none 0 0), (3, .slice (some ⟨0, 0, none⟩) (gL rows).length (gL rows).length), (11, imS (gL rows)), (12, .int .i64 (gL rows).length), (13, .int .i64 x.1.length)], stO rows.length (froms x.1))) (fun x => x.2.length) ([], rows) rfl (cov_O (nm := nmO) ⟨congrArg (fun l => some (U.Blk.cells 26 l false)) (cellsN_start rows).symm, fun k _ h => absurd rfl h, fun k k' _ _ h => absurd rfl h, fun k _ h => absurd rfl h⟩ hn (.cons rfl (.F rfl rfl) (.cons rfl (.S rfl rfl rfl) (.cons rfl (.clean _ _ (cleanGL _) rfl) (.cons rfl .I (.cons rfl .I .nil)))))) ?_
  rintro ⟨pre, rest⟩ p1
  dsimp only at p1
  subst p1
  dsimp only
  rcases rest with _ | ⟨x, rest⟩
  · rw [List.append_nil] at *
    have h3b := U.lt_no gL_map pre
    (repeat' ((conv => whnf); first | refine goD ?_ | refine U.lw_c (fun hb => ?_) (fun hb => ?_)))
    (conv => whnf)
    refine FrzV.row 0 _ _ 1 26 (cellsN pre.length (froms pre) nmO) (gL (turnedR pre)) false (Nat.zero_le _) rfl gL_1 (by rw [gL_len, gL_len, turnedR]; simp) (Nat.le_refl _) (by rw [cellsG, gL_len, turnedR, cellsN]; simp) fun i u v hu hv => ?_
    rw [cellsG, turnedR, gL_map, List.map_map, List.getElem?_map, Option.map_eq_some_iff] at hv
    rw [cellsN, List.getElem?_map, Option.map_eq_some_iff] at hu
    obtain ⟨k, hk1, rfl⟩ := hv
    obtain ⟨k', hk2, rfl⟩ := hu
    rw [hk1] at hk2
    cases hk2
    have hk : k < pre.length := List.mem_range.1 (List.mem_of_getElem? hk1)
    show FrzV _ _ (rowS (nmO k) (iL (froms pre k))) (imS (iL (froms pre k)))
    rcases hR : froms pre k with _ | ⟨y, ys⟩
    · exact .nil
    · have := (rows_O (R := froms pre) hn).at_ k hk (by rw [hR]; simp)
      rw [hR] at this
      refine .ofRow (T := 3) (Nat.zero_le _) (this.trans ?_) iL_1 (cleanIC _)
      show _ = some (U.Blk.cells 3 (cellsAll (iL (y :: ys))) true)
      rw [cellsI]
  · obtain ⟨h3b, h3c, h3n, h3w⟩ := U.at4 gL_map pre (x) rest (g2)
    obtain ⟨ho1, ho2, ho3⟩ := ho x (by simp)
    (repeat' ((conv => whnf); first | refine goD ?_ | refine U.lw_c (fun hb => ?_) (fun hb => ?_)))
    (conv => whnf)
    have hT : ∀ (R R' : Nat → List Int) (h : R = R') (sh : Tr U.Blk) (n : Nat) (nm : Nat → Nat), RowsAt sh n R nm → RowsAt sh n R' nm := fun R R' h sh n nm hr => by subst h; exact hr
    refine loop_inv (α := List Int × List Int) (fun y => y.1 ++ y.2 = x) (fun y => (mkF [(2, .slice none 0 0), (3, .slice (some ⟨0, 0, none⟩) (gL (pre ++ x :: rest)).length (gL (pre ++ x :: rest)).length), (4, .int .i64 pre.length), (11, imS (gL (pre ++ x :: rest))), (12, .int .i64 (gL (pre ++ x :: rest)).length), (13, .int .i64 pre.length), (18, imS (iL x)), (19, .int .i64 (iL x).length), (20, .int .i64 y.1.length)], stT (pre ++ x :: rest).length (mid pre y.1) (tHd (pre ++ x :: rest).length y.2) (if tHd (pre ++ x :: rest).length y.2 < (pre ++ x :: rest).length then rowO 3 (iL (mid pre y.1 (tHd (pre ++ x :: rest).length y.2))) else none))) (fun y => y.2.length) ([], x) rfl (cov_T (nm := nmO) (hT _ _ (funext fun c => (mid_nil pre c).symm) _ _ _ (rows_O hn)) hn _ _ rfl (.cons rfl (.F rfl rfl) (.cons rfl (.S rfl rfl rfl) (.cons rfl .I (.cons rfl (.clean _ _ (cleanGL _) rfl) (.cons rfl .I (.cons rfl .I (.cons rfl (.clean _ _ (cleanIL _) rfl) (.cons rfl .I (.cons rfl .I .nil)))))))))) ?_
    rintro ⟨p, q⟩ p3
    dsimp only at p3
    subst p3
    dsimp only
    rcases q with _ | ⟨t, q⟩
    · rw [List.append_nil] at *
      have h4b := U.lt_no iL_map p
      (repeat' ((conv => whnf); first | refine goD ?_ | refine U.lw_c (fun hb => ?_) (fun hb => ?_)))
      (conv => whnf)
      refine ⟨(pre ++ [p], rest), by simp, by simp, cov_O (nm := nmT (pre ++ p :: rest).length) (hT _ _ (funext fun c => mid_all pre p c) _ _ _ (rows_T hn _)) hn (.cons rfl (.F rfl rfl) (.cons rfl (.S rfl rfl rfl) (.cons rfl (.clean _ _ (cleanGL _) rfl) (.cons rfl .I (.cons rfl (.clean _ _ (cleanI _) (congrArg (Value.int .i64) (h3w.symm))) .nil)))))⟩
    · obtain ⟨h4b, h4c, h4n, h4w⟩ := U.at4 iL_map p (t) q (ho2)
      obtain ⟨k, rfl, hk⟩ := ho3 t (by simp)
      have hkp : (k : Int) ∉ p := fun h => by
        have := (List.nodup_append.1 ho1).2.2 _ h (k : Int) (by simp)
        exact this rfl
      have htk : tHd (pre ++ (p ++ (k : Int) :: q) :: rest).length ((k : Int) :: q) = k := rfl
      rw [htk, if_pos hk]
      have hgk : k.blt (gL (pre ++ (p ++ (k : Int) :: q) :: rest)).length = true := by rw [gL_len]; exact bLe hk
      have hn6 := cellsN_nth (n := (pre ++ (p ++ (k : Int) :: q) :: rest).length) (R := mid pre p) (nm := nmT k) hk
      have hst : ∀ v : Value, 0 + k * 1 + [v].length ≤ (cellsN (pre ++ (p ++ (k : Int) :: q) :: rest).length (mid pre p) (nmT k)).length := fun v => by
        simp [cellsN] at *
        omega
      rcases hR : mid pre p k with _ | ⟨y, ys⟩
      · rw [hR] at hn6
        (repeat' ((conv => whnf); first | refine goD ?_ | refine U.lw_c (fun hb => ?_) (fun hb => ?_)))
        (conv => whnf)
        (conv in (nth _ _) => (change nth _ (0 + k * 1); rw [hn6]))
        (repeat' ((conv => whnf); first | refine goA ?_ | refine U.catC_p ?_ | refine U.storeC_p (hst _) ?_ | refine goB ?_ | refine U.lw_c (fun hb => ?_) (fun hb => ?_)))
        (conv => whnf)
        refine ⟨(p ++ [(k : Int)], q), by simp, by simp, cov_T (nm := fun j => if j = k then 131330 else 65793 + j) (rows_S (R := mid pre p) (R' := mid pre (p ++ [(k : Int)])) (x := (pre.length : Int)) hn hk (mid_same pre p k hkp) (fun c hc => mid_other pre p k c hc) ?_ ?_ (fun p => rfl)) hn _ _ rfl (.cons rfl (.F rfl rfl) (.cons rfl (.S rfl rfl rfl) (.cons rfl .I (.cons rfl (.clean _ _ (cleanGL _) rfl) (.cons rfl .I (.cons rfl .I (.cons rfl (.clean _ _ (cleanIL _) rfl) (.cons rfl .I (.cons rfl (.clean _ _ (cleanI _) (congrArg (Value.int .i64) (h4w.symm))) .nil)))))))))⟩
        · refine (congrArg (fun l => some (U.Blk.cells 26 l false)) (cellsN_set (c := 131330) (R := mid pre p) (R' := mid pre (p ++ [(k : Int)])) hk (fun c hc => mid_other pre p k c hc) ?_)).symm
          rw [mid_same pre p k hkp, hR]
          rfl
        · rw [hR]
          rfl
      · rw [hR, show nmT k k = 65537 by simp [nmT]] at hn6
        have hmi : ys.length + 1 ≤ 65000 := by
          have h5 : (mid pre p k).length ≤ pre.length + 1 := by
            unfold mid
            have := froms_len pre k
            rw [List.length_append]
            split <;> simp <;> omega
          rw [hR] at h5
          simp at h5 hn
          omega
        have hb7 : (Nat.ble (((iL ys).length + 1 + (0 + 1)) * 8) 140737488355328 && Nat.ble ((iL ys).length + 1 + (0 + 1)) 1000000) = true := by
          rw [iL_len, bLe (by omega), bLe (by omega)]
          rfl
        (repeat' ((conv => whnf); first | refine goD ?_ | refine U.lw_c (fun hb => ?_) (fun hb => ?_)))
        (conv => whnf)
        (conv in (nth _ _) => (change nth _ (0 + k * 1); rw [hn6]))
        (repeat' ((conv => whnf); first | refine goA ?_ | refine U.ob_c hb7 ?_ | (rw [ble_f]; dsimp only; refine growRow_p (by rw [show Value.int .i64 y :: List.map (Value.int .i64) ys = iL (y :: ys) from rfl, cellsI, iL_len, iL_len]; simp) rfl ?_) | refine U.catC_p ?_ | refine U.storeC_p (hst _) ?_ | refine goB ?_ | refine U.lw_c (fun hb => ?_) (fun hb => ?_)))
        (conv => whnf)
        rw [ble_f]
        dsimp only
        have hyl : (cellsAll (iL (y :: ys))).length = ((iL ys).length + 1) * (0 + 1) := by rw [cellsI, iL_len, iL_len]; simp
        refine growRow_p hyl rfl ?_
        (repeat' ((conv => whnf); first | refine goA ?_ | refine U.storeC_p (hst _) ?_ | refine goB ?_ | refine U.lw_c (fun hb => ?_) (fun hb => ?_)))
        (conv => whnf)
        refine ⟨(p ++ [(k : Int)], q), by simp, by simp, cov_T (nm := fun j => if j = k then 131330 else 65793 + j) (rows_S (R := mid pre p) (R' := mid pre (p ++ [(k : Int)])) (x := (pre.length : Int)) hn hk (mid_same pre p k hkp) (fun c hc => mid_other pre p k c hc) ?_ ?_ (fun p => rfl)) hn _ _ rfl (.cons rfl (.F rfl rfl) (.cons rfl (.S rfl rfl rfl) (.cons rfl .I (.cons rfl (.clean _ _ (cleanGL _) rfl) (.cons rfl .I (.cons rfl .I (.cons rfl (.clean _ _ (cleanIL _) rfl) (.cons rfl .I (.cons rfl (.clean _ _ (cleanI _) (congrArg (Value.int .i64) (h4w.symm))) .nil)))))))))⟩
        · refine (congrArg (fun l => some (U.Blk.cells 26 l false)) (cellsN_set (c := 131330) (R := mid pre p) (R' := mid pre (p ++ [(k : Int)])) hk (fun c hc => mid_other pre p k c hc) ?_)).symm
          rw [mid_same pre p k hkp, hR]
          exact rowS_snoc _ _ _ _
        · rw [hR]
          exact congrArg (fun l => some (U.Blk.cells 3 l true)) (by show cellsAll (iL (y :: ys)) ++ iL [(pre.length : Int)] = _; rw [cellsI, ← iL_app])
end Go.Proofs.YthekpmpcbidjiaaGreat
namespace Go.Proofs.YthekpmpcbidjiaaGreat
open Go Go.RowKit Go.Sort U
set_option linter.unusedVariables false
set_option linter.unusedSimpArgs false
abbrev gt0 (L : List Int) (i : Nat) : Int := L.getD i 0
def HeapFrom (a : Nat) (L : List Int) (n : Nat) : Prop := ∀ k, 0 < k → k < n → a ≤ (k - 1) / 2 → gt0 L ((k - 1) / 2) ≤ gt0 L k
def swapL (L : List Int) (i j : Nat) : List Int := (L.set i (gt0 L j)).set j (gt0 L i)
theorem swapL_len (L : List Int) (i j : Nat) : (swapL L i j).length = L.length := by simp [swapL]
theorem swapL_at {L : List Int} {i j : Nat} (hi : i < L.length) (hj : j < L.length) (k : Nat) : gt0 (swapL L i j) k = if k = j then gt0 L i else if k = i then gt0 L j else gt0 L k := by
  unfold gt0 swapL
  simp only [List.getD_eq_getElem?_getD, List.getElem?_set, List.length_set]
  by_cases h1 : j = k
  · subst h1
    simp [hj]
  · have h1' : ¬ k = j := fun e => h1 e.symm
    by_cases h2 : i = k
    · subst h2
      simp [h1, h1', hi]
    · have h2' : ¬ k = i := fun e => h2 e.symm
      simp [h1, h1', h2, h2']
theorem swapL_perm {L : List Int} {i j : Nat} (hi : i < L.length) (hj : j < L.length) : (swapL L i j).Perm L := by
  unfold swapL gt0
  simp only [List.getD_eq_getElem?_getD, List.getElem?_eq_getElem hi, List.getElem?_eq_getElem hj, Option.getD_some]
  exact List.set_set_perm hi hj
structure DownI (i0 i : Nat) (L : List Int) (n : Nat) : Prop where
  le : i0 ≤ i
  rest : ∀ k, 0 < k → k < n → i0 ≤ (k - 1) / 2 → (k - 1) / 2 ≠ i → gt0 L ((k - 1) / 2) ≤ gt0 L k
  up : i0 < i → i0 ≤ (i - 1) / 2 ∧ ∀ k, 0 < k → k < n → (k - 1) / 2 = i → gt0 L ((i - 1) / 2) ≤ gt0 L k
theorem DownI.start {i0 : Nat} {L : List Int} {n : Nat} (h : HeapFrom (i0 + 1) L n) : DownI i0 i0 L n :=
  ⟨Nat.le_refl _, fun k h1 h2 h3 h4 => h k h1 h2 (by omega), fun h => absurd h (Nat.lt_irrefl _)⟩
theorem DownI.leaf {i0 i : Nat} {L : List Int} {n : Nat} (h : DownI i0 i L n) (hn : n ≤ 2 * i + 1) : HeapFrom i0 L n := fun k h1 h2 h3 => by
  by_cases hk : (k - 1) / 2 = i
  · omega
  · exact h.rest k h1 h2 h3 hk
theorem DownI.done {i0 i j : Nat} {L : List Int} {n : Nat} (h : DownI i0 i L n) (hj : gt0 L i ≤ gt0 L j) (hl : ∀ k, 0 < k → k < n → (k - 1) / 2 = i → gt0 L j ≤ gt0 L k) : HeapFrom i0 L n := fun k h1 h2 h3 => by
  by_cases hk : (k - 1) / 2 = i
  · rw [hk]; exact Int.le_trans hj (hl k h1 h2 hk)
  · exact h.rest k h1 h2 h3 hk
theorem DownI.step {i0 i j : Nat} {L : List Int} {n : Nat} (h : DownI i0 i L n) (hn : n ≤ L.length) (hj : j < n) (hp : (j - 1) / 2 = i) (h0 : 0 < j) (hlt : gt0 L j < gt0 L i) (hl : ∀ k, 0 < k → k < n → (k - 1) / 2 = i → gt0 L j ≤ gt0 L k) : DownI i0 j (swapL L i j) n := by
  have hi : i < L.length := by omega
  have hj' : j < L.length := by omega
  have hij : i < j := by omega
  have e := swapL_at hi hj'
  refine ⟨by have := h.le; omega, fun k h1 h2 h3 h4 => ?_, fun _ => ⟨by have := h.le; omega, fun k h1 h2 h3 => ?_⟩⟩
  · rw [e, e, if_neg h4]
    by_cases hk : k = j
    · subst hk
      rw [if_pos rfl, if_pos hp]
      omega
    · rw [if_neg hk]
      by_cases hki : k = i
      · subst hki
        rw [if_pos rfl, if_neg (by omega)]
        have hlt : i0 < k := by omega
        exact (h.up hlt).2 j h0 hj hp
      · rw [if_neg hki]
        by_cases hpi : (k - 1) / 2 = i
        · rw [if_pos hpi]; exact hl k h1 h2 hpi
        · rw [if_neg hpi]; exact h.rest k h1 h2 h3 hpi
  · rw [e, e, if_neg (by omega), if_pos hp, if_neg (by omega), if_neg (by omega)]
    have := h.rest k h1 h2 (by have := h.le; omega) (by omega)
    rwa [h3] at this
structure UpI (j : Nat) (L : List Int) (n : Nat) : Prop where
  rest : ∀ k, 0 < k → k < n → k ≠ j → gt0 L ((k - 1) / 2) ≤ gt0 L k
  down : 0 < j → ∀ k, 0 < k → k < n → (k - 1) / 2 = j → gt0 L ((j - 1) / 2) ≤ gt0 L k
theorem UpI.start {L : List Int} {n : Nat} (h : HeapFrom 0 L n) (x : Int) (hn : n = L.length) : UpI n (L ++ [x]) (n + 1) := by
  subst hn
  refine ⟨fun k h1 h2 h3 => ?_, fun h0 k h1 h2 h3 => by omega⟩
  have := h k h1 (by omega) (Nat.zero_le _)
  simp only [gt0, List.getD_eq_getElem?_getD] at *
  rwa [List.getElem?_append_left (by omega), List.getElem?_append_left (by omega)]
theorem UpI.root {L : List Int} {n : Nat} (h : UpI 0 L n) : HeapFrom 0 L n := fun k h1 h2 _ => h.rest k h1 h2 (by omega)
theorem UpI.done {j : Nat} {L : List Int} {n : Nat} (h : UpI j L n) (hj : gt0 L ((j - 1) / 2) ≤ gt0 L j) : HeapFrom 0 L n := fun k h1 h2 _ => by
  by_cases hk : k = j
  · subst hk; exact hj
  · exact h.rest k h1 h2 hk
theorem UpI.step {j : Nat} {L : List Int} {n : Nat} (h : UpI j L n) (hn : n ≤ L.length) (hj : j < n) (h0 : 0 < j) (hlt : gt0 L j < gt0 L ((j - 1) / 2)) : UpI ((j - 1) / 2) (swapL L ((j - 1) / 2) j) n := by
  have hi : (j - 1) / 2 < L.length := by omega
  have hj' : j < L.length := by omega
  have e := swapL_at hi hj'
  refine ⟨fun k h1 h2 h3 => ?_, fun h4 k h1 h2 h3 => ?_⟩
  · rw [e, e]
    by_cases hk : k = j
    · subst hk
      rw [if_pos rfl, if_neg (by omega), if_pos rfl]
      omega
    · rw [if_neg hk, if_neg h3]
      by_cases hp : (k - 1) / 2 = j
      · rw [if_pos hp]; exact h.down h0 k h1 h2 hp
      · rw [if_neg hp]
        by_cases hq : (k - 1) / 2 = (j - 1) / 2
        · rw [if_pos hq]
          have := h.rest k h1 h2 hk
          rw [hq] at this
          omega
        · rw [if_neg hq]; exact h.rest k h1 h2 hk
  · rw [e, e, if_neg (by omega), if_neg (by omega)]
    have hpp := h.rest ((j - 1) / 2) h4 (by omega) (by omega)
    by_cases hk : k = j
    · subst hk
      rw [if_pos rfl]; exact hpp
    · rw [if_neg hk, if_neg (by omega)]
      have := h.rest k h1 h2 hk
      rw [h3] at this
      omega
theorem HeapFrom.least {L : List Int} {n : Nat} (h : HeapFrom 0 L n) : ∀ k, k < n → gt0 L 0 ≤ gt0 L k := fun k => by
  induction k using Nat.strongRecOn with
  | _ k ih =>
    intro hk
    rcases Nat.eq_zero_or_pos k with rfl | h0
    · exact Int.le_refl _
    · exact Int.le_trans (ih ((k - 1) / 2) (by omega) (by omega)) (h k h0 hk (Nat.zero_le _))
def rdy (R : List (List Int)) (out : List Int) (v : Nat) : Bool := decide ((v : Int) ∉ out) && (R.getD v []).all fun t => decide (t ∈ out)
def stepO (R : List (List Int)) (out : List Int) : Option Nat := (List.range R.length).find? (rdy R out)
def greedy (R : List (List Int)) : Nat → List Int → List Int
  | 0, out => out
  | k + 1, out => match stepO R out with
    | none => out
    | some v => greedy R k (out ++ [(v : Int)])
def orderR (R : List (List Int)) : List Int × Bool := if (greedy R R.length []).length < R.length then ([], false) else (greedy R R.length [], true)
def cntW (R : List (List Int)) (out : List Int) (v : Nat) : Nat := ((R.getD v []).filter fun t => decide (t ∉ out)).length
theorem cntW_zero {R : List (List Int)} {out : List Int} {v : Nat} : cntW R out v = 0 ↔ ∀ t ∈ R.getD v [], t ∈ out := by
  rw [cntW, List.length_eq_zero_iff, List.filter_eq_nil_iff]
  constructor
  · intro h t ht
    have := h t ht
    simpa using this
  · intro h t ht
    simpa using h t ht
theorem rdy_iff {R : List (List Int)} {out : List Int} {v : Nat} : rdy R out v = true ↔ (v : Int) ∉ out ∧ cntW R out v = 0 := by
  rw [rdy, Bool.and_eq_true, decide_eq_true_eq, List.all_eq_true, cntW_zero]
  simp
theorem cntW_other {R : List (List Int)} {out : List Int} {u : Int} {v : Nat} (h : u ∉ R.getD v []) : cntW R (out ++ [u]) v = cntW R out v := by
  unfold cntW
  congr 1
  refine List.filter_congr fun t ht => ?_
  have : t ≠ u := fun e => h (e ▸ ht)
  simp [this]
theorem filter_dec {out : List Int} {u : Int} (hu : u ∉ out) : ∀ {l : List Int}, l.Nodup → u ∈ l → (l.filter fun t => decide (t ∉ out)).length = (l.filter fun t => decide (t ∉ out ++ [u])).length + 1
  | [], _, h => by cases h
  | x :: l, hn, h => by
    obtain ⟨h1, h2⟩ := List.nodup_cons.1 hn
    by_cases hx : x = u
    · subst hx
      have e : l.filter (fun t => decide (t ∉ out ++ [x])) = l.filter (fun t => decide (t ∉ out)) := List.filter_congr fun t ht => by
        have : t ≠ x := fun e => h1 (e ▸ ht)
        simp [this]
      rw [List.filter_cons_of_pos (by simpa using hu), List.filter_cons_of_neg (by simp), e]
      rfl
    · have hm : u ∈ l := by
        rcases List.mem_cons.1 h with h | h
        · exact absurd h.symm hx
        · exact h
      have ih := filter_dec hu h2 hm
      by_cases ho : x ∈ out
      · rw [List.filter_cons_of_neg (by simpa using ho), List.filter_cons_of_neg (by simp [ho])]
        exact ih
      · rw [List.filter_cons_of_pos (by simpa using ho), List.filter_cons_of_pos (by simp [ho, hx]), List.length_cons, List.length_cons, ih]
theorem cntW_dec {R : List (List Int)} {out : List Int} {u : Int} {v : Nat} (hn : (R.getD v []).Nodup) (h : u ∈ R.getD v []) (hu : u ∉ out) : cntW R out v = cntW R (out ++ [u]) v + 1 := filter_dec hu hn h
theorem froms_mem {R : List (List Int)} {u : Nat} {c : Int} : c ∈ froms R u ↔ ∃ i : Nat, i < R.length ∧ c = (i : Int) ∧ (u : Int) ∈ R.getD i [] := by
  simp only [froms, List.mem_map, List.mem_filter, List.mem_range, decide_eq_true_eq]
  constructor
  · rintro ⟨i, ⟨h1, h2⟩, rfl⟩
    exact ⟨i, h1, rfl, h2⟩
  · rintro ⟨i, h1, rfl, h2⟩
    exact ⟨i, ⟨h1, h2⟩, rfl⟩
theorem froms_nodup (R : List (List Int)) (u : Nat) : (froms R u).Nodup := by
  refine List.Pairwise.map (R := fun (a b : Nat) => a < b) _ (fun a b h => by omega) ?_
  exact List.pairwise_lt_range.filter _
structure OrdI (R : List (List Int)) (out xs : List Int) : Prop where
  nd : out.Nodup
  inn : ∀ t ∈ out, ∃ v : Nat, v < R.length ∧ t = (v : Int)
  cl : ∀ v : Nat, (v : Int) ∈ out → ∀ t ∈ R.getD v [], t ∈ out
  xd : xs.Nodup
  xm : ∀ x, x ∈ xs ↔ ∃ v : Nat, v < R.length ∧ x = (v : Int) ∧ rdy R out v = true
  hp : HeapFrom 0 xs xs.length
  gr : greedy R (R.length - out.length) out = greedy R R.length []
theorem nodup_le : ∀ {n : Nat} {l : List Int}, l.Nodup → (∀ t ∈ l, ∃ v : Nat, v < n ∧ t = (v : Int)) → l.length ≤ n
  | 0, [], _, _ => Nat.le_refl _
  | 0, x :: l, _, h => by obtain ⟨v, h1, _⟩ := h x List.mem_cons_self; omega
  | n + 1, l, hn, h => by
    have h2 : (l.erase (n : Int)).length ≤ n := nodup_le (hn.erase _) fun t ht => by
      have h3 := (hn.mem_erase_iff).1 ht
      obtain ⟨v, h4, rfl⟩ := h t h3.2
      exact ⟨v, by have := h3.1; omega, rfl⟩
    by_cases hm : (n : Int) ∈ l
    · rw [List.length_erase_of_mem hm] at h2; omega
    · rw [List.erase_of_not_mem hm] at h2; omega
theorem OrdI.stop {R : List (List Int)} {out : List Int} (h : OrdI R out []) : out = greedy R R.length [] := by
  rw [← h.gr]
  have : stepO R out = none := List.find?_eq_none.2 fun v hv hr => by
    have := (h.xm (v : Int)).2 ⟨v, List.mem_range.1 hv, rfl, hr⟩
    cases this
  cases R.length - out.length with
  | zero => rfl
  | succ k => rw [greedy, this]
theorem OrdI.first {R : List (List Int)} {out : List Int} {x : Int} {xs : List Int} (h : OrdI R out (x :: xs)) : ∃ u : Nat, x = (u : Int) ∧ u < R.length ∧ rdy R out u = true ∧ stepO R out = some u := by
  obtain ⟨u, h1, rfl, h2⟩ := (h.xm x).1 List.mem_cons_self
  refine ⟨u, rfl, h1, h2, ?_⟩
  rw [stepO, List.find?_eq_some_iff_append]
  refine ⟨h2, List.range u, (List.range (R.length - u - 1)).map (u + 1 + ·), ?_, fun v hv => ?_⟩
  · rw [show u :: List.map (u + 1 + ·) (List.range (R.length - u - 1)) = List.map (u + ·) (List.range (R.length - u)) from ?_]
    · rw [← List.range_add]; congr 1; omega
    · rw [show R.length - u = (R.length - u - 1) + 1 by omega, List.range_succ_eq_map]
      simp
      intro a _
      omega
  · have hv := List.mem_range.1 hv
    by_cases hr : rdy R out v = true
    · exfalso
      have hm := (h.xm (v : Int)).2 ⟨v, by omega, rfl, hr⟩
      obtain ⟨i, hi, e⟩ := List.getElem_of_mem hm
      have := h.hp.least i hi
      simp only [gt0, List.getD_eq_getElem?_getD, List.getElem?_eq_getElem hi, e] at this
      simp at this
      omega
    · simpa using hr
structure MidI (R : List (List Int)) (out : List Int) (u : Nat) (p xs : List Int) : Prop where
  nd : out.Nodup
  inn : ∀ t ∈ out, ∃ v : Nat, v < R.length ∧ t = (v : Int)
  cl : ∀ v : Nat, (v : Int) ∈ out → ∀ t ∈ R.getD v [], t ∈ out
  ul : u < R.length
  ur : rdy R out u = true
  xd : xs.Nodup
  xm : ∀ x, x ∈ xs ↔ ∃ v : Nat, v < R.length ∧ x = (v : Int) ∧ ((rdy R out v = true ∧ v ≠ u) ∨ ((v : Int) ∈ p ∧ cntW R (out ++ [(u : Int)]) v = 0))
  hp : HeapFrom 0 xs xs.length
  gr : greedy R (R.length - (out.length + 1)) (out ++ [(u : Int)]) = greedy R R.length []
theorem OrdI.mid {R : List (List Int)} {out xs ys : List Int} {u : Nat} (h : OrdI R out ((u : Int) :: xs)) (hp : ys.Perm xs) (hh : HeapFrom 0 ys ys.length) : MidI R out u [] ys := by
  obtain ⟨u', e, h1, h2, h3⟩ := h.first
  have : u' = u := by omega
  subst this
  obtain ⟨d1, d2⟩ := List.nodup_cons.1 h.xd
  refine ⟨h.nd, h.inn, h.cl, h1, h2, hp.nodup_iff.2 d2, fun x => ?_, hh, ?_⟩
  · rw [hp.mem_iff]
    constructor
    · intro hx
      obtain ⟨v, q1, rfl, q2⟩ := (h.xm x).1 (List.mem_cons_of_mem _ hx)
      exact ⟨v, q1, rfl, .inl ⟨q2, fun e => d1 (e ▸ hx)⟩⟩
    · rintro ⟨v, q1, rfl, ⟨q2, q3⟩ | ⟨q2, _⟩⟩
      · rcases List.mem_cons.1 ((h.xm (v : Int)).2 ⟨v, q1, rfl, q2⟩) with e | e
        · omega
        · exact e
      · cases q2
  · rw [← h.gr]
    have hlt : out.length < R.length := by
      have hn : ((u' : Int) :: out).Nodup := List.nodup_cons.2 ⟨(rdy_iff.1 h2).1, h.nd⟩
      have := nodup_le (n := R.length) hn fun t ht => by
        rcases List.mem_cons.1 ht with rfl | ht
        · exact ⟨u', h1, rfl⟩
        · exact h.inn t ht
      rw [List.length_cons] at this
      omega
    rw [show R.length - out.length = (R.length - (out.length + 1)) + 1 by omega, greedy, h3]
theorem MidI.notin {R : List (List Int)} {out : List Int} {u : Nat} {p xs : List Int} (h : MidI R out u p xs) {v : Nat} (hv : (u : Int) ∈ R.getD v []) : (v : Int) ∉ out ∧ v ≠ u := by
  obtain ⟨h1, h2⟩ := rdy_iff.1 h.ur
  rw [cntW_zero] at h2
  exact ⟨fun hm => h1 (h.cl v hm _ hv), fun e => by subst e; exact h1 (h2 _ hv)⟩
def wtO (R : List (List Int)) (out : List Int) : List Int := (List.range R.length).map fun (v : Nat) => (cntW R out v : Int)
def wtM (R : List (List Int)) (out : List Int) (u : Nat) (p : List Int) : List Int := (List.range R.length).map fun (v : Nat) => if (v : Int) ∈ p then (cntW R (out ++ [(u : Int)]) v : Int) else (cntW R out v : Int)
theorem wtM_nil (R : List (List Int)) (out : List Int) (u : Nat) : wtM R out u [] = wtO R out := by simp [wtM, wtO]
theorem wtM_all (R : List (List Int)) (out : List Int) (u : Nat) : wtM R out u (froms R u) = wtO R (out ++ [(u : Int)]) := by
  refine List.map_congr_left fun v hv => ?_
  have hv := List.mem_range.1 hv
  split
  · rfl
  · rename_i h
    rw [cntW_other fun hm => h (froms_mem.2 ⟨v, hv, rfl, hm⟩)]
theorem wtM_snoc {R : List (List Int)} {out : List Int} {u : Nat} {p : List Int} {c : Nat} : wtM R out u (p ++ [(c : Int)]) = (wtM R out u p).set c (cntW R (out ++ [(u : Int)]) c : Int) := by
  apply List.ext_getElem (by simp [wtM])
  intro i h1 h2
  have hi : i < R.length := by simpa [wtM] using h1
  rw [List.getElem_set]
  by_cases hc : c = i
  · subst hc
    simp [wtM]
  · have : ¬ (i : Int) = (c : Int) := by omega
    simp [wtM, hc, this]
theorem MidI.skip {R : List (List Int)} {out : List Int} {u : Nat} {p xs : List Int} (h : MidI R out u p xs) {c : Nat} (hc : cntW R (out ++ [(u : Int)]) c ≠ 0) : MidI R out u (p ++ [(c : Int)]) xs :=
  ⟨h.nd, h.inn, h.cl, h.ul, h.ur, h.xd, fun x => (h.xm x).trans (by
    constructor
    · rintro ⟨v, q1, q2, q3⟩
      exact ⟨v, q1, q2, q3.imp id fun ⟨a, b⟩ => ⟨by simp [a], b⟩⟩
    · rintro ⟨v, q1, q2, q3⟩
      refine ⟨v, q1, q2, q3.imp id fun ⟨a, b⟩ => ⟨?_, b⟩⟩
      rcases List.mem_append.1 a with a | a
      · exact a
      · simp at a
        have : v = c := by omega
        subst this
        exact absurd b hc), h.hp, h.gr⟩
theorem MidI.push {R : List (List Int)} {out : List Int} {u : Nat} {p xs ys : List Int} (h : MidI R out u p xs) {c : Nat} (hc : cntW R (out ++ [(u : Int)]) c = 0) (hcl : c < R.length) (hu : (u : Int) ∈ R.getD c []) (hp : (c : Int) ∉ p) (hy : ys.Perm (xs ++ [(c : Int)])) (hh : HeapFrom 0 ys ys.length) : MidI R out u (p ++ [(c : Int)]) ys := by
  have hcx : (c : Int) ∉ xs := fun hm => by
    obtain ⟨v, q1, q2, q3⟩ := (h.xm _).1 hm
    have : v = c := by omega
    subst this
    rcases q3 with ⟨a, _⟩ | ⟨a, _⟩
    · have := (rdy_iff.1 a).2
      rw [cntW_zero] at this
      exact (rdy_iff.1 h.ur).1 (this _ hu)
    · exact hp a
  refine ⟨h.nd, h.inn, h.cl, h.ul, h.ur, ?_, fun x => ?_, hh, h.gr⟩
  · rw [hy.nodup_iff, List.nodup_append]
    exact ⟨h.xd, by simp, fun a ha b hb e => by simp at hb; subst hb; subst e; exact hcx ha⟩
  · rw [hy.mem_iff, List.mem_append, List.mem_singleton, h.xm x]
    constructor
    · rintro (⟨v, q1, q2, q3⟩ | rfl)
      · exact ⟨v, q1, q2, q3.imp id fun ⟨a, b⟩ => ⟨by simp [a], b⟩⟩
      · exact ⟨c, hcl, rfl, .inr ⟨by simp, hc⟩⟩
    · rintro ⟨v, q1, rfl, q3⟩
      by_cases hv : v = c
      · subst hv; exact .inr rfl
      · refine .inl ⟨v, q1, rfl, q3.imp id fun ⟨a, b⟩ => ⟨?_, b⟩⟩
        rcases List.mem_append.1 a with a | a
        · exact a
        · simp at a; omega
theorem MidI.end_ {R : List (List Int)} {out : List Int} {u : Nat} {xs : List Int} (h : MidI R out u (froms R u) xs) : OrdI R (out ++ [(u : Int)]) xs := by
  obtain ⟨h1, h2⟩ := rdy_iff.1 h.ur
  refine ⟨?_, fun t ht => ?_, fun v hv t ht => ?_, h.xd, fun x => ?_, h.hp, by rw [List.length_append]; exact h.gr⟩
  · rw [List.nodup_append]
    exact ⟨h.nd, by simp, fun a ha b hb e => by simp at hb; subst hb; subst e; exact h1 ha⟩
  · rcases List.mem_append.1 ht with ht | ht
    · exact h.inn t ht
    · simp at ht; exact ⟨u, h.ul, ht⟩
  · rcases List.mem_append.1 hv with hv | hv
    · exact List.mem_append_left _ (h.cl v hv t ht)
    · simp at hv
      have : v = u := by omega
      subst this
      exact List.mem_append_left _ (cntW_zero.1 h2 t ht)
  · rw [h.xm x]
    constructor
    · rintro ⟨v, q1, rfl, ⟨q2, q3⟩ | ⟨q2, q3⟩⟩
      · obtain ⟨a, b⟩ := rdy_iff.1 q2
        refine ⟨v, q1, rfl, rdy_iff.2 ⟨by simp [a]; omega, ?_⟩⟩
        rw [cntW_zero] at *
        exact fun t ht => List.mem_append_left _ (b t ht)
      · obtain ⟨i, _, e, hi⟩ := froms_mem.1 q2
        have : i = v := by omega
        subst this
        obtain ⟨a, b⟩ := h.notin hi
        exact ⟨i, q1, rfl, rdy_iff.2 ⟨by simp [a]; omega, q3⟩⟩
    · rintro ⟨v, q1, rfl, q2⟩
      obtain ⟨a, b⟩ := rdy_iff.1 q2
      simp at a
      by_cases hu : (u : Int) ∈ R.getD v []
      · exact ⟨v, q1, rfl, .inr ⟨froms_mem.2 ⟨v, q1, rfl, hu⟩, b⟩⟩
      · rw [cntW_other hu] at b
        exact ⟨v, q1, rfl, .inl ⟨rdy_iff.2 ⟨a.1, b⟩, by omega⟩⟩
theorem OrdI.zero {R : List (List Int)} {xs : List Int} (hd : xs.Nodup) (hm : ∀ x, x ∈ xs ↔ ∃ v : Nat, v < R.length ∧ x = (v : Int) ∧ R.getD v [] = []) (hp : HeapFrom 0 xs xs.length) : OrdI R [] xs := by
  refine ⟨List.nodup_nil, fun t ht => (by cases ht), fun v hv => absurd hv (by simp), hd, fun x => (hm x).trans ?_, hp, by simp⟩
  constructor
  · rintro ⟨v, h1, h2, h3⟩
    exact ⟨v, h1, h2, by simp only [rdy, h3]; simp⟩
  · rintro ⟨v, h1, h2, h3⟩
    refine ⟨v, h1, h2, ?_⟩
    have := (rdy_iff.1 h3).2
    rw [cntW_zero] at this
    cases hr : R.getD v [] with
    | nil => rfl
    | cons a l => have := this a (by rw [hr]; simp); cases this
theorem order_no {R : List (List Int)} {ord : List Int} (hg : ord = greedy R R.length []) (h : ord.length < R.length) : orderR R = ([], false) := by
  unfold orderR
  rw [← hg, if_pos h]
theorem order_yes {R : List (List Int)} {ord : List Int} (hg : ord = greedy R R.length []) (h : ¬ ord.length < R.length) : orderR R = (ord, true) := by
  unfold orderR
  rw [← hg, if_neg h]
end Go.Proofs.YthekpmpcbidjiaaGreat
