
import Derived.Test.YthekpmpcbidjiaaGreatT29
import Derived.Test.YthekpmpcbidjiaaGreatT30
namespace Go.Proofs.YthekpmpcbidjiaaGreat
open Go Go.RowKit Go.Sort U
set_option linter.unusedVariables false
set_option linter.unusedSimpArgs false
set_option maxRecDepth 100000
set_option maxHeartbeats 4000000
theorem rowR_succ (n : Nat) (row : List Int) : rowR (n + 1) row = rowR n row ++ if (n : Int) ∈ row then [(n : Int)] else [] := by
  unfold rowR
  rw [List.range_succ, List.filter_append, List.map_append]
  by_cases h : (n : Int) ∈ row <;> simp [h]
def calR (g : Gz) (node : Int) : List Int := if 0 ≤ node ∧ node < g.st.length then rowR g.nm.length (g.st.getD node.toNat []) else []
theorem rcallees_d (g : Gz) (node : Int) (hnm : g.nm.length ≤ 29000) (hrow : ∀ r ∈ g.st, r.length ≤ maxI) : DenU Tryz.prog [] 18 [encG g, .int .i64 node] (imS (iL (calR g node))) := by
  refine denU_of_sound hmixU fun Ts => SoundAt.body hmixU Tryz.func18 rfl rfl rfl 0 ?_
  have cg := cleanG g
  obtain ⟨nm, st⟩ := g
  dsimp only at *
  (repeat' ((conv => whnf); first | refine goD ?_ | refine U.lw_c (fun hb => ?_) (fun hb => ?_)))
  (conv => whnf)
  by_cases hn : 0 ≤ node ∧ node < (st.length : Int)
  · obtain ⟨i, rfl⟩ : ∃ i : Nat, node = (i : Int) := ⟨node.toNat, by omega⟩
    have hil : i < st.length := by omega
    obtain ⟨row, hrw⟩ : ∃ row, st[i]? = some row := ⟨_, List.getElem?_eq_getElem hil⟩
    have hrl := hrow row (List.mem_of_getElem? hrw)
    have hib : i.blt (gL st).length = true := by rw [gL_len]; exact bLe hil
    have hix : nth (gL st) i = some (imS (iL row)) := by rw [nth_eq, gL]; simp [hrw]
    have hcal : calR ⟨nm, st⟩ (i : Int) = rowR nm.length row := by
      unfold calR
      rw [if_pos hn]
      simp [hrw]
    rw [hcal]
    have cr := cleanIL row
    have h0 : decide ((i : Int) ≥ 0) = true := by simp
    have h1 : decide ((i : Int) < ((gL st).length : Int)) = true := by rw [gL_len]; simp; omega
    refine loop_inv (α := Nat) (fun k => k ≤ nm.length) (fun k => (mkF [(1, .int .i64 i), (2, .pointer (some ⟨0, 0, none⟩)), (4, .slice none 0 0), (5, slV 1 (rowR k row)), (6, .int .i64 k)], ⟨mkO [(0, some (.cells 34 [imS (sL nm), imS (gL st)] false)), (1, rowO 3 (iL (rowR k row)))], 2, 0, 0⟩)) (fun k => nm.length - k) 0 (Nat.zero_le _) (Cov.renI rfl rfl rfl rfl (.cons rfl (.row _ _ _ _ (cleanG_cells ⟨nm, st⟩) rfl) (.none .nil)) (.cons rfl .I (.cons rfl (.P rfl) (.cons rfl (.F rfl rfl) (.cons rfl (.F rfl rfl) (.cons rfl .I .nil)))))) ?_
    rintro k hk
    dsimp only
    rcases Nat.lt_or_ge k nm.length with hkl | hkl
    · have g1 : decide ((k : Int) < ((sL nm).length : Int)) = true := by rw [sL_len]; simp; omega
      have kw := wadd1 (i := k) (by omega)
      have cH := rhas_d row (k : Int) hrl
      have hsu := rowR_succ k row
      have hle : (rowR k row).length ≤ k := by
        unfold rowR
        rw [List.length_map]
        exact Nat.le_trans (List.length_filter_le ..) (by simp)
      by_cases hm : (k : Int) ∈ row
      · rw [decide_eq_true hm] at cH
        rw [if_pos hm] at hsu
        generalize rowR k row = out at *
        rcases out with _ | ⟨y, ys⟩
        · (repeat' ((conv => whnf); first | refine goA ?_ | refine U.catC_p ?_ | refine goB ?_ | refine U.SoundAt.u (cH) clN ?_ | refine U.SoundC.u (cH) clN ?_ | refine U.lw_c (fun hb => ?_) (fun hb => ?_)))
          (conv => whnf)
          refine ⟨k + 1, hkl, by omega, ?_⟩
          rw [hsu]
          exact (Cov.renO (fun k => if k = 1 then 3 else k) rfl rfl (Nat.le_of_ble_eq_true rfl) (Nat.zero_le _) (fun k hk => by have : k < 1 := hk; rw [if_neg (by omega)]) rfl (fun k hk => absurd hk (Nat.not_lt_zero k)) (.cons rfl (.row _ _ _ _ (cleanG_cells ⟨nm, st⟩) rfl) (blksO.grown rfl rfl (cleanIC _) .nil)) (.cons rfl .I (.cons rfl (.P rfl) (.cons rfl (.F rfl rfl) (.cons rfl (slV_grown (by decide) rfl (by simp) rfl rfl) (.cons rfl (.clean _ _ (cleanI _) (congrArg (Value.int .i64) (kw.symm))) .nil))))))
        · have hyl : (cellsAll (iL (y :: ys))).length = (ys.length + 1) * (0 + 1) := by rw [cellsI, iL_len]; simp
          have hys : ys.length + 1 ≤ 29000 := by simp at hle; omega
          have hb7 : (Nat.ble ((ys.length + 1 + (0 + 1)) * 8) 140737488355328 && Nat.ble (ys.length + 1 + (0 + 1)) 1000000) = true := by
            rw [bLe (by omega), bLe (by omega)]
            rfl
          have hgr : cellsAll (iL (y :: ys ++ [(k : Int)])) = cellsAll (iL (y :: ys)) ++ [Value.int .i64 (k : Int)] := by
            rw [cellsI, cellsI, iL_app]; rfl
          (repeat' ((conv => whnf); first | refine goA ?_ | refine U.ob_c hb7 ?_ | (rw [ble_f]; dsimp only; refine growRow_p hyl rfl ?_) | refine goB ?_ | refine U.SoundAt.u (cH) clN ?_ | refine U.SoundC.u (cH) clN ?_ | refine U.lw_c (fun hb => ?_) (fun hb => ?_)))
          (conv => whnf)
          refine ⟨k + 1, hkl, by omega, ?_⟩
          rw [hsu]
          exact (Cov.renO (fun k => if k = 1 then 3 else k) rfl rfl (Nat.le_of_ble_eq_true rfl) (Nat.zero_le _) (fun k hk => by have : k < 1 := hk; rw [if_neg (by omega)]) rfl (fun k hk => absurd hk (Nat.not_lt_zero k)) (.cons rfl (.row _ _ _ _ (cleanG_cells ⟨nm, st⟩) rfl) (blksO.grown rfl (hgr) (cleanIC _) .nil)) (.cons rfl .I (.cons rfl (.P rfl) (.cons rfl (.F rfl rfl) (.cons rfl (slV_grown (by decide) rfl (by simp) (by simp) (by simp)) (.cons rfl (.clean _ _ (cleanI _) (congrArg (Value.int .i64) (kw.symm))) .nil))))))
      · rw [decide_eq_false hm] at cH
        rw [if_neg hm, List.append_nil] at hsu
        (repeat' ((conv => whnf); first | refine goD ?_ | refine U.SoundAt.u (cH) clN ?_ | refine U.SoundC.u (cH) clN ?_ | refine U.lw_c (fun hb => ?_) (fun hb => ?_)))
        (conv => whnf)
        refine ⟨k + 1, hkl, by omega, ?_⟩
        rw [hsu]
        exact (Cov.renI rfl rfl rfl rfl (.cons rfl (.row _ _ _ _ (cleanG_cells ⟨nm, st⟩) rfl) (blksO.row rfl rfl (cleanIC _) .nil)) (.cons rfl .I (.cons rfl (.P rfl) (.cons rfl (.F rfl rfl) (.cons rfl (slV_ren (by decide) rfl rfl) (.cons rfl (.clean _ _ (cleanI _) (congrArg (Value.int .i64) (kw.symm))) .nil))))))
    · have hkn : k = nm.length := by omega
      subst hkn
      have g1 : decide ((nm.length : Int) < ((sL nm).length : Int)) = false := by rw [sL_len]; simp
      (repeat' ((conv => whnf); first | refine goD ?_ | refine U.lw_c (fun hb => ?_) (fun hb => ?_)))
      (conv => whnf)
      exact slV_frz (T := 3) (Nat.zero_le _) rfl
  · have hcal : calR ⟨nm, st⟩ node = [] := by
      unfold calR
      rw [if_neg hn]
    rw [hcal]
    refine loop_inv (α := Unit) (fun _ => True) (fun _ => (mkF [(1, .int .i64 node), (2, .pointer (some ⟨0, 0, none⟩)), (4, .slice none 0 0), (5, .slice none 0 0), (6, .int .i64 0)], ⟨mkO [(0, some (.cells 34 [imS (sL nm), imS (gL st)] false))], 1, 0, 0⟩)) (fun _ => 0) () trivial (Cov.renI rfl rfl rfl rfl (.cons rfl (.row _ _ _ _ (cleanG_cells ⟨nm, st⟩) rfl) .nil) (.cons rfl .I (.cons rfl (.P rfl) (.cons rfl (.F rfl rfl) (.cons rfl (.F rfl rfl) (.cons rfl (.F rfl rfl) .nil)))))) ?_
    rintro ⟨⟩ _
    dsimp only
    have h1 : 0 ≤ node → decide (node < ((gL st).length : Int)) = false := fun h => decide_eq_false (by rw [gL_len]; omega)
    by_cases h0 : 0 ≤ node
    · have h2 := h1 h0
      have h3 : decide (node ≥ 0) = true := decide_eq_true h0
      (repeat' ((conv => whnf); first | refine goD ?_ | refine U.lw_c (fun hb => ?_) (fun hb => ?_)))
      all_goals (conv => whnf)
      all_goals exact .nil
    · have h3 : decide (node ≥ 0) = false := decide_eq_false (by omega)
      (repeat' ((conv => whnf); first | refine goD ?_ | refine U.lw_c (fun hb => ?_) (fun hb => ?_)))
      all_goals (conv => whnf)
      all_goals exact .nil
def stX (b o nx : Nat) (w : List Int) (l : List Value) (m c : Nat) (ord : List Int) : AS := ⟨mkO [(1, some (.cells 3 (iL w) false)), (2, some (.cells 71 [.slice (some ⟨b, 0, none⟩) m c] false)), (b, some (.cells 3 l true)), (o, rowO 3 (iL ord))], nx, 0, 0⟩
def stN (b o nx : Nat) (w L : List Int) (m c : Nat) (ord : List Int) : AS := stX b o nx w (iL L) m c ord
def nmsOk (b o nx : Nat) : Prop := (b = 3 ∧ o = 0 ∧ nx = 4) ∨ (b = 4 ∧ o = 5 ∧ nx = 6) ∨ (b = 10 ∧ o = 7 ∧ nx = 11) ∨ (b = 8 ∧ o = 7 ∧ nx = 10)
def hpV : Value := .iface 73 (.pointer (some ⟨2, 0, none⟩))
theorem iL_nth {L : List Int} {i : Nat} (h : i < L.length) : nth (iL L) (0 + i * 1) = some (.int .i64 (gt0 L i)) := by
  rw [Nat.zero_add, Nat.mul_one, nth_eq]
  simp [iL, gt0, h]
theorem iL_store {L : List Int} {i : Nat} {x : Int} (h : i < L.length) : (iL L).take (0 + i * 1) ++ [Value.int .i64 x] ++ (iL L).drop (0 + i * 1 + [Value.int .i64 x].length) = iL (L.set i x) := by
  rw [Nat.zero_add, Nat.mul_one, List.length_singleton, iL, iL, ← List.map_take, ← List.map_drop, List.set_eq_take_append_cons_drop, if_pos h]
  simp
theorem swap_s {B O X : Nat} (hB : nmsOk B O X) (w L ord : List Int) (m c i j : Nat) (a b : Int) (ea : a = (i : Int)) (eb : b = (j : Int)) (hm : m ≤ L.length) (hi : i < m) (hj : j < m) : SoundAt Tryz.prog 116 [.slice (some ⟨B, 0, none⟩) m c, .int .i64 a, .int .i64 b] (stN B O X w L m c ord) (fun u s' => u = .tuple ⟨[]⟩ ∧ s' = stN B O X w (swapL L i j) m c ord) := by
  have hB' := hB
  rcases hB' with ⟨rfl, rfl, rfl⟩ | ⟨rfl, rfl, rfl⟩ | ⟨rfl, rfl, rfl⟩ | ⟨rfl, rfl, rfl⟩
  all_goals
    subst ea; subst eb
    refine SoundAt.body hmixU Tryz.func116 rfl rfl rfl 0 ?_
    have bi : i.blt m = true := bLe hi
    have bj : j.blt m = true := bLe hj
    have ni := iL_nth (L := L) (i := i) (by omega)
    have nj := iL_nth (L := L) (i := j) (by omega)
    have li : i < L.length := by omega
    have lj : j < L.length := by omega
    have sti : ∀ (M : List Int) (v : Value), M.length = L.length → 0 + i * 1 + [v].length ≤ (iL M).length := fun M v h => by rw [iL_len, List.length_singleton]; omega
    have stj : ∀ (M : List Int) (v : Value), M.length = L.length → 0 + j * 1 + [v].length ≤ (iL M).length := fun M v h => by rw [iL_len, List.length_singleton]; omega
    have st2 : ∀ v : Value, 0 + j * 1 + [v].length ≤ ((iL L).take (0 + i * 1) ++ [Value.int .i64 (gt0 L j)] ++ (iL L).drop (0 + i * 1 + [Value.int .i64 (gt0 L j)].length)).length := fun v => by rw [iL_store li]; exact stj _ v (by simp)
    refine U.drawX_p (D := U.propX) 13 [2, 3] (by kernel_rfl) (by kernel_rfl) ?_; (conv => whnf); (repeat ((first | refine goA ?_); (conv => whnf)))
    (repeat' ((conv => whnf); first | refine goA ?_ | (conv in (nth _ _) => (change nth _ (0 + i * 1); rw [ni])) | (conv in (nth _ _) => (change nth _ (0 + j * 1); rw [nj])) | refine U.storeC_p (sti L _ rfl) ?_ | refine U.storeC_p (st2 _) ?_ | refine goB ?_ | refine U.lw_c (fun hb => ?_) (fun hb => ?_)))
    (conv => whnf)
    refine ⟨rfl, ?_⟩
    have h := iL_store (L := L.set i (gt0 L j)) (i := j) (x := gt0 L i) (by rw [List.length_set]; exact lj)
    rw [← iL_store li, show (L.set i (gt0 L j)).set j (gt0 L i) = swapL L i j from rfl] at h
    rw [stN, ← h]
    rfl
theorem swap_k {B O X : Nat} (hB : nmsOk B O X) (w L ord : List Int) (m c i j : Nat) (a b : Int) (ea : a = (i : Int)) (eb : b = (j : Int)) (hm : m ≤ L.length) (hi : i < m) (hj : j < m) {K : Value → AS → Prop} (hK : K (.tuple ⟨[]⟩) (stN B O X w (swapL L i j) m c ord)) : SoundAt Tryz.prog 116 [.slice (some ⟨B, 0, none⟩) m c, .int .i64 a, .int .i64 b] (stN B O X w L m c ord) K :=
  (swap_s hB w L ord m c i j a b ea eb hm hi hj).mono fun u s' _ ⟨h1, h2⟩ => by subst h1; subst h2; exact hK
theorem row_frz {B O X : Nat} (hB : nmsOk B O X) {w L ord : List Int} {m c : Nat} (hm : m ≤ L.length) (hc : m ≤ c) : FrzV Tryz.prog (U.seen (stN B O X w L m c ord)) (.slice (some ⟨B, 0, none⟩) m c) (imS (iL (L.take m))) := by
  have hB' := hB
  rcases hB' with ⟨rfl, rfl, rfl⟩ | ⟨rfl, rfl, rfl⟩ | ⟨rfl, rfl, rfl⟩ | ⟨rfl, rfl, rfl⟩
  all_goals
    refine .row _ m c 1 3 (iL L) (iL (L.take m)) true (Nat.zero_le _) rfl iL_1 (by rw [iL_len, List.length_take]; omega) hc (by rw [cellsI, iL_len, iL_len, List.length_take]; omega) fun i u v hu hv => ?_
    rw [cellsI, iL, List.map_take, List.getElem?_take] at hv
    split at hv
    · rw [iL] at hu
      rw [hu] at hv
      cases hv
      obtain ⟨x, _, rfl⟩ := List.mem_map.1 (List.mem_of_getElem? hu)
      exact .clean _ (cleanI _)
    · cases hv
theorem take_at {L : List Int} {m i : Nat} (hm : m ≤ L.length) (hi : i < m) : (L.take m)[i]? = some (gt0 L i) := by
  rw [List.getElem?_take_of_lt hi]
  simp [gt0, show i < L.length by omega]
theorem less_c {B O X : Nat} (hB : nmsOk B O X) (w L ord : List Int) (m c i j : Nat) (a b : Int) (ea : a = (i : Int)) (eb : b = (j : Int)) (hm : m ≤ L.length) (hc : m ≤ c) (hi : i < m) (hj : j < m) {K : Value → AS → Prop} (hK : K (.bool (decide (gt0 L i < gt0 L j))) (stN B O X w L m c ord)) : SoundC Tryz.prog 115 [.slice (some ⟨B, 0, none⟩) m c, .int .i64 a, .int .i64 b] (stN B O X w L m c ord) K := by
  subst ea; subst eb
  exact SoundC.uF (less_d (L.take m) i j _ _ (take_at hm hi) (take_at hm hj)) rfl (.cons (row_frz hB hm hc) (.cons (.clean _ (cleanI _)) (.cons (.clean _ (cleanI _)) .nil))) hK
theorem less_s {B O X : Nat} (hB : nmsOk B O X) (w L ord : List Int) (m c i j : Nat) (a b : Int) (ea : a = (i : Int)) (eb : b = (j : Int)) (hm : m ≤ L.length) (hc : m ≤ c) (hi : i < m) (hj : j < m) {K : Value → AS → Prop} (hK : K (.bool (decide (gt0 L i < gt0 L j))) (stN B O X w L m c ord)) : SoundAt Tryz.prog 115 [.slice (some ⟨B, 0, none⟩) m c, .int .i64 a, .int .i64 b] (stN B O X w L m c ord) K := .c (less_c hB w L ord m c i j a b ea eb hm hc hi hj hK)
theorem len_s {B O X : Nat} (hB : nmsOk B O X) (w L ord : List Int) (m c : Nat) (hm : m ≤ L.length) (hc : m ≤ c) {K : Value → AS → Prop} (hK : K (.int .i64 m) (stN B O X w L m c ord)) : SoundAt Tryz.prog 31 [.slice (some ⟨B, 0, none⟩) m c] (stN B O X w L m c ord) K := by
  have := len_d (L.take m)
  rw [List.length_take, show min m L.length = m by omega] at this
  exact .c (SoundC.uF this rfl (.cons (row_frz hB hm hc) .nil) hK)
theorem upW {j : Nat} (h : j ≤ 65000) (h0 : 0 < j) : IntKind.i64.wrap ((IntKind.i64.wrap ((j : Int) - 1)).tdiv 2) = (((j - 1) / 2 : Nat) : Int) := by
  rw [IntKind.wrap_i64, IntKind.wrap_i64]
  have e : (((j : Int) - 1 + 9223372036854775808) % 18446744073709551616 - 9223372036854775808) = ((j - 1 : Nat) : Int) := by omega
  rw [e, Int.tdiv_eq_ediv_of_nonneg (by omega)]
  omega
theorem swapL_tail {L : List Int} {i j m : Nat} (hi : i < m) (hj : j < m) (hm : m ≤ L.length) {k : Nat} (hk : m ≤ k) : gt0 (swapL L i j) k = gt0 L k := by
  rw [swapL_at (by omega) (by omega), if_neg (by omega), if_neg (by omega)]
theorem up_s {B O X : Nat} (hB : nmsOk B O X) (w L ord : List Int) (m c j : Nat) (b : Int) (eb : b = (j : Int)) (hm : m ≤ L.length) (hc : m ≤ c) (hj : j < m) (hm2 : m ≤ 65000) (hu : UpI j L m) : SoundAt Tryz.prog 52 [hpV, .int .i64 b] (stN B O X w L m c ord) (fun u s' => u = .tuple ⟨[]⟩ ∧ ∃ L', L'.Perm L ∧ HeapFrom 0 L' m ∧ (∀ k, m ≤ k → gt0 L' k = gt0 L k) ∧ s' = stN B O X w L' m c ord) := by
  have hB' := hB
  rcases hB' with ⟨rfl, rfl, rfl⟩ | ⟨rfl, rfl, rfl⟩ | ⟨rfl, rfl, rfl⟩ | ⟨rfl, rfl, rfl⟩
  all_goals
    subst eb
    refine SoundAt.body hmixU Tryz.func52 rfl rfl rfl 0 ?_
    (repeat' ((conv => whnf); first | refine goD ?_ | refine U.lw_c (fun hb => ?_) (fun hb => ?_)))
    (conv => whnf)
    refine loop_inv (α := Nat × List Int) (fun x => x.1 < m ∧ UpI x.1 x.2 m ∧ x.2.Perm L ∧ ∀ k, m ≤ k → gt0 x.2 k = gt0 L k) (fun x => (mkF [(0, hpV), (1, .int .i64 x.1)], stN _ _ _ w x.2 m c ord)) (fun x => x.1) (j, L) ⟨hj, hu, .refl _, fun _ _ => rfl⟩ (Cov.slots (s := stN _ _ _ w L m c ord) (Nat.le_refl _) ⟨rfl, rfl, trivial⟩) ?_
    rintro ⟨j, M⟩ ⟨h1, h2, h3, h4⟩
    dsimp only at h1 h2 h3 h4
    dsimp only
    have hml : M.length = L.length := h3.length_eq
    rcases Nat.eq_zero_or_pos j with rfl | h0
    · have g : (IntKind.i64.wrap ((IntKind.i64.wrap (((0 : Nat) : Int) - 1)).tdiv 2) == ((0 : Nat) : Int)) = true := by decide
      (repeat' ((conv => whnf); first | refine goD ?_ | refine U.lw_c (fun hb => ?_) (fun hb => ?_)))
      (conv => whnf)
      exact ⟨rfl, M, h3, h2.root, h4, rfl⟩
    · have e := upW (by omega) h0
      have g : (IntKind.i64.wrap ((IntKind.i64.wrap ((j : Int) - 1)).tdiv 2) == (j : Int)) = false := by
        rw [e]; simp; omega
      (repeat' ((conv => whnf); first | refine goA ?_ | refine less_s hB _ _ _ _ _ j ((j - 1) / 2) _ _ rfl e (by omega) hc h1 (by omega) ?_ | refine swap_k hB _ _ _ _ _ ((j - 1) / 2) j _ _ e rfl (by omega) (by omega) h1 ?_ | refine goB ?_ | refine U.lw_c (fun hb => ?_) (fun hb => ?_)))
      all_goals (conv => whnf)
      · simp at hb
        exact ⟨rfl, M, h3, h2.done hb, h4, rfl⟩
      · simp at hb
        refine ⟨((j - 1) / 2, swapL M ((j - 1) / 2) j), ⟨by omega, h2.step (by omega) h1 h0 hb, (swapL_perm (by omega) (by omega)).trans h3, fun k hk => ?_⟩, by omega, ?_⟩
        · rw [swapL_tail (m := m) (by omega) h1 (by omega) hk, h4 k hk]
        · refine Cov.slots (s := stN _ _ _ w (swapL M ((j - 1) / 2) j) m c ord) (Nat.le_refl _) ⟨rfl, ?_, trivial⟩
          exact congrArg some (congrArg (Value.int .i64) e)
theorem downW {i : Nat} (h : i ≤ 65000) : IntKind.i64.wrap (IntKind.i64.wrap (2 * (i : Int)) + 1) = ((2 * i + 1 : Nat) : Int) ∧ IntKind.i64.wrap (IntKind.i64.wrap (IntKind.i64.wrap (2 * (i : Int)) + 1) + 1) = ((2 * i + 2 : Nat) : Int) := by
  simp only [IntKind.wrap_i64]
  omega
theorem down_s {B O X : Nat} (hB : nmsOk B O X) (w L ord : List Int) (m c n i0 : Nat) (a b : Int) (ea : a = (i0 : Int)) (eb : b = (n : Int)) (hm : m ≤ L.length) (hc : m ≤ c) (hn : n ≤ m) (hi : i0 ≤ n) (hm2 : m ≤ 30000) (hh : HeapFrom (i0 + 1) L n) : SoundAt Tryz.prog 51 [hpV, .int .i64 a, .int .i64 b] (stN B O X w L m c ord) (fun u s' => ∃ L', L'.Perm L ∧ HeapFrom i0 L' n ∧ (∀ k, n ≤ k → gt0 L' k = gt0 L k) ∧ s' = stN B O X w L' m c ord) := by
  have hB' := hB
  rcases hB' with ⟨rfl, rfl, rfl⟩ | ⟨rfl, rfl, rfl⟩ | ⟨rfl, rfl, rfl⟩ | ⟨rfl, rfl, rfl⟩
  all_goals
    subst ea; subst eb
    refine SoundAt.body hmixU Tryz.func51 rfl rfl rfl 0 ?_
    (repeat' ((conv => whnf); first | refine goD ?_ | refine U.lw_c (fun hb => ?_) (fun hb => ?_)))
    (conv => whnf)
    refine loop_inv (α := Nat × List Int) (fun x => x.1 ≤ n ∧ DownI i0 x.1 x.2 n ∧ x.2.Perm L ∧ ∀ k, n ≤ k → gt0 x.2 k = gt0 L k) (fun x => (mkF [(0, hpV), (1, .int .i64 i0), (2, .int .i64 n), (6, .bool false), (7, .int .i64 x.1)], stN _ _ _ w x.2 m c ord)) (fun x => n - x.1) (i0, L) ⟨hi, .start hh, .refl _, fun _ _ => rfl⟩ (Cov.slots (s := stN _ _ _ w L m c ord) (Nat.le_refl _) ⟨rfl, rfl, rfl, rfl, rfl, trivial⟩) ?_
    rintro ⟨i, M⟩ ⟨h1, h2, h3, h4⟩
    dsimp only at h1 h2 h3 h4
    dsimp only
    have hml : M.length = L.length := h3.length_eq
    obtain ⟨e1, e2⟩ := downW (i := i) (by omega)
    by_cases hj : n ≤ 2 * i + 1
    · have g : decide (IntKind.i64.wrap (IntKind.i64.wrap (2 * (i : Int)) + 1) ≥ (n : Int)) = true := by
        rw [e1]; simp; omega
      (repeat' ((conv => whnf); first | refine goD ?_ | refine U.lw_c (fun hb => ?_) (fun hb => ?_)))
      all_goals (conv => whnf)
      exact ⟨M, h3, h2.leaf hj, h4, rfl⟩
    · have g : decide (IntKind.i64.wrap (IntKind.i64.wrap (2 * (i : Int)) + 1) ≥ (n : Int)) = false := by
        rw [e1]; simp; omega
      have g0 : decide (IntKind.i64.wrap (IntKind.i64.wrap (2 * (i : Int)) + 1) < 0) = false := by
        rw [e1]; simp; omega
      have key : ∀ j, j = 2 * i + 1 ∨ j = 2 * i + 2 → j < n → gt0 M j < gt0 M i → (∀ k, 0 < k → k < n → (k - 1) / 2 = i → gt0 M j ≤ gt0 M k) → j ≤ n ∧ DownI i0 j (swapL M i j) n ∧ (swapL M i j).Perm L ∧ ∀ k, n ≤ k → gt0 (swapL M i j) k = gt0 L k := fun j hj2 hjn hlt hl => by
        refine ⟨by omega, h2.step (by omega) hjn (by omega) (by omega) hlt hl, (swapL_perm (by omega) (by omega)).trans h3, fun k hk => ?_⟩
        rw [swapL_tail (m := n) (by omega) hjn (by omega) hk, h4 k hk]
      by_cases hr : n ≤ 2 * i + 2
      · have g1 : decide (IntKind.i64.wrap (IntKind.i64.wrap (IntKind.i64.wrap (2 * (i : Int)) + 1) + 1) < (n : Int)) = false := by
          rw [e2]; simp; omega
        have hl : ∀ k, 0 < k → k < n → (k - 1) / 2 = i → gt0 M (2 * i + 1) ≤ gt0 M k := fun k q1 q2 q3 => by
          have : k = 2 * i + 1 := by omega
          subst this; exact Int.le_refl _
        (repeat' ((conv => whnf); first | refine goA ?_ | refine less_s hB _ _ _ _ _ (2 * i + 1) i _ _ e1 rfl (by omega) hc (by omega) (by omega) ?_ | refine swap_k hB _ _ _ _ _ i (2 * i + 1) _ _ rfl e1 (by omega) (by omega) (by omega) ?_ | refine goB ?_ | refine U.lw_c (fun hb => ?_) (fun hb => ?_)))
        all_goals (conv => whnf)
        · simp at hb
          exact ⟨M, h3, h2.done hb hl, h4, rfl⟩
        · simp at hb
          refine ⟨(2 * i + 1, swapL M i (2 * i + 1)), key _ (.inl rfl) (by omega) hb hl, by omega, ?_⟩
          refine Cov.slots (s := stN _ _ _ w (swapL M i (2 * i + 1)) m c ord) (Nat.le_refl _) ⟨rfl, rfl, rfl, rfl, ?_, trivial⟩
          exact congrArg some (congrArg (Value.int .i64) e1)
      · have g1 : decide (IntKind.i64.wrap (IntKind.i64.wrap (IntKind.i64.wrap (2 * (i : Int)) + 1) + 1) < (n : Int)) = true := by
          rw [e2]; simp; omega
        by_cases hx : gt0 M (2 * i + 2) < gt0 M (2 * i + 1)
        · have gx : decide (gt0 M (2 * i + 2) < gt0 M (2 * i + 1)) = true := decide_eq_true hx
          have hl : ∀ k, 0 < k → k < n → (k - 1) / 2 = i → gt0 M (2 * i + 2) ≤ gt0 M k := fun k q1 q2 q3 => by
            rcases (by omega : k = 2 * i + 1 ∨ k = 2 * i + 2) with rfl | rfl
            · omega
            · exact Int.le_refl _
          (repeat' ((conv => whnf); first | refine goA ?_ | refine less_s hB _ _ _ _ _ (2 * i + 2) (2 * i + 1) _ _ e2 e1 (by omega) hc (by omega) (by omega) ?_ | refine less_s hB _ _ _ _ _ (2 * i + 2) i _ _ e2 rfl (by omega) hc (by omega) (by omega) ?_ | refine swap_k hB _ _ _ _ _ i (2 * i + 2) _ _ rfl e2 (by omega) (by omega) (by omega) ?_ | refine goB ?_ | refine U.lw_c (fun hb => ?_) (fun hb => ?_)))
          all_goals (conv => whnf)
          · simp at hb
            exact ⟨M, h3, h2.done hb hl, h4, rfl⟩
          · simp at hb
            refine ⟨(2 * i + 2, swapL M i (2 * i + 2)), key _ (.inr rfl) (by omega) hb hl, by omega, ?_⟩
            refine Cov.slots (s := stN _ _ _ w (swapL M i (2 * i + 2)) m c ord) (Nat.le_refl _) ⟨rfl, rfl, rfl, rfl, ?_, trivial⟩
            exact congrArg some (congrArg (Value.int .i64) e2)
        · have gx : decide (gt0 M (2 * i + 2) < gt0 M (2 * i + 1)) = false := decide_eq_false hx
          have hl : ∀ k, 0 < k → k < n → (k - 1) / 2 = i → gt0 M (2 * i + 1) ≤ gt0 M k := fun k q1 q2 q3 => by
            rcases (by omega : k = 2 * i + 1 ∨ k = 2 * i + 2) with rfl | rfl
            · exact Int.le_refl _
            · omega
          (repeat' ((conv => whnf); first | refine goA ?_ | refine less_s hB _ _ _ _ _ (2 * i + 2) (2 * i + 1) _ _ e2 e1 (by omega) hc (by omega) (by omega) ?_ | refine less_s hB _ _ _ _ _ (2 * i + 1) i _ _ e1 rfl (by omega) hc (by omega) (by omega) ?_ | refine swap_k hB _ _ _ _ _ i (2 * i + 1) _ _ rfl e1 (by omega) (by omega) (by omega) ?_ | refine goB ?_ | refine U.lw_c (fun hb => ?_) (fun hb => ?_)))
          all_goals (conv => whnf)
          · simp at hb
            exact ⟨M, h3, h2.done hb hl, h4, rfl⟩
          · simp at hb
            refine ⟨(2 * i + 1, swapL M i (2 * i + 1)), key _ (.inl rfl) (by omega) hb hl, by omega, ?_⟩
            refine Cov.slots (s := stN _ _ _ w (swapL M i (2 * i + 1)) m c ord) (Nat.le_refl _) ⟨rfl, rfl, rfl, rfl, ?_, trivial⟩
            exact congrArg some (congrArg (Value.int .i64) e1)
end Go.Proofs.YthekpmpcbidjiaaGreat
