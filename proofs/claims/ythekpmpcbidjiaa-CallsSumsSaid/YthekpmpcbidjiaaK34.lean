
import Derived.Test.YthekpmpcbidjiaaK33
/- Layer 11: heap.Init, heap.Pop, heap.Push, at the states in which Order calls them. -/
namespace Go.Proofs.Ythekpmpcbidjiaa
open Go Go.RowKit Go.Sort U
set_option linter.unusedVariables false
set_option linter.unusedSimpArgs false
set_option maxRecDepth 100000
set_option maxHeartbeats 4000000
theorem halfW {m : Nat} (h : m ≤ 30000) : IntKind.i64.wrap (IntKind.i64.wrap ((m : Int).tdiv 2) - 1) = ((m / 2 : Nat) : Int) - 1 := by
  rw [IntKind.wrap_i64, IntKind.wrap_i64, Int.tdiv_eq_ediv_of_nonneg (by omega)]
  omega
theorem init_s (w L : List Int) (m c : Nat) (hm : m ≤ L.length) (hc : m ≤ c) (hm2 : m ≤ 30000) : SoundAt Try.prog 36 [hpV] (stN 3 0 4 w L m c []) (fun u s' => u = .tuple ⟨[]⟩ ∧ ∃ L', L'.Perm L ∧ HeapFrom 0 L' m ∧ s' = stN 3 0 4 w L' m c []) := by
  refine SoundAt.body hmixU Try.func36 rfl rfl rfl 0 ?_
  have hB : nmsOk 3 0 4 := .inl ⟨rfl, rfl, rfl⟩
  (repeat' ((conv => whnf); first | refine U.lw_t ?_ | refine U.lw_f ?_ | refine U.lit_t ?_ | refine U.lit_f ?_ | refine U.ob_t ?_ | refine len_s hB _ _ _ _ _ hm hc ?_ | refine U.ob_c (by first | (with_reducible assumption) | exact Nat.ble_eq_true_of_le (by omega) | exact Nat.ble_eq_true_of_le (by simp at *; omega)) ?_ | refine U.nv_c (by with_reducible assumption) ?_ | refine U.lw_t' (by with_reducible assumption) ?_ | refine U.lw_f' (by with_reducible assumption) ?_ | refine U.lw_c (fun hb => ?_) (fun hb => ?_)))
  (conv => whnf)
  refine loop_inv (α := Nat × List Int) (fun x => x.1 ≤ m / 2 ∧ HeapFrom x.1 x.2 m ∧ x.2.Perm L) (fun x => (mkF [(0, hpV), (2, .int .i64 m), (3, .int .i64 ((x.1 : Int) - 1))], stN 3 0 4 w x.2 m c [])) (fun x => x.1) (m / 2, L) ⟨Nat.le_refl _, fun k h1 h2 h3 => by omega, .refl _⟩ (Cov.slots (s := stN 3 0 4 w L m c []) (Nat.le_refl _) ⟨rfl, rfl, congrArg some (congrArg (Value.int .i64) (halfW hm2)), trivial⟩) ?_
  rintro ⟨k, M⟩ ⟨h1, h2, h3⟩
  dsimp only at h1 h2 h3
  dsimp only
  have hml : M.length = L.length := h3.length_eq
  rcases k with _ | k
  · have g : decide ((((0 : Nat) : Int) - 1) ≥ 0) = false := by decide
    (repeat' ((conv => whnf); first | refine U.lw_t ?_ | refine U.lw_f ?_ | refine U.lit_t ?_ | refine U.lit_f ?_ | refine U.ob_t ?_ | refine U.ob_c (by first | (with_reducible assumption) | exact Nat.ble_eq_true_of_le (by omega) | exact Nat.ble_eq_true_of_le (by simp at *; omega)) ?_ | refine U.nv_c (by with_reducible assumption) ?_ | refine U.lw_t' (by with_reducible assumption) ?_ | refine U.lw_f' (by with_reducible assumption) ?_ | refine U.lw_c (fun hb => ?_) (fun hb => ?_)))
    (conv => whnf)
    exact ⟨rfl, M, h3, h2, rfl⟩
  · have g : decide ((((k + 1 : Nat) : Int) - 1) ≥ 0) = true := by simp
    (repeat' ((conv => whnf); first | refine U.lw_t ?_ | refine U.lw_f ?_ | refine U.lit_t ?_ | refine U.lit_f ?_ | refine U.ob_t ?_ | refine U.ob_c (by first | (with_reducible assumption) | exact Nat.ble_eq_true_of_le (by omega) | exact Nat.ble_eq_true_of_le (by simp at *; omega)) ?_ | refine U.nv_c (by with_reducible assumption) ?_ | refine U.lw_t' (by with_reducible assumption) ?_ | refine U.lw_f' (by with_reducible assumption) ?_ | refine U.lw_c (fun hb => ?_) (fun hb => ?_)))
    (conv => whnf)
    refine (down_s hB w M [] m c m k _ _ (by omega) rfl (by omega) hc (Nat.le_refl _) (by omega) hm2 h2).mono ?_
    rintro u s' _ ⟨M', q1, q2, q3, rfl⟩
    (repeat' ((conv => whnf); first | refine U.lw_t ?_ | refine U.lw_f ?_ | refine U.lit_t ?_ | refine U.lit_f ?_ | refine U.ob_t ?_ | refine U.ob_c (by first | (with_reducible assumption) | exact Nat.ble_eq_true_of_le (by omega) | exact Nat.ble_eq_true_of_le (by simp at *; omega)) ?_ | refine U.nv_c (by with_reducible assumption) ?_ | refine U.lw_t' (by with_reducible assumption) ?_ | refine U.lw_f' (by with_reducible assumption) ?_ | refine U.lw_c (fun hb => ?_) (fun hb => ?_)))
    (conv => whnf)
    refine ⟨(k, M'), ⟨by omega, q2, q1.trans h3⟩, by simp, Cov.slots (s := stN 3 0 4 w M' m c []) (Nat.le_refl _) ⟨rfl, rfl, congrArg some (congrArg (Value.int .i64) ?_), trivial⟩⟩
    rw [IntKind.wrap_i64]
    omega
/-- Nothing lies on the heap yet. -/
def stZ (b o nx : Nat) (w : List Int) (ord : List Int) : AS := ⟨mkO [(1, some (.cells 3 (iL w) false)), (2, some (.cells 85 [.slice none 0 0] false)), (b, none), (o, rowO 3 (iL ord))], nx, 0, 0⟩
theorem len_z {s : AS} {K : Value → AS → Prop} (hK : K (.int .i64 0) s) : SoundAt Try.prog 37 [.slice none 0 0] s K :=
  .c (SoundC.uF (len_d []) rfl (.cons .nil .nil) hK)
theorem init_z (w : List Int) : SoundAt Try.prog 36 [hpV] (stZ 3 0 4 w []) (fun u s' => u = .tuple ⟨[]⟩ ∧ s' = stZ 3 0 4 w []) := by
  refine SoundAt.body hmixU Try.func36 rfl rfl rfl 0 ?_
  (repeat' ((conv => whnf); first | refine U.lw_t ?_ | refine U.lw_f ?_ | refine U.lit_t ?_ | refine U.lit_f ?_ | refine U.ob_t ?_ | refine len_z ?_ | refine U.ob_c (by first | (with_reducible assumption) | exact Nat.ble_eq_true_of_le (by omega) | exact Nat.ble_eq_true_of_le (by simp at *; omega)) ?_ | refine U.nv_c (by with_reducible assumption) ?_ | refine U.lw_t' (by with_reducible assumption) ?_ | refine U.lw_f' (by with_reducible assumption) ?_ | refine U.lw_c (fun hb => ?_) (fun hb => ?_)))
  (conv => whnf)
  refine loop_inv (α := Unit) (fun x => True) (fun x => (mkF [(0, hpV), (2, .int .i64 0), (3, .int .i64 (-1))], stZ 3 0 4 w [])) (fun x => 0) () trivial (Cov.slots (s := stZ 3 0 4 w []) (Nat.le_refl _) ⟨rfl, rfl, rfl, trivial⟩) ?_
  rintro _ _
  dsimp only
  have g : decide ((-1 : Int) ≥ 0) = false := by decide
  (repeat' ((conv => whnf); first | refine U.lw_t ?_ | refine U.lw_f ?_ | refine U.lit_t ?_ | refine U.lit_f ?_ | refine U.ob_t ?_ | refine U.ob_c (by first | (with_reducible assumption) | exact Nat.ble_eq_true_of_le (by omega) | exact Nat.ble_eq_true_of_le (by simp at *; omega)) ?_ | refine U.nv_c (by with_reducible assumption) ?_ | refine U.lw_t' (by with_reducible assumption) ?_ | refine U.lw_f' (by with_reducible assumption) ?_ | refine U.lw_c (fun hb => ?_) (fun hb => ?_)))
  (conv => whnf)
  exact ⟨rfl, rfl⟩
theorem popM_s (w M ord : List Int) (m c : Nat) (h0 : 0 < m) (hm : m ≤ M.length) (hc : m ≤ c) (hm2 : m ≤ 30000) {K : Value → AS → Prop} (hK : K (.iface 3 (.int .i64 (gt0 M (m - 1)))) (stN 4 5 6 w M (m - 1) c ord)) : SoundAt Try.prog 140 [.pointer (some ⟨2, 0, none⟩)] (stN 4 5 6 w M m c ord) K := by
  refine SoundAt.body hmixU Try.func140 rfl rfl rfl 0 ?_
  obtain ⟨n, rfl⟩ : ∃ n, m = n + 1 := ⟨m - 1, by omega⟩
  have e : IntKind.i64.wrap (((n + 1 : Nat) : Int) - 1) = (n : Int) := by rw [IntKind.wrap_i64]; omega
  have bi : n.blt (n + 1) = true := Nat.ble_eq_true_of_le (Nat.le_refl _)
  have ni := iL_nth (L := M) (i := n) (by omega)
  obtain ⟨d, rfl⟩ : ∃ d, c = d + 1 := ⟨c - 1, by omega⟩
  have hb : (Nat.ble 0 n && n.ble (n + 1) && (n + 1).ble (d + 1)) = true := by
    rw [Nat.ble_eq_true_of_le (Nat.zero_le _), Nat.ble_eq_true_of_le (Nat.le_succ _), Nat.ble_eq_true_of_le hc]
    rfl
  (repeat' ((conv => whnf); first | refine U.lw_t ?_ | refine U.lw_f ?_ | refine U.lit_t ?_ | refine U.lit_f ?_ | refine U.ob_t ?_ | rw [e] | (conv in (nth _ _) => (change nth _ (0 + n * 1); rw [ni])) | refine U.ob_c hb ?_ | refine U.ob_c (by first | (with_reducible assumption) | exact Nat.ble_eq_true_of_le (by omega) | exact Nat.ble_eq_true_of_le (by simp at *; omega)) ?_ | refine U.nv_c (by with_reducible assumption) ?_ | refine U.lw_t' (by with_reducible assumption) ?_ | refine U.lw_f' (by with_reducible assumption) ?_ | refine U.lw_c (fun hb => ?_) (fun hb => ?_)))
  (conv => whnf)
  exact hK
theorem take_perm {A B : List Int} {m : Nat} (hp : A.Perm B) (h : ∀ k, m ≤ k → gt0 A k = gt0 B k) : (A.take m).Perm (B.take m) := by
  have hl := hp.length_eq
  have hd : A.drop m = B.drop m := by
    apply List.ext_getElem (by simp [hl])
    intro i h1 h2
    have := h (m + i) (by omega)
    simp only [List.length_drop] at h1 h2
    simp only [gt0, List.getD_eq_getElem?_getD, List.getElem?_eq_getElem (show m + i < A.length by omega), List.getElem?_eq_getElem (show m + i < B.length by omega), Option.getD_some] at this
    simpa using this
  rw [← List.take_append_drop m A, ← List.take_append_drop m B, hd] at hp
  exact (List.perm_append_right_iff _).1 hp
theorem take_last {A : List Int} {m : Nat} (h0 : 0 < m) (hm : m ≤ A.length) : A.take m = A.take (m - 1) ++ [gt0 A (m - 1)] := by
  obtain ⟨n, rfl⟩ : ∃ n, m = n + 1 := ⟨m - 1, by omega⟩
  rw [Nat.add_sub_cancel, List.take_add_one, List.getElem?_eq_getElem (by omega)]
  simp [gt0, show n < A.length by omega]
theorem popL {L M : List Int} {m : Nat} (h0 : 0 < m) (hm : m ≤ L.length) (hp : M.Perm (swapL L 0 (m - 1))) (ht : ∀ k, m - 1 ≤ k → gt0 M k = gt0 (swapL L 0 (m - 1)) k) : gt0 M (m - 1) = gt0 L 0 ∧ (gt0 L 0 :: M.take (m - 1)).Perm (L.take m) := by
  have e : gt0 M (m - 1) = gt0 L 0 := by
    rw [ht _ (Nat.le_refl _), swapL_at (by omega) (by omega), if_pos rfl]
  have hml : M.length = L.length := by rw [hp.length_eq, swapL_len]
  refine ⟨e, ?_⟩
  have h1 : (M.take m).Perm (L.take m) := take_perm (hp.trans (swapL_perm (by omega) (by omega))) fun k hk => by
    rw [ht k (by omega), swapL_tail (m := m) (by omega) (by omega) hm hk]
  rw [take_last h0 (by omega), e] at h1
  exact (List.perm_append_comm (l₁ := [gt0 L 0])).trans h1
theorem pop_s (w L ord : List Int) (m c : Nat) (h0 : 0 < m) (hm : m ≤ L.length) (hc : m ≤ c) (hm2 : m ≤ 30000) (hh : HeapFrom 0 L m) : SoundAt Try.prog 38 [hpV] (stN 4 5 6 w L m c ord) (fun u s' => u = .iface 3 (.int .i64 (gt0 L 0)) ∧ ∃ L', L'.length = L.length ∧ (gt0 L 0 :: L'.take (m - 1)).Perm (L.take m) ∧ HeapFrom 0 L' (m - 1) ∧ s' = stN 4 5 6 w L' (m - 1) c ord) := by
  refine SoundAt.body hmixU Try.func38 rfl rfl rfl 0 ?_
  have hB : nmsOk 4 5 6 := .inr (.inl ⟨rfl, rfl, rfl⟩)
  have e : IntKind.i64.wrap ((m : Int) - 1) = ((m - 1 : Nat) : Int) := by rw [IntKind.wrap_i64]; omega
  (repeat' ((conv => whnf); first | refine U.lw_t ?_ | refine U.lw_f ?_ | refine U.lit_t ?_ | refine U.lit_f ?_ | refine U.ob_t ?_ | refine len_s hB _ _ _ _ _ hm hc ?_ | refine swap_k hB _ _ _ _ _ 0 (m - 1) _ _ rfl e hm h0 (by omega) ?_ | refine U.ob_c (by first | (with_reducible assumption) | exact Nat.ble_eq_true_of_le (by omega) | exact Nat.ble_eq_true_of_le (by simp at *; omega)) ?_ | refine U.nv_c (by with_reducible assumption) ?_ | refine U.lw_t' (by with_reducible assumption) ?_ | refine U.lw_f' (by with_reducible assumption) ?_ | refine U.lw_c (fun hb => ?_) (fun hb => ?_)))
  (conv => whnf)
  refine (down_s hB w (swapL L 0 (m - 1)) ord m c (m - 1) 0 _ _ rfl e (by rw [swapL_len]; exact hm) hc (by omega) (by omega) hm2 (fun k h1 h2 h3 => ?_)).mono ?_
  · rw [swapL_at (by omega) (by omega), swapL_at (by omega) (by omega), if_neg (by omega), if_neg (by omega), if_neg (by omega), if_neg (by omega)]
    exact hh k h1 (by omega) (Nat.zero_le _)
  rintro u s' _ ⟨M, q1, q2, q3, rfl⟩
  obtain ⟨r1, r2⟩ := popL h0 hm q1 q3
  have hml : M.length = L.length := by rw [q1.length_eq, swapL_len]
  (repeat' ((conv => whnf); first | refine U.lw_t ?_ | refine U.lw_f ?_ | refine U.lit_t ?_ | refine U.lit_f ?_ | refine U.ob_t ?_ | refine popM_s _ _ _ _ _ h0 (by omega) hc hm2 ?_ | refine U.ob_c (by first | (with_reducible assumption) | exact Nat.ble_eq_true_of_le (by omega) | exact Nat.ble_eq_true_of_le (by simp at *; omega)) ?_ | refine U.nv_c (by with_reducible assumption) ?_ | refine U.lw_t' (by with_reducible assumption) ?_ | refine U.lw_f' (by with_reducible assumption) ?_ | refine U.lw_c (fun hb => ?_) (fun hb => ?_)))
  (conv => whnf)
  exact ⟨by rw [← r1]; rfl, M, hml, r2, q2, rfl⟩
end Go.Proofs.Ythekpmpcbidjiaa
