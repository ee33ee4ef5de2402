
import Derived.Test.YthekpmpcbidjiaaK34
/- Layer 11: heap.Push, at the states in which Order calls it. -/
namespace Go.Proofs.Ythekpmpcbidjiaa
open Go Go.RowKit Go.Sort U
set_option linter.unusedVariables false
set_option linter.unusedSimpArgs false
set_option maxRecDepth 100000
set_option maxHeartbeats 4000000
theorem len_g {s : AS} {B m c : Nat} {L : List Int} {T : TypeId} {op : Bool} (hb : s.heap.get B = some (.cells T (iL L) op)) (hm : m ≤ L.length) (hc : m ≤ c) {K : Value → AS → Prop} (hK : K (.int .i64 m) s) : SoundAt Try.prog 37 [.slice (some ⟨B, 0, none⟩) m c] s K := by
  have h := len_d (L.take m)
  rw [List.length_take, show min m L.length = m by omega] at h
  refine .c (SoundC.uF h rfl (.cons ?_ .nil) hK)
  refine .row B m c 1 T (iL L) (iL (L.take m)) op (Nat.zero_le _) hb iL_1 (by rw [iL_len, List.length_take]; omega) hc (by rw [cellsI, iL_len, iL_len, List.length_take]; omega) fun i u v hu hv => ?_
  rw [cellsI, iL, List.map_take, List.getElem?_take] at hv
  split at hv
  · rw [iL] at hu
    rw [hu] at hv
    cases hv
    obtain ⟨x, _, rfl⟩ := List.mem_map.1 (List.mem_of_getElem? hu)
    exact .clean _ (cleanI _)
  · cases hv
theorem iL_store2 {L : List Int} {i : Nat} {x : Int} (h : i < L.length) : (iL L).take (i * (0 + 1)) ++ [Value.int .i64 x] ++ (iL L).drop (i * (0 + 1) + [Value.int .i64 x].length) = iL (L.set i x) := by
  have := iL_store (L := L) (i := i) (x := x) h
  rw [Nat.zero_add, Nat.mul_one] at this
  rw [Nat.zero_add, Nat.mul_one]
  exact this
theorem cleanIl (l : List Int) : ∀ x, x ∈ iL l → NoNm x := fun x hx => cleanIC l x (by rw [cellsI]; exact hx)
theorem gt0_set {L : List Int} {m k : Nat} {x : Int} (hk : k ≠ m) : gt0 (L.set m x) k = gt0 L k := by
  unfold gt0
  simp only [List.getD_eq_getElem?_getD, List.getElem?_set]
  rw [if_neg (fun e => hk e.symm)]
theorem up_in {L : List Int} {m : Nat} {x : Int} (hm : m < L.length) (hh : HeapFrom 0 L m) : UpI m (L.set m x) (m + 1) := by
  refine ⟨fun k h1 h2 h3 => ?_, fun h0 k h1 h2 h3 => by omega⟩
  rw [gt0_set (by omega), gt0_set h3]
  exact hh k h1 (by omega) (Nat.zero_le _)
theorem take_set {L : List Int} {m : Nat} {x : Int} (hm : m < L.length) : (L.set m x).take (m + 1) = L.take m ++ [x] := by
  rw [List.take_add_one, List.take_set, List.set_eq_of_length_le (by rw [List.length_take]; omega)]
  simp [hm]
theorem hpV_ren {n : Nat} {ρ : Ren} (h : 2 < n) (e : ρ 2 = 2) : RenV n ρ hpV hpV := .ifc _ _ _ (.ptr _ _ _ h e)
theorem push_in (w L ord : List Int) (m : Nat) (x : Int) (hm : m < L.length) (hm2 : m + 1 ≤ 30000) (hh : HeapFrom 0 L m) : SoundAt Try.prog 39 [hpV, .iface 3 (.int .i64 x)] (stN 8 7 9 w L m L.length ord) (fun u s' => u = .tuple ⟨[]⟩ ∧ ∃ L', L'.length = L.length ∧ (L'.take (m + 1)).Perm (L.take m ++ [x]) ∧ HeapFrom 0 L' (m + 1) ∧ s' = stN 8 7 10 w L' (m + 1) L.length ord) := by
  refine SoundAt.body hmixU Try.func39 rfl rfl rfl 0 ?_
  (repeat' ((conv => whnf); first | refine U.lw_t ?_ | refine U.lw_f ?_ | refine U.lit_t ?_ | refine U.lit_f ?_ | refine U.ob_t ?_ | refine U.ob_c (by first | (with_reducible assumption) | exact Nat.ble_eq_true_of_le (by omega) | exact Nat.ble_eq_true_of_le (by simp at *; omega)) ?_ | refine U.nv_c (by with_reducible assumption) ?_ | refine U.lw_t' (by with_reducible assumption) ?_ | refine U.lw_f' (by with_reducible assumption) ?_ | refine U.lw_c (fun hb => ?_) (fun hb => ?_)))
  (conv => whnf)
  refine SoundAt.body hmixU Try.func141 rfl rfl rfl 0 ?_
  have hb1 : (Nat.ble ((m + (0 + 1)) * 8) 140737488355328 && Nat.ble (m + (0 + 1)) 1000000) = true := by
    rw [Nat.ble_eq_true_of_le (by omega), Nat.ble_eq_true_of_le (by omega)]
    rfl
  have hq : (m + (0 + 1)).ble L.length = true := Nat.ble_eq_true_of_le (by omega)
  have hst : ∀ v : Value, m * (0 + 1) + [v].length ≤ (iL L).length := fun v => by rw [iL_len, List.length_singleton]; omega
  have es := iL_store2 (x := x) hm
  have hcs : ∀ T : TypeId, some (U.Blk.cells T ((iL L).take (m * (0 + 1)) ++ [Value.int .i64 x] ++ (iL L).drop (m * (0 + 1) + [Value.int .i64 x].length)) true) = some (U.Blk.cells T (iL (L.set m x)) true) := fun T => congrArg (fun l => some (U.Blk.cells T l true)) es
  have e : IntKind.i64.wrap (((m + (0 + 1) : Nat) : Int) - 1) = (m : Int) := by rw [IntKind.wrap_i64]; omega
  (repeat' ((conv => whnf); first | refine U.lw_t ?_ | refine U.lw_f ?_ | refine U.lit_t ?_ | refine U.lit_f ?_ | refine U.ob_t ?_ | refine U.ob_c hb1 ?_ | rw [hq] | refine U.storeC_p (hst _) ?_ | refine U.ob_c (by first | (with_reducible assumption) | exact Nat.ble_eq_true_of_le (by omega) | exact Nat.ble_eq_true_of_le (by simp at *; omega)) ?_ | refine U.nv_c (by with_reducible assumption) ?_ | refine U.lw_t' (by with_reducible assumption) ?_ | refine U.lw_f' (by with_reducible assumption) ?_ | refine U.lw_c (fun hb => ?_) (fun hb => ?_)))
  (conv => whnf)
  refine len_g (L := L.set m x) (by exact hcs 3) (by rw [List.length_set]; show m + 1 ≤ _; omega) (by show m + 1 ≤ _; omega) ?_
  (repeat' ((conv => whnf); first | refine U.lw_t ?_ | refine U.lw_f ?_ | refine U.lit_t ?_ | refine U.lit_f ?_ | refine U.ob_t ?_ | refine U.ob_c (by first | (with_reducible assumption) | exact Nat.ble_eq_true_of_le (by omega) | exact Nat.ble_eq_true_of_le (by simp at *; omega)) ?_ | refine U.nv_c (by with_reducible assumption) ?_ | refine U.lw_t' (by with_reducible assumption) ?_ | refine U.lw_f' (by with_reducible assumption) ?_ | refine U.lw_c (fun hb => ?_) (fun hb => ?_)))
  (conv => whnf)
  refine SoundAt.cov (args1 := [hpV, .int .i64 m]) (s1 := stN 8 7 10 w (L.set m x) (m + 1) L.length ord) [(0, hpV), (1, .int .i64 m)] (Cov.renO (fun k => k) rfl rfl (Nat.le_of_ble_eq_true rfl) (Nat.zero_le _) (fun _ _ => rfl) rfl (fun k hk => absurd hk (Nat.not_lt_zero k)) (.cons rfl (.row _ _ _ _ (cleanIl _) rfl) (.cons rfl (.cells _ _ _ _ (.cons (.sl _ _ _ _ _ _ _ (by decide) rfl (rfl) (rfl)) .nil)) (.cons rfl (.row _ _ _ _ (cleanIl _) (es.symm)) (blksO.row rfl rfl (cleanIC _) .nil)))) (.cons rfl (hpV_ren (by decide) rfl) (.cons rfl (.clean _ _ (cleanI _) (congrArg (Value.int .i64) (e.symm))) .nil))) rfl (fun i u h => ?_) ?_
  · rcases i with _ | _ | i
    · exact h
    · exact h
    · simp at h
  refine (up_s (.inr (.inr (.inr ⟨rfl, rfl, rfl⟩))) w (L.set m x) ord (m + 1) L.length m _ rfl (by rw [List.length_set]; omega) (by omega) (by omega) (by omega) (up_in hm hh)).mono ?_
  rintro u s' _ ⟨rfl, M, q1, q2, q3, rfl⟩
  (repeat' ((conv => whnf); first | refine U.lw_t ?_ | refine U.lw_f ?_ | refine U.lit_t ?_ | refine U.lit_f ?_ | refine U.ob_t ?_ | refine U.ob_c (by first | (with_reducible assumption) | exact Nat.ble_eq_true_of_le (by omega) | exact Nat.ble_eq_true_of_le (by simp at *; omega)) ?_ | refine U.nv_c (by with_reducible assumption) ?_ | refine U.lw_t' (by with_reducible assumption) ?_ | refine U.lw_f' (by with_reducible assumption) ?_ | refine U.lw_c (fun hb => ?_) (fun hb => ?_)))
  (conv => whnf)
  refine ⟨rfl, M, by rw [q1.length_eq, List.length_set], ?_, q2, rfl⟩
  have := take_perm q1 q3
  rwa [take_set hm] at this
theorem up_new {L : List Int} {x : Int} (hh : HeapFrom 0 L L.length) : UpI L.length (L ++ [x]) (L.length + 1) := .start hh x rfl
theorem push_out (w L ord : List Int) (x : Int) (h0 : 0 < L.length) (hm2 : L.length + 1 ≤ 30000) (hh : HeapFrom 0 L L.length) : SoundAt Try.prog 39 [hpV, .iface 3 (.int .i64 x)] (stN 8 7 9 w L L.length L.length ord) (fun u s' => u = .tuple ⟨[]⟩ ∧ ∃ L', L'.Perm (L ++ [x]) ∧ HeapFrom 0 L' (L.length + 1) ∧ s' = stN 10 7 11 w L' (L.length + 1) (L.length + 1) ord) := by
  refine SoundAt.body hmixU Try.func39 rfl rfl rfl 0 ?_
  (repeat' ((conv => whnf); first | refine U.lw_t ?_ | refine U.lw_f ?_ | refine U.lit_t ?_ | refine U.lit_f ?_ | refine U.ob_t ?_ | refine U.ob_c (by first | (with_reducible assumption) | exact Nat.ble_eq_true_of_le (by omega) | exact Nat.ble_eq_true_of_le (by simp at *; omega)) ?_ | refine U.nv_c (by with_reducible assumption) ?_ | refine U.lw_t' (by with_reducible assumption) ?_ | refine U.lw_f' (by with_reducible assumption) ?_ | refine U.lw_c (fun hb => ?_) (fun hb => ?_)))
  (conv => whnf)
  refine SoundAt.body hmixU Try.func141 rfl rfl rfl 0 ?_
  generalize hM : L.length = M at *
  obtain ⟨d, rfl⟩ : ∃ d, M = d + 1 := ⟨M - 1, by omega⟩
  have hb1 : (Nat.ble ((d + 1 + (0 + 1)) * 8) 140737488355328 && Nat.ble (d + 1 + (0 + 1)) 1000000) = true := by
    rw [Nat.ble_eq_true_of_le (by omega), Nat.ble_eq_true_of_le (by omega)]
    rfl
  have hyl : (iL L).length = (d + 1) * (0 + 1) := by rw [iL_len, hM]; simp
  have hcs : some (U.Blk.cells 3 (iL L ++ [Value.int .i64 x]) true) = some (U.Blk.cells 3 (iL (L ++ [x])) true) := congrArg (fun l => some (U.Blk.cells 3 l true)) (iL_app L [x]).symm
  have e : IntKind.i64.wrap (((d + 1 + (0 + 1) : Nat) : Int) - 1) = ((d + 1 : Nat) : Int) := by rw [IntKind.wrap_i64]; omega
  have hl2 : (L ++ [x]).length = d + 2 := by rw [List.length_append, hM]; rfl
  (repeat' ((conv => whnf); first | refine U.lw_t ?_ | refine U.lw_f ?_ | refine U.lit_t ?_ | refine U.lit_f ?_ | refine U.ob_t ?_ | refine U.ob_c hb1 ?_ | (rw [ble_f]; dsimp only; refine growRow_p hyl rfl ?_) | refine U.ob_c (by first | (with_reducible assumption) | exact Nat.ble_eq_true_of_le (by omega) | exact Nat.ble_eq_true_of_le (by simp at *; omega)) ?_ | refine U.nv_c (by with_reducible assumption) ?_ | refine U.lw_t' (by with_reducible assumption) ?_ | refine U.lw_f' (by with_reducible assumption) ?_ | refine U.lw_c (fun hb => ?_) (fun hb => ?_)))
  (conv => whnf)
  refine len_g (L := L ++ [x]) (by exact hcs) (by rw [hl2]; exact Nat.le_refl _) (Nat.le_refl _) ?_
  (repeat' ((conv => whnf); first | refine U.lw_t ?_ | refine U.lw_f ?_ | refine U.lit_t ?_ | refine U.lit_f ?_ | refine U.ob_t ?_ | refine U.ob_c (by first | (with_reducible assumption) | exact Nat.ble_eq_true_of_le (by omega) | exact Nat.ble_eq_true_of_le (by simp at *; omega)) ?_ | refine U.nv_c (by with_reducible assumption) ?_ | refine U.lw_t' (by with_reducible assumption) ?_ | refine U.lw_f' (by with_reducible assumption) ?_ | refine U.lw_c (fun hb => ?_) (fun hb => ?_)))
  (conv => whnf)
  refine SoundAt.cov (args1 := [hpV, .int .i64 ((d + 1 : Nat) : Int)]) (s1 := stN 10 7 11 w (L ++ [x]) (d + 1 + 1) (d + 1 + 1) ord) [(0, hpV), (1, .int .i64 ((d + 1 : Nat) : Int))] (Cov.renO (fun k => k) rfl rfl (Nat.le_of_ble_eq_true rfl) (Nat.zero_le _) (fun _ _ => rfl) rfl (fun k hk => absurd hk (Nat.not_lt_zero k)) (.cons rfl (.row _ _ _ _ (cleanIl _) rfl) (.cons rfl (.cells _ _ _ _ (.cons (.sl _ _ _ _ _ _ _ (by decide) rfl (rfl) (rfl)) .nil)) (.cons rfl (.row _ _ _ _ (cleanIl _) (iL_app L [x])) (blksO.row rfl rfl (cleanIC _) .nil)))) (.cons rfl (hpV_ren (by decide) rfl) (.cons rfl (.clean _ _ (cleanI _) (congrArg (Value.int .i64) (e.symm))) .nil))) rfl (fun i u h => ?_) ?_
  · rcases i with _ | _ | i
    · exact h
    · exact h
    · simp at h
  refine (up_s (.inr (.inr (.inl ⟨rfl, rfl, rfl⟩))) w (L ++ [x]) ord (d + 1 + 1) (d + 1 + 1) (d + 1) _ rfl (by omega) (Nat.le_refl _) (by omega) (by omega) (by have := up_new (x := x) (by rw [hM]; exact hh : HeapFrom 0 L L.length); rwa [hM] at this)).mono ?_
  rintro u s' _ ⟨rfl, M, q1, q2, q3, rfl⟩
  (repeat' ((conv => whnf); first | refine U.lw_t ?_ | refine U.lw_f ?_ | refine U.lit_t ?_ | refine U.lit_f ?_ | refine U.ob_t ?_ | refine U.ob_c (by first | (with_reducible assumption) | exact Nat.ble_eq_true_of_le (by omega) | exact Nat.ble_eq_true_of_le (by simp at *; omega)) ?_ | refine U.nv_c (by with_reducible assumption) ?_ | refine U.lw_t' (by with_reducible assumption) ?_ | refine U.lw_f' (by with_reducible assumption) ?_ | refine U.lw_c (fun hb => ?_) (fun hb => ?_)))
  (conv => whnf)
  exact ⟨rfl, M, q1, q2, rfl⟩
theorem push_z (w ord : List Int) (x : Int) : SoundAt Try.prog 39 [hpV, .iface 3 (.int .i64 x)] (stZ 8 7 9 w ord) (fun u s' => u = .tuple ⟨[]⟩ ∧ ∃ L', L'.Perm [x] ∧ HeapFrom 0 L' 1 ∧ s' = stN 10 7 11 w L' 1 1 ord) := by
  refine SoundAt.body hmixU Try.func39 rfl rfl rfl 0 ?_
  (repeat' ((conv => whnf); first | refine U.lw_t ?_ | refine U.lw_f ?_ | refine U.lit_t ?_ | refine U.lit_f ?_ | refine U.ob_t ?_ | refine U.ob_c (by first | (with_reducible assumption) | exact Nat.ble_eq_true_of_le (by omega) | exact Nat.ble_eq_true_of_le (by simp at *; omega)) ?_ | refine U.nv_c (by with_reducible assumption) ?_ | refine U.lw_t' (by with_reducible assumption) ?_ | refine U.lw_f' (by with_reducible assumption) ?_ | refine U.lw_c (fun hb => ?_) (fun hb => ?_)))
  (conv => whnf)
  refine SoundAt.body hmixU Try.func141 rfl rfl rfl 0 ?_
  (repeat' ((conv => whnf); first | refine U.lw_t ?_ | refine U.lw_f ?_ | refine U.lit_t ?_ | refine U.lit_f ?_ | refine U.ob_t ?_ | refine U.catC_p ?_ | refine U.ob_c (by first | (with_reducible assumption) | exact Nat.ble_eq_true_of_le (by omega) | exact Nat.ble_eq_true_of_le (by simp at *; omega)) ?_ | refine U.nv_c (by with_reducible assumption) ?_ | refine U.lw_t' (by with_reducible assumption) ?_ | refine U.lw_f' (by with_reducible assumption) ?_ | refine U.lw_c (fun hb => ?_) (fun hb => ?_)))
  (conv => whnf)
  refine len_g (L := [x]) (by rfl) (Nat.le_refl _) (Nat.le_refl _) ?_
  (repeat' ((conv => whnf); first | refine U.lw_t ?_ | refine U.lw_f ?_ | refine U.lit_t ?_ | refine U.lit_f ?_ | refine U.ob_t ?_ | refine U.ob_c (by first | (with_reducible assumption) | exact Nat.ble_eq_true_of_le (by omega) | exact Nat.ble_eq_true_of_le (by simp at *; omega)) ?_ | refine U.nv_c (by with_reducible assumption) ?_ | refine U.lw_t' (by with_reducible assumption) ?_ | refine U.lw_f' (by with_reducible assumption) ?_ | refine U.lw_c (fun hb => ?_) (fun hb => ?_)))
  (conv => whnf)
  refine SoundAt.cov (args1 := [hpV, .int .i64 ((0 : Nat) : Int)]) (s1 := stN 10 7 11 w [x] 1 1 ord) [(0, hpV), (1, .int .i64 ((0 : Nat) : Int))] (Cov.renO (fun k => k) rfl rfl (Nat.le_of_ble_eq_true rfl) (Nat.zero_le _) (fun _ _ => rfl) rfl (fun k hk => absurd hk (Nat.not_lt_zero k)) (.cons rfl (.row _ _ _ _ (cleanIl _) rfl) (.cons rfl (.cells _ _ _ _ (.cons (.sl _ _ _ _ _ _ _ (by decide) rfl (rfl) (rfl)) .nil)) (.cons rfl (.row _ _ _ _ (cleanIl _) rfl) (blksO.row rfl rfl (cleanIC _) .nil)))) (.cons rfl (hpV_ren (by decide) rfl) (.cons rfl (.clean _ _ (cleanI _) rfl) .nil))) rfl (fun i u h => ?_) ?_
  · rcases i with _ | _ | i
    · exact h
    · exact h
    · simp at h
  refine (up_s (.inr (.inr (.inl ⟨rfl, rfl, rfl⟩))) w [x] ord 1 1 0 _ rfl (Nat.le_refl _) (Nat.le_refl _) (by omega) (by omega) (up_new (L := []) (x := x) fun k h1 h2 => by simp at h2)).mono ?_
  rintro u s' _ ⟨rfl, M, q1, q2, q3, rfl⟩
  (repeat' ((conv => whnf); first | refine U.lw_t ?_ | refine U.lw_f ?_ | refine U.lit_t ?_ | refine U.lit_f ?_ | refine U.ob_t ?_ | refine U.ob_c (by first | (with_reducible assumption) | exact Nat.ble_eq_true_of_le (by omega) | exact Nat.ble_eq_true_of_le (by simp at *; omega)) ?_ | refine U.nv_c (by with_reducible assumption) ?_ | refine U.lw_t' (by with_reducible assumption) ?_ | refine U.lw_f' (by with_reducible assumption) ?_ | refine U.lw_c (fun hb => ?_) (fun hb => ?_)))
  (conv => whnf)
  exact ⟨rfl, M, q1, q2, rfl⟩
end Go.Proofs.Ythekpmpcbidjiaa
