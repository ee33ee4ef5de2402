/- Copies of expressions of layer 13. -/
import Derived.Test.YthbhnbnlbhpooaaTF
import Derived.Test.YthbhnbnlbhpooaaUG
namespace Go.Proofs.Ythbhnbnlbhpooaa
open Go Go.RowKit Go.Sort U
set_option linter.unusedVariables false
set_option linter.unusedSimpArgs false
set_option maxRecDepth 100000
set_option maxHeartbeats 4000000
/-- Elements not yet filled in. -/
def zr (n : Nat) : List Value := repX n [.int .i64 0, .int .i64 0, .int .i64 0, .int .i64 0, .slice none 0 0]
theorem zr_len (n : Nat) : (zr n).length = n * 5 := repX_len _ _
theorem cleanZ (n : Nat) : ∀ x, x ∈ zr n → NoNm x := fun x hx => by
  have := repX_mem n hx
  simp only [List.mem_cons, List.not_mem_nil, or_false] at this
  rcases this with rfl | rfl | rfl | rfl | rfl <;> exact .flat _ rfl
theorem zr_succ (n : Nat) : zr (n + 1) = [.int .i64 0, .int .i64 0, .int .i64 0, .int .i64 0, .slice none 0 0] ++ zr n := rfl
theorem cleanRow (l : List Ex) (n : Nat) : ∀ x, x ∈ cellsAll (encEs l) ++ zr n → NoNm x := fun x hx => by
  rcases List.mem_append.1 hx with h | h
  · rw [encEs_map] at h
    obtain ⟨v, hv, hc⟩ := List.mem_flatMap.1 h
    obtain ⟨e, he, rfl⟩ := List.mem_map.1 hv
    exact cleanE_cells e x hc
  · exact cleanZ n x h
theorem row_step (pre : List Ex) (e : Ex) (n : Nat) {vs : List Value} (hv : vs = cellsOf (encE e)) (h5 : vs.length = 5) : cellsAll (encEs (pre ++ [e])) ++ zr n = (cellsAll (encEs pre) ++ zr (n + 1)).take (0 + pre.length * 5) ++ vs ++ (cellsAll (encEs pre) ++ zr (n + 1)).drop (0 + pre.length * 5 + vs.length) := by
  have hl : (cellsAll (encEs pre)).length = 0 + pre.length * 5 := by rw [cellsEs_len]; omega
  rw [cellsEs_snoc, ← hv, List.append_assoc, List.append_assoc, ← hl, List.take_left, h5, List.drop_append, List.drop_eq_nil_of_le (by omega), List.nil_append, show (cellsAll (encEs pre)).length + 5 - (cellsAll (encEs pre)).length = 5 by omega, zr_succ]
  rfl
theorem copyW (l : List Ex) (hl : szEs l ≤ 1000) (ih : ∀ k n a o m, Ex.mk k n a o m ∈ l → DenU Try.prog [] 19 [imS (encEs m)] (imS (encEs m))) (Ts : Nat → TypeId) (K : Value → AS → Prop) (h0 : l = [] → K (.slice none 0 0) (U.start [] Ts)) (h9 : l ≠ [] → K (.slice (some ⟨0, 0, none⟩) (encEs l).length (encEs l).length) ⟨mkO [(0, some (.cells 46 (cellsAll (encEs l) ++ zr 0) false))], 1, 0, 0⟩) : SoundAt Try.prog 19 [imS (encEs l)] (U.start [] Ts) K := by
  have hlx : l.length ≤ maxI := Nat.le_trans (Nat.le_trans (szEs_len l) hl) (by decide)
  have hlen : (encEs l).length ≤ 1000 := by rw [encEs_map, List.length_map]; exact Nat.le_trans (szEs_len l) hl
  refine SoundAt.body hmixU Try.func19 rfl rfl rfl 0 ?_
  (repeat' ((conv => whnf); first | refine U.lw_t ?_ | refine U.lw_f ?_ | refine U.lit_t ?_ | refine U.lit_f ?_ | refine U.ob_t ?_ | refine U.spineC_p ?_ | refine U.ob_c (U.mk_ok rfl rfl (by decide +kernel) (by decide +kernel) hlen) ?_ | refine U.ob_c (by first | (with_reducible assumption) | exact Nat.ble_eq_true_of_le (by omega) | exact Nat.ble_eq_true_of_le (by simp at *; omega)) ?_ | refine U.nv_c (by with_reducible assumption) ?_ | refine U.lw_t' (by with_reducible assumption) ?_ | refine U.lw_f' (by with_reducible assumption) ?_ | refine U.lw_c (fun hb => ?_) (fun hb => ?_)))
  · (conv => whnf)
    have hz0 : l = [] := by
      cases l with
      | nil => rfl
      | cons e l => simp [encEs] at hb; omega
    exact h0 hz0
  · refine loop_inv (α := List Ex × List Ex) (fun x => x.1 ++ x.2 = l) (fun x => (mkF [(3, .slice (some ⟨0, 0, none⟩) (encEs l).length (encEs l).length), (12, imS (encEs l)), (13, .int .i64 (encEs l).length), (14, .int .i64 x.1.length)], ⟨mkO [(0, some (.cells 46 (cellsAll (encEs x.1) ++ zr x.2.length) false))], 1, 0, 0⟩)) (fun x => x.2.length) ([], l) rfl
      (Cov.renO (fun k => k) rfl rfl (Nat.le_of_ble_eq_true rfl) (Nat.zero_le _) (fun _ _ => rfl) rfl (fun k hk => absurd hk (Nat.not_lt_zero k)) (.cons rfl (.row _ _ _ _ (cleanRow _ _) (by show zr l.length = repX (encEs l).length _; rw [encEs_map, List.length_map]; rfl)) .nil) (by (repeat (refine slotsRen.cons rfl (by (first | (with_reducible exact RenV.clean _ _ (cleanI _) rfl) | (with_reducible exact RenV.clean _ _ (cleanEs _) rfl) | (with_reducible exact RenV.clean _ _ (cleanSs _) rfl) | exact RenV.clean _ _ (cleanI _) (congrArg (Value.int IntKind.i64) (Eq.symm (by with_reducible assumption))) | exact RenV.clean _ _ (cleanI _) (congrArg (Value.int IntKind.i64) (by with_reducible assumption)) | (with_reducible exact RenV.clean _ _ (.flat _ rfl) rfl) | exact RenV.ptr _ _ _ (by decide) rfl | exact RenV.ofRow (by decide) rfl rfl | exact RenV.clean _ _ (.flat _ rfl) rfl | exact RenV.ptr _ _ _ (by decide) rfl | (refine RenV.sl _ _ _ _ _ _ _ (by decide) rfl ?_ ?_ <;> (simp [encEs_map]; done)) | (refine RenV.sl _ _ _ _ _ _ _ (by decide) rfl ?_ ?_ <;> (simp [encSs_map]; done)) | exact RenV.clean _ _ (cleanI _) rfl | exact RenV.clean _ _ (cleanEs _) rfl | exact RenV.clean _ _ (cleanSs _) rfl)) ?_)); exact slotsRen.nil)) ?_
    rintro ⟨pre, rest⟩ h1
    dsimp only at h1 ⊢
    rcases rest with _ | ⟨⟨k, n, a, o, m⟩, post⟩
    · rw [List.append_nil] at h1
      subst h1
      have zb := U.lt_no encEs_map pre
      (repeat' ((conv => whnf); first | refine U.lw_t ?_ | refine U.lw_f ?_ | refine U.lit_t ?_ | refine U.lit_f ?_ | refine U.ob_t ?_ | refine U.ob_c (by first | (with_reducible assumption) | exact Nat.ble_eq_true_of_le (by omega) | exact Nat.ble_eq_true_of_le (by simp at *; omega)) ?_ | refine U.nv_c (by with_reducible assumption) ?_ | refine U.lw_t' (by with_reducible assumption) ?_ | refine U.lw_f' (by with_reducible assumption) ?_ | refine U.lw_c (fun hb => ?_) (fun hb => ?_)))
      (conv => whnf)
      exact h9 (by rintro rfl; simp [encEs] at hb)
    · have ihe := ih k n a o m (by rw [← h1]; simp)
      subst h1
      have zb := U.lt_yes encEs_map pre (Ex.mk k n a o m) post; have zc := U.blt_yes encEs_map pre (Ex.mk k n a o m) post; have zn := U.nth_at encEs_map pre (Ex.mk k n a o m) post; have zw := U.len_snoc (pre := pre) (x := Ex.mk k n a o m) (post := post) (hlx)
      have hst : 0 + pre.length * 5 + [Value.int .i64 k, .int .i64 n, .int .i64 a, .int .i64 o, imS (encEs m)].length ≤ (cellsAll (encEs pre) ++ zr (Ex.mk k n a o m :: post).length).length := by
        rw [List.length_append, cellsEs_len, zr_len, List.length_cons, List.length_cons, List.length_cons, List.length_cons, List.length_cons, List.length_cons, List.length_nil]
        omega
      (repeat' ((conv => whnf); first | refine U.lw_t ?_ | refine U.lw_f ?_ | refine U.lit_t ?_ | refine U.lit_f ?_ | refine U.ob_t ?_ | refine U.storeC_p hst ?_ | refine U.ob_c (by first | (with_reducible assumption) | exact Nat.ble_eq_true_of_le (by omega) | exact Nat.ble_eq_true_of_le (by simp at *; omega)) ?_ | refine U.nv_c (by with_reducible assumption) ?_ | refine U.SoundAt.u (ihe) (by (repeat (first | exact trivial | ((conv => whnf); first | exact trivial | refine And.intro (by first | assumption | exact cleanI _ | exact cleanEs _ | exact cleanSs _ | exact cleanTs _ | exact cleanE _ | exact NoNm.flat _ rfl) ?_)))) ?_ | refine U.SoundC.u (ihe) (by (repeat (first | exact trivial | ((conv => whnf); first | exact trivial | refine And.intro (by first | assumption | exact cleanI _ | exact cleanEs _ | exact cleanSs _ | exact cleanTs _ | exact cleanE _ | exact NoNm.flat _ rfl) ?_)))) ?_ | refine U.lw_t' (by with_reducible assumption) ?_ | refine U.lw_f' (by with_reducible assumption) ?_ | refine U.lw_c (fun hb => ?_) (fun hb => ?_)))
      (conv => whnf)
      refine ⟨(pre ++ [.mk k n a o m], post), by simp, by simp, Cov.renO (fun k => k) rfl rfl (Nat.le_of_ble_eq_true rfl) (Nat.zero_le _) (fun _ _ => rfl) rfl (fun k hk => absurd hk (Nat.not_lt_zero k)) (.cons rfl (.row _ _ _ _ (cleanRow _ _) (row_step pre _ post.length rfl rfl)) .nil) (by (repeat (refine slotsRen.cons rfl (by (first | (with_reducible exact RenV.clean _ _ (cleanI _) rfl) | (with_reducible exact RenV.clean _ _ (cleanEs _) rfl) | (with_reducible exact RenV.clean _ _ (cleanSs _) rfl) | exact RenV.clean _ _ (cleanI _) (congrArg (Value.int IntKind.i64) (Eq.symm (by with_reducible assumption))) | exact RenV.clean _ _ (cleanI _) (congrArg (Value.int IntKind.i64) (by with_reducible assumption)) | (with_reducible exact RenV.clean _ _ (.flat _ rfl) rfl) | exact RenV.ptr _ _ _ (by decide) rfl | exact RenV.ofRow (by decide) rfl rfl | exact RenV.clean _ _ (.flat _ rfl) rfl | exact RenV.ptr _ _ _ (by decide) rfl | (refine RenV.sl _ _ _ _ _ _ _ (by decide) rfl ?_ ?_ <;> (simp [encEs_map]; done)) | (refine RenV.sl _ _ _ _ _ _ _ (by decide) rfl ?_ ?_ <;> (simp [encSs_map]; done)) | exact RenV.clean _ _ (cleanI _) rfl | exact RenV.clean _ _ (cleanEs _) rfl | exact RenV.clean _ _ (cleanSs _) rfl)) ?_)); exact slotsRen.nil)⟩
theorem copyA_d (l : List Ex) (hl : szEs l ≤ 1000) (ih : ∀ k n a o m, Ex.mk k n a o m ∈ l → DenU Try.prog [] 19 [imS (encEs m)] (imS (encEs m))) : DenU Try.prog [] 19 [imS (encEs l)] (imS (encEs l)) := by
  refine denU_of_sound hmixU fun Ts => copyW l hl ih Ts _ (fun h => ?_) fun _ => ?_
  · subst h
    exact .nil
  · exact .rowL (z := 5) (Nat.zero_le _) (T := 46) (xs := cellsAll (encEs l) ++ zr 0) (op := false) rfl (List.append_nil _) (cellsE_5 _) rfl (Nat.le_refl _) (fun x hx => cleanRow l 0 x (List.mem_append_left _ hx))
theorem copyA_all : ∀ (N : Nat) (l : List Ex), szEs l ≤ N → szEs l ≤ 1000 → DenU Try.prog [] 19 [imS (encEs l)] (imS (encEs l))
  | 0, l, h0, hl => copyA_d l hl fun k n a o m hm => by
    have := szEs_mem hm
    have := szE_pos (.mk k n a o m)
    omega
  | N + 1, l, h0, hl => copyA_d l hl fun k n a o m hm => by
    have := szEs_mem hm
    rw [szE] at this
    exact copyA_all N m (by omega) (by omega)
/-- A copy is a row of its own; what lies deeper is told as values. -/
theorem copyB_d (l : List Ex) (hl : szEs l ≤ 1000) : DenR Try.prog 19 [imS (encEs l)] (rowS 0 (encEs l)) [rowN 46 (encEs l)] := by
  refine denR_of_sound hmixU fun Ts => copyW l hl (fun k n a o m hm => copyA_all 1000 m ?_ ?_) Ts _ (fun h => ?_) fun h => ?_
  · have := szEs_mem hm; rw [szE] at this; omega
  · have := szEs_mem hm; rw [szE] at this; omega
  · subst h
    exact ⟨fun k => k, .clean _ _ (.flat _ rfl) rfl, fun k b hk => by rcases k with _ | k <;> simp [encEs, rowN] at hk, fun k k' b b' hk _ _ => by rcases k with _ | k <;> simp [encEs, rowN] at hk⟩
  · obtain ⟨e, m, rfl⟩ : ∃ e m, l = e :: m := by
      cases l with
      | nil => exact absurd rfl h
      | cons e m => exact ⟨e, m, rfl⟩
    refine ⟨fun k => k, .sl 0 0 0 _ _ _ _ (by simp) rfl rfl rfl, fun k b hk => ?_, fun k k' b b' _ _ h => h⟩
    rcases k with _ | k
    · have hk : rowN 46 (encEs (e :: m)) = some b := by simpa using hk
      cases hk
      exact ⟨_, rfl, .row _ _ _ _ (fun x hx => cleanRow (e :: m) 0 x (List.mem_append_left _ hx)) (List.append_nil _).symm⟩
    · simp at hk
end Go.Proofs.Ythbhnbnlbhpooaa
