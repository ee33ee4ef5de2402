
import Derived.Test.YthekpmpcbidjiaaS33
namespace Go.Proofs.Ythekpmpcbidjiaa
open Go Go.RowKit Go.Sort U
set_option linter.unusedVariables false
set_option linter.unusedSimpArgs false
set_option maxRecDepth 100000
set_option maxHeartbeats 4000000
def nL (L : List Nat) : List Int := L.map fun (u : Nat) => (u : Int)
theorem nL_len (L : List Nat) : (nL L).length = L.length := List.length_map ..
theorem gt0_nL {L : List Nat} {i v : Nat} (h : L[i]? = some v) : gt0 (nL L) i = v := by simp [gt0, nL, h]
def fillW (n k : Nat) : List Int := List.replicate k (-1) ++ List.replicate (n - k) 0
theorem fillW_len {n k : Nat} (h : k ≤ n) : (fillW n k).length = n := by simp [fillW]; omega
theorem fillW_step {n k : Nat} (h : k < n) : (fillW n k).set k (-1) = fillW n (k + 1) := by
  unfold fillW
  rw [List.set_append_right _ _ (by simp), List.length_replicate, Nat.sub_self, show n - k = (n - (k + 1)) + 1 by omega, List.replicate_succ, List.set_cons_zero, List.replicate_succ', List.append_assoc]
  rfl
theorem fillW_full (n : Nat) : fillW n n = List.replicate n (-1) := by simp [fillW]
theorem far_e (back : List (List Int)) (node : Nat) (hb : okB back) (hn : node < back.length) (hl : back.length ≤ 29000) (hr : ∀ r ∈ back, r.length ≤ maxI) : DenE Try.prog 41 [imS (gL back), .int .i64 node] (fun u => ∃ w, u = imS (iL w) ∧ farOk back node w) := by
  refine denE_of_sound hmixU fun Ts => SoundAt.body hmixU Try.func41 rfl rfl rfl 0 ?_
  have hmf := mk_full (zs := [.int .i64 0]) (n := (gL back).length) (b := 8) rfl rfl (by decide) (by rw [gL_len]; omega)
  have cg := cleanGL back
  (repeat' ((conv => whnf); first | refine U.ob_c hmf ?_ | refine U.lw_t ?_ | refine U.lw_f ?_ | refine U.lit_t ?_ | refine U.lit_f ?_ | refine U.ob_t ?_ | refine U.spineC_p ?_ | refine U.ob_c (by first | (with_reducible assumption) | exact bLe (by omega) | exact bLe (by simp at *; omega)) ?_ | refine U.nv_c (by with_reducible assumption) ?_ | refine U.lw_t' (by with_reducible assumption) ?_ | refine U.lw_f' (by with_reducible assumption) ?_ | refine U.lw_c (fun hb => ?_) (fun hb => ?_)))
  (conv => whnf)
  refine loop_inv (α := Nat) (fun k => k ≤ back.length) (fun k => (mkF [(0, imS (gL back)), (1, .int .i64 node), (4, .slice none 0 0), (5, .slice (some ⟨0, 0, none⟩) (gL back).length (gL back).length), (15, .int .i64 (gL back).length), (16, .int .i64 k)], ⟨mkO [(0, some (.cells 3 (iL (fillW back.length k)) false))], 1, 0, 0⟩)) (fun k => back.length - k) 0 (Nat.zero_le _) (Cov.renO (fun k => k) rfl rfl (Nat.le_of_ble_eq_true rfl) (Nat.zero_le _) (fun _ _ => rfl) rfl (fun k hk => absurd hk (Nat.not_lt_zero k)) (.cons rfl (.row _ _ _ _ (cleanIl0 _) ((by rw [fillW, List.replicate_zero, List.nil_append, Nat.sub_zero, iL_zero, gL_len]; rfl))) .nil) (.cons rfl (.clean _ _ (cleanGL _) rfl) (.cons rfl (.clean _ _ (cleanI _) rfl) (.cons rfl (.clean _ _ (.flat _ rfl) rfl) (.cons rfl (.sl _ _ _ _ _ _ _ (by decide) rfl (rfl) (rfl)) (.cons rfl (.clean _ _ (cleanI _) rfl) (.cons rfl (.clean _ _ (cleanI _) rfl) .nil))))))) ?_
  rintro k hk
  dsimp only
  have hfl := fillW_len hk
  rcases Nat.lt_or_ge k back.length with hlt | hge
  · have g0 : decide ((k : Int) < ((gL back).length : Int)) = true := by rw [gL_len]; simp; omega
    have hkb : k.blt (gL back).length = true := by rw [gL_len]; exact bLe hlt
    have hst : ∀ v : Value, 0 + k * 1 + [v].length ≤ (iL (fillW back.length k)).length := fun v => by rw [iL_len, hfl, List.length_singleton]; omega
    have es := iL_store0 (L := fillW back.length k) (i := k) (x := -1) (by omega)
    rw [fillW_step hlt] at es
    have kw := wadd1 (i := k) (by omega)
    (repeat' ((conv => whnf); first | refine U.lw_t ?_ | refine U.lw_f ?_ | refine U.lit_t ?_ | refine U.lit_f ?_ | refine U.ob_t ?_ | refine U.storeC_p (hst _) ?_ | refine U.ob_c (by first | (with_reducible assumption) | exact bLe (by omega) | exact bLe (by simp at *; omega)) ?_ | refine U.nv_c (by with_reducible assumption) ?_ | refine U.lw_t' (by with_reducible assumption) ?_ | refine U.lw_f' (by with_reducible assumption) ?_ | refine U.lw_c (fun hb => ?_) (fun hb => ?_)))
    (conv => whnf)
    refine ⟨k + 1, hlt, by omega, ?_⟩
    exact (Cov.renO (fun k => k) rfl rfl (Nat.le_of_ble_eq_true rfl) (Nat.zero_le _) (fun _ _ => rfl) rfl (fun k hk => absurd hk (Nat.not_lt_zero k)) (.cons rfl (.row _ _ _ _ (cleanIl0 _) (es.symm)) .nil) (.cons rfl (.clean _ _ (cleanGL _) rfl) (.cons rfl (.clean _ _ (cleanI _) rfl) (.cons rfl (.clean _ _ (.flat _ rfl) rfl) (.cons rfl (.sl _ _ _ _ _ _ _ (by decide) rfl (rfl) (rfl)) (.cons rfl (.clean _ _ (cleanI _) rfl) (.cons rfl (.clean _ _ (cleanI _) (congrArg (Value.int .i64) (kw.symm))) .nil)))))))
  · have hkn : k = back.length := by omega
    subst hkn
    have g0 : decide ((back.length : Int) < ((gL back).length : Int)) = false := by rw [gL_len]; simp
    have hnb : node.blt (gL back).length = true := by rw [gL_len]; exact bLe hn
    have hst : ∀ v : Value, 0 + node * 1 + [v].length ≤ (iL (fillW back.length back.length)).length := fun v => by rw [iL_len, hfl, List.length_singleton]; omega
    have es := iL_store0 (L := fillW back.length back.length) (i := node) (x := 0) (by omega)
    replace es := (congrArg (fun w => iL (w.set node 0)) (fillW_full back.length).symm).trans es.symm
    (repeat' ((conv => whnf); first | refine U.lw_t ?_ | refine U.lw_f ?_ | refine U.lit_t ?_ | refine U.lit_f ?_ | refine U.ob_t ?_ | refine U.storeC_p (hst _) ?_ | refine U.ob_c (by first | (with_reducible assumption) | exact bLe (by omega) | exact bLe (by simp at *; omega)) ?_ | refine U.nv_c (by with_reducible assumption) ?_ | refine U.lw_t' (by with_reducible assumption) ?_ | refine U.lw_f' (by with_reducible assumption) ?_ | refine U.lw_c (fun hb => ?_) (fun hb => ?_)))
    (conv => whnf)
    refine loop_inv (α := List Nat × List Int × Nat × Bool) (fun x => Bfs back node x.2.1 x.1 x.2.2.1 []) (fun x => (mkF [(0, imS (gL back)), (4, .slice none 0 0), (5, .slice (some ⟨0, 0, none⟩) (gL back).length (gL back).length), (7, .slice (some ⟨2, 0, none⟩) x.1.length x.1.length), (8, .int .i64 x.2.2.1)], ⟨mkO [(0, some (.cells 3 (iL x.2.1) false)), (2, some (.cells 3 (iL (nL x.1)) x.2.2.2))], 3, 0, 0⟩)) (fun x => back.length - x.2.2.1) ([node], (List.replicate back.length (-1)).set node 0, 0, false) (bfs_init hn) (Cov.renO (fun k => if k = 2 then 1 else k) rfl rfl (Nat.le_of_ble_eq_true rfl) (Nat.zero_le _) (fun k hk => by have : k < 2 := hk; rw [if_neg (by omega)]) rfl (fun k hk => absurd hk (Nat.not_lt_zero k)) (.cons rfl (.row _ _ _ _ (cleanIl0 _) (es)) (.cons rfl (.row _ _ _ _ (cleanIl0 _) rfl) .nil)) (.cons rfl (.clean _ _ (cleanGL _) rfl) (.cons rfl (.clean _ _ (.flat _ rfl) rfl) (.cons rfl (.sl _ _ _ _ _ _ _ (by decide) rfl (rfl) (rfl)) (.cons rfl (.sl _ _ _ _ _ _ _ (by decide) rfl (rfl) (rfl)) (.cons rfl (.clean _ _ (cleanI _) rfl) .nil)))))) ?_
    rintro ⟨L, way, i, op⟩ hB
    dsimp only at hB
    dsimp only
    have hLn : L.length ≤ back.length := nodup_len hB.nd hB.lt
    have hLk : (nL L).length = L.length := nL_len L
    rcases Nat.lt_or_ge i L.length with hil | hil
    · have g1 : decide ((i : Int) < ((L.length : Nat) : Int)) = true := by simp; omega
      have hib : i.blt L.length = true := bLe hil
      obtain ⟨v, hv⟩ : ∃ v, L[i]? = some v := ⟨L[i], by simp [hil]⟩
      have hvn := hB.lt v (List.mem_of_getElem? hv)
      have hn1 := iL_nth0 (L := nL L) (i := i) (by omega)
      rw [gt0_nL hv] at hn1
      obtain ⟨row, hrw⟩ : ∃ row, back[v]? = some row := ⟨back[v], by simp [hvn]⟩
      have hrd : back.getD v [] = row := by simp [hrw]
      have hrm := List.mem_of_getElem? hrw
      have hrl := hr row hrm
      have hvb : v.blt (gL back).length = true := by rw [gL_len]; exact bLe hvn
      have hvx : nth (gL back) v = some (imS (iL row)) := by rw [nth_eq, gL]; simp [hrw]
      have iw := wadd1 (i := i) (by omega)
      (repeat' ((conv => whnf); first | refine U.lw_t ?_ | refine U.lw_f ?_ | refine U.lit_t ?_ | refine U.lit_f ?_ | refine U.ob_t ?_ | (conv in (nth _ _) => (change nth _ (0 + i * 1); rw [hn1])) | refine U.ob_c (by first | (with_reducible assumption) | exact bLe (by omega) | exact bLe (by simp at *; omega)) ?_ | refine U.nv_c (by with_reducible assumption) ?_ | refine U.lw_t' (by with_reducible assumption) ?_ | refine U.lw_f' (by with_reducible assumption) ?_ | refine U.lw_c (fun hb => ?_) (fun hb => ?_)))
      (conv => whnf)
      refine loop_inv (α := List Nat × List Int × List Int × List Int × Bool) (fun y => y.2.2.1 ++ y.2.2.2.1 = row ∧ Bfs back node y.2.1 y.1 i y.2.2.1 ∧ y.1[i]? = some v) (fun y => (mkF [(0, imS (gL back)), (4, .slice none 0 0), (5, .slice (some ⟨0, 0, none⟩) (gL back).length (gL back).length), (7, .slice (some ⟨3, 0, none⟩) y.1.length y.1.length), (8, .int .i64 i), (40, imS (iL row)), (41, .int .i64 (iL row).length), (42, .int .i64 y.2.2.1.length)], ⟨mkO [(0, some (.cells 3 (iL y.2.1) false)), (3, some (.cells 3 (iL (nL y.1)) y.2.2.2.2))], 4, 0, 0⟩)) (fun y => y.2.2.2.1.length) (L, way, [], row, op) ⟨rfl, hB, hv⟩ (Cov.renO (fun k => if k = 3 then 2 else k) rfl rfl (Nat.le_of_ble_eq_true rfl) (Nat.zero_le _) (fun k hk => by have : k < 3 := hk; rw [if_neg (by omega)]) rfl (fun k hk => absurd hk (Nat.not_lt_zero k)) (.cons rfl (.row _ _ _ _ (cleanIl0 _) rfl) (.cons rfl (.row _ _ _ _ (cleanIl0 _) rfl) .nil)) (.cons rfl (.clean _ _ (cleanGL _) rfl) (.cons rfl (.clean _ _ (.flat _ rfl) rfl) (.cons rfl (.sl _ _ _ _ _ _ _ (by decide) rfl (rfl) (rfl)) (.cons rfl (.sl _ _ _ _ _ _ _ (by decide) rfl (rfl) (rfl)) (.cons rfl (.clean _ _ (cleanI _) rfl) (.cons rfl (.clean _ _ (cleanIL _) rfl) (.cons rfl (.clean _ _ (cleanI _) rfl) (.cons rfl (.clean _ _ (cleanI _) rfl) .nil))))))))) ?_
      rintro ⟨L2, way2, p, q, op2⟩ ⟨p1, hB2, hv2⟩
      dsimp only at p1 hB2 hv2
      dsimp only
      rcases q with _ | ⟨t, q⟩
      · rw [List.append_nil] at p1
        subst p1
        have h4b := U.lt_no iL_map p
        (repeat' ((conv => whnf); first | refine U.lw_t ?_ | refine U.lw_f ?_ | refine U.lit_t ?_ | refine U.lit_f ?_ | refine U.ob_t ?_ | refine U.ob_c (by first | (with_reducible assumption) | exact bLe (by omega) | exact bLe (by simp at *; omega)) ?_ | refine U.nv_c (by with_reducible assumption) ?_ | refine U.lw_t' (by with_reducible assumption) ?_ | refine U.lw_f' (by with_reducible assumption) ?_ | refine U.lw_c (fun hb => ?_) (fun hb => ?_)))
        (conv => whnf)
        rw [← hrd] at hB2
        refine ⟨(L2, way2, i + 1, op2), hB2.next hv2, by dsimp only; omega, ?_⟩
        exact (Cov.renO (fun k => if k = 2 then 3 else k) rfl rfl (Nat.le_of_ble_eq_true rfl) (Nat.zero_le _) (fun k hk => by have : k < 2 := hk; rw [if_neg (by omega)]) rfl (fun k hk => absurd hk (Nat.not_lt_zero k)) (.cons rfl (.row _ _ _ _ (cleanIl0 _) rfl) (.cons rfl (.row _ _ _ _ (cleanIl0 _) rfl) .nil)) (.cons rfl (.clean _ _ (cleanGL _) rfl) (.cons rfl (.clean _ _ (.flat _ rfl) rfl) (.cons rfl (.sl _ _ _ _ _ _ _ (by decide) rfl (rfl) (rfl)) (.cons rfl (.sl _ _ _ _ _ _ _ (by decide) rfl (rfl) (rfl)) (.cons rfl (.clean _ _ (cleanI _) (congrArg (Value.int .i64) (iw.symm))) .nil))))))
      · have hrl2 := hrl
        rw [← p1] at hrl2
        have h4b := U.lt_yes iL_map p (t) q; have h4c := U.blt_yes iL_map p (t) q; have h4n := U.nth_at iL_map p (t) q; have h4w := U.len_snoc (pre := p) (x := t) (post := q) (hrl2)
        rw [p1] at h4b h4c h4n
        obtain ⟨w, rfl, hw⟩ := hb row hrm t (by rw [← p1]; simp)
        have hwb : w.blt (gL back).length = true := by rw [gL_len]; exact bLe hw
        have hn2 := iL_nth0 (L := way2) (i := w) (by rw [hB2.wl]; exact hw)
        have hes : ES back v w := by unfold ES; rw [hrd, ← p1]; simp
        rcases Int.lt_or_le (gt0 way2 w) 0 with hneg | hpos
        · have g2 : decide (gt0 way2 w < 0) = true := by simpa using hneg
          have hil2 := (List.getElem?_eq_some_iff.1 hv2).1
          have hib2 : i.blt L2.length = true := bLe hil2
          have hn3 := iL_nth0 (L := nL L2) (i := i) (by rw [nL_len]; exact hil2)
          rw [gt0_nL hv2] at hn3
          have hn4 := iL_nth0 (L := way2) (i := v) (by rw [hB2.wl]; exact hvn)
          have hst : ∀ x : Value, 0 + w * 1 + [x].length ≤ (iL way2).length := fun x => by rw [iL_len, hB2.wl, List.length_singleton]; omega
          have hL2n : L2.length ≤ back.length := nodup_len hB2.nd hB2.lt
          have hB3 := hB2.add hv2 hw hneg hes
          have es := iL_store0 (L := way2) (i := w) (x := gt0 way2 v + 1) (by rw [hB2.wl]; exact hw)
          have hwv : IntKind.i64.wrap (gt0 way2 v + 1) = gt0 way2 v + 1 := by
            have h1 := hB2.bd v (List.mem_of_getElem? hv2)
            have h2 := (hB2.seen v hvn).2 (List.mem_of_getElem? hv2)
            rw [IntKind.wrap_i64]
            omega
          have hne : L2 ≠ [] := fun e => by rw [e] at hil2; simp at hil2
          rcases L2 with _ | ⟨y, ys⟩
          · exact absurd rfl hne
          have hyl : (iL (nL (y :: ys))).length = (y :: ys).length * (0 + 1) := by rw [iL_len, nL_len]; simp
          have hys : ys.length + 1 ≤ 29000 := by simp at hL2n; omega
          have hb7 : (Nat.ble ((ys.length + 1 + (0 + 1)) * 8) 140737488355328 && Nat.ble (ys.length + 1 + (0 + 1)) 1000000) = true := by
            rw [bLe (by omega), bLe (by omega)]
            rfl
          have hgr : iL (nL (y :: ys ++ [w])) = iL (nL (y :: ys)) ++ [Value.int .i64 (w : Int)] := by simp [iL, nL]
          (repeat' ((conv => whnf); first | refine U.lw_t ?_ | refine U.lw_f ?_ | refine U.lit_t ?_ | refine U.lit_f ?_ | refine U.ob_t ?_ | (conv in (nth _ _) => (change nth _ (0 + w * 1); rw [hn2])) | (conv in (nth _ _) => (change nth _ (0 + i * 1); rw [hn3])) | (conv in (nth _ _) => (change nth _ (0 + v * 1); rw [hn4])) | refine U.storeC_p (hst _) ?_ | refine U.ob_c hb7 ?_ | (rw [ble_f]; dsimp only; refine growRow_p hyl rfl ?_) | refine U.ob_c (by first | (with_reducible assumption) | exact bLe (by omega) | exact bLe (by simp at *; omega)) ?_ | refine U.nv_c (by with_reducible assumption) ?_ | refine U.lw_t' (by with_reducible assumption) ?_ | refine U.lw_f' (by with_reducible assumption) ?_ | refine U.lw_c (fun hb => ?_) (fun hb => ?_)))
          rw [ble_f]
          dsimp only
          cases op2
          · dsimp only
            rw [dropL_eq]
            refine takeA_p hyl ?_
            refine U.catC_p ?_
            (repeat' ((conv => whnf); first | refine U.lw_t ?_ | refine U.lw_f ?_ | refine U.lit_t ?_ | refine U.lit_f ?_ | refine U.ob_t ?_ | refine U.ob_c (by first | (with_reducible assumption) | exact bLe (by omega) | exact bLe (by simp at *; omega)) ?_ | refine U.nv_c (by with_reducible assumption) ?_ | refine U.lw_t' (by with_reducible assumption) ?_ | refine U.lw_f' (by with_reducible assumption) ?_ | refine U.lw_c (fun hb => ?_) (fun hb => ?_)))
            (conv => whnf)
            refine ⟨(y :: ys ++ [w], way2.set w (gt0 way2 v + 1), p ++ [(w : Int)], q, true), ⟨by rw [← p1]; simp, hB3, by dsimp only; rw [List.getElem?_append_left hil2]; exact hv2⟩, by simp, ?_⟩
            exact (Cov.renO (fun k => if k = 3 then 5 else k) rfl rfl (Nat.le_of_ble_eq_true rfl) (Nat.zero_le _) (fun k hk => by have : k < 3 := hk; rw [if_neg (by omega)]) rfl (fun k hk => absurd hk (Nat.not_lt_zero k)) (.cons rfl (.row _ _ _ _ (cleanIl0 _) ((by dsimp only; rw [hwv]; exact es.symm))) (.cons rfl (.row _ _ _ _ (cleanIl0 _) (hgr)) .nil)) (.cons rfl (.clean _ _ (cleanGL _) rfl) (.cons rfl (.clean _ _ (.flat _ rfl) rfl) (.cons rfl (.sl _ _ _ _ _ _ _ (by decide) rfl (rfl) (rfl)) (.cons rfl (.sl _ _ _ _ _ _ _ (by decide) rfl ((by simp)) ((by simp))) (.cons rfl (.clean _ _ (cleanI _) rfl) (.cons rfl (.clean _ _ (cleanIL _) rfl) (.cons rfl (.clean _ _ (cleanI _) rfl) (.cons rfl (.clean _ _ (cleanI _) (congrArg (Value.int .i64) (h4w.symm))) .nil)))))))))
          · dsimp only
            refine growRow_p hyl (lo := 0) (b := 3) rfl ?_
            (repeat' ((conv => whnf); first | refine U.lw_t ?_ | refine U.lw_f ?_ | refine U.lit_t ?_ | refine U.lit_f ?_ | refine U.ob_t ?_ | refine U.ob_c (by first | (with_reducible assumption) | exact bLe (by omega) | exact bLe (by simp at *; omega)) ?_ | refine U.nv_c (by with_reducible assumption) ?_ | refine U.lw_t' (by with_reducible assumption) ?_ | refine U.lw_f' (by with_reducible assumption) ?_ | refine U.lw_c (fun hb => ?_) (fun hb => ?_)))
            (conv => whnf)
            refine ⟨(y :: ys ++ [w], way2.set w (gt0 way2 v + 1), p ++ [(w : Int)], q, true), ⟨by rw [← p1]; simp, hB3, by dsimp only; rw [List.getElem?_append_left hil2]; exact hv2⟩, by simp, ?_⟩
            exact (Cov.renO (fun k => if k = 3 then 5 else k) rfl rfl (Nat.le_of_ble_eq_true rfl) (Nat.zero_le _) (fun k hk => by have : k < 3 := hk; rw [if_neg (by omega)]) rfl (fun k hk => absurd hk (Nat.not_lt_zero k)) (.cons rfl (.row _ _ _ _ (cleanIl0 _) ((by dsimp only; rw [hwv]; exact es.symm))) (.cons rfl (.row _ _ _ _ (cleanIl0 _) (hgr)) .nil)) (.cons rfl (.clean _ _ (cleanGL _) rfl) (.cons rfl (.clean _ _ (.flat _ rfl) rfl) (.cons rfl (.sl _ _ _ _ _ _ _ (by decide) rfl (rfl) (rfl)) (.cons rfl (.sl _ _ _ _ _ _ _ (by decide) rfl ((by simp)) ((by simp))) (.cons rfl (.clean _ _ (cleanI _) rfl) (.cons rfl (.clean _ _ (cleanIL _) rfl) (.cons rfl (.clean _ _ (cleanI _) rfl) (.cons rfl (.clean _ _ (cleanI _) (congrArg (Value.int .i64) (h4w.symm))) .nil)))))))))
        · have g2 : decide (gt0 way2 w < 0) = false := by simpa using hpos
          (repeat' ((conv => whnf); first | refine U.lw_t ?_ | refine U.lw_f ?_ | refine U.lit_t ?_ | refine U.lit_f ?_ | refine U.ob_t ?_ | (conv in (nth _ _) => (change nth _ (0 + w * 1); rw [hn2])) | refine U.ob_c (by first | (with_reducible assumption) | exact bLe (by omega) | exact bLe (by simp at *; omega)) ?_ | refine U.nv_c (by with_reducible assumption) ?_ | refine U.lw_t' (by with_reducible assumption) ?_ | refine U.lw_f' (by with_reducible assumption) ?_ | refine U.lw_c (fun hb => ?_) (fun hb => ?_)))
          (conv => whnf)
          refine ⟨(L2, way2, p ++ [(w : Int)], q, op2), ⟨by rw [← p1]; simp, hB2.skip hw hpos, hv2⟩, by simp, ?_⟩
          exact (Cov.renO (fun k => k) rfl rfl (Nat.le_of_ble_eq_true rfl) (Nat.zero_le _) (fun _ _ => rfl) rfl (fun k hk => absurd hk (Nat.not_lt_zero k)) (.cons rfl (.row _ _ _ _ (cleanIl0 _) rfl) (.cons rfl (.row _ _ _ _ (cleanIl0 _) rfl) .nil)) (.cons rfl (.clean _ _ (cleanGL _) rfl) (.cons rfl (.clean _ _ (.flat _ rfl) rfl) (.cons rfl (.sl _ _ _ _ _ _ _ (by decide) rfl (rfl) (rfl)) (.cons rfl (.sl _ _ _ _ _ _ _ (by decide) rfl (rfl) (rfl)) (.cons rfl (.clean _ _ (cleanI _) rfl) (.cons rfl (.clean _ _ (cleanIL _) rfl) (.cons rfl (.clean _ _ (cleanI _) rfl) (.cons rfl (.clean _ _ (cleanI _) (congrArg (Value.int .i64) (h4w.symm))) .nil)))))))))
    · have hie : i = L.length := Nat.le_antisymm hB.il hil
      subst hie
      have g1 : decide ((L.length : Int) < (L.length : Int)) = false := by simp
      (repeat' ((conv => whnf); first | refine U.lw_t ?_ | refine U.lw_f ?_ | refine U.lit_t ?_ | refine U.lit_f ?_ | refine U.ob_t ?_ | refine U.ob_c (by first | (with_reducible assumption) | exact bLe (by omega) | exact bLe (by simp at *; omega)) ?_ | refine U.nv_c (by with_reducible assumption) ?_ | refine U.lw_t' (by with_reducible assumption) ?_ | refine U.lw_f' (by with_reducible assumption) ?_ | refine U.lw_c (fun hb => ?_) (fun hb => ?_)))
      (conv => whnf)
      exact ⟨imS (iL way), ⟨way, rfl, hB.fin⟩, .rowL (k := 0) (ys := iL way) (Nat.zero_le _) rfl (by rw [cellsI]) iL_1 (by rw [iL_len, hB.wl, gL_len]) (Nat.le_refl _) (cleanIC _)⟩
end Go.Proofs.Ythekpmpcbidjiaa
