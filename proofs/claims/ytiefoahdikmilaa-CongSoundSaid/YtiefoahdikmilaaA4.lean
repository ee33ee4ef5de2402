/- What the evaluation says of one operation holds of it. No condition. -/
import Derived.Test.YtiefoahdikmilaaA3
namespace Go.Proofs.Ytiefoahdikmilaa
open Go Go.RowKit Go.Sort
set_option linter.unusedVariables false
set_option linter.unusedSimpArgs false

variable {P : Program} {F : Facts} {ids : List Nat} {fr : List AV} {own : List (List AV)} {a : Act} {o : Oper}

/-- The form of what follows: an operation's value, whatever world. -/
def ValS (P : Program) (F : Facts) (own : List (List AV)) (fr : List AV) (o : Oper) (K : AV → Prop) : Prop :=
  ∃ x, K x ∧ ∀ ids a W0, FrIs ids fr a.tmps → Mem F ids own W0 → Yld P F own o ids a x

theorem ValS.of_exact {K : AV → Prop} (h : exactK P F o fr K) : ValS P F own fr o K :=
  let ⟨x, h1, h2⟩ := exactK_sound (own := own) h
  ⟨x, h1, fun ids a _ hfr _ => h2 ids a hfr⟩

theorem valK_sound {K : AV → Prop} (h : valK P F o fr own K) : ValS P F own fr o K := by
  unfold valK at h
  split at h
  · -- move
    rename_i x ho
    split at h
    · rename_i u hu
      exact ⟨u, h, fun ids a W0 hfr hM => ⟨a.eval x, ev_is hfr hu, fun W _ => calm_value (by simp [execOp, ho])⟩⟩
    · exact h.elim
  · -- assign
    rename_i x ho
    split at h
    · rename_i u hu
      exact ⟨u, h, fun ids a W0 hfr hM => ⟨a.eval x, ev_is hfr hu, fun W _ => calm_value (by simp [execOp, ho])⟩⟩
    · exact h.elim
  · -- pick
    rename_i c x y ho
    have run : ∀ (a : Act) (b : Bool) W, a.eval c = .bool b → (execOp a.eval o).run P W = .ok (.value (if b then a.eval x else a.eval y)) W := fun a b W hb => by
      simp [execOp, ho, hb, asBool]
    split at h
    · rename_i b u u' hc hx hy
      cases b with
      | true => exact ⟨u, h.t rfl, fun ids a W0 hfr hM => ⟨a.eval x, ev_is hfr hx, fun W _ => calm_value (run a true W (ev_is hfr hc))⟩⟩
      | false => exact ⟨u', h.f rfl, fun ids a W0 hfr hM => ⟨a.eval y, ev_is hfr hy, fun W _ => calm_value (run a false W (ev_is hfr hc))⟩⟩
    · rename_i b u u' hc hx hy
      cases b with
      | true => exact ⟨u, h, fun ids a W0 hfr hM => ⟨a.eval x, ev_is hfr hx, fun W _ => calm_value (run a true W (ev_is hfr hc))⟩⟩
      | false => exact ⟨u', h, fun ids a W0 hfr hM => ⟨a.eval y, ev_is hfr hy, fun W _ => calm_value (run a false W (ev_is hfr hc))⟩⟩
    · exact h.elim
  · -- binOp
    rename_i op xT x y yT ho
    split at h
    · rename_i k m k' n hx hy
      split at h
      · rename_i hk
        rcases intK_sound (P := P) hk h with h | ⟨v, hv, hrun⟩
        · exact .of_exact h
        · refine ⟨_, hv, fun ids a W0 hfr hM => ⟨v, rfl, fun W _ => calm_value ?_⟩⟩
          have e1 : a.eval x = .int k m := ev_is hfr hx
          have e2 : a.eval y = .int k' n := ev_is hfr hy
          have e3 : eqGuard op xT x y (.int k m) (.int k' n) = pure () := by unfold eqGuard; cases op <;> rfl
          simp [execOp, ho, e1, e2, e3, hrun]
      · exact .of_exact h
    · rename_i xs ys hx hy
      split at h
      · obtain ⟨hok, h⟩ := h
        split at h
        · rename_i b hb
          refine ⟨_, h, fun ids a W0 hfr hM => ⟨_, rfl, fun W _ => calm_value ?_⟩⟩
          have e1 : a.eval x = .agg xs := ev_is hfr hx
          have e2 : a.eval y = .agg ys := ev_is hfr hy
          have := (run_eqV hok hb x y W).1
          simp only [execOp, ho, e1, e2, Sem.run_bind, Sem.run_pure] at this ⊢
          rw [this]; rfl
        · exact h.elim
      · obtain ⟨hok, h⟩ := h
        split at h
        · rename_i b hb
          refine ⟨_, h, fun ids a W0 hfr hM => ⟨_, rfl, fun W _ => calm_value ?_⟩⟩
          have e1 : a.eval x = .agg xs := ev_is hfr hx
          have e2 : a.eval y = .agg ys := ev_is hfr hy
          have := (run_eqV hok hb x y W).2
          simp only [execOp, ho, e1, e2, Sem.run_bind, Sem.run_pure] at this ⊢
          rw [this]; rfl
        · exact h.elim
      · exact h.elim
    · rename_i u u' _ _ hx hy
      have bl : ∀ (a : Act) (ids : List Nat) (z : Operand) (y : AV) (b : Bool), FrIs ids fr a.tmps → ev fr z = some y → boolA y = some b → a.eval z = .bool b := fun a ids z y b hfr hz hb => by
        have := ev_is hfr hz
        unfold boolA at hb
        split at hb
        · cases hb; exact this
        · cases hb; exact this
        · cases hb
      split at h
      · rename_i b b' hb hb' hT
        refine ⟨_, h, fun ids a W0 hfr hM => ⟨_, rfl, fun W _ => calm_value ?_⟩⟩
        have q := run_equalIn_bool' (P := P) W 9999 xT b b' hT
        simp [execOp, ho, bl a ids x _ _ hfr hx hb, bl a ids y _ _ hfr hy hb', eqGuard, binOp, Op.equal, Op.maxDepth, q]
      · rename_i b b' hb hb' hT
        refine ⟨_, h, fun ids a W0 hfr hM => ⟨_, rfl, fun W _ => calm_value ?_⟩⟩
        have q := run_equalIn_bool' (P := P) W 9999 xT b b' hT
        simp [execOp, ho, bl a ids x _ _ hfr hx hb, bl a ids y _ _ hfr hy hb', eqGuard, binOp, Op.equal, Op.maxDepth, q]
      · exact .of_exact h
    · exact h.elim
  · -- load
    rename_i t x ho
    split at h
    · rename_i k off hx
      split at h
      · rename_i cells hc
        rw [nth_eq] at hc
        obtain ⟨y, h1, h2, h3⟩ := loadK_sound h
        refine ⟨y, h1, fun ids a W0 hfr hM => ?_⟩
        obtain ⟨b, xs, T, q1, q2, q3⟩ := hM.blk k cells hc
        obtain ⟨b', q1', q4⟩ := ev_is hfr hx
        obtain ⟨u, hu, _⟩ := h3 ids W0 b xs T q2 q3
        refine ⟨u, hu, fun W hW => calm_value ?_⟩
        obtain ⟨b2, xs2, T2, r1, r2, r3⟩ := hW.blk k cells hc
        obtain rfl : b2 = b' := Option.some.inj (r1.symm.trans q1')
        obtain ⟨u2, hu2, hrun⟩ := h3 ids W b2 xs2 T2 r2 r3
        obtain rfl := is_same h2 hu hu2
        simp [execOp, ho, q4, Instr.loadAt, Instr.sureAddr, hrun]
      · exact h.elim
    · rename_i b off hx
      unfold loadF at h
      split at h
      · rename_i hA
        split at h
        · rename_i i hi
          obtain ⟨vs, h1, h2, h3⟩ := takeF_sound b _ _ _ h
          refine ⟨_, h2, fun ids a W0 hfr hM => ⟨_, rfl, fun W hW => calm_value ?_⟩⟩
          have e1 : a.eval x = .pointer (some ⟨b, off, none⟩) := ev_is hfr hx
          have hrun := run_load_agg (P := P) (w := W) (b := b) (off := off) hA hi h1 (fun j v hj => hW.sat _ _ _ (h3 j v hj))
          simp [execOp, ho, e1, Instr.loadAt, Instr.sureAddr, hrun]
        · exact h.elim
      · rename_i hA
        obtain ⟨v, h1, h2⟩ := h
        refine ⟨_, h2, fun ids a W0 hfr hM => ⟨_, rfl, fun W hW => calm_value ?_⟩⟩
        have e1 : a.eval x = .pointer (some ⟨b, off, none⟩) := ev_is hfr hx
        have hrun := run_load_cell (P := P) (w := W) (b := b) (off := off) hA (hW.sat _ _ _ h1)
        simp [execOp, ho, e1, Instr.loadAt, Instr.sureAddr, hrun]
      · exact h.elim
    · exact h.elim
  · -- indexAddr
    rename_i t x i ho
    split at h
    · rename_i b off len cap k n z hx hi hz
      obtain ⟨⟨h0, h1⟩, h⟩ := h
      refine ⟨_, h, fun ids a W0 hfr hM => ⟨_, rfl, fun W hW => calm_value ?_⟩⟩
      have e1 : a.eval x = .slice (some ⟨b, off, none⟩) len cap := ev_is hfr hx
      have e2 : a.eval i = .int k n := ev_is hfr hi
      unfold elemSize at hz
      split at hz
      · rename_i e he
        split at hz
        · rename_i inf hinf
          cases hz
          simp [execOp, ho, e1, e2, Instr.indexAt, asIntOf, run_underlying he, h0, h1, sizeOf, typeInfo, hinf, add_at]
        · cases hz
      · cases hz
    · exact .of_exact h
  · -- fieldAddr
    rename_i s x f ho
    split at h
    · rename_i k off fs hx hS
      split at h
      · rename_i g hg
        split at h
        · rename_i i hi
          split at h
          · exact h.elim
          · rename_i z hz
            refine ⟨_, h, fun ids a W0 hfr hM => ?_⟩
            obtain ⟨b, q1, q2⟩ := ev_is hfr hx
            refine ⟨.pointer (some ⟨b, off + g.offset, none⟩), ⟨b, q1, rfl⟩, fun W hW => calm_value ?_⟩
            simp [execOp, ho, q2, Instr.fieldAt, Instr.sureAddr, run_underlying hS, hg, fieldPlace, sizeOf, typeInfo, hi, hz, add_at]
        · exact h.elim
      · exact h.elim
    · exact .of_exact h
  · -- nilCheck
    rename_i x ho
    split at h
    · rename_i k off hx
      refine ⟨_, h, fun ids a W0 hfr hM => ?_⟩
      obtain ⟨b, q1, q2⟩ := ev_is hfr hx
      exact ⟨_, ⟨b, q1, rfl⟩, fun W hW => calm_value (by simp [execOp, ho, q2])⟩
    · exact .of_exact h
  · -- build
    rename_i t ps ho
    split at h
    · rename_i hx
      split at h
      · rename_i l hl
        rw [forceL_eq] at h
        refine ⟨_, h, fun ids a W0 hfr hM => ⟨_, rfl, fun W hW => calm_value ?_⟩⟩
        have hrun := run_buildX hl W
        have e : (ps.map fun (p : Nat × Operand) => (p.1, a.eval p.2)) = (partsX fr ps).toArray := by
          unfold partsX
          apply Array.ext'
          simp only [Array.toList_map]
          refine List.map_congr_left fun p hp => ?_
          rw [isx_eq hfr (by simpa using List.all_eq_true.1 hx p hp)]
        have e2 : execOp a.eval o = (do pure (.value (← Instr.build t (ps.map fun (p : Nat × Operand) => (p.1, a.eval p.2))))) := by
          simp only [execOp, ho]
        rw [e2, e]
        simp only [Sem.run_bind, hrun, Result.andThen_ok, Sem.run_pure]
      · exact h.elim
    · exact h.elim
  · exact h.elim
  · exact h.elim
  · exact h.elim
  · exact .of_exact h

end Go.Proofs.Ytiefoahdikmilaa
