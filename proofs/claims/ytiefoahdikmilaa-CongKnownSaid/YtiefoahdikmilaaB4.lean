/- What the evaluation says of one operation holds of it. No condition. -/
import Derived.Test.YtiefoahdikmilaaB3
namespace Go.Proofs.Ytiefoahdikmilaa
open Go Go.RowKit Go.Sort
set_option linter.unusedVariables false
set_option linter.unusedSimpArgs false

variable {P : Program} {F : Facts} {σ : Sg} {base : Nat} {fr : List AV} {own : List Blk} {a : Act} {o : Oper}

/-- The form of what follows: an operation's value, whatever world. -/
def ValS (P : Program) (F : Facts) (own : List Blk) (fr : List AV) (o : Oper) (K : AV → Prop) : Prop :=
  ∃ x, K x ∧ ∀ base σ a W0, OpIs σ fr a o → Mem base F σ own W0 → Yld P base F own o σ a x

theorem ValS.of_exact {K : AV → Prop} (h : exactK P F o fr K) : ValS P F own fr o K :=
  let ⟨x, h1, _, h2⟩ := exactK_sound (own := own) h
  ⟨x, h1, fun base σ a _ hfr _ => h2 base σ a hfr⟩

theorem valK_sound {K : AV → Prop} (h : valK P F o fr own K) : ValS P F own fr o K := by
  unfold valK at h
  split at h
  · -- move
    rename_i x ho
    split at h
    · rename_i u hu
      exact ⟨u, h, fun base σ a W0 hfr hM => ⟨a.eval x, hfr x (by simp [ho, Op.operands]) _ hu, fun W _ => calm_value (by simp [execOp, ho])⟩⟩
    · exact h.elim
  · -- assign
    rename_i x ho
    split at h
    · rename_i u hu
      exact ⟨u, h, fun base σ a W0 hfr hM => ⟨a.eval x, hfr x (by simp [ho, Op.operands]) _ hu, fun W _ => calm_value (by simp [execOp, ho])⟩⟩
    · exact h.elim
  · -- pick
    rename_i c x y ho
    have run : ∀ (a : Act) (b : Bool) W, a.eval c = .bool b → (execOp a.eval o).run P W = .ok (.value (if b then a.eval x else a.eval y)) W := fun a b W hb => by
      simp [execOp, ho, hb, asBool]
    split at h
    · rename_i b u u' hc hx hy
      cases b with
      | true => exact ⟨u, h.t rfl, fun base σ a W0 hfr hM => ⟨a.eval x, hfr x (by simp [ho, Op.operands]) _ hx, fun W _ => calm_value (run a true W (hfr c (by simp [ho, Op.operands]) _ hc))⟩⟩
      | false => exact ⟨u', h.f rfl, fun base σ a W0 hfr hM => ⟨a.eval y, hfr y (by simp [ho, Op.operands]) _ hy, fun W _ => calm_value (run a false W (hfr c (by simp [ho, Op.operands]) _ hc))⟩⟩
    · rename_i b u u' hc hx hy
      cases b with
      | true => exact ⟨u, h, fun base σ a W0 hfr hM => ⟨a.eval x, hfr x (by simp [ho, Op.operands]) _ hx, fun W _ => calm_value (run a true W (hfr c (by simp [ho, Op.operands]) _ hc))⟩⟩
      | false => exact ⟨u', h, fun base σ a W0 hfr hM => ⟨a.eval y, hfr y (by simp [ho, Op.operands]) _ hy, fun W _ => calm_value (run a false W (hfr c (by simp [ho, Op.operands]) _ hc))⟩⟩
    · exact h.elim
  · -- binOp
    rename_i op xT x y yT ho
    split at h
    · rename_i k m k' n hx hy
      split at h
      · rename_i hk
        rcases intK_sound (P := P) hk h with h | ⟨v, hv, hrun⟩
        · exact .of_exact h
        · refine ⟨_, hv, fun base σ a W0 hfr hM => ⟨v, rfl, fun W _ => calm_value ?_⟩⟩
          have e1 : a.eval x = .int k m := hfr x (by simp [ho, Op.operands]) _ hx
          have e2 : a.eval y = .int k' n := hfr y (by simp [ho, Op.operands]) _ hy
          have e3 : eqGuard op xT x y (.int k m) (.int k' n) = pure () := by unfold eqGuard; cases op <;> rfl
          simp [execOp, ho, e1, e2, e3, hrun]
      · exact .of_exact h
    · rename_i xs ys hx hy
      split at h
      · obtain ⟨hok, h⟩ := h
        split at h
        · rename_i b hb
          refine ⟨_, h, fun base σ a W0 hfr hM => ⟨_, rfl, fun W _ => calm_value ?_⟩⟩
          have e1 : a.eval x = .agg xs := hfr x (by simp [ho, Op.operands]) _ hx
          have e2 : a.eval y = .agg ys := hfr y (by simp [ho, Op.operands]) _ hy
          have := (run_eqV hok hb x y W).1
          simp only [execOp, ho, e1, e2, Sem.run_bind, Sem.run_pure] at this ⊢
          rw [this]; rfl
        · exact h.elim
      · obtain ⟨hok, h⟩ := h
        split at h
        · rename_i b hb
          refine ⟨_, h, fun base σ a W0 hfr hM => ⟨_, rfl, fun W _ => calm_value ?_⟩⟩
          have e1 : a.eval x = .agg xs := hfr x (by simp [ho, Op.operands]) _ hx
          have e2 : a.eval y = .agg ys := hfr y (by simp [ho, Op.operands]) _ hy
          have := (run_eqV hok hb x y W).2
          simp only [execOp, ho, e1, e2, Sem.run_bind, Sem.run_pure] at this ⊢
          rw [this]; rfl
        · exact h.elim
      · exact h.elim
    · rename_i u u' _ _ hx hy
      have bl : ∀ (a : Act) (σ : Sg) (z : Operand) (y : AV) (b : Bool), (∀ y, ev fr z = some y → y.Is σ (a.eval z)) → ev fr z = some y → boolA y = some b → a.eval z = .bool b := fun a σ z y b hfr hz hb => by
        have := hfr _ hz
        unfold boolA at hb
        split at hb
        · cases hb; exact this
        · cases hb; exact this
        · cases hb
      split at h
      · rename_i b b' hb hb' hT
        refine ⟨_, h, fun base σ a W0 hfr hM => ⟨_, rfl, fun W _ => calm_value ?_⟩⟩
        have q := run_equalIn_bool' (P := P) W 9999 xT b b' hT
        simp [execOp, ho, bl a σ x _ _ (hfr x (by simp [ho, Op.operands])) hx hb, bl a σ y _ _ (hfr y (by simp [ho, Op.operands])) hy hb', eqGuard, binOp, Op.equal, Op.maxDepth, q]
      · rename_i b b' hb hb' hT
        refine ⟨_, h, fun base σ a W0 hfr hM => ⟨_, rfl, fun W _ => calm_value ?_⟩⟩
        have q := run_equalIn_bool' (P := P) W 9999 xT b b' hT
        simp [execOp, ho, bl a σ x _ _ (hfr x (by simp [ho, Op.operands])) hx hb, bl a σ y _ _ (hfr y (by simp [ho, Op.operands])) hy hb', eqGuard, binOp, Op.equal, Op.maxDepth, q]
      · exact .of_exact h
    · exact h.elim
  · -- load
    rename_i t x ho
    have run : ∀ (a : Act) (W : World) (ad : Addr) (u : Value), a.eval x = .pointer (some ad) → (loadVar t ad).run P W = .ok u W → calmAt P o a W u := fun a W ad u he hr => calm_value (by simp [execOp, ho, he, Instr.loadAt, Instr.sureAddr, hr])
    split at h
    · rename_i k off hx
      split at h
      · rename_i cells hc
        rw [nth_eq] at hc
        obtain ⟨y, h1, h2, h3⟩ := loadK_sound h
        refine ⟨y, h1, fun base σ a W0 hfr hM => ?_⟩
        obtain ⟨b', q1', q4⟩ := hfr x (by simp [ho, Op.operands]) _ hx
        obtain ⟨b, xs, T, q1, q2, q3⟩ := hM.blk k _ _ hc q1'
        obtain rfl : b' = b := by simpa using q1
        obtain ⟨u, hu, _⟩ := h3 σ W0 b' xs T q2 q3
        refine ⟨u, hu, fun W hW => run a W _ u q4 ?_⟩
        obtain ⟨b2, xs2, T2, r1, r2, r3⟩ := hW.blk k _ _ hc q1'
        obtain rfl : b' = b2 := by simpa using r1
        obtain ⟨u2, hu2, hrun⟩ := h3 σ W b' xs2 T2 r2 r3
        obtain rfl := is_same h2 hu hu2
        exact hrun
      · exact h.elim
    · rename_i k off hx
      split at h
      · rename_i T z n xs hc
        rw [nth_eq] at hc
        obtain ⟨u, h1, h2⟩ := loadR_sound h
        refine ⟨.v u, h1, fun base σ a W0 hfr hM => ⟨u, rfl, fun W hW => ?_⟩⟩
        obtain ⟨b, m, c, q1, q4⟩ := hfr x (by simp [ho, Op.operands]) _ hx
        have hr := (hW.blk k _ _ hc q1).1
        exact run a W _ u q4 (h2 W b fun j v hj => by have := hr.cells (g := b) rfl j v hj; rwa [add_at, Nat.zero_add] at this)
      · exact h.elim
    · rename_i b off hx
      unfold loadF at h
      split at h
      · rename_i hA
        split at h
        · rename_i i hi
          obtain ⟨vs, h1, h2, h3⟩ := takeF_sound b _ _ _ h
          refine ⟨_, h2, fun base σ a W0 hfr hM => ⟨_, rfl, fun W hW => calm_value ?_⟩⟩
          have e1 : a.eval x = .pointer (some ⟨b, off, none⟩) := hfr x (by simp [ho, Op.operands]) _ hx
          have hrun := run_load_agg (P := P) (w := W) (b := b) (off := off) hA hi h1 (fun j v hj => hW.sat _ _ _ (h3 j v hj))
          simp [execOp, ho, e1, Instr.loadAt, Instr.sureAddr, hrun]
        · exact h.elim
      · rename_i hA
        obtain ⟨v, h1, h2⟩ := h
        refine ⟨_, h2, fun base σ a W0 hfr hM => ⟨_, rfl, fun W hW => calm_value ?_⟩⟩
        have e1 : a.eval x = .pointer (some ⟨b, off, none⟩) := hfr x (by simp [ho, Op.operands]) _ hx
        have hrun := run_load_cell (P := P) (w := W) (b := b) (off := off) hA (hW.sat _ _ _ h1)
        simp [execOp, ho, e1, Instr.loadAt, Instr.sureAddr, hrun]
      · exact h.elim
    · exact h.elim
  · -- indexAddr
    rename_i t x i ho
    split at h
    · rename_i b off len cap k n z hx hi hz
      obtain ⟨⟨h0, h1⟩, h⟩ := h
      refine ⟨_, h, fun base σ a W0 hfr hM => ⟨_, rfl, fun W hW => calm_value ?_⟩⟩
      have e1 : a.eval x = .slice (some ⟨b, off, none⟩) len cap := hfr x (by simp [ho, Op.operands]) _ hx
      have e2 : a.eval i = .int k n := hfr i (by simp [ho, Op.operands]) _ hi
      unfold elemSize at hz
      split at hz
      · rename_i e he
        split at hz
        · rename_i inf hinf
          cases hz
          simp [execOp, ho, e1, e2, Instr.indexAt, asIntOf, run_underlying he, h0, h1, sizeOf, typeInfo, hinf, add_at]
        · cases hz
      · cases hz
    · rename_i k kk n z hx hi hz
      split at h
      · rename_i T z' len xs hc
        rw [nth_eq] at hc
        split at h
        · rename_i hzz
          obtain rfl : z = z' := of_decide_eq_true hzz
          obtain ⟨⟨h0, h1⟩, h⟩ := h
          refine ⟨_, h, fun base σ a W0 hfr hM => ?_⟩
          have e1 : σ k = some (a.eval x) := (hfr x (by simp [ho, Op.operands]) _ hx).1
          have e2 : a.eval i = .int kk n := hfr i (by simp [ho, Op.operands]) _ hi
          have hr := (hM.blk k _ _ hc e1).1
          rcases hr.2 with ⟨_, hn⟩ | ⟨g, cap, cur, hv, _, hg, hnc, hcm, hcs, _⟩
          · subst hn; exact absurd h1 (by simp; omega)
          · refine ⟨.pointer (some ⟨g, n.toNat * z, none⟩), ⟨g, len, cap, by rw [← hv]; exact e1, rfl⟩, fun W hW => calm_value ?_⟩
            unfold elemSize at hz
            split at hz
            · rename_i e he
              split at hz
              · rename_i inf hinf
                cases hz
                simp [execOp, ho, hv, e2, Instr.indexAt, asIntOf, run_underlying he, h0, h1, sizeOf, typeInfo, hinf, add_at]
              · cases hz
            · cases hz
        · exact h.elim
      · exact h.elim
    · exact .of_exact h
  · -- fieldAddr
    rename_i s x f ho
    split at h
    · rename_i k off fs hx hS
      split at h
      · rename_i g hg
        split at h
        · rename_i i hi
          split at h
          · exact h.elim
          · rename_i z hz
            refine ⟨_, h, fun base σ a W0 hfr hM => ?_⟩
            obtain ⟨b, q1, q2⟩ := hfr x (by simp [ho, Op.operands]) _ hx
            refine ⟨.pointer (some ⟨b, off + g.offset, none⟩), ⟨b, q1, rfl⟩, fun W hW => calm_value ?_⟩
            simp [execOp, ho, q2, Instr.fieldAt, Instr.sureAddr, run_underlying hS, hg, fieldPlace, sizeOf, typeInfo, hi, hz, add_at]
        · exact h.elim
      · exact h.elim
    · rename_i k off fs hx hS
      split at h
      · rename_i g hg
        split at h
        · rename_i i hi
          split at h
          · exact h.elim
          · rename_i z hz
            refine ⟨_, h, fun base σ a W0 hfr hM => ?_⟩
            obtain ⟨b, m, c, q1, q2⟩ := hfr x (by simp [ho, Op.operands]) _ hx
            refine ⟨.pointer (some ⟨b, off + g.offset, none⟩), ⟨b, m, c, q1, rfl⟩, fun W hW => calm_value ?_⟩
            simp [execOp, ho, q2, Instr.fieldAt, Instr.sureAddr, run_underlying hS, hg, fieldPlace, sizeOf, typeInfo, hi, hz, add_at]
        · exact h.elim
      · exact h.elim
    · exact .of_exact h
  · -- nilCheck
    rename_i x ho
    split at h
    · rename_i k off hx
      refine ⟨_, h, fun base σ a W0 hfr hM => ?_⟩
      obtain ⟨b, q1, q2⟩ := hfr x (by simp [ho, Op.operands]) _ hx
      exact ⟨_, ⟨b, q1, rfl⟩, fun W hW => calm_value (by simp [execOp, ho, q2])⟩
    · rename_i k off hx
      refine ⟨_, h, fun base σ a W0 hfr hM => ?_⟩
      obtain ⟨b, m, c, q1, q2⟩ := hfr x (by simp [ho, Op.operands]) _ hx
      exact ⟨_, ⟨b, m, c, q1, rfl⟩, fun W hW => calm_value (by simp [execOp, ho, q2])⟩
    · exact .of_exact h
  · -- call
    rename_i c ho
    split at h
    · rename_i t x hl
      split at h
      · rename_i k hx
        split at h
        · rename_i T z n xs hc hT
          rw [nth_eq] at hc
          refine ⟨_, h, fun base σ a W0 hfr hM => ⟨_, rfl, fun W hW => calm_value ?_⟩⟩
          unfold lenArg at hl
          split at hl
          · rename_i hcal
            split at hl
            · rename_i t' x' ht' hx'
              cases hl
              have hca : c.args = #[x] := by rw [← Array.toArray_toList (xs := c.args), hx']
              have hct : c.argTypes = #[t] := by rw [← Array.toArray_toList (xs := c.argTypes), ht']
              have e1 : σ k = some (a.eval x) := (hfr x (by simp [ho, Op.operands, Call.operands, hcal, hca]) _ hx).1
              have hr := (hW.blk k _ _ hc e1).1
              obtain ⟨ad, cap, hv⟩ : ∃ ad cap, a.eval x = .slice ad n cap := by
                rcases hr.2 with ⟨hv, hn⟩ | ⟨g, cap, cur, hv, _⟩
                · exact ⟨none, 0, by rw [hn]; exact hv⟩
                · exact ⟨_, _, hv⟩
              unfold isSlice at hT
              split at hT
              · rename_i e he
                simp [execOp, ho, resolve, hcal, invoke, builtin, hca, hct, Builtin.len_, run_underlying he, hv, goInt]
              · cases hT
            · cases hl
          · cases hl
        · exact h.elim
      · exact .of_exact h
    · exact .of_exact h
  · -- build
    rename_i t ps ho
    split at h
    · rename_i hx
      split at h
      · rename_i l hl
        rw [forceL_eq] at h
        refine ⟨_, h, fun base σ a W0 hfr hM => ⟨_, rfl, fun W hW => calm_value ?_⟩⟩
        have hrun := run_buildX hl W
        have e : (ps.map fun (p : Nat × Operand) => (p.1, a.eval p.2)) = (partsX fr ps).toArray := by
          unfold partsX
          apply Array.ext'
          simp only [Array.toList_map]
          refine List.map_congr_left fun p hp => ?_
          rw [isx_eq (hfr p.2 (by simp only [ho, Op.operands, List.mem_toArray, List.mem_map]; exact ⟨p, by simpa using hp, rfl⟩)) (by simpa using List.all_eq_true.1 hx p hp)]
        have e2 : execOp a.eval o = (do pure (.value (← Instr.build t (ps.map fun (p : Nat × Operand) => (p.1, a.eval p.2))))) := by
          simp only [execOp, ho]
        rw [e2, e]
        simp only [Sem.run_bind, hrun, Result.andThen_ok, Sem.run_pure]
      · exact h.elim
    · exact h.elim
  · exact h.elim
  · exact h.elim
  · exact h.elim
  · exact h.elim
  · exact .of_exact h

end Go.Proofs.Ytiefoahdikmilaa
