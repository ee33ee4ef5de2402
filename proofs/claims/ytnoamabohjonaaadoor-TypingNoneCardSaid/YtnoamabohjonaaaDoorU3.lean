/- The abstract machine's operations, one by one (first part): reading, reckoning, building. No condition. -/
import Derived.Test.YtnoamabohjonaaaDoorU2
namespace Go.Proofs.YtnoamabohjonaaaDoor.U
open Go Go.RowKit Go.Sort
set_option linter.unusedVariables false
set_option linter.unusedSimpArgs false
variable {R : Type} {D : Dom R} {P : Program} {cf : CallF R} {fr : Tr Value} {s : AS} {o : Oper} {k : Value → AS → R}

def moveC (D : Dom R) (fr : Tr Value) (s : AS) (x : Operand) (k : Value → AS → R) : R := onV D (evC s.glb fr x) fun u => k u s
theorem moveC_sound {x : Operand} (ho : o.op = .move x ∨ o.op = .assign x) (h : D.T (moveC D fr s x k)) : ∃ u s', D.T (k u s') ∧ OpOk P fr o s u s' := by
  obtain ⟨u, h1, h2⟩ := onV_sound h
  refine ⟨u, s, h2, op_value fun W0 β a W hR hf => ⟨a.eval x, ?_, hf x (by rcases ho with ho | ho <;> simp [ho, Op.operands]) u h1⟩⟩
  rcases ho with ho | ho <;> simp [execOp, ho]

def pickC (D : Dom R) (fr : Tr Value) (s : AS) (c x y : Operand) (k : Value → AS → R) : R :=
  match evC s.glb fr c with
  | some (.bool b) => match b with
    | true => onV D (evC s.glb fr x) fun u => k u s
    | false => onV D (evC s.glb fr y) fun u => k u s
  | _ => D.bad
theorem pickC_sound {c x y : Operand} (ho : o.op = .pick c x y) (h : D.T (pickC D fr s c x y k)) : ∃ u s', D.T (k u s') ∧ OpOk P fr o s u s' := by
  unfold pickC at h
  split at h
  · rename_i b hb
    have run : ∀ (W0 : World) (β : Bt) (a : Act) (W : World), OpR β s.glb fr a o → (execOp a.eval o).run P W = .ok (.value (if b then a.eval x else a.eval y)) W := fun W0 β a W hf => by
      have := (hf c (by simp [ho, Op.operands]) _ hb).flat_eq rfl
      simp [execOp, ho, this, asBool]
    split at h
    · obtain ⟨u, h1, h2⟩ := onV_sound h
      exact ⟨u, s, h2, op_value fun W0 β a W hR hf => ⟨a.eval x, by simpa using run W0 β a W hf, hf x (by simp [ho, Op.operands]) u h1⟩⟩
    · obtain ⟨u, h1, h2⟩ := onV_sound h
      exact ⟨u, s, h2, op_value fun W0 β a W hR hf => ⟨a.eval y, by simpa using run W0 β a W hf, hf y (by simp [ho, Op.operands]) u h1⟩⟩
  · exact absurd h D.nb

def loadC (D : Dom R) (P : Program) (fr : Tr Value) (s : AS) (t : TypeId) (x : Operand) (k : Value → AS → R) : R :=
  match evC s.glb fr x with
  | some (.pointer (some ⟨b, off, q⟩)) => onV D (rowOf q (lookC s b)) fun xs => partC D P t xs off fun u => k u s
  | _ => D.bad
theorem loadC_sound {t : TypeId} {x : Operand} (ho : o.op = .load t x) (h : D.T (loadC D P fr s t x k)) : ∃ u s', D.T (k u s') ∧ OpOk P fr o s u s' := by
  unfold loadC at h
  split at h
  · rename_i b off q hx
    replace h := onV_sound h
    obtain ⟨xs, hb, h⟩ := h
    obtain ⟨u, h1, h2⟩ := partC_sound h
    refine ⟨u, s, h2, op_value fun W0 β a W hR hf => ?_⟩
    obtain ⟨r, sp, e1, e2, _⟩ := (hf x (by simp [ho, Op.operands]) _ hx).ptr_any
    obtain ⟨xs', g1, _, _, g2⟩ := hR.row hb e1
    obtain ⟨v, h3, h4⟩ := h1.rel g1
    refine ⟨v, ?_, h4⟩
    simp [execOp, ho, e2, Instr.loadAt, Instr.sureAddr, h3.loadB g2]
  · exact absurd h D.nb

/-- An index within its bound. -/
def idxC (D : Dom R) (n : Nat) (i : Int) (k : Nat → R) : R :=
  match i with
  | .ofNat i => ifB D (Nat.blt i n) (k i)
  | .negSucc _ => D.bad
theorem idxC_sound {n : Nat} {i : Int} {k : Nat → R} (h : D.T (idxC D n i k)) : 0 ≤ i ∧ i < n ∧ D.T (k i.toNat) := by
  unfold idxC at h
  split at h
  · rename_i i
    obtain ⟨h1, h2⟩ := ifB_sound h
    have h3 : i < n := of_decide_eq_true (by simpa [Nat.blt_eq] using h1)
    refine ⟨by simp, ?_, by simpa using h2⟩
    show ((i : Nat) : Int) < (n : Int)
    omega
  · exact absurd h D.nb

def indexAddrC (D : Dom R) (P : Program) (cf : CallF R) (o : Oper) (fr : Tr Value) (s : AS) (t : TypeId) (x i : Operand) (k : Value → AS → R) : R :=
  match evC s.glb fr x, evC s.glb fr i with
  | some (.slice (some ⟨b, off, sp⟩) n _), some (.int _ j) => onV D (elemSize P t) fun z => idxC D n j fun j => D.frcN (off + j * z) fun q => k (.pointer (some ⟨b, q, vq sp⟩)) s
  | some (.pointer (some ⟨b, off, none⟩)), some (.int _ j) => match P.underlying t with
    | some (.array len e) => onV D (P.info? e) fun i => idxC D len j fun j => D.frcN (off + j * i.size) fun q => k (.pointer (some ⟨b, q, none⟩)) s
    | _ => D.bad
  | _, _ => exactC D P cf o fr s k
theorem indexAddrC_sound (hc : CallOk P D cf) (hl : s.lo ≤ s.next) {t : TypeId} {x i : Operand} (ho : o.op = .indexAddr t x i) (h : D.T (indexAddrC D P cf o fr s t x i k)) : ∃ u s', D.T (k u s') ∧ OpOk P fr o s u s' := by
  unfold indexAddrC at h
  split at h
  · rename_i b off q n c kk j hx hi
    obtain ⟨z, hz, h⟩ := onV_sound h
    obtain ⟨h0, h1, h⟩ := idxC_sound h
    rw [D.frcN_eq] at h
    refine ⟨_, s, h, op_value fun W0 β a W hR hf => ?_⟩
    obtain ⟨r, sp, c', e1, e2, _⟩ := (hf x (by simp [ho, Op.operands]) _ hx).sl_any
    have e3 := (hf i (by simp [ho, Op.operands]) _ hi).flat_eq rfl
    obtain ⟨e, inf, he, hinf, rfl⟩ := elemSize_spec hz
    refine ⟨.pointer (some ⟨r, vo q sp + (off + j.toNat * inf.size), none⟩), ?_, .mk_ptr e1 q _⟩
    simp [execOp, ho, e2, e3, Instr.indexAt, asIntOf, run_underlying he, Nat.add_assoc, h0, h1, sizeOf, typeInfo, hinf, add_at]
  · rename_i b off kk j hx hi
    split at h
    · rename_i len e hu
      obtain ⟨inf, hinf, h⟩ := onV_sound h
      obtain ⟨h0, h1, h⟩ := idxC_sound h
      rw [D.frcN_eq] at h
      refine ⟨_, s, h, op_value fun W0 β a W hR hf => ?_⟩
      obtain ⟨r, sp, e1, e2⟩ := (hf x (by simp [ho, Op.operands]) _ hx).ptr_inv
      have e3 := (hf i (by simp [ho, Op.operands]) _ hi).flat_eq rfl
      refine ⟨.pointer (some ⟨r, off + j.toNat * inf.size, none⟩), ?_, .ptr _ _ _ _ e1⟩
      simp [execOp, ho, e2, e3, Instr.indexAt, Instr.sureAddr, asIntOf, run_underlying hu, h0, h1, sizeOf, typeInfo, hinf, add_at]
    · exact absurd h D.nb
  · exact exactC_sound hc hl h

def indexC (D : Dom R) (P : Program) (cf : CallF R) (o : Oper) (fr : Tr Value) (s : AS) (t : TypeId) (x i : Operand) (k : Value → AS → R) : R :=
  match evC s.glb fr x, evC s.glb fr i with
  | some (.agg ⟨cs⟩), some (.int _ j) => match P.underlying t with
    | some (.array len e) => onV D (P.info? e) fun i => idxC D len j fun j => partC D P e cs (j * i.size) fun u => k u s
    | _ => D.bad
  | _, _ => exactC D P cf o fr s k
theorem indexC_sound (hc : CallOk P D cf) (hl : s.lo ≤ s.next) {t : TypeId} {x i : Operand} (ho : o.op = .index t x i) (h : D.T (indexC D P cf o fr s t x i k)) : ∃ u s', D.T (k u s') ∧ OpOk P fr o s u s' := by
  unfold indexC at h
  split at h
  · rename_i cs kk j hx hi
    split at h
    · rename_i len e hu
      obtain ⟨inf, hinf, h⟩ := onV_sound h
      obtain ⟨h0, h1, h⟩ := idxC_sound h
      obtain ⟨u, h2, h⟩ := partC_sound h
      refine ⟨_, s, h, op_value fun W0 β a W hR hf => ?_⟩
      obtain ⟨cs', e1, e2⟩ := (hf x (by simp [ho, Op.operands]) _ hx).agg_inv
      have e3 := (hf i (by simp [ho, Op.operands]) _ hi).flat_eq rfl
      obtain ⟨v, h3, h4⟩ := h2.rel e1
      refine ⟨v, ?_, h4⟩
      have hq := h3.part W
      simp [execOp, ho, e2, e3, Instr.index, asIntOf, run_underlying hu, h0, h1, sizeOf, typeInfo, hinf] at hq ⊢
      simp [hq]
    · exact absurd h D.nb
  · exact exactC_sound hc hl h

def fieldC (D : Dom R) (P : Program) (fr : Tr Value) (s : AS) (t : TypeId) (x : Operand) (f : Nat) (k : Value → AS → R) : R :=
  match evC s.glb fr x, P.underlying t with
  | some (.agg ⟨cs⟩), some (.struct fs) => onV D fs[f]? fun g => partC D P g.type cs g.offset fun u => k u s
  | _, _ => D.bad
theorem fieldC_sound {t : TypeId} {x : Operand} {f : Nat} (ho : o.op = .field t x f) (h : D.T (fieldC D P fr s t x f k)) : ∃ u s', D.T (k u s') ∧ OpOk P fr o s u s' := by
  unfold fieldC at h
  split at h
  · rename_i cs fs hx hu
    obtain ⟨g, hg, h⟩ := onV_sound h
    obtain ⟨u, h2, h⟩ := partC_sound h
    refine ⟨_, s, h, op_value fun W0 β a W hR hf => ?_⟩
    obtain ⟨cs', e1, e2⟩ := (hf x (by simp [ho, Op.operands]) _ hx).agg_inv
    obtain ⟨v, h3, h4⟩ := h2.rel e1
    refine ⟨v, ?_, h4⟩
    have hq := h3.part W
    simp [execOp, ho, e2, Instr.field, run_underlying hu, hg, asAgg, hq]
  · exact absurd h D.nb

def fieldAddrC (D : Dom R) (P : Program) (cf : CallF R) (o : Oper) (fr : Tr Value) (s : AS) (t : TypeId) (x : Operand) (f : Nat) (k : Value → AS → R) : R :=
  match evC s.glb fr x, P.underlying t with
  | some (.pointer (some ⟨b, off, sp⟩)), some (.struct fs) => onV D fs[f]? fun g => onV D (P.info? g.type) fun i => ifB D (Nat.blt 0 i.size) (D.frcN (off + g.offset) fun q => k (.pointer (some ⟨b, q, vq sp⟩)) s)
  | _, _ => D.bad
theorem fieldAddrC_sound {t : TypeId} {x : Operand} {f : Nat} (ho : o.op = .fieldAddr t x f) (h : D.T (fieldAddrC D P cf o fr s t x f k)) : ∃ u s', D.T (k u s') ∧ OpOk P fr o s u s' := by
  unfold fieldAddrC at h
  split at h
  · rename_i b off q fs hx hS
    obtain ⟨g, hg, h⟩ := onV_sound h
    obtain ⟨i, hi, h⟩ := onV_sound h
    obtain ⟨hz, h⟩ := ifB_sound h
    have hz : i.size ≠ 0 := by
      have : 0 < i.size := of_decide_eq_true (by simpa [Nat.blt_eq] using hz)
      omega
    rw [D.frcN_eq] at h
    refine ⟨_, s, h, op_value fun W0 β a W hR hf => ?_⟩
    obtain ⟨r, sp, e1, e2, _⟩ := (hf x (by simp [ho, Op.operands]) _ hx).ptr_any
    exact ⟨.pointer (some ⟨r, vo q sp + (off + g.offset), none⟩), by simp [execOp, ho, e2, Instr.fieldAt, Instr.sureAddr, run_underlying hS, hg, fieldPlace, sizeOf, typeInfo, hi, hz, add_at, Nat.add_assoc], .mk_ptr e1 q _⟩
  · exact absurd h D.nb

def nilC (D : Dom R) (P : Program) (cf : CallF R) (o : Oper) (fr : Tr Value) (s : AS) (x : Operand) (k : Value → AS → R) : R :=
  match evC s.glb fr x with
  | some (.pointer (some ⟨b, off, q⟩)) => k (.pointer (some ⟨b, off, q⟩)) s
  | some (.func (.func g) a b) => k (.func (.func g) a b) s
  | some (.iface t u) => k (.iface t u) s
  | _ => exactC D P cf o fr s k
theorem nilC_sound (hc : CallOk P D cf) (hl : s.lo ≤ s.next) {x : Operand} (ho : o.op = .nilCheck x) (h : D.T (nilC D P cf o fr s x k)) : ∃ u s', D.T (k u s') ∧ OpOk P fr o s u s' := by
  unfold nilC at h
  split at h
  · rename_i b off sq hx
    refine ⟨_, s, h, op_value fun W0 β a W hR hf => ?_⟩
    have q := hf x (by simp [ho, Op.operands]) _ hx
    obtain ⟨r, sp, e1, e2, e3⟩ := q.ptr_any
    refine ⟨.pointer (some ⟨r, vo sq sp + off, none⟩), by simp [execOp, ho, e2], ?_⟩
    have := VR.mk_ptr e1 sq off
    rwa [e3] at this
  · rename_i g a0 b0 hx
    refine ⟨_, s, h, op_value fun W0 β a W hR hf => ?_⟩
    have q := hf x (by simp [ho, Op.operands]) _ hx
    cases a0 with
    | mk l1 => cases b0 with
      | mk l2 =>
        obtain ⟨a', b', e1, e2, e3⟩ := q.func_inv
        exact ⟨.func (.func g) ⟨a'⟩ ⟨b'⟩, by simp [execOp, ho, e3], .func _ _ _ _ _ e1.1 e2.1 e1.2 e2.2⟩
  · rename_i t u hx
    refine ⟨_, s, h, op_value fun W0 β a W hR hf => ?_⟩
    have q := hf x (by simp [ho, Op.operands]) _ hx
    obtain ⟨v, e1, e2⟩ := q.ifc_inv
    exact ⟨.iface t v, by simp [execOp, ho, e2], .ifc _ _ _ e1⟩
  · exact exactC_sound hc hl h

def extractC (D : Dom R) (fr : Tr Value) (s : AS) (x : Operand) (i : Nat) (k : Value → AS → R) : R :=
  match evC s.glb fr x with
  | some (.tuple ⟨l⟩) => onV D (nth l i) fun u => k u s
  | _ => D.bad
theorem extractC_sound {x : Operand} {i : Nat} (ho : o.op = .extract x i) (h : D.T (extractC D fr s x i k)) : ∃ u s', D.T (k u s') ∧ OpOk P fr o s u s' := by
  unfold extractC at h
  split at h
  · rename_i l hx
    obtain ⟨u, hu, h⟩ := onV_sound h
    rw [nth_eq] at hu
    refine ⟨_, s, h, op_value fun W0 β a W hR hf => ?_⟩
    obtain ⟨l', e1, e2⟩ := (hf x (by simp [ho, Op.operands]) _ hx).tup_inv
    obtain ⟨v, h1, h2⟩ := e1.get hu
    exact ⟨v, by simp [execOp, ho, e2, Instr.extract, h1], h2⟩
  · exact absurd h D.nb

def makeIfaceC (D : Dom R) (P : Program) (fr : Tr Value) (s : AS) (t : TypeId) (x : Operand) (k : Value → AS → R) : R :=
  match P.concrete t with
  | true => onV D (evC s.glb fr x) fun u => k (.iface t u) s
  | false => D.bad
theorem makeIfaceC_sound {t : TypeId} {x : Operand} (ho : o.op = .makeInterface t x) (h : D.T (makeIfaceC D P fr s t x k)) : ∃ u s', D.T (k u s') ∧ OpOk P fr o s u s' := by
  unfold makeIfaceC at h
  split at h
  · rename_i hc
    obtain ⟨u, hu, h⟩ := onV_sound h
    refine ⟨_, s, h, op_value fun W0 β a W hR hf => ?_⟩
    have e := hf x (by simp [ho, Op.operands]) _ hu
    exact ⟨.iface t (a.eval x), by simp [execOp, ho, run_makeInterface (P := P) W t _ hc], .ifc _ _ _ e⟩
  · exact absurd h D.nb
def assertC (D : Dom R) (P : Program) (fr : Tr Value) (s : AS) (x : Operand) (t : TypeId) (ok : Bool) (k : Value → AS → R) : R :=
  match evC s.glb fr x with
  | some (.iface t' u) => match P.concrete t, Nat.beq t' t with
    | true, true => match ok with
      | true => k (.tuple ⟨[u, .bool true]⟩) s
      | false => k u s
    | _, _ => D.bad
  | _ => D.bad
theorem assertC_sound {t xT : TypeId} {x : Operand} {ok : Bool} (ho : o.op = .typeAssert x xT t ok) (h : D.T (assertC D P fr s x t ok k)) : ∃ u s', D.T (k u s') ∧ OpOk P fr o s u s' := by
  unfold assertC at h
  split at h
  · rename_i t' u hx
    split at h
    · rename_i hc hb
      obtain rfl := Nat.eq_of_beq_eq_true hb
      have run : ∀ (v : Value) (W : World), (Instr.typeAssert (.iface t' v) xT t' ok).run P W = .ok (if ok then .tuple #[v, .bool true] else v) W := fun v W => by
        unfold Program.concrete at hc
        cases hd : P.underlying t' with
        | none => simp [hd] at hc
        | some d => cases d <;> first | (simp [hd] at hc; done) | simp [Instr.typeAssert, run_underlying hd]
      split at h
      · refine ⟨_, s, h, op_value fun W0 β a W hR hf => ?_⟩
        obtain ⟨v, e1, e2⟩ := (hf x (by simp [ho, Op.operands]) _ hx).ifc_inv
        have er := run v W
        exact ⟨.tuple ⟨[v, .bool true]⟩, by simp [execOp, ho, e2, er], by
          have hv : VRs β [u, .bool true] [v, .bool true] := .cons e1 (.cons (.of_flat _ rfl) (.nil _))
          exact .tup _ _ hv.1 hv.2⟩
      · refine ⟨_, s, h, op_value fun W0 β a W hR hf => ?_⟩
        obtain ⟨v, e1, e2⟩ := (hf x (by simp [ho, Op.operands]) _ hx).ifc_inv
        have er := run v W
        exact ⟨v, by simp [execOp, ho, e2, er], e1⟩
    · exact absurd h D.nb
  · exact absurd h D.nb

/-- Comparisons with nil. -/
def nilsC (P : Program) (t : TypeId) (x y : Value) : Option Bool :=
  match P.underlying t, x, y with
  | some (.pointer _), .pointer none, .pointer none => some true
  | some (.pointer _), .pointer none, .pointer (some _) => some false
  | some (.pointer _), .pointer (some _), .pointer none => some false
  | some (.slice _), .slice none _ _, .slice none _ _ => some true
  | some (.slice _), .slice none _ _, .slice (some _) _ _ => some false
  | some (.slice _), .slice (some _) _ _, .slice none _ _ => some false
  | some (.map _ _), .map none, .map none => some true
  | some (.map _ _), .map none, .map (some _) => some false
  | some (.map _ _), .map (some _), .map none => some false
  | some (.func _ _ _), .nilFunc, .nilFunc => some true
  | some (.func _ _ _), .nilFunc, .func _ _ _ => some false
  | some (.func _ _ _), .func _ _ _, .nilFunc => some false
  | _, _, _ => none
set_option maxHeartbeats 2000000 in
theorem nilsC_sound {t : TypeId} {x y x' y' : Value} {b : Bool} {β : Bt} (h : nilsC P t x y = some b) (hx : VR β x x') (hy : VR β y y') (W : World) : (Op.equal t x' y').run P W = .ok b W ∧ ∀ u v, x' ≠ .agg u ∨ y' ≠ .agg v := by
  unfold nilsC at h

  split at h <;> cases h <;> rename_i hu <;> cases hx <;> cases hy <;>
    (refine ⟨?_, fun u v => .inl (by simp)⟩; show (Op.equalIn (9999 + 1) t _ _).run P W = _; unfold Op.equalIn; simp [run_underlying hu])

end Go.Proofs.YtnoamabohjonaaaDoor.U
