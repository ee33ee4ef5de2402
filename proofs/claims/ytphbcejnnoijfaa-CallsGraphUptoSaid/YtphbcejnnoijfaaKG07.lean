
import Derived.Test.YtphbcejnnoijfaaKG06
namespace Go.Proofs.Ytphbcejnnoijfaa.U
open Go Go.RowKit Go.Sort
set_option linter.unusedVariables false
set_option linter.unusedSimpArgs false
variable {R : Type} {D : Dom R} {P : Program} {cf : CallF R} {fr : Tr Value} {s : AS} {o : Oper} {k : Value → AS → R}
theorem VR.imP_inv {β : Bt} {x v : Value} {o : Nat} (h : VR β (imP x o) v) : ∃ ws r off, VRs β (cellsOf x) ws ∧ (∀ (i : Nat) (v : Value), ws[i]? = some v → β.z r (off + i) = some v) ∧ (∀ v, v ∈ ws → v.oneCell' = true) ∧ v = .pointer (some ⟨r, off + o, none⟩) := by
  generalize hu : imP x o = u at h
  cases h <;> simp only [imP, imS, imE, Value.func.injEq, reduceCtorEq, Fn.yield.injEq, Array.mk.injEq, List.cons.injEq, and_true, false_and, and_false, Value.bool.injEq, Bool.false_eq_true, Bool.true_eq_false] at hu <;> try (subst hu; rename_i hf; simp [flat1] at hf)
  rename_i x' ws r off o' hl hm h1 h2
  obtain ⟨rfl, rfl⟩ := hu
  exact ⟨ws, r, off, ⟨hl.symm, h1⟩, hm, h2, rfl⟩
theorem VR.imS_inv {β : Bt} {xs : List Value} {v : Value} (h : VR β (imS xs) v) : (xs = [] ∧ ∃ ad, v = .slice ad 0 0) ∨ ∃ ws z r off c, (∀ x, x ∈ xs → (cellsOf x).length = z) ∧ xs.length ≤ c ∧ VRs β (cellsAll xs) ws ∧ (∀ (i : Nat) (v : Value), ws[i]? = some v → β.z r (off + i) = some v) ∧ (∀ v, v ∈ ws → v.oneCell' = true) ∧ v = .slice (some ⟨r, off, none⟩) xs.length c := by
  generalize hu : imS xs = u at h
  cases h <;> simp only [imP, imS, imE, Value.func.injEq, reduceCtorEq, Fn.yield.injEq, Array.mk.injEq, List.cons.injEq, and_true, true_and, false_and, and_false, Nat.zero_ne_one, Value.bool.injEq, Bool.false_eq_true, Bool.true_eq_false] at hu <;> try (subst hu; rename_i hf; simp [flat1] at hf)
  · subst hu
    exact .inl ⟨rfl, _, rfl⟩
  · rename_i xs' ws z r off c hz hc hl hm h1 h2
    subst hu
    exact .inr ⟨ws, z, r, off, c, hz, hc, ⟨hl.symm, h1⟩, hm, h2, rfl⟩
theorem VR.imE_inv {β : Bt} {v : Value} (h : VR β imE v) : ∃ ad, v = .slice ad 0 0 := by
  generalize hu : imE = u at h
  cases h <;> simp only [imP, imS, imE, Value.func.injEq, reduceCtorEq, Fn.yield.injEq, Array.mk.injEq, List.cons.injEq, and_true, true_and, false_and, and_false, Nat.one_ne_zero, Value.bool.injEq, Bool.false_eq_true, Bool.true_eq_false] at hu <;> try (subst hu; rename_i hf; simp [flat1] at hf)
  rename_i ad
  exact ⟨ad, rfl⟩
theorem cellsAll_at {z : Nat} : ∀ {xs : List Value} {j : Nat} {x : Value}, (∀ x, x ∈ xs → (cellsOf x).length = z) → xs[j]? = some x → ((cellsAll xs).drop (j * z)).take z = cellsOf x ∧ j * z + z ≤ (cellsAll xs).length
  | [], j, x, _, h => by simp at h
  | y :: xs, 0, x, hz, h => by
    simp at h
    subst h
    have := hz y (by simp)
    simp only [cellsAll, List.flatMap_cons, Nat.zero_mul, List.drop_zero, List.length_append]
    exact ⟨by rw [← this, List.take_left], by omega⟩
  | y :: xs, j + 1, x, hz, h => by
    have hy := hz y (by simp)
    obtain ⟨h1, h2⟩ := cellsAll_at (j := j) (fun x hx => hz x (List.mem_cons_of_mem _ hx)) (by simpa using h)
    have e : (j + 1) * z = (cellsOf y).length + j * z := by rw [Nat.add_mul, hy]; omega
    simp only [cellsAll, List.flatMap_cons, List.length_append] at h1 h2 ⊢
    rw [e, ← List.drop_drop, List.drop_left]
    exact ⟨h1, by omega⟩
theorem cellsAll_drop {z : Nat} : ∀ (xs : List Value) (l : Nat), (∀ x, x ∈ xs → (cellsOf x).length = z) → cellsAll (xs.drop l) = (cellsAll xs).drop (l * z)
  | [], l, _ => by simp [cellsAll]
  | x :: xs, 0, _ => by simp
  | x :: xs, l + 1, h => by
    have e : (l + 1) * z = (cellsOf x).length + l * z := by rw [Nat.add_mul, h x (List.mem_cons_self ..)]; omega
    have ih := cellsAll_drop xs l fun y hy => h y (List.mem_cons_of_mem _ hy)
    rw [List.drop_succ_cons, ih, e, ← List.drop_drop]
    simp only [cellsAll, List.flatMap_cons, List.drop_left]
theorem cellsAll_take {z : Nat} : ∀ (xs : List Value) (l : Nat), (∀ x, x ∈ xs → (cellsOf x).length = z) → cellsAll (xs.take l) = (cellsAll xs).take (l * z)
  | [], l, _ => by simp [cellsAll]
  | x :: xs, 0, _ => by simp [cellsAll]
  | x :: xs, l + 1, h => by
    have e : (l + 1) * z = (cellsOf x).length + l * z := by rw [Nat.add_mul, h x (List.mem_cons_self ..)]; omega
    have ih := cellsAll_take xs l fun y hy => h y (List.mem_cons_of_mem _ hy)
    have e2 : cellsAll ((x :: xs).take (l + 1)) = cellsOf x ++ cellsAll (xs.take l) := by simp [cellsAll]
    have e3 : cellsAll (x :: xs) = cellsOf x ++ cellsAll xs := by simp [cellsAll]
    rw [e2, e3, ih, e, List.take_append]
    have h1 : (cellsOf x).length + l * z - (cellsOf x).length = l * z := by omega
    have h2 : (cellsOf x).take ((cellsOf x).length + l * z) = cellsOf x := List.take_of_length_le (by omega)
    rw [h1, h2]
theorem VR.imS_part {β : Bt} {ws xs : List Value} {z r off c l n : Nat} (hz : ∀ x, x ∈ xs → (cellsOf x).length = z) (hc : n ≤ c) (h1 : VRs β (cellsAll xs) ws) (hm : ∀ (i : Nat) (v : Value), ws[i]? = some v → β.z r (off + i) = some v) (h2 : ∀ v, v ∈ ws → v.oneCell' = true) (hl : l + n ≤ xs.length) : VR β (imS ((xs.drop l).take n)) (.slice (some ⟨r, off + l * z, none⟩) n c) := by
  have hlen : ((xs.drop l).take n).length = n := by simp; omega
  have hz1 : ∀ x, x ∈ xs.drop l → (cellsOf x).length = z := fun x hx => hz x (List.mem_of_mem_drop hx)
  have hz2 : ∀ x, x ∈ (xs.drop l).take n → (cellsOf x).length = z := fun x hx => hz1 x (List.mem_of_mem_take hx)
  have he : cellsAll ((xs.drop l).take n) = ((cellsAll xs).drop (l * z)).take (n * z) := by rw [cellsAll_take _ _ hz1, cellsAll_drop _ _ hz]
  have hv := (h1.drop (l * z)).take (n * z)
  rw [← he] at hv
  have := VR.ims (β := β) ((xs.drop l).take n) ((ws.drop (l * z)).take (n * z)) z r (off + l * z) c hz2 (by rw [hlen]; exact hc) hv.1.symm (fun i v hi => by
    have hil := (List.getElem?_eq_some_iff.1 hi).1
    rw [List.getElem?_take_of_lt (by rw [List.length_take] at hil; omega), List.getElem?_drop] at hi
    rw [Nat.add_assoc]
    exact hm _ v hi) hv.2 fun v hv => h2 v (List.mem_of_mem_drop (List.mem_of_mem_take hv))
  rwa [hlen] at this
theorem VR.imS_at {β : Bt} {ws xs : List Value} {z r off j : Nat} {x : Value} (hz : ∀ x, x ∈ xs → (cellsOf x).length = z) (h1 : VRs β (cellsAll xs) ws) (hm : ∀ (i : Nat) (v : Value), ws[i]? = some v → β.z r (off + i) = some v) (h2 : ∀ v, v ∈ ws → v.oneCell' = true) (hx : xs[j]? = some x) (o : Nat) : VR β (imP x o) (.pointer (some ⟨r, off + j * z + o, none⟩)) := by
  obtain ⟨e1, e2⟩ := cellsAll_at hz hx
  have hv := (h1.drop (j * z)).take z
  rw [e1] at hv
  refine .imp x ((ws.drop (j * z)).take z) r (off + j * z) o hv.1.symm (fun i v hi => ?_) hv.2 fun v hv => h2 v (List.mem_of_mem_drop (List.mem_of_mem_take hv))
  have hil := (List.getElem?_eq_some_iff.1 hi).1
  rw [List.getElem?_take_of_lt (by rw [List.length_take] at hil; omega), List.getElem?_drop] at hi
  rw [Nat.add_assoc]
  exact hm _ v hi
def moveC (D : Dom R) (fr : Tr Value) (s : AS) (x : Operand) (k : Value → AS → R) : R := onV D (evC s.glb fr x) fun u => k u s
theorem moveC_sound {x : Operand} (ho : o.op = .move x ∨ o.op = .assign x) (h : D.T (moveC D fr s x k)) : ∃ u s', D.T (k u s') ∧ OpOk P fr o s u s' := by
  obtain ⟨u, h1, h2⟩ := onV_sound h
  refine ⟨u, s, h2, op_value fun W0 β a W hR hf => ⟨a.eval x, ?_, hf x (by rcases ho with ho | ho <;> simp [ho, Op.operands]) u h1⟩⟩
  rcases ho with ho | ho <;> simp [execOp, ho]
def pickC (D : Dom R) (fr : Tr Value) (s : AS) (c x y : Operand) (k : Value → AS → R) : R :=
  match evC s.glb fr c with
  | some (.bool b) => D.lt b fun b => match b with
    | true => onV D (evC s.glb fr x) fun u => k u s
    | false => onV D (evC s.glb fr y) fun u => k u s
  | _ => D.bad
theorem pickC_sound {c x y : Operand} (ho : o.op = .pick c x y) (h : D.T (pickC D fr s c x y k)) : ∃ u s', D.T (k u s') ∧ OpOk P fr o s u s' := by
  unfold pickC at h
  split at h
  · rename_i b hb
    have run : ∀ (W0 : World) (β : Bt) (a : Act) (W : World), OpR β s.glb fr a o → (execOp a.eval o).run P W = .ok (.value (if b then a.eval x else a.eval y)) W := fun W0 β a W hf => by
      have := (hf c (by simp [ho, Op.operands]) _ hb).flat_eq rfl
      simp [execOp, ho, this, asBool]
    replace h := D.lt_ok _ _ h
    have h' : (b = true ∧ D.T (onV D (evC s.glb fr x) fun u => k u s)) ∨ (b = false ∧ D.T (onV D (evC s.glb fr y) fun u => k u s)) := by
      cases b
      · exact .inr ⟨rfl, h⟩
      · exact .inl ⟨rfl, h⟩
    clear h
    rcases h' with ⟨rfl, h⟩ | ⟨rfl, h⟩
    · obtain ⟨u, h1, h2⟩ := onV_sound h
      exact ⟨u, s, h2, op_value fun W0 β a W hR hf => ⟨a.eval x, by simpa using run W0 β a W hf, hf x (by simp [ho, Op.operands]) u h1⟩⟩
    · obtain ⟨u, h1, h2⟩ := onV_sound h
      exact ⟨u, s, h2, op_value fun W0 β a W hR hf => ⟨a.eval y, by simpa using run W0 β a W hf, hf y (by simp [ho, Op.operands]) u h1⟩⟩
  · exact absurd h D.nb
def loadC (D : Dom R) (P : Program) (fr : Tr Value) (s : AS) (t : TypeId) (x : Operand) (k : Value → AS → R) : R :=
  match evC s.glb fr x with
  | some (.pointer (some ⟨b, off, q⟩)) => onV D (rowOf q (lookC s b)) fun xs => partC D P t xs off fun u => k u s
  | some (.func (.yield o) ⟨[x]⟩ ⟨[.bool false]⟩) => partC D P t (cellsOf x) o fun u => k u s
  | _ => D.bad
theorem loadC_sound {t : TypeId} {x : Operand} (ho : o.op = .load t x) (h : D.T (loadC D P fr s t x k)) : ∃ u s', D.T (k u s') ∧ OpOk P fr o s u s' := by
  unfold loadC at h
  split at h
  · rename_i b off q hx
    replace h := onV_sound h
    obtain ⟨xs, hb, h⟩ := h
    obtain ⟨u, h1, h2⟩ := partC_sound h
    refine ⟨u, s, h2, op_value fun W0 β a W hR hf => ?_⟩
    obtain ⟨r, sp, e1, e2, _⟩ := (hf x (by simp [ho, Op.operands]) _ hx).ptr_any
    obtain ⟨xs', g1, _, _, g2⟩ := hR.row hb e1
    obtain ⟨v, h3, h4⟩ := h1.rel g1
    refine ⟨v, ?_, h4⟩
    simp [execOp, ho, e2, Instr.loadAt, Instr.sureAddr, h3.loadB g2]
  · rename_i o' y hx
    obtain ⟨u, h1, h2⟩ := partC_sound h
    refine ⟨u, s, h2, op_value fun W0 β a W hR hf => ?_⟩
    obtain ⟨ws, r, off, e1, e3, _, e2⟩ := (hf x (by simp [ho, Op.operands]) _ hx).imP_inv
    obtain ⟨v, h3, h4⟩ := h1.rel e1
    refine ⟨v, ?_, h4⟩
    have := h3.loadB fun j v hj => (hR.frz r (off + j) v (e3 j v hj)).1
    simp [execOp, ho, e2, Instr.loadAt, Instr.sureAddr, this]
  · exact absurd h D.nb
def idxC (D : Dom R) (n : Nat) (i : Int) (k : Nat → R) : R :=
  match i with
  | .ofNat i => ifB D (Nat.blt i n) (k i)
  | .negSucc _ => D.bad
theorem idxC_sound {n : Nat} {i : Int} {k : Nat → R} (h : D.T (idxC D n i k)) : 0 ≤ i ∧ i < n ∧ D.T (k i.toNat) := by
  unfold idxC at h
  split at h
  · rename_i i
    obtain ⟨h1, h2⟩ := ifB_sound h
    have h3 : i < n := of_decide_eq_true (by simpa [Nat.blt_eq] using h1)
    refine ⟨by simp, ?_, by simpa using h2⟩
    show ((i : Nat) : Int) < (n : Int)
    omega
  · exact absurd h D.nb
def indexAddrC (D : Dom R) (P : Program) (cf : CallF R) (o : Oper) (fr : Tr Value) (s : AS) (t : TypeId) (x i : Operand) (k : Value → AS → R) : R :=
  match evC s.glb fr x, evC s.glb fr i with
  | some (.slice (some ⟨b, off, sp⟩) n _), some (.int _ j) => onV D (elemSize P t) fun z => idxC D n j fun j => D.frcN (off + j * z) fun q => k (.pointer (some ⟨b, q, vq sp⟩)) s
  | some (.pointer (some ⟨b, off, none⟩)), some (.int _ j) => match P.underlying t with
    | some (.array len e) => onV D (P.info? e) fun i => idxC D len j fun j => D.frcN (off + j * i.size) fun q => k (.pointer (some ⟨b, q, none⟩)) s
    | _ => D.bad
  | some (.func (.yield 0) ⟨xs⟩ ⟨[.bool true]⟩), some (.int _ j) => onV D (elemSize P t) fun z => idxC D xs.length j fun j => D.nv xs j fun x => ifB D (Nat.beq (cellsOf x).length z) (k (imP x 0) s)
  | _, _ => exactC D P cf o fr s k
theorem indexAddrC_sound (hc : CallOk P D cf) (hl : s.lo ≤ s.next) {t : TypeId} {x i : Operand} (ho : o.op = .indexAddr t x i) (h : D.T (indexAddrC D P cf o fr s t x i k)) : ∃ u s', D.T (k u s') ∧ OpOk P fr o s u s' := by
  unfold indexAddrC at h
  split at h
  · rename_i b off q n c kk j hx hi
    obtain ⟨z, hz, h⟩ := onV_sound h
    obtain ⟨h0, h1, h⟩ := idxC_sound h
    rw [D.frcN_eq] at h
    refine ⟨_, s, h, op_value fun W0 β a W hR hf => ?_⟩
    obtain ⟨r, sp, c', e1, e2, _⟩ := (hf x (by simp [ho, Op.operands]) _ hx).sl_any
    have e3 := (hf i (by simp [ho, Op.operands]) _ hi).flat_eq rfl
    obtain ⟨e, inf, he, hinf, rfl⟩ := elemSize_spec hz
    refine ⟨.pointer (some ⟨r, vo q sp + (off + j.toNat * inf.size), none⟩), ?_, .mk_ptr e1 q _⟩
    simp [execOp, ho, e2, e3, Instr.indexAt, asIntOf, run_underlying he, Nat.add_assoc, h0, h1, sizeOf, typeInfo, hinf, add_at]
  · rename_i b off kk j hx hi
    split at h
    · rename_i len e hu
      obtain ⟨inf, hinf, h⟩ := onV_sound h
      obtain ⟨h0, h1, h⟩ := idxC_sound h
      rw [D.frcN_eq] at h
      refine ⟨_, s, h, op_value fun W0 β a W hR hf => ?_⟩
      obtain ⟨r, sp, e1, e2⟩ := (hf x (by simp [ho, Op.operands]) _ hx).ptr_inv
      have e3 := (hf i (by simp [ho, Op.operands]) _ hi).flat_eq rfl
      refine ⟨.pointer (some ⟨r, off + j.toNat * inf.size, none⟩), ?_, .ptr _ _ _ _ e1⟩
      simp [execOp, ho, e2, e3, Instr.indexAt, Instr.sureAddr, asIntOf, run_underlying hu, h0, h1, sizeOf, typeInfo, hinf, add_at]
    · exact absurd h D.nb
  · rename_i xs kk j hx hi
    obtain ⟨z, hz, h⟩ := onV_sound h
    obtain ⟨h0, h1, h⟩ := idxC_sound h
    obtain ⟨y, hy, h⟩ := D.nv_ok _ _ _ h
    replace h := ifB_sound h
    obtain ⟨hzy, h⟩ := h
    have hzy := Nat.eq_of_beq_eq_true hzy
    rw [nth_eq] at hy
    refine ⟨_, s, h, op_value fun W0 β a W hR hf => ?_⟩
    have e3 := (hf i (by simp [ho, Op.operands]) _ hi).flat_eq rfl
    obtain ⟨e, inf, he, hinf, rfl⟩ := elemSize_spec hz
    rcases VR.imS_inv (xs := xs) (hf x (by simp [ho, Op.operands]) _ hx) with ⟨rfl, _⟩ | ⟨ws, z', r, off, c, q1, q2, q3, q4, q5, e2⟩
    · simp at hy
    · have hz' : z' = inf.size := by rw [← hzy]; exact (q1 y (List.mem_of_getElem? hy)).symm
      subst hz'
      refine ⟨.pointer (some ⟨r, off + j.toNat * inf.size + 0, none⟩), ?_, VR.imS_at q1 q3 q4 q5 hy 0⟩
      simp [execOp, ho, e2, e3, Instr.indexAt, asIntOf, run_underlying he, Nat.add_assoc, h0, h1, sizeOf, typeInfo, hinf, add_at]
  · exact exactC_sound hc hl h
def byteV (b : UInt8) : Value := .int .u8 b.toNat
def indexC (D : Dom R) (P : Program) (cf : CallF R) (o : Oper) (fr : Tr Value) (s : AS) (t : TypeId) (x i : Operand) (k : Value → AS → R) : R :=
  match evC s.glb fr x, evC s.glb fr i with
  | some (.agg ⟨cs⟩), some (.int _ j) => match P.underlying t with
    | some (.array len e) => onV D (P.info? e) fun i => idxC D len j fun j => partC D P e cs (j * i.size) fun u => k u s
    | _ => D.bad
  | some (.string ⟨⟨l⟩⟩), some (.int _ j) => match P.underlying t with
    | some .string => idxC D l.length j fun j => D.nv (l.map byteV) j fun u => k u s
    | _ => D.bad
  | _, _ => exactC D P cf o fr s k
theorem indexC_sound (hc : CallOk P D cf) (hl : s.lo ≤ s.next) {t : TypeId} {x i : Operand} (ho : o.op = .index t x i) (h : D.T (indexC D P cf o fr s t x i k)) : ∃ u s', D.T (k u s') ∧ OpOk P fr o s u s' := by
  unfold indexC at h
  split at h
  · rename_i cs kk j hx hi
    split at h
    · rename_i len e hu
      obtain ⟨inf, hinf, h⟩ := onV_sound h
      obtain ⟨h0, h1, h⟩ := idxC_sound h
      obtain ⟨u, h2, h⟩ := partC_sound h
      refine ⟨_, s, h, op_value fun W0 β a W hR hf => ?_⟩
      obtain ⟨cs', e1, e2⟩ := (hf x (by simp [ho, Op.operands]) _ hx).agg_inv
      have e3 := (hf i (by simp [ho, Op.operands]) _ hi).flat_eq rfl
      obtain ⟨v, h3, h4⟩ := h2.rel e1
      refine ⟨v, ?_, h4⟩
      have hq := h3.part W
      simp [execOp, ho, e2, e3, Instr.index, asIntOf, run_underlying hu, h0, h1, sizeOf, typeInfo, hinf] at hq ⊢
      simp [hq]
    · exact absurd h D.nb
  · rename_i l kk j hx hi
    split at h
    · rename_i hu
      obtain ⟨h0, h1, h⟩ := idxC_sound h
      obtain ⟨u, h2, h⟩ := D.nv_ok _ _ _ h
      rw [nth_eq, List.getElem?_map] at h2
      obtain ⟨b, hb, hbu⟩ := Option.map_eq_some_iff.1 h2
      subst hbu
      refine ⟨_, s, h, op_value fun W0 β a W hR hf => ?_⟩
      have e2 := (hf x (by simp [ho, Op.operands]) _ hx).flat_eq rfl
      have e3 := (hf i (by simp [ho, Op.operands]) _ hi).flat_eq rfl
      refine ⟨byteV b, ?_, .of_flat _ rfl⟩
      have hsz : (⟨⟨l⟩⟩ : ByteArray)[j.toNat]? = some b := by
        obtain ⟨hlt, hb⟩ := List.getElem?_eq_some_iff.1 hb
        exact (getElem?_pos (⟨⟨l⟩⟩ : ByteArray) j.toNat hlt).trans (congrArg some hb)
      simp [execOp, ho, e2, e3, Instr.index, asIntOf, run_underlying hu, h0, hsz, byteV]
    · exact absurd h D.nb
  · exact exactC_sound hc hl h
def fieldC (D : Dom R) (P : Program) (fr : Tr Value) (s : AS) (t : TypeId) (x : Operand) (f : Nat) (k : Value → AS → R) : R :=
  match evC s.glb fr x, P.underlying t with
  | some (.agg ⟨cs⟩), some (.struct fs) => onV D fs[f]? fun g => partC D P g.type cs g.offset fun u => k u s
  | _, _ => D.bad
theorem fieldC_sound {t : TypeId} {x : Operand} {f : Nat} (ho : o.op = .field t x f) (h : D.T (fieldC D P fr s t x f k)) : ∃ u s', D.T (k u s') ∧ OpOk P fr o s u s' := by
  unfold fieldC at h
  split at h
  · rename_i cs fs hx hu
    obtain ⟨g, hg, h⟩ := onV_sound h
    obtain ⟨u, h2, h⟩ := partC_sound h
    refine ⟨_, s, h, op_value fun W0 β a W hR hf => ?_⟩
    obtain ⟨cs', e1, e2⟩ := (hf x (by simp [ho, Op.operands]) _ hx).agg_inv
    obtain ⟨v, h3, h4⟩ := h2.rel e1
    refine ⟨v, ?_, h4⟩
    have hq := h3.part W
    simp [execOp, ho, e2, Instr.field, run_underlying hu, hg, asAgg, hq]
  · exact absurd h D.nb
def fieldAddrC (D : Dom R) (P : Program) (cf : CallF R) (o : Oper) (fr : Tr Value) (s : AS) (t : TypeId) (x : Operand) (f : Nat) (k : Value → AS → R) : R :=
  match evC s.glb fr x, P.underlying t with
  | some (.pointer (some ⟨b, off, sp⟩)), some (.struct fs) => onV D fs[f]? fun g => onV D (P.info? g.type) fun i => ifB D (Nat.blt 0 i.size) (D.frcN (off + g.offset) fun q => k (.pointer (some ⟨b, q, vq sp⟩)) s)
  | some (.func (.yield o) ⟨[x]⟩ ⟨[.bool false]⟩), some (.struct fs) => onV D fs[f]? fun g => onV D (P.info? g.type) fun i => ifB D (Nat.blt 0 i.size) (D.frcN (o + g.offset) fun q => k (imP x q) s)
  | _, _ => D.bad
theorem fieldAddrC_sound {t : TypeId} {x : Operand} {f : Nat} (ho : o.op = .fieldAddr t x f) (h : D.T (fieldAddrC D P cf o fr s t x f k)) : ∃ u s', D.T (k u s') ∧ OpOk P fr o s u s' := by
  unfold fieldAddrC at h
  split at h
  · rename_i b off q fs hx hS
    obtain ⟨g, hg, h⟩ := onV_sound h
    obtain ⟨i, hi, h⟩ := onV_sound h
    replace h := ifB_sound h
    obtain ⟨hz, h⟩ := h
    have hz : i.size ≠ 0 := by
      have : 0 < i.size := of_decide_eq_true (by simpa [Nat.blt_eq] using hz)
      omega
    rw [D.frcN_eq] at h
    refine ⟨_, s, h, op_value fun W0 β a W hR hf => ?_⟩
    obtain ⟨r, sp, e1, e2, _⟩ := (hf x (by simp [ho, Op.operands]) _ hx).ptr_any
    exact ⟨.pointer (some ⟨r, vo q sp + (off + g.offset), none⟩), by simp [execOp, ho, e2, Instr.fieldAt, Instr.sureAddr, run_underlying hS, hg, fieldPlace, sizeOf, typeInfo, hi, hz, add_at, Nat.add_assoc], .mk_ptr e1 q _⟩
  · rename_i o' y fs hx hS
    obtain ⟨g, hg, h⟩ := onV_sound h
    obtain ⟨i, hi, h⟩ := onV_sound h
    replace h := ifB_sound h
    obtain ⟨hz, h⟩ := h
    have hz : i.size ≠ 0 := by
      have : 0 < i.size := of_decide_eq_true (by simpa [Nat.blt_eq] using hz)
      omega
    rw [D.frcN_eq] at h
    refine ⟨_, s, h, op_value fun W0 β a W hR hf => ?_⟩
    obtain ⟨ws, r, off, e1, e3, e4, e2⟩ := (hf x (by simp [ho, Op.operands]) _ hx).imP_inv
    exact ⟨.pointer (some ⟨r, off + (o' + g.offset), none⟩), by simp [execOp, ho, e2, Instr.fieldAt, Instr.sureAddr, run_underlying hS, hg, fieldPlace, sizeOf, typeInfo, hi, hz, add_at, Nat.add_assoc], .imp y ws r off _ e1.1.symm e3 e1.2 e4⟩
  · exact absurd h D.nb
def nilC (D : Dom R) (P : Program) (cf : CallF R) (o : Oper) (fr : Tr Value) (s : AS) (x : Operand) (k : Value → AS → R) : R :=
  match evC s.glb fr x with
  | some (.pointer (some ⟨b, off, q⟩)) => k (.pointer (some ⟨b, off, q⟩)) s
  | some (.func (.func g) a b) => k (.func (.func g) a b) s
  | some (.func (.yield o) ⟨[x]⟩ ⟨[.bool false]⟩) => k (imP x o) s
  | some (.iface t u) => k (.iface t u) s
  | _ => exactC D P cf o fr s k
theorem nilC_sound (hc : CallOk P D cf) (hl : s.lo ≤ s.next) {x : Operand} (ho : o.op = .nilCheck x) (h : D.T (nilC D P cf o fr s x k)) : ∃ u s', D.T (k u s') ∧ OpOk P fr o s u s' := by
  unfold nilC at h
  split at h
  · rename_i b off sq hx
    refine ⟨_, s, h, op_value fun W0 β a W hR hf => ?_⟩
    have q := hf x (by simp [ho, Op.operands]) _ hx
    obtain ⟨r, sp, e1, e2, e3⟩ := q.ptr_any
    refine ⟨.pointer (some ⟨r, vo sq sp + off, none⟩), by simp [execOp, ho, e2], ?_⟩
    have := VR.mk_ptr e1 sq off
    rwa [e3] at this
  · rename_i g a0 b0 hx
    refine ⟨_, s, h, op_value fun W0 β a W hR hf => ?_⟩
    have q := hf x (by simp [ho, Op.operands]) _ hx
    cases a0 with
    | mk l1 => cases b0 with
      | mk l2 =>
        obtain ⟨a', b', e1, e2, e3⟩ := q.func_inv
        exact ⟨.func (.func g) ⟨a'⟩ ⟨b'⟩, by simp [execOp, ho, e3], .func _ _ _ _ _ e1.1 e2.1 e1.2 e2.2⟩
  · rename_i o' y hx
    refine ⟨_, s, h, op_value fun W0 β a W hR hf => ?_⟩
    have q := hf x (by simp [ho, Op.operands]) _ hx
    obtain ⟨ws, r, off, e1, e3, e4, e2⟩ := VR.imP_inv (x := y) q
    exact ⟨_, by simp [execOp, ho, e2], .imp y ws r off _ e1.1.symm e3 e1.2 e4⟩
  · rename_i t u hx
    refine ⟨_, s, h, op_value fun W0 β a W hR hf => ?_⟩
    have q := hf x (by simp [ho, Op.operands]) _ hx
    obtain ⟨v, e1, e2⟩ := q.ifc_inv
    exact ⟨.iface t v, by simp [execOp, ho, e2], .ifc _ _ _ e1⟩
  · exact exactC_sound hc hl h
def extractC (D : Dom R) (fr : Tr Value) (s : AS) (x : Operand) (i : Nat) (k : Value → AS → R) : R :=
  match evC s.glb fr x with
  | some (.tuple ⟨l⟩) => onV D (nth l i) fun u => k u s
  | _ => D.bad
theorem extractC_sound {x : Operand} {i : Nat} (ho : o.op = .extract x i) (h : D.T (extractC D fr s x i k)) : ∃ u s', D.T (k u s') ∧ OpOk P fr o s u s' := by
  unfold extractC at h
  split at h
  · rename_i l hx
    obtain ⟨u, hu, h⟩ := onV_sound h
    rw [nth_eq] at hu
    refine ⟨_, s, h, op_value fun W0 β a W hR hf => ?_⟩
    obtain ⟨l', e1, e2⟩ := (hf x (by simp [ho, Op.operands]) _ hx).tup_inv
    obtain ⟨v, h1, h2⟩ := e1.get hu
    exact ⟨v, by simp [execOp, ho, e2, Instr.extract, h1], h2⟩
  · exact absurd h D.nb
def makeIfaceC (D : Dom R) (P : Program) (fr : Tr Value) (s : AS) (t : TypeId) (x : Operand) (k : Value → AS → R) : R :=
  match P.concrete t with
  | true => onV D (evC s.glb fr x) fun u => k (.iface t u) s
  | false => D.bad
theorem makeIfaceC_sound {t : TypeId} {x : Operand} (ho : o.op = .makeInterface t x) (h : D.T (makeIfaceC D P fr s t x k)) : ∃ u s', D.T (k u s') ∧ OpOk P fr o s u s' := by
  unfold makeIfaceC at h
  split at h
  · rename_i hc
    obtain ⟨u, hu, h⟩ := onV_sound h
    refine ⟨_, s, h, op_value fun W0 β a W hR hf => ?_⟩
    have e := hf x (by simp [ho, Op.operands]) _ hu
    exact ⟨.iface t (a.eval x), by simp [execOp, ho, run_makeInterface (P := P) W t _ hc], .ifc _ _ _ e⟩
  · exact absurd h D.nb
def assertC (D : Dom R) (P : Program) (fr : Tr Value) (s : AS) (x : Operand) (t : TypeId) (ok : Bool) (k : Value → AS → R) : R :=
  match evC s.glb fr x with
  | some (.iface t' u) => match P.concrete t, Nat.beq t' t with
    | true, true => match ok with
      | true => k (.tuple ⟨[u, .bool true]⟩) s
      | false => k u s
    | _, _ => D.bad
  | _ => D.bad
theorem assertC_sound {t xT : TypeId} {x : Operand} {ok : Bool} (ho : o.op = .typeAssert x xT t ok) (h : D.T (assertC D P fr s x t ok k)) : ∃ u s', D.T (k u s') ∧ OpOk P fr o s u s' := by
  unfold assertC at h
  split at h
  · rename_i t' u hx
    split at h
    · rename_i hc hb
      obtain rfl := Nat.eq_of_beq_eq_true hb
      have run : ∀ (v : Value) (W : World), (Instr.typeAssert (.iface t' v) xT t' ok).run P W = .ok (if ok then .tuple #[v, .bool true] else v) W := fun v W => by
        unfold Program.concrete at hc
        cases hd : P.underlying t' with
        | none => simp [hd] at hc
        | some d => cases d <;> first | (simp [hd] at hc; done) | simp [Instr.typeAssert, run_underlying hd]
      split at h
      · refine ⟨_, s, h, op_value fun W0 β a W hR hf => ?_⟩
        obtain ⟨v, e1, e2⟩ := (hf x (by simp [ho, Op.operands]) _ hx).ifc_inv
        have er := run v W
        exact ⟨.tuple ⟨[v, .bool true]⟩, by simp [execOp, ho, e2, er], by
          have hv : VRs β [u, .bool true] [v, .bool true] := .cons e1 (.cons (.of_flat _ rfl) (.nil _))
          exact .tup _ _ hv.1 hv.2⟩
      · refine ⟨_, s, h, op_value fun W0 β a W hR hf => ?_⟩
        obtain ⟨v, e1, e2⟩ := (hf x (by simp [ho, Op.operands]) _ hx).ifc_inv
        have er := run v W
        exact ⟨v, by simp [execOp, ho, e2, er], e1⟩
    · exact absurd h D.nb
  · exact absurd h D.nb
def nilsC (P : Program) (t : TypeId) (x y : Value) : Option Bool :=
  match P.underlying t, x, y with
  | some (.pointer _), .pointer none, .pointer none => some true
  | some (.pointer _), .pointer none, .pointer (some _) => some false
  | some (.pointer _), .pointer (some _), .pointer none => some false
  | some (.pointer _), .func (.yield _) ⟨[_]⟩ ⟨[.bool false]⟩, .pointer none => some false
  | some (.pointer _), .pointer none, .func (.yield _) ⟨[_]⟩ ⟨[.bool false]⟩ => some false
  | some (.slice _), .slice none _ _, .slice none _ _ => some true
  | some (.slice _), .slice none _ _, .slice (some _) _ _ => some false
  | some (.slice _), .slice (some _) _ _, .slice none _ _ => some false
  | some (.slice _), .func (.yield 0) ⟨_ :: _⟩ ⟨[.bool true]⟩, .slice none _ _ => some false
  | some (.map _ _), .map none, .map none => some true
  | some (.map _ _), .map none, .map (some _) => some false
  | some (.map _ _), .map (some _), .map none => some false
  | some (.func _ _ _), .nilFunc, .nilFunc => some true
  | some (.func _ _ _), .nilFunc, .func (.func _) _ _ => some false
  | some (.func _ _ _), .func (.func _) _ _, .nilFunc => some false
  | _, _, _ => none
set_option maxHeartbeats 2000000 in
theorem nilsC_sound {t : TypeId} {x y x' y' : Value} {b : Bool} {β : Bt} (h : nilsC P t x y = some b) (hx : VR β x x') (hy : VR β y y') (W : World) : (Op.equal t x' y').run P W = .ok b W ∧ ∀ u v, x' ≠ .agg u ∨ y' ≠ .agg v := by
  unfold nilsC at h
  split at h <;> cases h <;> rename_i hu <;> cases hx <;> cases hy <;>
    first | (exfalso; rename_i q1 q2; exact Bool.false_ne_true q1) | (exfalso; rename_i q1 q2; exact Bool.false_ne_true q2) | (refine ⟨?_, fun u v => .inl (by simp)⟩; show (Op.equalIn (9999 + 1) t _ _).run P W = _; unfold Op.equalIn; simp [run_underlying hu])
end Go.Proofs.Ytphbcejnnoijfaa.U
