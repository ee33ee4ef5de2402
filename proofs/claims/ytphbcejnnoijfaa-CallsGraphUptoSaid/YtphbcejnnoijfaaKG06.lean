
import Derived.Test.YtphbcejnnoijfaaKG05
namespace Go.Proofs.Ytphbcejnnoijfaa.U
open Go Go.RowKit Go.Sort
set_option linter.unusedVariables false
set_option linter.unusedSimpArgs false
structure Dom (R : Type) where
  bad : R
  T : R → Prop
  nb : ¬ T bad
  frc : Value → (Value → R) → R
  frc_eq : ∀ v k, frc v k = k v
  frcN : Nat → (Nat → R) → R
  frcN_eq : ∀ n k, frcN n k = k n
  br : Bool → R → R → R
  br_ok : ∀ b x y, T (br b x y) → (b = true ∧ T x) ∨ (b = false ∧ T y)
  ob : Bool → R → R
  ob_ok : ∀ b x, T (ob b x) → b = true ∧ T x
  nv : List Value → Nat → (Value → R) → R
  nv_ok : ∀ l n k, T (nv l n k) → ∃ x, nth l n = some x ∧ T (k x)
  lt : Bool → (Bool → R) → R
  lt_ok : ∀ b k, T (lt b k) → T (k b)
def natC {R : Type} (n : Nat) (k : Nat → R) : R :=
  match n with
  | 0 => k 0
  | m + 1 => k (Nat.succ m)
theorem natC_eq {R : Type} (n : Nat) (k : Nat → R) : natC n k = k n := by cases n <;> rfl
def intC {R : Type} (n : Int) (k : Int → R) : R :=
  match n with
  | .ofNat m => natC m fun m => k (.ofNat m)
  | .negSucc m => natC m fun m => k (.negSucc m)
theorem intC_eq {R : Type} (n : Int) (k : Int → R) : intC n k = k n := by cases n <;> simp only [intC, natC_eq]
def bytesC {R : Type} : List UInt8 → (List UInt8 → R) → R
  | [], k => k []
  | b :: l, k => bytesC l fun l => k (b :: l)
theorem bytesC_eq {R : Type} : ∀ (l : List UInt8) (k : List UInt8 → R), bytesC l k = k l
  | [], k => rfl
  | b :: l, k => by simp only [bytesC, bytesC_eq l]
def oneC {R : Type} (v : Value) (k : Value → R) : R :=
  match v with
  | .int i n => intC n fun n => k (.int i n)
  | .bool b => match b with
    | true => k (.bool true)
    | false => k (.bool false)
  | .string ⟨⟨l⟩⟩ => bytesC l fun l => k (.string ⟨⟨l⟩⟩)
  | v => k v
theorem oneC_eq {R : Type} (v : Value) (k : Value → R) : oneC v k = k v := by
  cases v with
  | bool b => cases b <;> rfl
  | string s => cases s with
    | mk d => cases d with
      | mk l => simp only [oneC, bytesC_eq]
  | _ => simp only [oneC, intC_eq]
def onesC {R : Type} : List Value → (List Value → R) → R
  | [], k => k []
  | v :: l, k => oneC v fun v => onesC l fun l => k (v :: l)
theorem onesC_eq {R : Type} : ∀ (l : List Value) (k : List Value → R), onesC l k = k l
  | [], k => rfl
  | v :: l, k => by simp only [onesC, oneC_eq, onesC_eq l]
def valC {R : Type} (v : Value) (k : Value → R) : R :=
  match v with
  | .agg ⟨l⟩ => onesC l fun l => k (.agg ⟨l⟩)
  | .tuple ⟨l⟩ => onesC l fun l => k (.tuple ⟨l⟩)
  | v => oneC v k
theorem valC_eq {R : Type} (v : Value) (k : Value → R) : valC v k = k v := by
  cases v with
  | agg c => cases c; simp only [valC, onesC_eq]
  | tuple c => cases c; simp only [valC, onesC_eq]
  | _ => simp only [valC, oneC_eq]
def brB : Bool → Bool → Bool → Bool
  | true, x, _ => x
  | false, _, y => y
def obB : Bool → Bool → Bool
  | true, x => x
  | false, _ => false
def nvB (l : List Value) (n : Nat) (k : Value → Bool) : Bool :=
  match nth l n with
  | some x => k x
  | none => false
theorem nvB_ok (l : List Value) (n : Nat) (k : Value → Bool) (h : nvB l n k = true) : ∃ x, nth l n = some x ∧ k x = true := by
  unfold nvB at h
  split at h
  · rename_i x hx; exact ⟨x, hx, h⟩
  · cases h
def ltB : Bool → (Bool → Bool) → Bool
  | true, k => k true
  | false, k => k false
def boolD : Dom Bool := ⟨false, fun b => b = true, by simp, valC, valC_eq, natC, natC_eq, brB, fun b x y h => by cases b <;> simp_all [brB], obB, fun b x h => by cases b <;> simp_all [obB], nvB, nvB_ok, ltB, fun b k h => by cases b <;> exact h⟩
section
variable {R : Type} (D : Dom R) (P : Program)
def onV {α : Type} (x : Option α) (k : α → R) : R :=
  match x with
  | some u => k u
  | none => D.bad
def ifB (b : Bool) (k : R) : R := D.ob b k
def evC (gl : Nat) (fr : Tr Value) : Operand → Option Value
  | .tmp t => Tr.at (pt t) fr
  | .const v => match flatV v with
    | true => some v
    | false => none
  | .global g => match Nat.blt g gl with
    | true => some (.pointer (some ⟨g, 0, none⟩))
    | false => none
  | .func f => some (.func (.func f) ⟨[]⟩ ⟨[]⟩)
def evxC (gl : Nat) (fr : Tr Value) (x : Operand) : Value :=
  match evC gl fr x with
  | some u => u
  | none => undef
def flatX (gl : Nat) (fr : Tr Value) (x : Operand) : Bool :=
  match evC gl fr x with
  | some u => flatV u
  | none => false
def lookC (s : AS) (k : Nat) : Option Blk := Tr.at (pt k) s.heap
def pushC (s : AS) (b : Blk) (k : Nat → AS → R) : R :=
  match s with
  | ⟨h, n, lo, gl⟩ => Tr.putK (pt n) (some b) h fun h => D.frcN (Nat.add n 1) fun m => k n ⟨h, m, lo, gl⟩
def turnC (s : AS) (i : Nat) (b : Option Blk) (k : AS → R) : R :=
  match s with
  | ⟨h, n, lo, gl⟩ => Tr.putK (pt i) b h fun h => k ⟨h, n, lo, gl⟩
abbrev CallT (R : Type) := FuncId → List Value → AS → (Value → AS → R) → R
structure CallF (R : Type) where
  call : CallT R
  round : CallT R
def intO (op : BinOp) (k : IntKind) (a b : Int) : Option Value :=
  match op with
  | .add => some (.int k (k.wrap (a + b)))
  | .sub => some (.int k (k.wrap (a - b)))
  | .mul => some (.int k (k.wrap (a * b)))
  | .quo => match decide (b = 0) with
    | true => none
    | false => some (.int k (k.wrap (a.tdiv b)))
  | .rem => match decide (b = 0) with
    | true => none
    | false => some (.int k (a.tmod b))
  | .shl => match decide (b < 0) with
    | true => none
    | false => some (.int k (k.wrap (a * 2 ^ min b.toNat k.bits)))
  | .shr => match decide (b < 0) with
    | true => none
    | false => some (.int k (a.fdiv (2 ^ min b.toNat k.bits)))
  | .eql => some (.bool (a == b))
  | .neq => some (.bool (a != b))
  | .lss => some (.bool (decide (a < b)))
  | .leq => some (.bool (decide (a ≤ b)))
  | .gtr => some (.bool (decide (a > b)))
  | .geq => some (.bool (decide (a ≥ b)))
  | _ => none
theorem intO_sound {op : BinOp} {k k' : IntKind} {m n : Int} {v : Value} (hk : (isShift op || decide (k = k')) = true) (h : intO op k m n = some v) (w : World) (t : TypeId) : (binOp op t (.int k m) (.int k' n)).run P w = .ok v w := by
  cases op <;> simp only [intO] at h <;> simp [isShift] at hk
  case shl =>
    split at h
    · cases h
    · rename_i hb
      have hb := of_decide_eq_false hb
      cases h
      simp [binOp, Op.shift, hb]
  case shr =>
    split at h
    · cases h
    · rename_i hb
      have hb := of_decide_eq_false hb
      cases h
      simp [binOp, Op.shift, hb]
  all_goals subst hk
  case quo =>
    split at h
    · cases h
    · rename_i hb
      have hb := of_decide_eq_false hb
      cases h
      simp [binOp, Op.intDiv, hb]
  case rem =>
    split at h
    · cases h
    · rename_i hb
      have hb := of_decide_eq_false hb
      cases h
      simp [binOp, Op.intDiv, hb]
  all_goals first
    | cases h; done
    | (cases h; simp [binOp, Op.intArith, Op.intCmp])
def takeC : Nat → List Value → (List Value → R) → R
  | 0, _, k => k []
  | n + 1, l, k => match l with
    | [] => D.bad
    | x :: l => takeC n l fun m => k (x :: m)
def partC (t : TypeId) (l : List Value) (off : Nat) (k : Value → R) : R :=
  match aggT P t with
  | some true => match P.info? t with
    | some i => takeC D i.size (dropL l off) fun m => k (.agg ⟨m⟩)
    | none => D.bad
  | some false => onV D (nth l off) k
  | none => D.bad
def storeC : List Value → Nat → List Value → (List Value → R) → R
  | l, 0, vs, k => match vs with
    | [] => k l
    | v :: vs => match l with
      | [] => D.bad
      | _ :: l => storeC l 0 vs fun l => k (v :: l)
  | l, n + 1, vs, k => match l with
    | [] => D.bad
    | x :: l => storeC l n vs fun l => k (x :: l)
theorem takeC_sound {D : Dom R} : ∀ (n : Nat) (l : List Value) (k : List Value → R), D.T (takeC D n l k) → n ≤ l.length ∧ D.T (k (l.take n))
  | 0, l, k, h => ⟨Nat.zero_le _, h⟩
  | n + 1, [], k, h => absurd h D.nb
  | n + 1, x :: l, k, h => by
    obtain ⟨h1, h2⟩ := takeC_sound n l _ h
    exact ⟨by simpa using h1, h2⟩
theorem storeC_sound {D : Dom R} : ∀ (n : Nat) (vs l : List Value) (k : List Value → R), D.T (storeC D l n vs k) → n + vs.length ≤ l.length ∧ D.T (k (l.take n ++ vs ++ l.drop (n + vs.length)))
  | 0, [], l, k, h => ⟨by simp, by cases l <;> simpa [storeC] using h⟩
  | 0, v :: vs, [], k, h => absurd h D.nb
  | 0, v :: vs, x :: l, k, h => by
    obtain ⟨h1, h2⟩ := storeC_sound 0 vs l _ h
    refine ⟨by simpa using h1, ?_⟩
    simpa using h2
  | n + 1, vs, [], k, h => absurd h D.nb
  | n + 1, vs, x :: l, k, h => by
    obtain ⟨h1, h2⟩ := storeC_sound n vs l _ h
    refine ⟨by simp; omega, ?_⟩
    have e : n + 1 + vs.length = (n + vs.length) + 1 := by omega
    rw [e]
    simpa using h2
def PartIs (t : TypeId) (l : List Value) (off : Nat) (u : Value) : Prop :=
  (aggT P t = some true ∧ ∃ i, P.info? t = some i ∧ ((l.drop off).take i.size).length = i.size ∧ u = .agg ⟨(l.drop off).take i.size⟩) ∨ (aggT P t = some false ∧ l[off]? = some u)
end
section
variable {R : Type} {D : Dom R} {P : Program}
theorem onV_sound {α : Type} {x : Option α} {k : α → R} (h : D.T (onV D x k)) : ∃ u, x = some u ∧ D.T (k u) := by
  cases x with
  | none => exact absurd h D.nb
  | some u => exact ⟨u, rfl, h⟩
theorem ifB_sound {b : Bool} {k : R} (h : D.T (ifB D b k)) : b = true ∧ D.T k := D.ob_ok b k h
theorem partC_sound {t : TypeId} {l : List Value} {off : Nat} {k : Value → R} (h : D.T (partC D P t l off k)) : ∃ u, PartIs P t l off u ∧ D.T (k u) := by
  unfold partC at h
  split at h
  · rename_i hA
    split at h
    · rename_i i hi
      rw [dropL_eq] at h
      obtain ⟨h1, h2⟩ := takeC_sound _ _ _ h
      exact ⟨_, .inl ⟨hA, i, hi, by rw [List.length_take]; omega, rfl⟩, h2⟩
    · exact absurd h D.nb
  · rename_i hA
    obtain ⟨u, h1, h2⟩ := onV_sound h
    rw [nth_eq] at h1
    exact ⟨u, .inr ⟨hA, h1⟩, h2⟩
  · exact absurd h D.nb
theorem PartIs.rel {β : Bt} {t : TypeId} {l l' : List Value} {off : Nat} {u : Value} (h : PartIs P t l off u) (hl : VRs β l l') : ∃ v, PartIs P t l' off v ∧ VR β u v := by
  rcases h with ⟨hA, i, hi, h1, rfl⟩ | ⟨hA, h1⟩
  · have hr := (hl.drop off).take i.size
    exact ⟨_, .inl ⟨hA, i, hi, by rw [← hr.1]; exact h1, rfl⟩, .agg _ _ hr.1 hr.2⟩
  · obtain ⟨v, h2, h3⟩ := hl.get h1
    exact ⟨v, .inr ⟨hA, h2⟩, h3⟩
theorem PartIs.part {t : TypeId} {l : List Value} {off : Nat} {v : Value} (h : PartIs P t l off v) (w : World) : (Go.part t ⟨l⟩ off).run P w = .ok v w := by
  rcases h with ⟨hA, i, hi, h1, rfl⟩ | ⟨hA, h1⟩
  · refine run_part (P := P) ?_ w
    simp only [partV, hA, hi, Option.some.injEq, Value.agg.injEq]
    apply Array.ext'
    simp [List.extract_eq_take_drop]
  · refine run_part (P := P) ?_ w
    simp only [partV, hA]
    simpa using h1
theorem PartIs.load {t : TypeId} {l : List Value} {off r : Nat} {v : Value} {w : World} (h : PartIs P t l off v) (hc : ∀ (j : Nat) (v : Value), l[j]? = some v → w.cell? ⟨r, j, none⟩ = some v) : (loadVar t ⟨r, off, none⟩).run P w = .ok v w := by
  rcases h with ⟨hA, i, hi, h1, rfl⟩ | ⟨hA, h1⟩
  · have := run_load_agg (w := w) (b := r) (off := off) hA hi h1 fun j v hj => hc _ _ (by
      have hjl := (List.getElem?_eq_some_iff.1 hj).1
      rw [List.getElem?_take_of_lt (by simp at hjl; omega), List.getElem?_drop] at hj
      exact hj)
    simpa using this
  · exact run_load_cell hA (hc _ _ h1)
theorem BlkR.real {β : Bt} {W : World} {r sp : Nat} {q : Prop} {T : TypeId} {xs : List Value} {op : Bool} (h : BlkR P β W r sp q (.cells T xs op)) : ∃ cs fz, W.heap[r]? = some (.cells cs T fz) ∧ (q → fz = (0, 0)) ∧ (op = false → sp = 0) ∧ cs.size = xs.length + sp * P.cellsOf T ∧ VRs β xs (cs.toList.take xs.length) ∧ (∀ u ∈ xs, u.oneCell' = true) ∧ (∀ u ∈ cs.toList.take xs.length, u.oneCell' = true) ∧ ∀ (j : Nat) (v : Value), (cs.toList.take xs.length)[j]? = some v → W.cell? ⟨r, j, none⟩ = some v := by
  obtain ⟨cs, fz, h1, h2, h0, h3, h4⟩ := h
  have hV : VRs β xs (cs.toList.take xs.length) := ⟨by rw [List.length_take]; simp; omega, fun i u v hu hv => by
    obtain ⟨_, v', h5, h6⟩ := h4 i u hu
    rw [List.getElem?_take] at hv
    split at hv
    · have : cs[i]? = some v := by simpa using hv
      rw [this] at h5
      cases h5
      exact h6
    · cases hv⟩
  have hone : ∀ u ∈ xs, u.oneCell' = true := fun u hu => by
    obtain ⟨i, hi⟩ := List.getElem?_of_mem hu
    exact (h4 i u hi).1
  refine ⟨cs, fz, h1, h2, h0, h3, hV, hone, fun v hv => ?_, fun j v hj => ?_⟩
  · obtain ⟨i, hi⟩ := List.getElem?_of_mem hv
    have hlt := (List.getElem?_eq_some_iff.1 hi).1
    rw [← hV.1] at hlt
    have := hV.2 i _ v (List.getElem?_eq_getElem hlt) hi
    rw [this.one]
    exact hone _ (List.getElem_mem _)
  · rw [List.getElem?_take] at hj
    split at hj
    · simp [World.cell?, h1]
      simpa using hj
    · cases hj
theorem exists_row {β : Bt} {Q : Nat → Value → Prop} : ∀ (xs : List Value) (n : Nat), (∀ (i : Nat) (u : Value), xs[i]? = some u → ∃ v, Q (n + i) v ∧ VR β u v) → ∃ xs', VRs β xs xs' ∧ ∀ (j : Nat) (v : Value), xs'[j]? = some v → Q (n + j) v
  | [], n, h => ⟨[], .nil _, fun j v hj => by simp at hj⟩
  | u :: xs, n, h => by
    obtain ⟨v, h1, h2⟩ := h 0 u rfl
    obtain ⟨l, h3, h4⟩ := exists_row xs (n + 1) fun i w hi => by
      have := h (i + 1) w (by simpa using hi)
      rwa [show n + (i + 1) = n + 1 + i by omega] at this
    refine ⟨v :: l, .cons h2 h3, fun j w hj => ?_⟩
    cases j with
    | zero => simp at hj; subst hj; exact h1
    | succ j =>
      have := h4 j w (by simpa using hj)
      rwa [show n + 1 + j = n + (j + 1) by omega] at this
def rowOf : Option Nat → Option Blk → Option (List Value)
  | some 1, some (.view xs) => some xs
  | some 1, _ => none
  | _, some (.cells _ xs _) => some xs
  | _, _ => none
theorem rowOf_spec {q : Option Nat} {o : Option Blk} {xs : List Value} (h : rowOf q o = some xs) : (q = some 1 ∧ o = some (.view xs)) ∨ ((∀ sp, vo q sp = 0) ∧ ∃ T op, o = some (.cells T xs op)) := by
  by_cases hq : q = some 1
  · subst hq
    cases o with
    | none => cases h
    | some b => cases b <;> first | (cases h; exact .inl ⟨rfl, rfl⟩) | cases h
  · refine .inr ⟨fun sp => ?_, ?_⟩
    · unfold vo
      split
      · exact absurd rfl hq
      · rfl
    · unfold rowOf at h
      split at h
      · exact absurd rfl hq
      · cases h
      · cases h; exact ⟨_, _, rfl⟩
      · cases h
theorem Rel.row {W0 : World} {β : Bt} {s : AS} {W : World} (h : Rel P W0 β s W) {q : Option Nat} {b r sp : Nat} {xs : List Value} (hb : rowOf q (lookC s b) = some xs) (hr : β b = some (r, sp)) : ∃ xs', VRs β xs xs' ∧ (∀ u ∈ xs, u.oneCell' = true) ∧ (∀ u ∈ xs', u.oneCell' = true) ∧ ∀ (j : Nat) (v : Value), xs'[j]? = some v → W.cell? ⟨r, vo q sp + j, none⟩ = some v := by
  rcases rowOf_spec hb with ⟨rfl, hl⟩ | ⟨hv, T, op, hl⟩
  · have h1 : ∀ (i : Nat) (u : Value), xs[i]? = some u → u.oneCell' = true ∧ ∃ v, W.cell? ⟨r, sp + i, none⟩ = some v ∧ VR β u v := (h.blk b _ r sp hl hr).2
    obtain ⟨xs', h2, h3⟩ := exists_row (β := β) (Q := fun i v => W.cell? ⟨r, sp + i, none⟩ = some v) xs 0 fun i u hi => by
      obtain ⟨_, v, h4, h5⟩ := h1 i u hi
      exact ⟨v, by simpa using h4, h5⟩
    have one : ∀ u ∈ xs, u.oneCell' = true := fun u hu => by
      obtain ⟨i, hi⟩ := List.getElem?_of_mem hu
      exact (h1 i u hi).1
    refine ⟨xs', h2, one, fun v hv => ?_, fun j v hj => by simpa [vo] using h3 j v hj⟩
    obtain ⟨i, hi⟩ := List.getElem?_of_mem hv
    have hlt := (List.getElem?_eq_some_iff.1 hi).1
    rw [← h2.1] at hlt
    rw [(h2.2 i _ v (List.getElem?_eq_getElem hlt) hi).one]
    exact one _ (List.getElem_mem _)
  · obtain ⟨cs, fz, _, _, _, _, g1, g2, g3, g4⟩ := (h.blk b _ r sp hl hr).real
    refine ⟨_, g1, g2, g3, fun j v hj => ?_⟩
    rw [hv, Nat.zero_add]
    exact g4 j v hj
theorem PartIs.loadB {t : TypeId} {l : List Value} {off r n : Nat} {v : Value} {w : World} (h : PartIs P t l off v) (hc : ∀ (j : Nat) (v : Value), l[j]? = some v → w.cell? ⟨r, n + j, none⟩ = some v) : (loadVar t ⟨r, n + off, none⟩).run P w = .ok v w := by
  rcases h with ⟨hA, i, hi, h1, rfl⟩ | ⟨hA, h1⟩
  · have := run_load_agg (w := w) (b := r) (off := n + off) hA hi h1 fun j v hj => by
      have hjl := (List.getElem?_eq_some_iff.1 hj).1
      rw [List.getElem?_take_of_lt (by simp at hjl; omega), List.getElem?_drop] at hj
      have := hc _ _ hj
      rwa [← Nat.add_assoc] at this
    simpa using this
  · exact run_load_cell hA (hc _ _ h1)
def OpR (β : Bt) (gl : Nat) (fr : Tr Value) (a : Act) (o : Oper) : Prop := ∀ x ∈ o.op.operands, ∀ u, evC gl fr x = some u → VR β u (a.eval x)
def LaysG (P : Program) (W0 : World) (β : Bt) (W : World) (n n' : Nat) (s' : AS) (u v : Value) (W' : World) : Prop := ∃ β', Ext W0.heap.size β β' n n' ∧ Rel P W0 β' s' W' ∧ VR β' u v ∧ KD W W'
abbrev LaysC (P : Program) (W0 : World) (β : Bt) (W : World) (s s' : AS) (u v : Value) (W' : World) : Prop := LaysG P W0 β W s.next s'.next s' u v W'
def DoesG (P : Program) (W0 : World) (β : Bt) (n n' : Nat) (s' : AS) (u : Value) (W : World) : Result Next → Prop
  | .ok (.value v) W' => LaysG P W0 β W n n' s' u v W'
  | .ok .skip W' => LaysG P W0 β W n n' s' u undef W'
  | .ok (.enter f args) W' => W' = W ∧ Calls P f args W fun e w' => ∃ v, e = .returned v ∧ LaysG P W0 β W n n' s' u v w'
  | .ok (.round l f tmps assign body) W' => W' = W ∧ RoundIn Fence.wide 0 P l f tmps assign body W fun e w' => ∃ v, e = .returned v ∧ LaysG P W0 β W n n' s' u v w'
  | _ => False
abbrev DoesC (P : Program) (W0 : World) (β : Bt) (s s' : AS) (u : Value) (W : World) (r : Result Next) : Prop := DoesG P W0 β s.next s'.next s' u W r
def OpOk (P : Program) (fr : Tr Value) (o : Oper) (s : AS) (u : Value) (s' : AS) : Prop :=
  Stp s s' ∧ ∀ W0 β a W, Rel P W0 β s W → Free β s.next s'.next → OpR β s.glb fr a o → DoesC P W0 β s s' u W ((execOp a.eval o).run P W)
structure CallOk (P : Program) (D : Dom R) (cf : CallF R) : Prop where
  call : ∀ f args s k, s.lo ≤ s.next → D.T (cf.call f args s k) → ∃ u s', D.T (k u s') ∧ Stp s s' ∧ ∀ W0 β W vs, Rel P W0 β s W → Free β s.next s'.next → VRs β args vs → Calls P f ⟨vs⟩ W fun e w' => ∃ v, e = .returned v ∧ LaysC P W0 β W s s' u v w'
  round : ∀ l args s k, s.lo ≤ s.next → D.T (cf.round l args s k) → ∃ u s', D.T (k u s') ∧ Stp s s' ∧ ∀ W0 β W vs r sp, Rel P W0 β s W → Free β s.next s'.next → VRs β args vs → β l = some (r, sp) → DoesC P W0 β s s' u W ((Instr.yield r ⟨vs⟩).run P W)
theorem lays_same {W0 : World} {β : Bt} {s : AS} {u v : Value} {W : World} (h : Rel P W0 β s W) (hu : VR β u v) : LaysC P W0 β W s s u v W := ⟨β, .refl _ _, h, hu, .refl _⟩
theorem op_value {fr : Tr Value} {o : Oper} {s : AS} {u : Value} (h : ∀ W0 β a W, Rel P W0 β s W → OpR β s.glb fr a o → ∃ v, (execOp a.eval o).run P W = .ok (.value v) W ∧ VR β u v) : OpOk P fr o s u s :=
  ⟨.refl _, fun W0 β a W hR _ ho => by
    obtain ⟨v, h1, h2⟩ := h W0 β a W hR ho
    rw [h1]
    exact lays_same hR h2⟩
theorem pushC_eq (s : AS) (b : Blk) (k : Nat → AS → R) : pushC D s b k = k s.next (s.push b) := by
  unfold pushC
  simp only [Tr.putK_eq, D.frcN_eq]
  rfl
theorem turnC_eq (s : AS) (i : Nat) (b : Option Blk) (k : AS → R) : turnC s i b k = k ⟨s.heap.set i b, s.next, s.lo, s.glb⟩ := by
  unfold turnC
  simp only [Tr.putK_eq]
  rfl
theorem evC_flat {β : Bt} {gl : Nat} {fr : Tr Value} {a : Act} {x : Operand} (h : ∀ u, evC gl fr x = some u → VR β u (a.eval x)) (hf : flatX gl fr x = true) : a.eval x = evxC gl fr x := by
  unfold flatX at hf
  unfold evxC
  cases he : evC gl fr x with
  | none => simp [he] at hf
  | some u => simp only [he] at hf ⊢; exact (h u he).flat_eq hf
def exactC (D : Dom R) (P : Program) (cf : CallF R) (o : Oper) (fr : Tr Value) (s : AS) (k : Value → AS → R) : R :=
  match !isSel o.op && o.op.operands.toList.all (flatX s.glb fr) with
  | true => match pureRun P (execX (evxC s.glb fr) o) with
    | some (.value u) => match flatV u with
      | true => D.frc u fun u => k u s
      | false => D.bad
    | some .skip => k undef s
    | some (.enter f args) => match args.toList.all flatV with
      | true => cf.call f args.toList s k
      | false => D.bad
    | _ => D.bad
  | false => D.bad
theorem exactC_sound {cf : CallF R} (hc : CallOk P D cf) {o : Oper} {fr : Tr Value} {s : AS} {k : Value → AS → R} (hl : s.lo ≤ s.next) (h : D.T (exactC D P cf o fr s k)) : ∃ u s', D.T (k u s') ∧ OpOk P fr o s u s' := by
  unfold exactC at h
  split at h
  · rename_i hx
    simp only [Bool.and_eq_true, Bool.not_eq_true'] at hx
    have hs : ∀ cs b, o.op ≠ .select cs b := fun cs b he => by rw [he] at hx; simp [isSel] at hx
    have he : ∀ {β : Bt} {a : Act}, OpR β s.glb fr a o → execOp a.eval o = execX (evxC s.glb fr) o := fun {β a} ho => by
      rw [execX_eq]
      exact execOp_congr o hs fun x hx' => evC_flat (ho x hx') (List.all_eq_true.1 hx.2 x (by simpa using hx'))
    split at h
    · rename_i u hu
      split at h
      · rename_i hf
        rw [D.frc_eq] at h
        exact ⟨u, s, h, op_value fun W0 β a W hR ho => ⟨u, by rw [he ho]; exact pureRun_run P _ hu W, .of_flat _ hf⟩⟩
      · exact absurd h D.nb
    · rename_i hu
      refine ⟨undef, s, h, .refl _, fun W0 β a W hR _ ho => ?_⟩
      rw [he ho, pureRun_run P _ hu W]
      exact lays_same hR (.of_flat _ rfl)
    · rename_i f args hu
      split at h
      · rename_i hf
        obtain ⟨u, s', h1, h2, h3⟩ := hc.call f args.toList s k hl h
        refine ⟨u, s', h1, h2, fun W0 β a W hR hfr ho => ?_⟩
        rw [he ho, pureRun_run P _ hu W]
        refine ⟨rfl, h3 W0 β W args.toList hR hfr ⟨rfl, fun i u v hu hv => ?_⟩⟩
        rw [hu] at hv
        cases hv
        exact .of_flat _ (List.all_eq_true.1 hf _ (List.mem_of_getElem? hu))
      · exact absurd h D.nb
    · exact absurd h D.nb
  · exact absurd h D.nb
end
end Go.Proofs.Ytphbcejnnoijfaa.U
