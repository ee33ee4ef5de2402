/- The abstract machine, where what comes next hangs on the world (the order in which a map is gone over): all ways are gone. Operations, code. No condition. -/
import Derived.Test.YthbhnbnlbhpooaaUB
namespace Go.Proofs.Ythbhnbnlbhpooaa.U
open Go Go.RowKit Go.Sort
set_option linter.unusedVariables false
set_option linter.unusedSimpArgs false

/-! Names. -/
def FreeA (β : Bt) (n : Nat) : Prop := ∀ k, n ≤ k → β k = none
structure ExtX (B : Nat) (β β' : Bt) (n n' : Nat) : Prop where
  keep : ∀ k, k < n → β' k = β k
  free : FreeA β' n'
  z : FrzLe B β β'
theorem ExtX.refl {B : Nat} {β : Bt} {n : Nat} (h : FreeA β n) : ExtX B β β n n := ⟨fun _ _ => rfl, h, .refl _ _⟩
theorem ExtX.trans {B : Nat} {a b c : Bt} {n m l : Nat} (h : ExtX B a b n m) (k : ExtX B b c m l) (h1 : n ≤ m) : ExtX B a c n l := ⟨fun i hi => (k.keep i (by omega)).trans (h.keep i hi), k.free, h.z.trans k.z⟩
theorem ExtX.le {B : Nat} {β β' : Bt} {n n' : Nat} (h : ExtX B β β' n n') (hf : FreeA β n) : BLx β β' := by
  refine ⟨fun k x hk => ?_, h.z.1⟩
  rcases Nat.lt_or_ge k n with hlt | hge
  · rw [h.keep k hlt]; exact hk
  · rw [hf k hge] at hk; cases hk
theorem ExtX.of {B : Nat} {β β' : Bt} {n n' : Nat} (h : Ext B β β' n n') (hf : FreeA β n) (hn : n ≤ n') : ExtX B β β' n n' := ⟨fun k hk => h.out k (.inl hk), fun k hk => by rw [h.out k (.inr hk)]; exact hf k (by omega), h.le.z⟩
theorem FrR.growX {N : Nat} {fr : Tr Value} {β β' : Bt} {a : Act} (h : FrR β N fr a) (hs : BLx β β') : FrR β' N fr a := ⟨h.size, fun t u hu => (h.at_ t u hu).growX hs, h.lt⟩
theorem FreeA.free {β : Bt} {n m : Nat} (h : FreeA β n) : Free β n m := fun k hk _ => h k hk
structure StpX (s s' : AS) : Prop where
  next : s.next ≤ s'.next
  lo : s'.lo = s.lo
  glb : s'.glb = s.glb
  keep : ∀ (k : Nat), k < s.lo → s'.heap.get k = s.heap.get k
theorem StpX.refl (s : AS) : StpX s s := ⟨Nat.le_refl _, rfl, rfl, fun _ _ => rfl⟩
theorem StpX.trans {a b c : AS} (h : StpX a b) (k : StpX b c) : StpX a c := ⟨Nat.le_trans h.next k.next, k.lo.trans h.lo, k.glb.trans h.glb, fun i hi => (k.keep i (by rw [h.lo]; exact hi)).trans (h.keep i hi)⟩
theorem Stp.x {s s' : AS} (h : Stp s s') : StpX s s' := ⟨h.next, h.lo, h.glb, h.keep⟩
theorem StpX.le {s s' : AS} (h : StpX s s') (hl : s.lo ≤ s.next) : s'.lo ≤ s'.next := by rw [h.lo]; exact Nat.le_trans hl h.next
def LaysX (P : Program) (W0 : World) (β : Bt) (W : World) (s s' : AS) (u v : Value) (W' : World) : Prop := ∃ β', ExtX W0.heap.size β β' s.next s'.next ∧ Rel P W0 β' s' W' ∧ VR β' u v ∧ KD W W'

/-! Loops: a family of states, gone down. -/
/-- A state may be told anew. -/
structure Cov (P : Program) (N n0 : Nat) (fr : Tr Value) (s : AS) (fr1 : Tr Value) (s1 : AS) : Prop where
  lo : s1.lo = s.lo
  glb : s1.glb = s.glb
  next : n0 ≤ s1.next
  keep : ∀ (k : Nat), k < s.lo → s1.heap.get k = s.heap.get k
  rel : ∀ (W0 : World) (β : Bt) (W : World) (a : Act), Rel P W0 β s W → FreeA β s.next → FrR β N fr a → ∃ β1 : Bt, (∀ k, k < n0 → β1 k = β k) ∧ FreeA β1 s1.next ∧ FrzLe W0.heap.size β β1 ∧ Rel P W0 β1 s1 W ∧ FrR β1 N fr1 a
theorem Cov.refl {P : Program} {N n0 : Nat} {fr : Tr Value} {s : AS} (h : n0 ≤ s.next) : Cov P N n0 fr s fr s := ⟨rfl, rfl, h, fun _ _ => rfl, fun W0 β W a hR hf hF => ⟨β, fun _ _ => rfl, hf, .refl _ _, hR, hF⟩⟩
theorem Cov.trans {P : Program} {N n0 : Nat} {fr fr1 fr2 : Tr Value} {s s1 s2 : AS} (h : Cov P N n0 fr s fr1 s1) (k : Cov P N n0 fr1 s1 fr2 s2) : Cov P N n0 fr s fr2 s2 := ⟨k.lo.trans h.lo, k.glb.trans h.glb, k.next, fun i hi => (k.keep i (by rw [h.lo]; exact hi)).trans (h.keep i hi), fun W0 β W a hR hf hF => by
  obtain ⟨β1, q1, q2, q5, q3, q4⟩ := h.rel W0 β W a hR hf hF
  obtain ⟨β2, p1, p2, p5, p3, p4⟩ := k.rel W0 β1 W a q3 q2 q4
  exact ⟨β2, fun i hi => (p1 i hi).trans (q1 i hi), p2, q5.trans p5, p3, p4⟩⟩
def LoopRule {R : Type} (T : R → Prop) (P : Program) (N : Nat) (body : Tr Value → AS → KontC R → R) (k : KontC R) (fr : Tr Value) (s : AS) : Prop :=
  ∃ (α : Type) (f : α → Tr Value × AS) (μ : α → Nat), (∃ a0, Cov P N s.next fr s (f a0).1 (f a0).2) ∧
    ∀ a, ∃ k' : KontC R, T (body (f a).1 (f a).2 k') ∧ ∀ e fr' s', StpX (f a).2 s' → T (k' e fr' s') → match e with
      | .normal => ∃ a', μ a' < μ a ∧ Cov P N s.next fr' s' (f a').1 (f a').2
      | e => T (k e fr' s')
section
variable {P : Program} {fr : Tr Value} {s s1 : AS} {N : Nat}
def AfterY (P : Program) (W0 : World) (N : Nat) (β : Bt) (s s' : AS) (fr' : Tr Value) (a : Act) (W : World) (a' : Act) (W' : World) : Prop := ∃ β', ExtX W0.heap.size β β' s.next s'.next ∧ Rel P W0 β' s' W' ∧ FrR β' N fr' a' ∧ KD W W' ∧ W.heap.size ≤ W'.heap.size ∧ DM W.heap.size W' a.defers a'.defers
theorem AfterY.refl {W0 : World} {β : Bt} {a : Act} {W : World} (hR : Rel P W0 β s W) (hf : FreeA β s.next) (hF : FrR β N fr a) : AfterY P W0 N β s s fr a W a W := ⟨β, .refl hf, hR, hF, .refl _, Nat.le_refl _, .refl _ _ _⟩
theorem AfterY.trans {W0 : World} {β β1 : Bt} {s s1 s' : AS} {fr' : Tr Value} {a a1 a' : Act} {W W1 W' : World} (h1 : s.next ≤ s1.next) (e : ExtX W0.heap.size β β1 s.next s1.next) (k : KD W W1) (z : W.heap.size ≤ W1.heap.size) (d : DM W.heap.size W1 a.defers a1.defers) (h : AfterY P W0 N β1 s1 s' fr' a1 W1 a' W') : AfterY P W0 N β s s' fr' a W a' W' :=
  let ⟨β2, p1, p2, p3, p4, p5, p6⟩ := h
  ⟨β2, e.trans p1 h1, p2, p3, k.trans p4, Nat.le_trans z p5, d.trans p4 z p6⟩
end
/-- What is shown of code. -/
def CodeT {R : Type} (T : R → Prop) (P : Program) (N : Nat) (c : Code) (fr : Tr Value) (s : AS) (k : KontC R) : Prop :=
  ∀ (F : Fence) (n : Nat) (W0 : World) (β : Bt) (a : Act) (W : World) (Q : Exit → Act → World → Prop), WF F → LoopAt F W → Rel P W0 β s W → FreeA β s.next → FrR β N fr a →
    (∀ e fr' s' a' W', T (k e fr' s') → StpX s s' → AfterY P W0 N β s s' fr' a W a' W' → Q e a' W') → c.wpIn F n P Q a W
theorem loopT_sound {R : Type} {T : R → Prop} {P : Program} {N : Nat} {fr : Tr Value} {s : AS} {c : Code} {body : Tr Value → AS → KontC R → R} (hb : ∀ fr s k, s.lo ≤ s.next → T (body fr s k) → CodeT T P N c fr s k) {k : KontC R} (hl : s.lo ≤ s.next) (h : LoopRule T P N body k fr s) : CodeT T P N (.loop c) fr s k := by
  obtain ⟨α, f, μ, ⟨a0, h0⟩, h⟩ := h
  intro F n W0 β a W Q hW hLA hR hf hF hn
  have key : ∀ (m : Nat) (x : α), μ x < m → ∀ (β1 : Bt) (a1 : Act) (W1 : World), s.next ≤ (f x).2.next → (f x).2.lo = s.lo → (f x).2.glb = s.glb → (∀ k, k < s.lo → (f x).2.heap.get k = s.heap.get k) → (∀ k, k < s.next → β1 k = β k) → FreeA β1 (f x).2.next → FrzLe W0.heap.size β β1 → Rel P W0 β1 (f x).2 W1 → FrR β1 N (f x).1 a1 → KD W W1 → W.heap.size ≤ W1.heap.size → DM W.heap.size W1 a.defers a1.defers → Code.roundsIn F n P c Q m a1 W1 := by
    intro m
    induction m with
    | zero => intro x hx; omega
    | succ m ih =>
      intro x hx β1 a1 W1 g1 g2 g3 g4 g5 g6 g12 g7 g8 g9 g10 g11
      obtain ⟨k', hk, hk2⟩ := h x
      refine hb _ _ _ (by rw [g2]; omega) hk F n W0 β1 a1 W1 _ hW (hLA.kd g9) g7 g6 g8 fun e fr' s' a' W' h1 hst ⟨β2, q1, q2, q3, q4, q5, q6⟩ => ?_
      have h2 := hk2 e fr' s' hst h1
      have hst0 : StpX s s' := ⟨Nat.le_trans g1 hst.next, hst.lo.trans g2, hst.glb.trans g3, fun i hi => (hst.keep i (by rw [g2]; exact hi)).trans (g4 i hi)⟩
      have fin : T (k e fr' s') → Q e a' W' := fun h3 => hn e fr' s' a' W' h3 hst0 ⟨β2, ⟨fun i hi => (q1.keep i (by omega)).trans (g5 i hi), q1.free, g12.trans q1.z⟩, q2, q3, g9.trans q4, Nat.le_trans g10 q5, g11.trans q4 g10 q6⟩
      cases e with
      | normal =>
        obtain ⟨x', hr, hcov⟩ := h2
        obtain ⟨β3, p1, p2, p5, p3, p4⟩ := hcov.rel W0 β2 W' a' q2 q1.free q3
        exact ih x' (by omega) β3 a' W' hcov.next (hcov.lo.trans hst0.lo) (hcov.glb.trans hst0.glb) (fun i hi => (hcov.keep i (by rw [hst0.lo]; exact hi)).trans (hst0.keep i hi)) (fun i hi => (p1 i hi).trans ((q1.keep i (by omega)).trans (g5 i hi))) p2 ((g12.trans q1.z).trans p5) p3 p4 (g9.trans q4) (Nat.le_trans g10 q5) (g11.trans q4 g10 q6)
      | _ => exact fin h2
  obtain ⟨β1, p1, p2, p5, p3, p4⟩ := h0.rel W0 β W a hR hf hF
  exact wpIn_loop_rounds _ (key (μ a0 + 1) a0 (Nat.lt_succ_self _) β1 a W h0.next h0.lo h0.glb h0.keep p1 p2 p5 p3 p4 (.refl _) (Nat.le_refl _) (.refl _ _ _))
structure DomX (R : Type) extends Dom R where
  all : List Nat → (Nat → R) → R
  all_ok : ∀ l f, T (all l f) → ∀ i ∈ l, T (f i)
  loop : Program → Nat → Code → (Tr Value → AS → KontC R → R) → KontC R → Nat → Tr Value → AS → R
  loop_ok : ∀ P N c body k n fr s, s.lo ≤ s.next → (∀ fr s k, s.lo ≤ s.next → T (body fr s k) → CodeT T P N c fr s k) → T (loop P N c body k n fr s) → CodeT T P N (.loop c) fr s k
variable {R : Type} {D : DomX R} {P : Program} {cf cx : CallF R} {fr : Tr Value} {s : AS} {o : Oper} {N : Nat}
theorem rollC_rule {D : Dom R} (body : Tr Value → AS → KontC R → R) (k : KontC R) (n : Nat) (fr : Tr Value) (s : AS) (h : D.T (rollC D body k n fr s)) : LoopRule D.T P N body k fr s := by
  refine ⟨{ x : Nat × Tr Value × AS // D.T (rollC D body k x.1 x.2.1 x.2.2) ∧ s.next ≤ x.2.2.next }, fun x => (x.1.2.1, x.1.2.2), fun x => x.1.1, ⟨⟨(n, fr, s), h, Nat.le_refl _⟩, .refl (Nat.le_refl _)⟩, ?_⟩
  rintro ⟨⟨n, fr, s1⟩, h, hn⟩
  cases n with
  | zero => exact absurd h D.nb
  | succ n =>
    refine ⟨_, h, fun e fr' s' hst h' => ?_⟩
    cases e <;> first
      | exact ⟨⟨(n, fr', s'), h', Nat.le_trans hn hst.next⟩, Nat.lt_succ_self n, .refl (Nat.le_trans hn hst.next)⟩
      | exact h'
def allB : List Nat → (Nat → Bool) → Bool
  | [], _ => true
  | i :: l, f => match f i with
    | true => allB l f
    | false => false
theorem allB_ok : ∀ (l : List Nat) (f : Nat → Bool), allB l f = true → ∀ i ∈ l, f i = true
  | [], f, _, i, hi => by cases hi
  | j :: l, f, h, i, hi => by
    unfold allB at h
    split at h
    · rename_i hj
      rcases List.mem_cons.1 hi with rfl | hi
      · exact hj
      · exact allB_ok l f h i hi
    · cases h
def boolX : DomX Bool := { boolD with
  all := allB
  all_ok := allB_ok
  loop := fun _ _ _ body k n fr s => rollC boolD body k n fr s
  loop_ok := fun P N c body k n fr s hl hb h => loopT_sound hb hl (rollC_rule body k n fr s h) }

/-! Operations. -/
def DoesX (D : DomX R) (P : Program) (W0 : World) (β : Bt) (s : AS) (k : Value → AS → R) (W : World) : Result Next → Prop
  | .ok (.value v) W' => ∃ u s', D.T (k u s') ∧ StpX s s' ∧ LaysX P W0 β W s s' u v W'
  | .ok .skip W' => ∃ u s', D.T (k u s') ∧ StpX s s' ∧ LaysX P W0 β W s s' u undef W'
  | .ok (.enter f args) W' => W' = W ∧ Calls P f args W fun e w' => ∃ v u s', e = .returned v ∧ D.T (k u s') ∧ StpX s s' ∧ LaysX P W0 β W s s' u v w'
  | .ok (.round l f tmps assign body) W' => W' = W ∧ RoundIn Fence.wide 0 P l f tmps assign body W fun e w' => ∃ v u s', e = .returned v ∧ D.T (k u s') ∧ StpX s s' ∧ LaysX P W0 β W s s' u v w'
  | _ => False
theorem LaysG.x {W0 : World} {β : Bt} {W : World} {s s' : AS} {u v : Value} {W' : World} (h : LaysC P W0 β W s s' u v W') (hf : FreeA β s.next) (hn : s.next ≤ s'.next) : LaysX P W0 β W s s' u v W' :=
  let ⟨β', h1, h2, h3, h4⟩ := h
  ⟨β', .of h1 hf hn, h2, h3, h4⟩
theorem OpOk.x {u : Value} {s' : AS} {k : Value → AS → R} (h : OpOk P fr o s u s') (hk : D.T (k u s')) {W0 : World} {β : Bt} {a : Act} {W : World} (hR : Rel P W0 β s W) (hf : FreeA β s.next) (ho : OpR β s.glb fr a o) : DoesX D P W0 β s k W ((execOp a.eval o).run P W) := by
  obtain ⟨hst, h⟩ := h
  have h := h W0 β a W hR hf.free ho
  generalize (execOp a.eval o).run P W = r at h
  cases r with
  | ok x w' =>
    cases x <;> simp only [DoesG] at h <;> simp only [DoesX]
    case value v => exact ⟨u, s', hk, hst.x, h.x hf hst.next⟩
    case skip => exact ⟨u, s', hk, hst.x, h.x hf hst.next⟩
    case enter f args => exact ⟨h.1, h.2.mono fun e w'' ⟨v, he, hw⟩ => ⟨v, u, s', he, hk, hst.x, hw.x hf hst.next⟩⟩
    case round => exact ⟨h.1, h.2.mono fun e w'' ⟨v, he, hw⟩ => ⟨v, u, s', he, hk, hst.x, hw.x hf hst.next⟩⟩
  | halt x w' => simp only [DoesG] at h

/-- What is asked of a way to evaluate calls. -/
structure CallX (P : Program) (D : DomX R) (cx : CallF R) : Prop where
  call : ∀ f args s k, s.lo ≤ s.next → D.T (cx.call f args s k) → ∀ W0 β W vs, Rel P W0 β s W → FreeA β s.next → VRs β args vs → Calls P f ⟨vs⟩ W fun e w' => ∃ v u s', e = .returned v ∧ D.T (k u s') ∧ StpX s s' ∧ LaysX P W0 β W s s' u v w'
  round : ∀ l args s k, s.lo ≤ s.next → D.T (cx.round l args s k) → ∀ W0 β W vs r sp, Rel P W0 β s W → FreeA β s.next → VRs β args vs → β l = some (r, sp) → DoesX D P W0 β s k W ((Instr.yield r ⟨vs⟩).run P W)
/-- Calls of function values; the others are as before. -/
def valueX (D : DomX R) (P : Program) (cf cx : CallF R) (o : Oper) (fr : Tr Value) (s : AS) (f : Operand) (args : List Operand) (k : Value → AS → R) : R :=
  match evC s.glb fr f with
  | some (.func (.func g) ⟨a⟩ ⟨b⟩) => match entersB P g with
    | true => onV D.toDom (evsC s.glb fr args) fun us => cx.call g (a ++ (us ++ b)) s k
    | false => opC D.toDom P cf o fr s k
  | some (.func (.yield l) ⟨[]⟩ ⟨[]⟩) => onV D.toDom (evsC s.glb fr args) fun us => cx.round l us s k
  | _ => D.bad
/-- The next entry, whichever it is. -/
def nextX (D : DomX R) (P : Program) (cf : CallF R) (o : Oper) (fr : Tr Value) (s : AS) (x : Operand) (k : Value → AS → R) : R :=
  match evC s.glb fr x with
  | some (.pointer (some ⟨b, 0, none⟩)) => match lookC s b with
    | some (.iter m since seen last) => match lookC s m with
      | some (.map es bs cl) => ifB D.toDom (bornB since last bs && Nat.ble s.lo b) (match leftI seen bs 0 with
        | [] => k (.tuple ⟨[.bool false]⟩) s
        | l => D.all l fun i => onV D.toDom (nthN bs i) fun bi => onV D.toDom (nthP es i) fun e => ifB D.toDom (flatV e.1) (turnC s b (some (.iter m since (seen ++ [bi]) cl)) fun s => k (.tuple ⟨[.bool true, e.1, e.2]⟩) s))
      | _ => D.bad
    | _ => D.bad
  | _ => D.bad
def opX (D : DomX R) (P : Program) (cf cx : CallF R) (o : Oper) (fr : Tr Value) (s : AS) (k : Value → AS → R) : R :=
  match o.op with
  | .next x false => nextX D P cf o fr s x k
  | .call c => match c.callee with
    | .value f => valueX D P cf cx o fr s f c.args.toList k
    | _ => opC D.toDom P cf o fr s k
  | _ => opC D.toDom P cf o fr s k
theorem opX_sound (hc : CallOk P D.toDom cf) (hx : CallX P D cx) (hl : s.lo ≤ s.next) {k : Value → AS → R} (h : D.T (opX D P cf cx o fr s k)) {W0 : World} {β : Bt} {w : Act} {W : World} (hR : Rel P W0 β s W) (hf : FreeA β s.next) (hop : OpR β s.glb fr w o) : DoesX D P W0 β s k W ((execOp w.eval o).run P W) := by
  have det : D.T (opC D.toDom P cf o fr s k) → DoesX D P W0 β s k W ((execOp w.eval o).run P W) := fun h => by
    obtain ⟨u, s', h1, h2⟩ := opC_sound hc hl h
    exact h2.x h1 hR hf hop
  unfold opX at h
  split at h
  · rename_i x ho
    unfold nextX at h
    split at h
    · rename_i b hx'
      split at h
      · rename_i m since seen last hlook
        have hlook : s.heap.get b = some (.iter m since seen last) := hlook
        split at h
        · rename_i es bs cl hlook2
          have hlook2 : s.heap.get m = some (.map es bs cl) := hlook2
          replace h := ifB_sound h
          obtain ⟨hb, h⟩ := h
          simp only [Bool.and_eq_true] at hb
          obtain ⟨hb, hlo⟩ := hb
          have hlo := Nat.le_of_ble_eq_true hlo
          obtain ⟨r, sp, e1, e2⟩ := (hop x (by simp [ho, Op.operands]) _ hx').ptr_inv
          have hex : ∀ v W', (Instr.next (.pointer (some ⟨r, 0, none⟩)) false o.type).run P W = .ok v W' → (execOp w.eval o).run P W = .ok (.value v) W' := fun v W' hrun => by
            simp only [execOp, ho, e2, Nat.zero_add] at hrun ⊢
            simp [hrun]
          split at h
          · rename_i hl0
            rcases next_world o.type hR hlook hlook2 hlo e1 hb with ⟨_, hrun⟩ | ⟨i, bi, z, u, v, W', hi, _⟩
            · rw [hex _ _ hrun]
              exact ⟨_, s, h, .refl _, β, .refl hf, hR, .of_flat _ rfl, .refl _⟩
            · rw [hl0] at hi; cases hi
          · rename_i l hne
            rcases next_world o.type hR hlook hlook2 hlo e1 hb with ⟨hl', _⟩ | ⟨i, bi, z, u, v, W', hi, k1, k2, k3, hrun, k4, k5⟩
            · exact absurd hl' hne
            · have h := D.all_ok _ _ h i hi
              obtain ⟨bi', hbi, h⟩ := onV_sound h
              obtain ⟨e, he, h⟩ := onV_sound h
              replace h := ifB_sound h
              obtain ⟨hfl, h⟩ := h
              rw [nthN_eq] at hbi
              rw [nthP_eq] at he
              rw [turnC_eq] at h
              rw [hbi] at k1
              rw [he] at k2
              cases k1
              cases k2
              rw [hex _ _ hrun]
              have hv := VRs.cons (VR.of_flat β (u := .bool true) rfl) (.cons (VR.of_flat β hfl) (.cons k3 (.nil _)))
              exact ⟨_, _, h, (Stp.turn _ (by rw [hlook]; simp) hlo (by rw [hlook]; simp [isLoop])).x, β, .refl hf, k4, .tup _ _ hv.1 hv.2, k5⟩
        · exact absurd h D.nb
      · exact absurd h D.nb
    · exact absurd h D.nb
  · rename_i c ho
    split at h
    · rename_i f hcal
      unfold valueX at h
      split at h
      · rename_i g a b hff
        split at h
        · rename_i hen
          obtain ⟨us, hus, h⟩ := onV_sound h
          obtain ⟨a', b', e1, e2, e3⟩ := (hop f (by simp [ho, Op.operands, Call.operands, hcal]) _ hff).func_inv
          have e4 := evsC_sound (β := β) (a := w) hus fun z hz => hop z (by simp only [ho, Op.operands, Call.operands, hcal]; simp at hz ⊢; simp [hz])
          have e : execOp w.eval o = callFunc g ((⟨a'⟩ : Array Value) ++ c.args.map w.eval ++ (⟨b'⟩ : Array Value)) := by
            simp only [execOp, ho, resolve, hcal, e3, Deferred.ofValue]; rfl
          rw [e, run_enters hen W]
          have ea : ((⟨a'⟩ : Array Value) ++ c.args.map w.eval ++ (⟨b'⟩ : Array Value)) = ⟨a' ++ (c.args.toList.map w.eval ++ b')⟩ := by
            apply Array.ext'
            simp
          rw [ea]
          exact ⟨rfl, hx.call g _ s k hl h W0 β W _ hR hf (e1.app (e4.app e2))⟩
        · exact det h
      · rename_i l hff
        obtain ⟨us, hus, h⟩ := onV_sound h
        obtain ⟨r, sp, e1, e3⟩ := (hop f (by simp [ho, Op.operands, Call.operands, hcal]) _ hff).yld_inv
        have e4 := evsC_sound (β := β) (a := w) hus fun z hz => hop z (by simp only [ho, Op.operands, Call.operands, hcal]; simp at hz ⊢; simp [hz])
        have e : (execOp w.eval o).run P W = (Instr.yield r ⟨c.args.toList.map w.eval⟩).run P W := by
          have ea : (c.args.map w.eval : Array Value) = ⟨c.args.toList.map w.eval⟩ := by apply Array.ext'; simp
          simp [execOp, ho, resolve, hcal, e3, Deferred.ofValue, invoke, ea]
        rw [e]
        exact hx.round l _ s k hl h W0 β W _ r sp hR hf e4 e1
      · exact absurd h D.nb
    · exact det h
  · exact det h

/-! Operations one behind the other. -/
def stepX (D : DomX R) (P : Program) (cf cx : CallF R) (N : Nat) (ops : List Oper) (o : Oper) (ih : Tr Value → AS → (Tr Value → AS → R) → R) (fr : Tr Value) (s : AS) (k : Tr Value → AS → R) : R :=
  litG D.toDom ops o fr fun fr => guardK (guardC ops o fr) (opX D P cf cx o fr s) s D.bad fun u s => putF D.toDom N o.dst u fr fun fr => ih fr s k
/-- By the recursor itself: what the kernel unfolds is then just what is written. -/
noncomputable def opsX (D : DomX R) (P : Program) (cf cx : CallF R) (N : Nat) (ops : List Oper) (l : List Oper) : Tr Value → AS → (Tr Value → AS → R) → R :=
  List.rec (motive := fun _ => Tr Value → AS → (Tr Value → AS → R) → R) (fun fr s k => k fr s) (fun o _ ih => stepX D P cf cx N ops o ih) l
theorem DoesX.plain {W0 : World} {β : Bt} {k : Value → AS → R} {a : Act} {W : World} (h : DoesX D P W0 β s k W ((execOp a.eval o).run P W)) : ∀ c, o.op ≠ .defer c := fun c ho => by
  simp only [execOp, ho, Sem.run_bind] at h
  generalize (resolve a.eval c o.type).run P W = r at h
  cases r with
  | ok d w => exact h
  | halt x w => exact h
theorem DoesX.step {F : Fence} {n : Nat} (hF : WF F) {W0 : World} {β : Bt} {k : Value → AS → R} {a : Act} {W : World} {next : Act → World → Prop} {Q : Exit → Act → World → Prop} (h : DoesX D P W0 β s k W ((execOp a.eval o).run P W)) (hn : ∀ u s' v W', D.T (k u s') → StpX s s' → LaysX P W0 β W s s' u v W' → next (a.put o.dst v) W') : o.wpIn F n P a W next Q := by
  refine ⟨fun f _ => hF.fn f, ?_⟩
  rw [Oper.semAt_eq _ _ _ h.plain]
  generalize (execOp a.eval o).run P W = r at *
  cases r with
  | ok x w' =>
    cases x <;> simp only [DoesX] at h <;> simp only [Oper.uponIn]
    case value v => obtain ⟨u, s', h1, h2, h3⟩ := h; exact hn _ _ _ _ h1 h2 h3
    case skip => obtain ⟨u, s', h1, h2, h3⟩ := h; exact hn _ _ _ _ h1 h2 h3
    case enter f args =>
      obtain ⟨rfl, hc⟩ := h
      exact ⟨hF.dep, hF.calls (hc.mono fun e w'' ⟨v, u, s', he, h1, h2, h3⟩ => by subst he; exact hn _ _ _ _ h1 h2 h3)⟩
    case round =>
      obtain ⟨rfl, hc⟩ := h
      exact ⟨hF.dep, hF.round (hc.mono fun e w'' ⟨v, u, s', he, h1, h2, h3⟩ => by subst he; exact hn _ _ _ _ h1 h2 h3)⟩
  | halt x w' => simp only [DoesX] at h
def AfterX (P : Program) (W0 : World) (N : Nat) (β : Bt) (s s' : AS) (fr' : Tr Value) (a : Act) (W : World) (a' : Act) (W' : World) : Prop := ∃ β', ExtX W0.heap.size β β' s.next s'.next ∧ Rel P W0 β' s' W' ∧ FrR β' N fr' a' ∧ KD W W' ∧ a'.defers = a.defers
theorem opsX_sound2 (hc : CallOk P D.toDom cf) (hx : CallX P D cx) {ops : List Oper} {F : Fence} {n : Nat} (hW : WF F) {W0 : World} {Q : Exit → Act → World → Prop} (l2 : List Oper) : ∀ (l : List Oper) (fr : Tr Value) (s : AS) (k : Tr Value → AS → R), s.lo ≤ s.next → D.T (opsX D P cf cx N ops l fr s k) →
    ∀ (β : Bt) (a : Act) (W : World), Rel P W0 β s W → FreeA β s.next → FrR β N fr a → (∀ fr' s' a' W', D.T (k fr' s') → StpX s s' → AfterX P W0 N β s s' fr' a W a' W' → wpListIn F n P ops.toArray Q l2 a' W') → wpListIn F n P ops.toArray Q (l ++ l2) a W
  | [], fr, s, k, hl, h, β, a, W, hR, hf, hF, hn => hn _ _ _ _ h (.refl _) ⟨β, .refl hf, hR, hF, .refl _, rfl⟩
  | o :: l, fr0, s, k, hl, h, β, a, W, hR, hf, hF0, hn => by
    rw [List.cons_append]
    replace h : D.T (stepX D P cf cx N ops o (opsX D P cf cx N ops l) fr0 s k) := h
    unfold stepX at h
    replace h := litG_sound h
    obtain ⟨fr, hfrx, h⟩ := h
    have hF := hF0.ext hfrx
    unfold guardK at h
    split at h
    · rename_i hg
      unfold wpListIn
      rw [if_pos (guardC_sound hg fun t _ u hu => hF.at_ t u hu)]
      refine (opX_sound hc hx hl h hR hf (hF.op hR o)).step hW fun u s1 v W' h1 hst ⟨β', q1, q2, q3, q4⟩ => ?_
      obtain ⟨hd, h1⟩ := putF_sound h1
      refine opsX_sound2 hc hx hW l2 l _ s1 k (hst.le hl) h1 β' _ W' q2 q1.free ((hF.growX (q1.le hf)).put hd q3) fun fr' s' a' W'' h2 hst2 ⟨β2, p1, p2, p3, p4, p5⟩ => hn _ _ _ _ h2 (hst.trans hst2) ⟨β2, q1.trans p1 hst.next, p2, p3, q4.trans p4, p5.trans (by cases o.dst <;> rfl)⟩
    · rename_i hg
      replace h := putF_sound h
      obtain ⟨hd, h⟩ := h
      unfold wpListIn
      rw [if_neg (by rw [guardC_sound hg fun t _ u hu => hF.at_ t u hu]; simp)]
      exact ⟨fun f _ => hW.fn f, opsX_sound2 hc hx hW l2 l _ s k hl h β _ W hR hf (hF.put hd (.undef _)) fun fr' s' a' W'' h2 hst2 ⟨β2, p1, p2, p3, p4, p5⟩ => hn _ _ _ _ h2 hst2 ⟨β2, p1, p2, p3, p4, p5.trans (by cases o.dst <;> rfl)⟩⟩
    · exact absurd h D.nb

theorem opsX_sound (hc : CallOk P D.toDom cf) (hx : CallX P D cx) {ops : List Oper} {F : Fence} {n : Nat} (hW : WF F) {W0 : World} {Q : Exit → Act → World → Prop} (l : List Oper) (fr : Tr Value) (s : AS) (k : Tr Value → AS → R) (hl : s.lo ≤ s.next) (h : D.T (opsX D P cf cx N ops l fr s k))
    (β : Bt) (a : Act) (W : World) (hR : Rel P W0 β s W) (hf : FreeA β s.next) (hF : FrR β N fr a) (hn : ∀ fr' s' a' W', D.T (k fr' s') → StpX s s' → AfterX P W0 N β s s' fr' a W a' W' → Q .normal a' W') : wpListIn F n P ops.toArray Q l a W := by
  have := opsX_sound2 hc hx (n := n) (Q := Q) hW [] l fr s k hl h β a W hR hf hF hn
  rwa [List.append_nil] at this

/-! Heads, by the recursor itself. -/
def stepHX (D : Dom R) (P : Program) (cf : CallF R) (N : Nat) (ops : List Oper) (er : List Nat) (o : Oper) (ih : Nat → MutL → Tr Value → AS → (Tr Value → AS → List (Nat × Option Blk) → R) → R) (i : Nat) (M : MutL) (fr : Tr Value) (s : AS) (k : Tr Value → AS → List (Nat × Option Blk) → R) : R :=
  litG D ops o fr fun fr => ifB D (earlyNow er i o fr s.glb) (match guardC ops o fr with
    | some true => match M with
      | [] => liftC s fun lo s0 => opC D P cf o fr s0 fun u s1 => putF D N o.dst u fr fun fr => dropC lo s1 fun s2 => ih (Nat.succ i) [] fr s2 k
      | (b, blk, ex) :: M => match kindH o fr s.glb b with
        | .st t x y => ifB D (isNone' ex && Nat.blt b s.next) (mutC D P fr s.glb b blk t x y fun blk' => putF D N o.dst undef fr fun fr => ih (Nat.succ i) M fr s fun fr s l => k fr s ((b, some blk') :: l))
        | .ap t x y => ifB D (isNone' ex && Nat.blt b s.next && agedB M s.next (Nat.succ s.next)) (appM D P fr s b blk t x y fun u blk' => pushC D s blk' fun _ s1 => putF D N o.dst u fr fun fr => ih (Nat.succ i) M fr s1 fun fr s l => k fr s ((b, none) :: l))
        | .me t x => entryX D P fr s.glb blk t x fun u blk' => ifB D (exB ex blk' && Nat.blt b s.next) (putF D N o.dst u fr fun fr => ih (Nat.succ i) M fr s fun fr s l => k fr s ((b, some blk') :: l))
        | .rd t x y => rdC D P fr s.glb b blk t x y fun u blk' => ifB D (exB ex blk' && Nat.blt b s.next) (putF D N o.dst u fr fun fr => ih (Nat.succ i) ((b, blk, some blk') :: M) fr s k)
        | .no => liftC s fun lo s0 => opC D P cf o fr s0 fun u s1 => putF D N o.dst u fr fun fr => dropC lo s1 fun s2 => bornC D ((b, blk, ex) :: M) s.next s2 fun M s3 => ih (Nat.succ i) M fr s3 k
    | some false => putF D N o.dst undef fr fun fr => ih (Nat.succ i) M fr s k
    | none => D.bad)
noncomputable def opsHX (D : Dom R) (P : Program) (cf : CallF R) (N : Nat) (ops : List Oper) (er : List Nat) (i : Nat) (l : List Oper) : MutL → Tr Value → AS → (Tr Value → AS → List (Nat × Option Blk) → R) → R :=
  List.rec (motive := fun _ => Nat → MutL → Tr Value → AS → (Tr Value → AS → List (Nat × Option Blk) → R) → R) (fun _ M fr s k => match M with
    | [] => k fr s []
    | _ => D.bad) (fun o _ ih => stepHX D P cf N ops er o ih) l i
theorem opsHX_eq {D : Dom R} {P : Program} {cf : CallF R} {N : Nat} {ops : List Oper} {er : List Nat} : ∀ (l : List Oper) (i : Nat), opsHX D P cf N ops er i l = opsH D P cf N ops er i l
  | [], i => by
    funext M fr s k
    unfold opsH
    rfl
  | o :: l, i => by
    have h : (fun i => opsHX D P cf N ops er i l) = fun i => opsH D P cf N ops er i l := funext fun i => opsHX_eq l i
    funext M fr s k
    show stepHX D P cf N ops er o (fun i => opsHX D P cf N ops er i l) i M fr s k = _
    rw [h]
    conv => rhs; unfold opsH
    rfl

/-! Regions that draw their order: the head as before, the tail in all ways. -/
noncomputable def drawXAt (D : DomX R) (P : Program) (cf cx : CallF R) (N : Nat) (ops : List Oper) (n : Nat) (M : List (Nat × Blk)) (fr : Tr Value) (s : AS) (k : Tr Value → AS → R) : R :=
  opsHX D.toDom P cf N ops (earlyL ops.toArray n) 0 (ops.take n) (M.map fun x => (x.1, x.2, none)) fr s fun fr s news => setAllC news s fun s => opsX D P cf cx N ops (ops.drop n) fr s k
noncomputable def drawX (D : DomX R) (P : Program) (cf cx : CallF R) (N : Nat) (ops : List Oper) (fr : Tr Value) (s : AS) (k : Tr Value → AS → R) : R :=
  match headN ops ops.length with
  | some n => drawXAt D P cf cx N ops n [] fr s k
  | none => match headM ops (ops.length + 1) 0 with
    | some n => opsC D.toDom P cf N ops (ops.take n) fr s fun fr1 _ => mutsC D.toDom fr1 s (ops.take n) fun M => ifB D.toDom (mutsOk s M) (killC M s fun s0 => drawXAt D P cf cx N ops n M fr s0 k)
    | none => D.bad
theorem After.x {W0 : World} {β : Bt} {s' : AS} {fr' : Tr Value} {a a' : Act} {W W' : World} (h : After P W0 N β s s' fr' a W a' W') (hf : FreeA β s.next) (hn : s.next ≤ s'.next) : AfterX P W0 N β s s' fr' a W a' W' :=
  let ⟨β', h1, h2, h3, h4, h5⟩ := h
  ⟨β', .of h1 hf hn, h2, h3, h4, h5⟩
theorem drawX_sound (hm : P.follows .mixedOrders = true) (hc : CallOk P D.toDom cf) (hx : CallX P D cx) {ops : List Oper} {k : Tr Value → AS → R} (hl : s.lo ≤ s.next) (h : D.T (drawX D P cf cx N ops fr s k)) {F : Fence} {m : Nat} {W0 : World} {β : Bt} {a : Act} {W : World} (id : Nat) {Q : Exit → Act → World → Prop} (hW : WF F) (hR : Rel P W0 β s W) (hf : FreeA β s.next) (hF : FrR β N fr a) (hn : ∀ fr' s' a' W', D.T (k fr' s') → StpX s s' → AfterX P W0 N β s s' fr' a W a' W' → Q .normal a' W') : (Code.region id ops.toArray true).wpIn F m P Q a W := by
  have main : ∀ (n : Nat) (M : List (Nat × Blk)), n ≤ ops.length → stopC ops n = true → (∀ x ∈ M, (s.heap.get x.1 = some x.2 ∨ s.next ≤ x.1) ∧ s.lo ≤ x.1) → (M.map (·.1)).Nodup → D.T (drawXAt D P cf cx N ops n M fr (killS (M.map (·.1)) s) k) → (Code.region id ops.toArray true).wpIn F m P Q a W := fun n M hnl hck hMs hMd h => by
    unfold drawXAt at h
    rw [opsHX_eq] at h
    obtain ⟨fr1, sE, hk, hstE, hrun⟩ := drawHead_sound hm hc hnl hck hl hMs hMd h
    refine hrun F m W0 β a W id Q hW hR hf.free hF fun a1 W1 hA => ?_
    obtain ⟨β1, q1, q2, q3, q4, q5⟩ := hA.x hf hstE.next
    exact opsX_sound hc hx (.inl rfl) _ _ _ _ (hstE.x.le hl) hk β1 a1 W1 q2 q1.free q3 fun fr' s' a' W' h2 hst2 ⟨β2, p1, p2, p3, p4, p5⟩ => ⟨rfl, hn _ _ _ _ h2 (hstE.x.trans hst2) ⟨β2, q1.trans p1 hstE.next, p2, p3, q4.trans p4, p5.trans q5⟩⟩
  unfold drawX at h
  split at h
  · rename_i n hn'
    obtain ⟨hnl, hck⟩ := headN_spec _ hn'
    exact main n [] hnl (freeAtC_stop hck) (fun x hx => by cases hx) .nil h
  · split at h
    · rename_i n hn'
      obtain ⟨hnl, hck⟩ := headM_spec _ _ (by omega) hn'
      obtain ⟨fr1, s1, h, _⟩ := opsC_sound hc _ _ _ _ hl h
      obtain ⟨M, h, hM⟩ := mutsC_sound (k := fun _ => D.bad) _ _ h
      replace h := ifB_sound h
      obtain ⟨hok, h⟩ := h
      rw [killC_eq] at h
      simp only [mutsOk, Bool.and_eq_true] at hok
      exact main n M hnl hck (fun x hx => ⟨hM x hx, Nat.le_of_ble_eq_true (List.all_eq_true.1 hok.1 x hx)⟩) (nodupB_is hok.2) h
    · exact absurd h D.nb
end Go.Proofs.Ythbhnbnlbhpooaa.U
