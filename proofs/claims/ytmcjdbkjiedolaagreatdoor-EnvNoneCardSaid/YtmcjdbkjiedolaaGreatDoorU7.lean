/- The abstract machine: operations one behind the other; regions that draw their order. No condition. -/
import Derived.Test.YtmcjdbkjiedolaaGreatDoorU6
import Derived.RangeFuncIn
import Derived.RangeFuncLeaves
import Derived.OrdersIn
import Derived.LoopNIn
import Derived.RangeFuncCalls
import Derived.RangeFuncNested
namespace Go.Proofs.YtmcjdbkjiedolaaGreatDoor.U
open Go Go.RowKit Go.Sort
set_option linter.unusedVariables false
set_option linter.unusedSimpArgs false
variable {R : Type} {D : Dom R} {P : Program} {cf : CallF R} {fr : Tr Value} {s : AS} {o : Oper} {N : Nat}

/-- The frame: what is known of the slots. -/
structure FrR (β : Bt) (N : Nat) (fr : Tr Value) (a : Act) : Prop where
  size : a.tmps.size = N
  at_ : ∀ (t : Nat) (u : Value), Tr.at (pt t) fr = some u → VR β u (a.tmps.getD t undef)
  lt : ∀ (t : Nat), Tr.at (pt t) fr ≠ none → t < N
theorem FrR.grow {β β' : Bt} {a : Act} (h : FrR β N fr a) (hs : BLe β β') : FrR β' N fr a := ⟨h.size, fun t u hu => (h.at_ t u hu).grow hs, h.lt⟩
/-- What the slots, and package variables, say of an operation's operands. -/
theorem opR_of {β : Bt} {W0 W : World} {a : Act} (hR : Rel P W0 β s W) (h : ∀ t u, .tmp t ∈ o.op.operands.toList → Tr.at (pt t) fr = some u → VR β u (a.tmps.getD t undef)) : OpR β s.glb fr a o := by
  intro x hx u hu
  cases x with
  | tmp t => exact h t u (by simpa using hx) hu
  | const v =>
    simp only [evC] at hu
    split at hu
    · rename_i hf; cases hu; exact .of_flat _ hf
    · cases hu
  | global g =>
    simp only [evC] at hu
    split at hu
    · rename_i hg
      cases hu
      exact .ptr _ _ _ _ (hR.glob g (of_decide_eq_true (by simpa [Nat.blt_eq] using hg)))
    · cases hu
  | func f => simp only [evC] at hu; cases hu; exact .flat _ rfl
theorem FrR.op {β : Bt} {W0 W : World} {a : Act} (h : FrR β N fr a) (hR : Rel P W0 β s W) (o : Oper) : OpR β s.glb fr a o := opR_of hR fun t u _ hu => h.at_ t u hu
def putF (D : Dom R) (N : Nat) (d : Option Tmp) (u : Value) (fr : Tr Value) (k : Tr Value → R) : R :=
  match d with
  | none => k fr
  | some d => ifB D (Nat.blt d N) (Tr.putK (some u) (pt d) fr k)
def setF (d : Option Tmp) (u : Value) (fr : Tr Value) : Tr Value :=
  match d with
  | none => fr
  | some d => fr.set d (some u)
theorem putF_sound {d : Option Tmp} {u : Value} {k : Tr Value → R} (h : D.T (putF D N d u fr k)) : (∀ t, d = some t → t < N) ∧ D.T (k (setF d u fr)) := by
  cases d with
  | none => exact ⟨fun t ht => (by cases ht), h⟩
  | some d =>
    replace h := ifB_sound h
    obtain ⟨h1, h⟩ := h
    rw [Tr.putK_eq] at h
    refine ⟨fun t ht => ?_, h⟩
    cases ht
    exact of_decide_eq_true (by simpa [Nat.blt_eq] using h1)
theorem setF_at {d : Option Tmp} {u : Value} {t : Nat} : Tr.at (pt t) (setF d u fr) = if d = some t then some u else Tr.at (pt t) fr := by
  cases d with
  | none => simp [setF]
  | some d =>
    have := Tr.get_set fr d t (some u)
    by_cases he : t = d
    · subst he; simpa [setF, Tr.get] using this
    · rw [if_neg he] at this
      rw [if_neg (fun e => he (Option.some.inj e).symm)]
      exact this
theorem FrR.put {β : Bt} {a : Act} {d : Option Tmp} {u v : Value} (h : FrR β N fr a) (hd : ∀ t, d = some t → t < N) (hu : VR β u v) : FrR β N (setF d u fr) (a.put d v) := by
  refine ⟨by rw [put_size]; exact h.size, fun t w hw => ?_, fun t ht => ?_⟩
  · rw [setF_at] at hw
    split at hw
    · rename_i he
      cases hw
      have := put_self (a := a) (v := v) (s := t) (by rw [h.size]; exact hd t he)
      rw [he]
      simpa [this] using hu
    · rename_i he
      have := put_other (a := a) (x := d) (v := v) (s := t) he
      have e2 : (a.put d v).tmps.getD t undef = a.tmps.getD t undef := by simp [this]
      rw [e2]
      exact h.at_ t w hw
  · rw [setF_at] at ht
    split at ht
    · rename_i he; exact hd t he
    · exact h.lt t ht

/-- Guards. -/
def guardC (ops : List Oper) (o : Oper) (fr : Tr Value) : Option Bool :=
  match o.guard with
  | none => some true
  | some (j, want) => match guardSlot ops j with
    | none => some false
    | some d => match Tr.at (pt d) fr with
      | some (.bool b) => match b, want with
        | true, true => some true
        | false, false => some true
        | _, _ => some false
      | some (.tuple _) => some false
      | _ => none
theorem guardC_sound {ops : List Oper} {wd : Bool} (h : guardC ops o fr = some wd) {β : Bt} {a : Act} (hS : ∀ t ∈ o.looksAt ops.toArray, ∀ u, Tr.at (pt t) fr = some u → VR β u (a.tmps.getD t undef)) : Region.wanted o (yielded ops.toArray a.tmps) = wd := by
  unfold guardC at h
  split at h
  · rename_i hg; cases h; simp [Region.wanted, hg]
  · rename_i j want hg
    split at h
    · rename_i hd
      cases h
      have : yielded ops.toArray a.tmps j = none := by
        unfold yielded
        unfold guardSlot at hd
        rw [nth_eq] at hd
        split at hd
        · rename_i oj hoj; simp [hoj, hd]
        · rename_i hoj; simp [hoj]
      simp [Region.wanted, hg, this]
    · rename_i d hd
      have hslot : (ops.toArray[j]?).bind (·.dst) = some d := by
        unfold guardSlot at hd
        rw [nth_eq] at hd
        split at hd
        · rename_i oj hoj; simp [hoj, hd]
        · cases hd
      have hlook : d ∈ o.looksAt ops.toArray := by
        unfold Oper.looksAt
        simp only [hg, hslot]
        exact List.mem_append_right _ (by simp)
      split at h
      · rename_i b hb
        have hv := (hS d hlook _ hb).flat_eq rfl
        have hs : a.tmps[d]? = some (.bool b) := by
          rcases Nat.lt_or_ge d a.tmps.size with hlt | hge
          · simp [hlt] at hv ⊢; exact hv
          · simp [Array.getElem?_eq_none hge, undef] at hv
        have : yielded ops.toArray a.tmps j = some b := by
          unfold yielded
          rw [hslot]
          simp only [Option.bind_some, hs]
        simp only [Region.wanted, hg, this]
        cases b <;> cases want <;> simp at h <;> subst h <;> rfl
      · rename_i vs hb
        cases h
        cases vs with
        | mk l =>
        obtain ⟨l', _, hv⟩ := (hS d hlook _ hb).tup_inv
        have : yielded ops.toArray a.tmps j = none := by
          unfold yielded
          rw [hslot]
          simp only [Option.bind_some]
          rcases Nat.lt_or_ge d a.tmps.size with hlt | hge
          · simp [hlt] at hv ⊢; rw [hv]
          · simp [Array.getElem?_eq_none hge]
        simp [Region.wanted, hg, this]
      · cases h

def opsC (D : Dom R) (P : Program) (cf : CallF R) (N : Nat) (ops : List Oper) : List Oper → Tr Value → AS → (Tr Value → AS → R) → R
  | [], fr, s, k => k fr s
  | o :: l, fr, s, k => match guardC ops o fr with
    | some true => opC D P cf o fr s fun u s => putF D N o.dst u fr fun fr => opsC D P cf N ops l fr s k
    | some false => putF D N o.dst undef fr fun fr => opsC D P cf N ops l fr s k
    | none => D.bad
/-- What a part of a run leaves. -/
def After (P : Program) (W0 : World) (N : Nat) (β : Bt) (s s' : AS) (fr' : Tr Value) (a : Act) (W : World) (a' : Act) (W' : World) : Prop := ∃ β', Ext β β' s.next s'.next ∧ Rel P W0 β' s' W' ∧ FrR β' N fr' a' ∧ KD W W' ∧ a'.defers = a.defers
/-- Fences without bounds: everywhere, in a round or not. -/
def WF (F : Fence) : Prop := F = Fence.wide ∨ ∃ l, F = Fence.wide.inRound l
theorem WF.fn {F : Fence} (h : WF F) (f : FuncId) : F.fn f := by rcases h with rfl | ⟨l, rfl⟩ <;> trivial
theorem WF.dep {F : Fence} (h : WF F) {q : Prop} : F.depth.isSome = true → q := by rcases h with rfl | ⟨l, rfl⟩ <;> (intro h; cases h)
theorem WF.calls {F : Fence} (h : WF F) {n : Nat} {f : FuncId} {args : Array Value} {w : World} {Q : Ending → World → Prop} (hc : Calls P f args w Q) : CallsIn F n P f args w Q := by
  rcases h with rfl | ⟨l, rfl⟩
  · exact callsIn_wide.2 hc
  · exact CallsIn.inRound l (callsIn_wide.2 hc)
theorem WF.round {F : Fence} (h : WF F) {n l : Nat} {f : FuncId} {tmps : Array Value} {x y : Code} {w : World} {Q : Ending → World → Prop} (hc : RoundIn Fence.wide 0 P l f tmps x y w Q) : RoundIn F n P l f tmps x y w Q := by
  rcases h with rfl | ⟨l, rfl⟩
  · exact ⟨trivial, fun c cs _ => hc.2 c cs (room_wide _)⟩
  · exact ⟨trivial, fun c cs _ => hc.2 c cs (room_wide _)⟩
theorem does_plain {W0 : World} {β : Bt} {s' : AS} {u : Value} {a : Act} {W : World} (h : DoesC P W0 β s s' u W ((execOp a.eval o).run P W)) : ∀ c, o.op ≠ .defer c := fun c ho => by
  simp only [execOp, ho, Sem.run_bind] at h
  generalize (resolve a.eval c o.type).run P W = r at h
  cases r with
  | ok d w => exact h
  | halt x w => exact h
theorem does_stepC {F : Fence} {n : Nat} (hF : WF F) {W0 : World} {β : Bt} {s' : AS} {u : Value} {a : Act} {W : World} {next : Act → World → Prop} {Q : Exit → Act → World → Prop} (h : DoesC P W0 β s s' u W ((execOp a.eval o).run P W)) (hn : ∀ v W', LaysC P W0 β W s s' u v W' → next (a.put o.dst v) W') : o.wpIn F n P a W next Q := by
  refine ⟨fun f _ => hF.fn f, ?_⟩
  rw [Oper.semAt_eq _ _ _ (does_plain h)]
  generalize (execOp a.eval o).run P W = r at *
  cases r with
  | ok x w' =>
    cases x <;> simp only [DoesC] at h <;> simp only [Oper.uponIn]
    case value v => exact hn _ _ h
    case skip => exact hn _ _ h
    case enter f args =>
      obtain ⟨rfl, hc⟩ := h
      exact ⟨hF.dep, hF.calls (hc.mono fun e w'' ⟨v, he, hw''⟩ => by subst he; exact hn _ _ hw'')⟩
    case round =>
      obtain ⟨rfl, hc⟩ := h
      exact ⟨hF.dep, hF.round (hc.mono fun e w'' ⟨v, he, hw''⟩ => by subst he; exact hn _ _ hw'')⟩
  | halt x w' => simp only [DoesC] at h
theorem VR.undef (β : Bt) : VR β undef undef := .of_flat _ rfl
theorem opsC_sound (hc : CallOk P D cf) {ops : List Oper} : ∀ (l : List Oper) (fr : Tr Value) (s : AS) (k : Tr Value → AS → R), s.lo ≤ s.next → D.T (opsC D P cf N ops l fr s k) → ∃ fr' s', D.T (k fr' s') ∧ Stp s s' ∧
    ∀ (F : Fence) (n : Nat) (W0 : World) (β : Bt) (a : Act) (W : World) (Q : Exit → Act → World → Prop), WF F → Rel P W0 β s W → Free β s.next s'.next → FrR β N fr a → (∀ a' W', After P W0 N β s s' fr' a W a' W' → Q .normal a' W') → wpListIn F n P ops.toArray Q l a W
  | [], fr, s, k, hl, h => ⟨fr, s, h, .refl _, fun F n W0 β a W Q hW hR hf hF hn => hn _ _ ⟨β, .refl _ _, hR, hF, .refl _, rfl⟩⟩
  | o :: l, fr, s, k, hl, h => by
    unfold opsC at h
    split at h
    · rename_i hg
      obtain ⟨u, s1, h1, hst, hop⟩ := opC_sound hc hl h
      replace h1 := putF_sound h1
      obtain ⟨hd, h1⟩ := h1
      obtain ⟨fr', s', h2, hst2, hrun⟩ := opsC_sound hc l _ s1 k (by rw [hst.lo]; exact Nat.le_trans hl hst.next) h1
      refine ⟨fr', s', h2, hst.trans hst2, fun F n W0 β a W Q hW hR hf hF hn => ?_⟩
      unfold wpListIn
      rw [if_pos (guardC_sound hg fun t _ u hu => hF.at_ t u hu)]
      refine does_stepC hW (hop W0 β a W hR (hf.sub hst2.next) (hF.op hR o)) fun v W' ⟨β', q1, q2, q3, q4⟩ => ?_
      refine hrun F n W0 β' _ W' Q hW q2 (hf.ext q1 hst.next) ((hF.grow q1.le).put hd q3) fun a' W'' ⟨β2, p1, p2, p3, p4, p5⟩ => hn _ _ ⟨β2, q1.trans p1 hst.next hst2.next, p2, p3, q4.trans p4, p5.trans (by cases o.dst <;> rfl)⟩
    · rename_i hg
      replace h := putF_sound h
      obtain ⟨hd, h⟩ := h
      obtain ⟨fr', s', h2, hst2, hrun⟩ := opsC_sound hc l _ s k hl h
      refine ⟨fr', s', h2, hst2, fun F n W0 β a W Q hW hR hf hF hn => ?_⟩
      unfold wpListIn
      rw [if_neg (by rw [guardC_sound hg fun t _ u hu => hF.at_ t u hu]; simp)]
      refine ⟨fun f _ => hW.fn f, hrun F n W0 β _ W Q hW hR hf (hF.put hd (.undef _)) fun a' W'' ⟨β2, p1, p2, p3, p4, p5⟩ => hn _ _ ⟨β2, p1, p2, p3, p4, p5.trans (by cases o.dst <;> rfl)⟩⟩
    · exact absurd h D.nb

/-! A region that draws its order: its head's operations leave what was there as it was. -/
def raiseS (s : AS) : AS := ⟨s.heap, s.next, s.next, s.glb⟩
def lowerS (lo : Nat) (s : AS) : AS := ⟨s.heap, s.next, lo, s.glb⟩
/-- A store of the head: to a block of its own, that no other operation of the head looks at. -/
structure Mut where
  b : Nat
  old : Blk
  new : Blk
def mutC (D : Dom R) (P : Program) (fr : Tr Value) (gl b : Nat) (blk : Blk) (t : TypeId) (x y : Operand) (k : Blk → R) : R :=
  match evC gl fr x with
  | some (.pointer (some ⟨b', off, none⟩)) => match Nat.beq b' b with
    | true => storeOpC D P fr ⟨Tr.set .e b (some blk), 0, 0, gl⟩ t x y fun _ s1 => match lookC s1 b with
      | some blk' => k blk'
      | none => D.bad
    | false => D.bad
  | _ => D.bad
def propD : Dom Prop := ⟨False, fun p => p, by simp, fun v k => k v, fun _ _ => rfl, fun n k => k n, fun _ _ => rfl⟩
theorem storeC_eq {D : Dom R} : ∀ (n : Nat) (vs l : List Value) (k : List Value → R), n + vs.length ≤ l.length → storeC D l n vs k = k (l.take n ++ vs ++ l.drop (n + vs.length))
  | 0, [], l, k, h => by cases l <;> simp [storeC]
  | 0, v :: vs, [], k, h => by simp at h
  | 0, v :: vs, x :: l, k, h => by
    show storeC D l 0 vs (fun l => k (v :: l)) = _
    rw [storeC_eq 0 vs l _ (by simpa using h)]
    simp
  | n + 1, vs, [], k, h => by simp at h
  | n + 1, vs, x :: l, k, h => by
    show storeC D l n vs (fun l => k (x :: l)) = _
    rw [storeC_eq n vs l _ (by simp at h; omega)]
    have e : n + 1 + vs.length = (n + vs.length) + 1 := by omega
    rw [e]
    simp
theorem mutC_sound {t : TypeId} {x y : Operand} {b gl : Nat} {blk : Blk} {k : Blk → R} (ho : o.op = .store t x y) (h : D.T (mutC D P fr gl b blk t x y k)) : ∃ blk', D.T (k blk') ∧ isLoop (some blk) = false ∧ ∀ sF : AS, sF.heap.get b = some blk → sF.lo ≤ b → sF.glb = gl → OpOk P fr o sF undef ⟨sF.heap.set b (some blk'), sF.next, sF.lo, sF.glb⟩ := by
  unfold mutC at h
  split at h
  · rename_i b' off hx
    split at h
    · rename_i hb
      obtain rfl := Nat.eq_of_beq_eq_true hb
      unfold storeOpC at h
      simp only [hx] at h
      split at h
      · rename_i b1 off1 u i e1 hy hi
        cases e1
        obtain ⟨hob, h⟩ := ifB_sound h
        split at h
        · rename_i T xs op hl
          have hl' : (Tr.set .e b' (some blk) : Tr Blk).get b' = some (.cells T xs op) := hl
          rw [Tr.get_set, if_pos rfl] at hl'
          cases hl'
          obtain ⟨hle, h⟩ := storeC_sound _ _ _ _ h
          rw [turnC_eq] at h
          split at h
          · rename_i blk' hb'
            have hb2 : ((Tr.set .e b' (some (.cells T xs op)) : Tr Blk).set b' (some (.cells T (xs.take off ++ cellsOf u ++ xs.drop (off + (cellsOf u).length)) op))).get b' = some blk' := hb'
            rw [Tr.get_set, if_pos rfl] at hb2
            cases hb2
            refine ⟨_, h, rfl, fun sF h1 h2 h3 => ?_⟩
            have hT : propD.T (storeOpC propD P fr sF t x y fun z1 z2 => z1 = undef ∧ z2 = ⟨sF.heap.set b' (some (.cells T (xs.take off ++ cellsOf u ++ xs.drop (off + (cellsOf u).length)) op)), sF.next, sF.lo, sF.glb⟩) := by
              subst h3
              simp only [Bool.and_eq_true] at hob
              unfold storeOpC
              simp only [hx, hy, hi]
              have hc : (Nat.ble sF.lo b' && Nat.beq (cellsOf u).length i.size && (cellsOf u).all Value.oneCell') = true := by
                simp only [Bool.and_eq_true]
                exact ⟨⟨Nat.ble_eq_true_of_le h2, hob.1.2⟩, hob.2⟩
              have hlk : lookC sF b' = some (.cells T xs op) := h1
              rw [hc]
              simp only [ifB, hlk]
              rw [storeC_eq _ _ _ _ hle, turnC_eq]
              exact ⟨trivial, rfl⟩
            obtain ⟨u', s1, ⟨rfl, rfl⟩, hop⟩ := storeOpC_sound (D := propD) ho hT
            exact hop
          · exact absurd h D.nb
        · exact absurd h D.nb
      · exact absurd h D.nb
    · exact absurd h D.nb
  · exact absurd h D.nb
def storeP (o : Oper) : Option (TypeId × Operand × Operand) :=
  match o.op with
  | .store t x y => some (t, x, y)
  | _ => none
theorem storeP_is {t : TypeId} {x y : Operand} (h : storeP o = some (t, x, y)) : o.op = .store t x y := by
  unfold storeP at h
  split at h
  · rename_i e; cases h; exact e
  · cases h
def opsH (D : Dom R) (P : Program) (cf : CallF R) (N : Nat) (ops : List Oper) : List Oper → List (Nat × Blk) → Tr Value → AS → (Tr Value → AS → List (Nat × Blk) → R) → R
  | [], M, fr, s, k => match M with
    | [] => k fr s []
    | _ => D.bad
  | o :: l, M, fr, s, k => match guardC ops o fr with
    | some true => match storeP o, M with
      | some (t, x, y), (b, blk) :: M => mutC D P fr s.glb b blk t x y fun blk' => putF D N o.dst undef fr fun fr => opsH D P cf N ops l M fr s fun fr s l => k fr s ((b, blk') :: l)
      | _, _ => opC D P cf o fr (raiseS s) fun u s1 => putF D N o.dst u fr fun fr => opsH D P cf N ops l M fr (lowerS s.lo s1) k
    | some false => putF D N o.dst undef fr fun fr => opsH D P cf N ops l M fr s k
    | none => D.bad

abbrev SFC := Nat → Bt → Value → Prop
def sfC (fr : Tr Value) : SFC := fun t β v => ∀ u, Tr.at (pt t) fr = some u → VR β u v
def updC (S : SFC) (d : Option Tmp) (u : Value) : SFC := fun t => if d = some t then fun β v => VR β u v else S t
theorem sfC_put {d : Option Tmp} {u : Value} : sfC (setF d u fr) = updC (sfC fr) d u := by
  funext t β v
  unfold updC sfC
  simp only [setF_at]
  by_cases h : d = some t
  · simp [h]
  · simp [h]
/-- What an operation of the head does: what it leaves; whether it is carried out; the states. -/
structure EntC where
  u : Value
  wd : Bool
  s : AS
  s' : AS
def GoodC (P : Program) (ops : List Oper) (o : Oper) (S : SFC) (e : EntC) : Prop :=
  ∀ (W0 : World) (β : Bt) (a : Act) (W : World), Rel P W0 β e.s W → Free β e.s.next e.s'.next → (∀ t ∈ o.looksAt ops.toArray, S t β (a.tmps.getD t undef)) →
    Region.wanted o (yielded ops.toArray a.tmps) = e.wd ∧ match e.wd with
      | false => e.u = undef ∧ e.s' = e.s
      | true => DoesC P W0 β e.s e.s' e.u W ((execOp a.eval o).run P W)
def GoodM (P : Program) (ops : List Oper) (o : Oper) (S : SFC) (gl : Nat) (m : Mut) : Prop :=
  ∀ sF : AS, sF.heap.get m.b = some m.old → sF.lo ≤ m.b → sF.glb = gl → ∀ (W0 : World) (β : Bt) (a : Act) (W : World), Rel P W0 β sF W → (∀ t ∈ o.looksAt ops.toArray, S t β (a.tmps.getD t undef)) →
    Region.wanted o (yielded ops.toArray a.tmps) = true ∧ DoesC P W0 β sF ⟨sF.heap.set m.b (some m.new), sF.next, sF.lo, sF.glb⟩ undef W ((execOp a.eval o).run P W)
def StepsC (P : Program) (ops : List Oper) (lo gl : Nat) (S : SFC) (st st' : AS) (o : Oper) (e : EntC) : Option Mut → Prop
  | none => GoodC P ops o S e ∧ e.s = raiseS st ∧ st' = lowerS lo e.s' ∧ Stp e.s e.s'
  | some m => e.u = undef ∧ st' = st ∧ isLoop (some m.old) = false ∧ GoodM P ops o S gl m
structure HeadC (P : Program) (N : Nat) (ops l : List Oper) (K : Nat → Option Mut) (ms : List Mut) (fr fr' : Tr Value) (s s' : AS) (E : List EntC) (S : Nat → SFC) (st : Nat → AS) : Prop where
  len : E.length = l.length
  s0 : S 0 = sfC fr
  s1 : S l.length = sfC fr'
  t0 : st 0 = s
  t1 : st l.length = s'
  kin : ∀ (i : Nat) (m : Mut), K i = some m → m ∈ ms ∧ i < l.length
  kal : ∀ m ∈ ms, ∃ i, K i = some m
  kdis : (ms.map (·.b)).Nodup → ∀ (i i' : Nat) (m m' : Mut), K i = some m → K i' = some m' → m.b = m'.b → i = i'
  ent : ∀ (j : Nat) (o : Oper) (e : EntC), l[j]? = some o → E[j]? = some e → S (j + 1) = updC (S j) o.dst e.u ∧ (∀ t, o.dst = some t → t < N) ∧ StepsC P ops s.lo s.glb (S j) (st j) (st (j + 1)) o e (K j)
theorem opsH_sound (hc : CallOk P D cf) {ops : List Oper} : ∀ (l : List Oper) (M : List (Nat × Blk)) (fr : Tr Value) (s : AS) (k : Tr Value → AS → List (Nat × Blk) → R), s.lo ≤ s.next → D.T (opsH D P cf N ops l M fr s k) →
    ∃ fr' s' K ms E S st, M = ms.map (fun m => (m.b, m.old)) ∧ D.T (k fr' s' (ms.map fun m => (m.b, m.new))) ∧ HeadC P N ops l K ms fr fr' s s' E S st
  | [], M, fr, s, k, hl, h => by
    unfold opsH at h
    split at h
    · exact ⟨fr, s, fun _ => none, [], [], fun _ => sfC fr, fun _ => s, rfl, h, ⟨rfl, rfl, rfl, rfl, rfl, fun i m hm => (by cases hm), fun m hm => (by cases hm), fun _ i i' m m' hm => (by cases hm), fun j o e hj => by simp at hj⟩⟩
    · exact absurd h D.nb
  | o :: l, M, fr, s, k, hl, h => by
    have main : ∃ (e : EntC) (k' : Tr Value → AS → List (Nat × Blk) → R) (M' : List (Nat × Blk)) (st' : AS) (om : Option Mut), D.T (opsH D P cf N ops l M' (setF o.dst e.u fr) st' k') ∧ st'.lo = s.lo ∧ st'.glb = s.glb ∧ s.next ≤ st'.next ∧ (∀ t, o.dst = some t → t < N) ∧ StepsC P ops s.lo s.glb (sfC fr) s st' o e om ∧
        (match om with
        | none => M' = M ∧ k' = k
        | some m => M = (m.b, m.old) :: M' ∧ k' = fun fr s l => k fr s ((m.b, m.new) :: l)) := by
      unfold opsH at h
      split at h
      · rename_i hg
        split at h
        · rename_i t x y b blk M' hst
          obtain ⟨blk', h, hnl, hop⟩ := mutC_sound (storeP_is hst) h
          replace h := putF_sound h
          obtain ⟨hd, h⟩ := h
          refine ⟨⟨undef, true, s, s⟩, _, M', s, some ⟨b, blk, blk'⟩, h, rfl, rfl, Nat.le_refl _, hd, ⟨rfl, rfl, hnl, fun sF h1 h2 h3 W0 β a W hR hS => ⟨guardC_sound hg fun t ht u hu => hS t ht u hu, ?_⟩⟩, rfl, rfl⟩
          refine (hop sF h1 h2 h3).2 W0 β a W hR (fun k hk hk' => absurd hk (Nat.not_le.2 hk')) (opR_of hR fun t u ht hu => hS t ?_ u hu)
          unfold Oper.looksAt
          exact List.mem_append_left _ (List.mem_filterMap.2 ⟨.tmp t, ht, rfl⟩)
        · obtain ⟨u, s1, h1, hst, hop⟩ := opC_sound hc (s := raiseS s) (Nat.le_refl _) h
          replace h1 := putF_sound h1
          obtain ⟨hd, h1⟩ := h1
          refine ⟨⟨u, true, raiseS s, s1⟩, k, _, lowerS s.lo s1, none, h1, rfl, hst.glb, hst.next, hd, ⟨fun W0 β a W hR hf hS => ⟨guardC_sound hg fun t ht u hu => hS t ht u hu, ?_⟩, rfl, rfl, hst⟩, rfl, rfl⟩
          refine hop W0 β a W hR hf (opR_of hR fun t u ht hu => hS t ?_ u hu)
          unfold Oper.looksAt
          exact List.mem_append_left _ (List.mem_filterMap.2 ⟨.tmp t, ht, rfl⟩)
      · rename_i hg
        replace h := putF_sound h
        obtain ⟨hd, h⟩ := h
        refine ⟨⟨undef, false, raiseS s, raiseS s⟩, k, M, lowerS s.lo (raiseS s), none, h, rfl, rfl, Nat.le_refl _, hd, ⟨fun W0 β a W hR hf hS => ⟨guardC_sound hg fun t ht u hu => hS t ht u hu, rfl, rfl⟩, rfl, rfl, .refl _⟩, rfl, rfl⟩
      · exact absurd h D.nb
    obtain ⟨e, k', M', st', om, h1, e1, e2, hnx, hd, hst, hom⟩ := main
    obtain ⟨fr', s', K, ms, E, S, st, hM, h2, H⟩ := opsH_sound hc l M' _ st' k' (by rw [e1]; exact Nat.le_trans hl hnx) h1
    have ent' : ∀ (j : Nat) (o' : Oper) (e' : EntC), (o :: l)[j]? = some o' → (e :: E)[j]? = some e' → (match j + 1 with | 0 => sfC fr | n + 1 => S n) = updC (match j with | 0 => sfC fr | n + 1 => S n) o'.dst e'.u ∧ (∀ t, o'.dst = some t → t < N) ∧ StepsC P ops s.lo s.glb (match j with | 0 => sfC fr | n + 1 => S n) (match j with | 0 => s | n + 1 => st n) (match j + 1 with | 0 => s | n + 1 => st n) o' e' (match j with | 0 => om | n + 1 => K n) := fun j o' e' hj hj' => by
      cases j with
      | zero =>
        simp at hj hj'
        subst hj
        subst hj'
        exact ⟨by show S 0 = _; rw [H.s0, sfC_put], hd, by show StepsC _ _ _ _ _ _ (st 0) _ _ _; rw [H.t0]; exact hst⟩
      | succ j =>
        have := H.ent j o' e' (by simpa using hj) (by simpa using hj')
        rw [e1, e2] at this
        exact this
    cases om with
    | none =>
      obtain ⟨rfl, rfl⟩ := hom
      refine ⟨fr', s', fun n => match n with | 0 => none | n + 1 => K n, ms, e :: E, fun n => match n with | 0 => sfC fr | n + 1 => S n, fun n => match n with | 0 => s | n + 1 => st n, hM, h2, ⟨by simp [H.len], rfl, by simpa using H.s1, rfl, by simpa using H.t1, fun i m hm => ?_, fun m hm => ?_, fun hn i i' m m' hm hm' hb => ?_, ent'⟩⟩
      · cases i with
        | zero => cases hm
        | succ i => exact ⟨(H.kin i m hm).1, by have := (H.kin i m hm).2; simp; omega⟩
      · obtain ⟨i, hi⟩ := H.kal m hm; exact ⟨i + 1, hi⟩
      · cases i with
        | zero => cases hm
        | succ i =>
          cases i' with
          | zero => cases hm'
          | succ i' => rw [H.kdis hn i i' m m' hm hm' hb]
    | some m0 =>
      obtain ⟨rfl, rfl⟩ := hom
      refine ⟨fr', s', fun n => match n with | 0 => some m0 | n + 1 => K n, m0 :: ms, e :: E, fun n => match n with | 0 => sfC fr | n + 1 => S n, fun n => match n with | 0 => s | n + 1 => st n, by simp [hM], h2, ⟨by simp [H.len], rfl, by simpa using H.s1, rfl, by simpa using H.t1, fun i m hm => ?_, fun m hm => ?_, fun hn i i' m m' hm hm' hb => ?_, ent'⟩⟩
      · cases i with
        | zero => cases hm; exact ⟨by simp, by simp⟩
        | succ i => exact ⟨by simp [(H.kin i m hm).1], by have := (H.kin i m hm).2; simp; omega⟩
      · rcases List.mem_cons.1 hm with rfl | hm
        · exact ⟨0, rfl⟩
        · obtain ⟨i, hi⟩ := H.kal m hm; exact ⟨i + 1, hi⟩
      · simp only [List.map_cons, List.nodup_cons, List.mem_map, not_exists, not_and] at hn
        cases i with
        | zero =>
          cases hm
          cases i' with
          | zero => rfl
          | succ i' => exact absurd hb.symm (hn.1 m' (H.kin i' m' hm').1)
        | succ i =>
          cases i' with
          | zero => cases hm'; exact absurd hb (hn.1 m (H.kin i m hm).1)
          | succ i' => rw [H.kdis hn.2 i i' m m' hm hm' hb]
end Go.Proofs.YtmcjdbkjiedolaaGreatDoor.U
