
import Derived.Test.YtphbcejnnoijfaaKG12
namespace Go.Proofs.Ytphbcejnnoijfaa.U
open Go Go.RowKit Go.Sort
set_option linter.unusedVariables false
set_option linter.unusedSimpArgs false
variable {R : Type} {D : Dom R} {P : Program} {cf : CallF R} {fr : Tr Value} {s : AS} {o : Oper} {N : Nat}
abbrev KontC (R : Type) := Exit → Tr Value → AS → R
def rollC (D : Dom R) (body : Tr Value → AS → KontC R → R) (k : KontC R) : Nat → Tr Value → AS → R
  | 0, _, _ => D.bad
  | n + 1, fr, s => body fr s fun e fr s => match e with
    | .normal => rollC D body k n fr s
    | e => k e fr s
def condC (D : Dom R) (x : Option Value) (a b : R) : R :=
  match x with
  | some (.bool c) => D.br c a b
  | _ => D.bad
def jumpC : Exit → Option (Option Code)
  | .normal => some none
  | .ret => some (some .ret)
  | .exit id => some (some (.exit id))
  | .goto t => some (some (.goto t))
  | _ => none
def leftC (D : Dom R) (j : Option Code) (k : Exit → R) : R :=
  match j with
  | none => k .normal
  | some .ret => k .ret
  | some (.exit id) => k (.exit id)
  | some (.goto t) => k (.goto t)
  | _ => D.bad
def calmC : LoopState → Bool
  | .busy => false
  | _ => true
def rangeC (D : Dom R) (P : Program) (cf : CallF R) (N : Nat) (g : Operand) (ps : Array Tmp) (assign body : Code) (fr : Tr Value) (s : AS) (k : KontC R) : R :=
  match evC s.glb fr g with
  | some (.func (.func gf) ⟨[]⟩ ⟨caps⟩) => ifB D (entersB P gf) (pushC D s (.loop .ready none fr N ps.toList assign body) fun l s => cf.call gf (.func (.yield l) ⟨[]⟩ ⟨[]⟩ :: caps) s fun _ s => match lookC s l with
    | some (.loop st pe fr' N' ps' asg' bo') => ifB D (Nat.ble s.lo l && calmC st) (turnC s l (some (.loop .exhausted pe fr' N' ps' asg' bo')) fun s => leftC D pe fun e => k e fr s)
    | _ => D.bad)
  | _ => D.bad
def codeC (D : Dom R) (P : Program) (cf : CallF R) (N fuel : Nat) : Code → Tr Value → AS → KontC R → R
  | .skip, fr, s, k => k .normal fr s
  | .region _ ops draw, fr, s, k => match draw with
    | false => opsC D P cf N ops.toList ops.toList fr s (k .normal)
    | true => drawC D P cf N ops.toList fr s (k .normal)
  | .seq a b, fr, s, k => codeC D P cf N fuel a fr s fun e fr s => match e with
    | .normal => codeC D P cf N fuel b fr s k
    | e => k e fr s
  | .cond c a b, fr, s, k => condC D (evC s.glb fr c) (codeC D P cf N fuel a fr s k) (codeC D P cf N fuel b fr s k)
  | .block id c, fr, s, k => codeC D P cf N fuel c fr s fun e fr s => match e with
    | .exit id' => match decide (id' = id) with
      | true => k .normal fr s
      | false => k (.exit id') fr s
    | e => k e fr s
  | .loop c, fr, s, k => rollC D (codeC D P cf N fuel c) k fuel fr s
  | .rangeFunc g ps assign body, fr, s, k => rangeC D P cf N g ps assign body fr s k
  | .exit id, fr, s, k => k (.exit id) fr s
  | .ret, fr, s, k => k .ret fr s
  | .label _, fr, s, k => k .normal fr s
  | .scope c, fr, s, k => codeC D P cf N fuel c fr s fun e fr s => match e with
    | .goto _ => D.bad
    | e => k e fr s
  | _, _, _, _ => D.bad
def markD (d : Nat) : Deferred := { target := .collected d, args := #[] }
def DM (B : Nat) (W' : World) (ds ds' : List Deferred) : Prop := ∃ l : List Nat, ds' = l.map markD ++ ds ∧ l.Nodup ∧ ∀ d ∈ l, B ≤ d ∧ W'.heap[d]? = some (.deferred (some []))
theorem DM.refl (B : Nat) (W : World) (ds : List Deferred) : DM B W ds ds := ⟨[], rfl, .nil, fun d h => by cases h⟩
theorem DM.trans {W1 W2 : World} {B : Nat} {a b c : List Deferred} (h : DM B W1 a b) (hk : KD W1 W2) (hB : B ≤ W1.heap.size) (k : DM W1.heap.size W2 b c) : DM B W2 a c := by
  obtain ⟨l1, rfl, n1, h1⟩ := h
  obtain ⟨l2, rfl, n2, h2⟩ := k
  refine ⟨l2 ++ l1, by simp, List.nodup_append.2 ⟨n2, n1, fun x hx y hy e => ?_⟩, fun d hd => ?_⟩
  · subst e
    have := (h2 x hx).1
    have := (Array.getElem?_eq_some_iff.1 (h1 x hy).2).1
    omega
  · rcases List.mem_append.1 hd with hd | hd
    · exact ⟨Nat.le_trans hB (h2 d hd).1, (h2 d hd).2⟩
    · exact ⟨(h1 d hd).1, hk.d d (h1 d hd).2⟩
def AfterC (P : Program) (W0 : World) (N : Nat) (β : Bt) (s s' : AS) (fr' : Tr Value) (a : Act) (W : World) (a' : Act) (W' : World) : Prop := ∃ β', Ext W0.heap.size β β' s.next s'.next ∧ Rel P W0 β' s' W' ∧ FrR β' N fr' a' ∧ KD W W' ∧ W.heap.size ≤ W'.heap.size ∧ DM W.heap.size W' a.defers a'.defers
def LoopAt (F : Fence) (W : World) : Prop := ∀ l, F.round = some l → ∃ L, W.heap[l]? = some (.loop L)
theorem LoopAt.kd {F : Fence} {W W' : World} (h : LoopAt F W) (k : KD W W') : LoopAt F W' := fun l hl => let ⟨L, hL⟩ := h l hl; k.l l L hL
def CodeOk (P : Program) (D : Dom R) (N : Nat) (c : Code) (fr : Tr Value) (s : AS) (k : KontC R) : Prop :=
  ∃ e fr' s', D.T (k e fr' s') ∧ Stp s s' ∧ ∀ (F : Fence) (n : Nat) (W0 : World) (β : Bt) (a : Act) (W : World) (Q : Exit → Act → World → Prop), WF F → LoopAt F W → Rel P W0 β s W → Free β s.next s'.next → FrR β N fr a → (∀ a' W', AfterC P W0 N β s s' fr' a W a' W' → Q e a' W') → c.wpIn F n P Q a W
theorem Stp.le {s s' : AS} (h : Stp s s') (hl : s.lo ≤ s.next) : s'.lo ≤ s'.next := by rw [h.lo]; exact Nat.le_trans hl h.next
theorem AfterC.refl {W0 : World} {β : Bt} {a : Act} {W : World} (hR : Rel P W0 β s W) (hF : FrR β N fr a) : AfterC P W0 N β s s fr a W a W := ⟨β, .refl _ _, hR, hF, .refl _, Nat.le_refl _, .refl _ _ _⟩
theorem AfterC.trans {W0 : World} {β β1 : Bt} {s s1 s' : AS} {fr' : Tr Value} {a a1 a' : Act} {W W1 W' : World} (h1 : Stp s s1) (h2 : Stp s1 s') (e : Ext W0.heap.size β β1 s.next s1.next) (k : KD W W1) (z : W.heap.size ≤ W1.heap.size) (d : DM W.heap.size W1 a.defers a1.defers) (h : AfterC P W0 N β1 s1 s' fr' a1 W1 a' W') : AfterC P W0 N β s s' fr' a W a' W' :=
  let ⟨β2, p1, p2, p3, p4, p5, p6⟩ := h
  ⟨β2, e.trans p1 h1.next h2.next, p2, p3, k.trans p4, Nat.le_trans z p5, d.trans p4 z p6⟩
theorem After.size {W0 : World} {β : Bt} {s' : AS} {fr' : Tr Value} {a a' : Act} {W W' : World} (h : After P W0 N β s s' fr' a W a' W') : AfterC P W0 N β s s' fr' a W a' W' :=
  let ⟨β2, p1, p2, p3, p4, p5⟩ := h
  ⟨β2, p1, p2, p3, p4, p4.z, by rw [p5]; exact .refl _ _ _⟩
theorem rollC_sound {c : Code} {body : Tr Value → AS → KontC R → R} (hb : ∀ fr s k, s.lo ≤ s.next → D.T (body fr s k) → CodeOk P D N c fr s k) (k : KontC R) : ∀ (n : Nat) (fr : Tr Value) (s : AS), s.lo ≤ s.next → D.T (rollC D body k n fr s) → CodeOk P D N (.loop c) fr s k := by
  intro n fr s hl h
  have key : ∀ (n : Nat) (fr : Tr Value) (s : AS), s.lo ≤ s.next → D.T (rollC D body k n fr s) → ∃ e fr' s', D.T (k e fr' s') ∧ Stp s s' ∧ ∀ (F : Fence) (m : Nat) (W0 : World) (β : Bt) (a : Act) (W : World) (Q : Exit → Act → World → Prop), WF F → LoopAt F W → Rel P W0 β s W → Free β s.next s'.next → FrR β N fr a → (∀ a' W', AfterC P W0 N β s s' fr' a W a' W' → Q e a' W') → Code.roundsIn F m P c Q n a W := by
    intro n
    induction n with
    | zero => intro fr s hl h; exact absurd h D.nb
    | succ n ih =>
      intro fr s hl h
      obtain ⟨e, fr1, s1, h1, hst, hrun⟩ := hb fr s _ hl h
      by_cases he : e = .normal
      · subst he
        obtain ⟨e', fr', s', h2, hst2, hrun2⟩ := ih fr1 s1 (hst.le hl) h1
        refine ⟨e', fr', s', h2, hst.trans hst2, fun F m W0 β a W Q hW hL hR hf hF hn => ?_⟩
        exact hrun F m W0 β a W _ hW hL hR (hf.sub hst2.next) hF fun a' W' ⟨β1, q1, q2, q3, q4, q5, q6⟩ => hrun2 F m W0 β1 a' W' Q hW (hL.kd q4) q2 (hf.ext q1 hst.next) q3 fun a'' W'' hA => hn _ _ (hA.trans hst hst2 q1 q4 q5 q6)
      · refine ⟨e, fr1, s1, ?_, hst, fun F m W0 β a W Q hW hL hR hf hF hn => ?_⟩
        · cases e <;> first | exact absurd rfl he | exact h1
        · refine hrun F m W0 β a W _ hW hL hR hf hF fun a' W' hA => ?_
          have := hn a' W' hA
          cases e <;> first | exact absurd rfl he | exact this
  obtain ⟨e, fr', s', h1, h2, h3⟩ := key n fr s hl h
  exact ⟨e, fr', s', h1, h2, fun F m W0 β a W Q hW hL hR hf hF hn => wpIn_loop_rounds n (h3 F m W0 β a W Q hW hL hR hf hF hn)⟩
theorem condC_sound {c : Operand} {A B : R} (h : D.T (condC D (evC s.glb fr c) A B)) : (D.T A ∧ ∀ (β : Bt) (W0 W : World) (a : Act), Rel P W0 β s W → FrR β N fr a → a.eval c = .bool true) ∨ (D.T B ∧ ∀ (β : Bt) (W0 W : World) (a : Act), Rel P W0 β s W → FrR β N fr a → a.eval c = .bool false) := by
  have ev : ∀ (b : Bool), evC s.glb fr c = some (.bool b) → ∀ (β : Bt) (W0 W : World) (a : Act), Rel P W0 β s W → FrR β N fr a → a.eval c = .bool b := fun b hb β W0 W a hR hF => by
    have hop := hF.op hR { (default : Oper) with op := .move c }
    exact (hop c (by simp [Op.operands]) _ hb).flat_eq rfl
  unfold condC at h
  split at h
  · rename_i b hb
    replace h := D.br_ok _ _ _ h
    rcases h with ⟨rfl, h⟩ | ⟨rfl, h⟩
    · exact .inl ⟨h, ev true hb⟩
    · exact .inr ⟨h, ev false hb⟩
  · exact absurd h D.nb
theorem stepR_scope {b : Frame} {a : Act} {k : List Item} {cs : List Frame} {w : World} {c : Code} : step P (lone (b.atR a (.code (.scope c) :: k)) cs w) = .next (lone (b.atR a (.code c :: .inScope c :: k)) cs w) :=
  step_lone_go (by simp [stepG, stepG.exec, Frame.atR])
theorem stepR_inScope {b : Frame} {a : Act} {k : List Item} {cs : List Frame} {w : World} {c : Code} : step P (lone (b.atR a (.inScope c :: k)) cs w) = .next (lone (b.atR a k) cs w) :=
  step_lone_go (by simp [stepG, stepG.exec, Frame.atR])
theorem wpIn_scope_straight {F : Fence} {n : Nat} {Q : Exit → Act → World → Prop} {a : Act} {w : World} {c : Code} (h : c.wpIn F n P (Exit.noGoto Q) a w) : (Code.scope c).wpIn F n P Q a w := by
  intro b k cs hro hb hr
  have h0 : (lone (b.atR a (.code (.scope c) :: k)) cs w).fenced P F := fenced_calm hb hr rfl
  obtain ⟨e, a₁, w₁, hq, harr⟩ := h b (.inScope c :: k) cs hro hb hr
  cases e with
  | normal => exact ⟨.normal, a₁, w₁, hq, .head h0 stepR_scope (StepsIn.trans harr (.one (fenced_calm hb hr rfl) stepR_inScope))⟩
  | exit id => exact ⟨.exit id, a₁, w₁, hq, .of_steps (.one h0 stepR_scope) ⟨fun k' hk => harr.1 k' (by simp [exitTo, hk]), fun hr hk => harr.2 hr (by simp [exitTo, hk])⟩⟩
  | goto l => exact hq.elim
  | ret => exact ⟨_, a₁, w₁, hq, .of_steps (.one h0 stepR_scope) harr⟩
  | panic ch => exact ⟨_, a₁, w₁, hq, .of_steps (.one h0 stepR_scope) harr⟩
  | outgrown => exact ⟨_, a₁, w₁, hq, .of_steps (.one h0 stepR_scope) harr⟩
theorem leftC_sound {k : Exit → R} {j : Option Code} (h : D.T (leftC D j k)) : ∃ e, D.T (k e) ∧ ∀ (F : Fence) (n : Nat) (Q : Exit → Act → World → Prop) (a : Act) (W : World), Q e a W → (j = none → Q .normal a W) ∧ ∀ c, j = some c → c.wpIn F n P Q a W := by
  unfold leftC at h
  split at h
  · exact ⟨_, h, fun F n Q a W hq => ⟨fun _ => hq, fun c hc => by cases hc⟩⟩
  · exact ⟨_, h, fun F n Q a W hq => ⟨fun hc => (by cases hc), fun c hc => by cases hc; exact wpIn_ret hq⟩⟩
  · exact ⟨_, h, fun F n Q a W hq => ⟨fun hc => (by cases hc), fun c hc => by cases hc; exact wpIn_exit hq⟩⟩
  · exact ⟨_, h, fun F n Q a W hq => ⟨fun hc => (by cases hc), fun c hc => by cases hc; exact wpIn_goto hq⟩⟩
  · exact absurd h D.nb
theorem Rel.putLoop {W0 : World} {β : Bt} {W : World} {l r sp : Nat} {L L' : Loop} {b : Blk} (hR : Rel P W0 β s W) (hb : s.heap.get l ≠ none) (hr : β l = some (r, sp)) (hlo : s.lo ≤ l) (hL : W.heap[r]? = some (.loop L)) (h : ∀ W', W'.heap[r]? = some (.loop L') → BlkR P β W' r sp True b) :
    Rel P W0 β ⟨s.heap.set l (some b), s.next, s.lo, s.glb⟩ (W.putObj r (.loop L')) ∧ KD W (W.putObj r (.loop L')) ∧ (W.putObj r (.loop L')).heap[r]? = some (.loop L') ∧ (W.putObj r (.loop L')).heap.size = W.heap.size := by
  have hlt := (Array.getElem?_eq_some_iff.1 hL).1
  have h1 : (W.putObj r (.loop L')).heap[r]? = some (.loop L') := World.putObj_heap_same hlt
  have h2 : ∀ i, i ≠ r → (W.putObj r (.loop L')).heap[i]? = W.heap[i]? := fun i hi => World.putObj_heap_other hi
  have hge := hR.ge l r sp hb hr hlo
  exact ⟨hR.write hb hr hlo (by simp [World.putObj]) h2 (hR.below.grown (grownBy_putObj' W r _) hR.below.size fun i hi => by cases hi; exact hge) (h _ h1), .writeL hL h1 h2 (by simp [World.putObj]), h1, by simp [World.putObj]⟩
theorem rangeC_sound (hc : CallOk P D cf) {g : Operand} {ps : Array Tmp} {assign body : Code} {k : KontC R} (hl : s.lo ≤ s.next) (h : D.T (rangeC D P cf N g ps assign body fr s k)) : CodeOk P D N (.rangeFunc g ps assign body) fr s k := by
  unfold rangeC at h
  split at h
  · rename_i gf caps hg
    replace h := ifB_sound h
    obtain ⟨hen, h⟩ := h
    rw [pushC_eq] at h
    obtain ⟨u, s1, h, hst, hcall⟩ := hc.call gf _ _ _ (Nat.le_succ_of_le hl) h
    have hp := AS.push_stp s (.loop .ready none fr N ps.toList assign body) hl
    split at h
    · rename_i st pe fr' N' ps' asg' bo' hlook
      have hlook' : s1.heap.get s.next = some (.loop st pe fr' N' ps' asg' bo') := hlook
      replace h := ifB_sound h
      obtain ⟨hb, h⟩ := h
      simp only [Bool.and_eq_true] at hb
      have hlo := Nat.le_of_ble_eq_true hb.1
      have hcalm := hb.2
      rw [turnC_eq] at h
      obtain ⟨e, h, hleft⟩ := leftC_sound (P := P) h
      have ht : Stp s1 ⟨s1.heap.set s.next (some (.loop .exhausted pe fr' N' ps' asg' bo')), s1.next, s1.lo, s1.glb⟩ := Stp.turn _ (by rw [hlook']; simp) hlo (fun _ => rfl)
      refine ⟨e, fr, _, h, (hp.trans hst).trans ht, fun F n W0 β a W Q hW hLA hR hf hF hn => ?_⟩
      have hop := hF.op hR { (default : Oper) with op := .move g }
      obtain ⟨a', b', e1, e2, e3⟩ := (hop g (by simp [Op.operands]) _ hg).func_inv
      obtain rfl := e1.inv_nil
      have hfree : β s.next = none := hf s.next (Nat.le_refl _) (by have := hst.next; have := ht.next; show s.next < s1.next; exact Nat.lt_of_lt_of_le (Nat.lt_succ_self _) hst.next)
      refine wpIn_rangeFunc fun fn _ => ?_
      -- the loop is laid
      have main : ∀ (W1 : World) (mark : List Deferred) (dd : Nat), Below W.heap.size W W1 → W.drawn ≤ W1.drawn → Rel P W0 β s W1 → (Instr.enterLoop fn a.tmps ps assign body F.round).run P W = .ok (W1.heap.size, mark) (W1.alloc (.loop { state := .ready, pending := none, fn, tmps := a.tmps, params := ps, assign, body, defers := dd })) → DM W.heap.size W1 a.defers (mark ++ a.defers) →
          ∃ (l : Nat) (mark : List Deferred) (w₁ : World) (d : Deferred) (w₁' : World) (f : FuncId) (args : Array Value) (w₂ : World),
      (Instr.enterLoop fn a.tmps ps assign body F.round).run P W = .ok (l, mark) w₁ ∧
      (resolve a.eval (rangeCall g l) 0).run P w₁ = .ok d w₁' ∧
      (∀ f', Target.leads P w₁' d.target d.args = some f' → F.fn f') ∧
      (invoke d.target d.args).run P w₁' = .ok (.enter f args) w₂ ∧
      (F.depth.isSome = true → 1 ≤ n) ∧
      CallsIn F (n - 1) P f args w₂ (rangePost F n P l Q { a with defers := mark ++ a.defers }) := fun W1 mark dd hB1 hD1 hR1 hrun hDM => by
        obtain ⟨L0, hL0⟩ : ∃ L0 : Loop, L0 = { state := .ready, pending := none, fn, tmps := a.tmps, params := ps, assign, body, defers := dd } := ⟨_, rfl⟩
        rw [← hL0] at hrun
        have hR2 : Rel P W0 (β.set s.next (W1.heap.size, 0)) (s.push (.loop .ready none fr N ps.toList assign body)) (W1.alloc (.loop L0)) := by
          refine hR1.alloc hfree ⟨L0, heap_new _ _, by rw [hL0], by rw [hL0], by rw [hL0], by rw [hL0], by rw [hL0], by rw [hL0]; exact hF.size, fun t u hu => ?_, hF.lt⟩
          rw [hL0]
          exact (hF.at_ t u hu).grow (Bt.set_le (B := 0) _ hfree)
        have hx : Ext W0.heap.size β (β.set s.next (W1.heap.size, 0)) s.next (s.next + 1) := ⟨Bt.set_le _ hfree, fun i hi => Bt.set_other _ _ (by omega)⟩
        have hcalls := hcall W0 _ (W1.alloc (.loop L0)) (.func (.yield W1.heap.size) ⟨[]⟩ ⟨[]⟩ :: b') hR2 ((hf.sub (m := s1.next) ht.next).ext hx (Nat.le_succ _)) (.cons (.yld _ _ _ (Bt.set_same _ _ _)) (e2.grow hx.le))
        refine ⟨W1.heap.size, mark, W1.alloc (.loop L0), { target := .fn (.func gf) ⟨b'⟩, args := #[.func (.yield W1.heap.size) #[] #[]] }, W1.alloc (.loop L0), gf, ⟨.func (.yield W1.heap.size) ⟨[]⟩ ⟨[]⟩ :: b'⟩, W1.alloc (.loop L0), hrun, ?_, fun f' _ => hW.fn f', ?_, hW.dep, ?_⟩
        · simp only [resolve, e3]
          simp [go_sem]
        · have := run_enters (P := P) (us := (⟨.func (.yield W1.heap.size) ⟨[]⟩ ⟨[]⟩ :: b'⟩ : Array Value)) hen (W1.alloc (.loop L0))
          simpa [invoke, go_sem] using this
        · refine hW.calls (hcalls.mono ?_)
          rintro e' W3 ⟨v, rfl, β2, q1, q2, q3, q4⟩
          have hname : β2 s.next = some (W1.heap.size, 0) := q1.le _ _ (Bt.set_same _ _ _)
          obtain ⟨L, g1, g2, g3, g4, g5, g6, g7, g8, g9⟩ := q2.blk s.next _ _ _ hlook' hname
          have hnb : L.state ≠ .busy := by
            rw [g2]
            rintro rfl
            cases hcalm
          obtain ⟨r1, r2, r3, r4⟩ := q2.putLoop (by rw [hlook']; simp) hname hlo g1 (L' := { L with state := .exhausted }) (b := .loop .exhausted pe fr' N' ps' asg' bo') fun W' hW' => ⟨_, hW', rfl, g3, g4, g5, g6, g7, g8, g9⟩
          refine ⟨L.pending, _, run_endLoop (P := P) g1 hnb, ?_⟩
          have hz1 : W.heap.size ≤ W1.heap.size := hB1.size
          have hz2 : (W1.alloc (.loop L0)).heap.size ≤ W3.heap.size := by
            have := q2.lt s.next _ _ hname
            simp
            omega
          have k1 : KD W (W1.alloc (.loop L0)) := KD.below (hB1.trans (((Below.refl _ W1).alloc (Nat.le_refl _) _).mono hz1))
          have k2 : KD W1 (W3.putObj W1.heap.size (.loop { L with state := .exhausted })) := ((KD.below ((Below.refl _ W1).alloc (Nat.le_refl _) _)).trans q4).trans r2
          have hlen : (s.push (.loop .ready none fr N ps.toList assign body)).next = s.next + 1 := rfl
          have hA : AfterC P W0 N β s ⟨s1.heap.set s.next (some (.loop .exhausted pe fr' N' ps' asg' bo')), s1.next, s1.lo, s1.glb⟩ fr a W { a with defers := mark ++ a.defers } (W3.putObj W1.heap.size (.loop { L with state := .exhausted })) := by
            refine ⟨β2, hx.trans q1 (Nat.le_succ _) hst.next, r1, ⟨hF.size, fun t u hu => (hF.at_ t u hu).grow (hx.le.trans q1.le), hF.lt⟩, (k1.trans q4).trans r2, ?_, ?_⟩
            · rw [r4]
              simp at hz2
              omega
            · exact (hDM.trans k2 hz1 (.refl _ _ _))
          have hq := hleft F n Q _ _ (hn _ _ hA)
          clear hleft h hn
          split
          · rename_i hj; exact hq.1 (g3.symm.trans hj)
          · rename_i c hj; exact hq.2 c (g3.symm.trans hj)
      rcases hround : F.round with _ | l0
      · have hE := run_enterLoop_outer (P := P) (w := W) fn a.tmps ps assign body
        have hB1 : Below W.heap.size W (W.alloc (.deferred (some []))) := (Below.refl _ _).alloc (Nat.le_refl _) _
        have := main (W.alloc (.deferred (some []))) [markD W.heap.size] W.heap.size hB1 (Nat.le_refl _) (hR.later hB1) (by rw [hround]; simpa [markD] using hE) ⟨[W.heap.size], rfl, by simp, fun d hd => by
          have : d = W.heap.size := by simpa using hd
          subst this
          exact ⟨Nat.le_refl _, World.alloc_heap_new W _⟩⟩
        rwa [hround] at this
      · obtain ⟨r0, hr0⟩ := hLA l0 hround
        have hE := run_enterLoop_inner (P := P) hr0 fn a.tmps ps assign body
        have := main W [] r0.defers (.refl _ _) (Nat.le_refl _) hR (by rw [hround]; exact hE) (.refl _ _ _)
        rwa [hround] at this
    · exact absurd h D.nb
  · exact absurd h D.nb
theorem codeC_sound (hm : P.follows .mixedOrders = true) (hc : CallOk P D cf) (fuel : Nat) : ∀ (c : Code) (fr : Tr Value) (s : AS) (k : KontC R), s.lo ≤ s.next → D.T (codeC D P cf N fuel c fr s k) → CodeOk P D N c fr s k := by
  intro c
  induction c with
  | skip => intro fr s k hl h; exact ⟨_, _, _, h, .refl _, fun F n W0 β a W Q hW hL hR hf hF hn => wpIn_skip (hn _ _ (.refl hR hF))⟩
  | region id ops draw =>
    intro fr s k hl h
    cases draw with
    | false =>
      obtain ⟨fr', s', h1, hst, hrun⟩ := opsC_sound hc _ _ _ _ hl h
      refine ⟨_, fr', s', h1, hst, fun F n W0 β a W Q hW hL hR hf hF hn => wpIn_region_list ?_⟩
      have := hrun F n W0 β a W Q hW hR hf hF fun a' W' hA => hn a' W' hA.size
      simpa using this
    | true =>
      obtain ⟨fr', s', h1, hst, hrun⟩ := drawC_sound hm hc hl h
      refine ⟨_, fr', s', h1, hst, fun F n W0 β a W Q hW hL hR hf hF hn => ?_⟩
      have := hrun F n W0 β a W id Q hW hR hf hF fun a' W' hA => hn a' W' hA.size
      simpa using this
  | seq x y ihx ihy =>
    intro fr s k hl h
    obtain ⟨e, fr1, s1, h1, hst, hrun⟩ := ihx _ _ _ hl h
    by_cases he : e = .normal
    · subst he
      obtain ⟨e', fr', s', h2, hst2, hrun2⟩ := ihy _ _ _ (hst.le hl) h1
      exact ⟨e', fr', s', h2, hst.trans hst2, fun F n W0 β a W Q hW hL hR hf hF hn => wpIn_seq (hrun F n W0 β a W _ hW hL hR (hf.sub hst2.next) hF fun a' W' ⟨β1, q1, q2, q3, q4, q5, q6⟩ => hrun2 F n W0 β1 a' W' Q hW (hL.kd q4) q2 (hf.ext q1 hst.next) q3 fun a'' W'' hA => hn _ _ (hA.trans hst hst2 q1 q4 q5 q6))⟩
    · refine ⟨e, fr1, s1, ?_, hst, fun F n W0 β a W Q hW hL hR hf hF hn => wpIn_seq (hrun F n W0 β a W _ hW hL hR hf hF fun a' W' hA => ?_)⟩
      · cases e <;> first | exact absurd rfl he | exact h1
      · have := hn a' W' hA
        cases e <;> first | exact absurd rfl he | exact this
  | cond c x y ihx ihy =>
    intro fr s k hl h
    rcases condC_sound (P := P) (N := N) h with ⟨h, hev⟩ | ⟨h, hev⟩
    · obtain ⟨e, fr', s', h1, hst, hrun⟩ := ihx _ _ _ hl h
      exact ⟨e, fr', s', h1, hst, fun F n W0 β a W Q hW hL hR hf hF hn => wpIn_cond_true (hev β W0 W a hR hF) (hrun F n W0 β a W Q hW hL hR hf hF hn)⟩
    · obtain ⟨e, fr', s', h1, hst, hrun⟩ := ihy _ _ _ hl h
      exact ⟨e, fr', s', h1, hst, fun F n W0 β a W Q hW hL hR hf hF hn => wpIn_cond_false (hev β W0 W a hR hF) (hrun F n W0 β a W Q hW hL hR hf hF hn)⟩
  | block id c ih =>
    intro fr s k hl h
    obtain ⟨e, fr', s', h1, hst, hrun⟩ := ih _ _ _ hl h
    have key : ∃ e', D.T (k e' fr' s') ∧ ∀ Q : Exit → Act → World → Prop, Exit.inBlock id Q e = Q e' := by
      cases e with
      | exit id' =>
        by_cases he : id' = id
        · simp only [he, decide_true] at h1
          exact ⟨_, h1, fun Q => by funext a w; simp [Exit.inBlock, he]⟩
        · simp only [he, decide_false] at h1
          exact ⟨_, h1, fun Q => by funext a w; simp [Exit.inBlock, he]⟩
      | _ => exact ⟨_, h1, fun Q => rfl⟩
    obtain ⟨e', h2, he⟩ := key
    refine ⟨e', fr', s', h2, hst, fun F n W0 β a W Q hW hL hR hf hF hn => wpIn_block (hrun F n W0 β a W _ hW hL hR hf hF fun a' W' hA => ?_)⟩
    rw [he]
    exact hn a' W' hA
  | loop c ih =>
    intro fr s k hl h
    exact rollC_sound (fun fr s k hl h => ih fr s k hl h) k fuel fr s hl h
  | rangeFunc g ps assign body _ _ =>
    intro fr s k hl h
    exact rangeC_sound hc hl h
  | exit id => intro fr s k hl h; exact ⟨_, _, _, h, .refl _, fun F n W0 β a W Q hW hL hR hf hF hn => wpIn_exit (hn _ _ (.refl hR hF))⟩
  | ret => intro fr s k hl h; exact ⟨_, _, _, h, .refl _, fun F n W0 β a W Q hW hL hR hf hF hn => wpIn_ret (hn _ _ (.refl hR hF))⟩
  | label l => intro fr s k hl h; exact ⟨_, _, _, h, .refl _, fun F n W0 β a W Q hW hL hR hf hF hn => wpIn_label (hn _ _ (.refl hR hF))⟩
  | scope c ih =>
    intro fr s k hl h
    obtain ⟨e, fr', s', h1, hst, hrun⟩ := ih _ _ _ hl h
    have he : ∀ l, e ≠ .goto l := fun l he => by subst he; exact absurd h1 D.nb
    refine ⟨e, fr', s', ?_, hst, fun F n W0 β a W Q hW hL hR hf hF hn => wpIn_scope_straight (hrun F n W0 β a W _ hW hL hR hf hF fun a' W' hA => ?_)⟩
    · cases e <;> first | exact absurd rfl (he _) | exact h1
    · have := hn a' W' hA
      cases e <;> first | exact absurd rfl (he _) | exact this
  | _ => intro fr s k hl h; exact absurd h D.nb
end Go.Proofs.Ytphbcejnnoijfaa.U
