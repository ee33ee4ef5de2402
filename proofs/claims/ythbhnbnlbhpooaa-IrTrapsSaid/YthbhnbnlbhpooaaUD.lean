/- The abstract machine, all ways: code, calls, rounds. THE LAW. No condition. -/
import Derived.Test.YthbhnbnlbhpooaaUC
namespace Go.Proofs.Ythbhnbnlbhpooaa.U
open Go Go.RowKit Go.Sort
set_option linter.unusedVariables false
set_option linter.unusedSimpArgs false
variable {R : Type} {D : DomX R} {P : Program} {cf cx : CallF R} {fr : Tr Value} {s : AS} {o : Oper} {N : Nat}

def rangeX (D : DomX R) (P : Program) (cx : CallF R) (N : Nat) (g : Operand) (ps : Array Tmp) (assign body : Code) (fr : Tr Value) (s : AS) (k : KontC R) : R := rangeC D.toDom P cx N g ps assign body fr s k
/-- A test of what is told. -/
def condM (D : Dom R) (x : Option Value) (a b : R) : R :=
  match x with
  | some (.bool true) => a
  | some (.bool false) => b
  | _ => D.bad
theorem condM_C {D : Dom R} {x : Option Value} {a b : R} (h : D.T (condM D x a b)) : ∃ c, x = some (.bool c) ∧ ((c = true ∧ D.T a) ∨ (c = false ∧ D.T b)) := by
  unfold condM at h
  split at h
  · exact ⟨true, rfl, .inl ⟨rfl, h⟩⟩
  · exact ⟨false, rfl, .inr ⟨rfl, h⟩⟩
  · exact absurd h D.nb
def litO (D : Dom R) (c : Operand) (fr : Tr Value) (k : Tr Value → R) : R :=
  match c with
  | .tmp d => litC D d fr k
  | _ => k fr
theorem litO_sound {D : Dom R} {c : Operand} {k : Tr Value → R} (h : D.T (litO D c fr k)) : ∃ fr', (∀ t, Tr.at (pt t) fr' = Tr.at (pt t) fr) ∧ D.T (k fr') := by
  unfold litO at h
  split at h
  · exact litC_sound h
  · exact ⟨fr, fun _ => rfl, h⟩
abbrev ContT (R : Type) := Tr Value → AS → KontC R → R
def seqX (a b : ContT R) : ContT R := fun fr s k => a fr s fun e fr s => match e with
  | .normal => b fr s k
  | e => k e fr s
def condX (D : DomX R) (c : Operand) (a b : ContT R) : ContT R := fun fr s k => litO D.toDom c fr fun fr => condM D.toDom (evC s.glb fr c) (a fr s k) (b fr s k)
def blockX (id : Nat) (c : ContT R) : ContT R := fun fr s k => c fr s fun e fr s => match e with
  | .exit id' => match decide (id' = id) with
    | true => k .normal fr s
    | false => k (.exit id') fr s
  | e => k e fr s
noncomputable def regionX (D : DomX R) (P : Program) (cf cx : CallF R) (N : Nat) (ops : Array Oper) (draw : Bool) : ContT R := fun fr s k => match draw with
  | false => opsX D P cf cx N ops.toList ops.toList fr s (k .normal)
  | true => drawX D P cf cx N ops.toList fr s (k .normal)
def scopeX (D : DomX R) (c : ContT R) : ContT R := fun fr s k => c fr s fun e fr s => match e with
  | .goto _ => D.bad
  | e => k e fr s
noncomputable def codeX (D : DomX R) (P : Program) (cf cx : CallF R) (N fuel : Nat) (c : Code) : ContT R :=
  Code.rec (motive := fun _ => ContT R)
    (fun fr s k => k .normal fr s)
    (fun _ ops draw => regionX D P cf cx N ops draw)
    (fun _ _ a b => seqX a b)
    (fun c _ _ a b => condX D c a b)
    (fun id _ c => blockX id c)
    (fun c h fr s k => D.loop P N c h k fuel fr s)
    (fun g ps assign body _ _ fr s k => rangeX D P cx N g ps assign body fr s k)
    (fun id fr s k => k (.exit id) fr s)
    (fun _ c => scopeX D c)
    (fun _ fr s k => k .normal fr s)
    (fun _ _ _ _ => D.bad)
    (fun fr s k => k .ret fr s)
    (fun _ _ _ _ => D.bad) c
theorem AfterX.y {W0 : World} {β : Bt} {s' : AS} {fr' : Tr Value} {a a' : Act} {W W' : World} (h : AfterX P W0 N β s s' fr' a W a' W') : AfterY P W0 N β s s' fr' a W a' W' :=
  let ⟨β', h1, h2, h3, h4, h5⟩ := h
  ⟨β', h1, h2, h3, h4, h4.z, by rw [h5]; exact .refl _ _ _⟩
def CodeX (P : Program) (D : DomX R) (N : Nat) (c : Code) (fr : Tr Value) (s : AS) (k : KontC R) : Prop := CodeT D.T P N c fr s k
theorem rangeX_sound (hx : CallX P D cx) {g : Operand} {ps : Array Tmp} {assign body : Code} {k : KontC R} (hl : s.lo ≤ s.next) (h : D.T (rangeX D P cx N g ps assign body fr s k)) : CodeX P D N (.rangeFunc g ps assign body) fr s k := by
  unfold rangeX rangeC at h
  split at h
  · rename_i gf caps hg
    replace h := ifB_sound h
    obtain ⟨hen, h⟩ := h
    rw [pushC_eq] at h
    have hcall := hx.call gf _ _ _ (Nat.le_succ_of_le hl) h
    have hp := AS.push_stp s (.loop .ready none fr N ps.toList assign body) hl
    intro F n W0 β a W Q hW hLA hR hf hF hn
    have hop := hF.op hR { (default : Oper) with op := .move g }
    obtain ⟨a', b', e1, e2, e3⟩ := (hop g (by simp [Op.operands]) _ hg).func_inv
    obtain rfl := e1.inv_nil
    have hfree : β s.next = none := hf s.next (Nat.le_refl _)
    refine wpIn_rangeFunc fun fn _ => ?_
    have main : ∀ (W1 : World) (mark : List Deferred) (dd : Nat), Below W.heap.size W W1 → Rel P W0 β s W1 → (Instr.enterLoop fn a.tmps ps assign body F.round).run P W = .ok (W1.heap.size, mark) (W1.alloc (.loop { state := .ready, pending := none, fn, tmps := a.tmps, params := ps, assign, body, defers := dd })) → DM W.heap.size W1 a.defers (mark ++ a.defers) →
        ∃ (l : Nat) (mark : List Deferred) (w₁ : World) (d : Deferred) (w₁' : World) (f : FuncId) (args : Array Value) (w₂ : World),
    (Instr.enterLoop fn a.tmps ps assign body F.round).run P W = .ok (l, mark) w₁ ∧
    (resolve a.eval (rangeCall g l) 0).run P w₁ = .ok d w₁' ∧
    (∀ f', Target.leads P w₁' d.target d.args = some f' → F.fn f') ∧
    (invoke d.target d.args).run P w₁' = .ok (.enter f args) w₂ ∧
    (F.depth.isSome = true → 1 ≤ n) ∧
    CallsIn F (n - 1) P f args w₂ (rangePost F n P l Q { a with defers := mark ++ a.defers }) := fun W1 mark dd hB1 hR1 hrun hDM => by
      obtain ⟨L0, hL0⟩ : ∃ L0 : Loop, L0 = { state := .ready, pending := none, fn, tmps := a.tmps, params := ps, assign, body, defers := dd } := ⟨_, rfl⟩
      rw [← hL0] at hrun
      have hR2 : Rel P W0 (β.set s.next (W1.heap.size, 0)) (s.push (.loop .ready none fr N ps.toList assign body)) (W1.alloc (.loop L0)) := by
        refine hR1.alloc hfree ⟨L0, heap_new _ _, by rw [hL0], by rw [hL0], by rw [hL0], by rw [hL0], by rw [hL0], by rw [hL0]; exact hF.size, fun t u hu => ?_, hF.lt⟩
        rw [hL0]
        exact (hF.at_ t u hu).grow (Bt.set_le (B := 0) _ hfree)
      have hx' : ExtX W0.heap.size β (β.set s.next (W1.heap.size, 0)) s.next (s.next + 1) := ⟨fun i hi => Bt.set_other _ _ (by omega), fun i hi => by rw [Bt.set_other _ _ (by omega)]; exact hf i (by omega), fun _ _ _ h => h, fun _ _ _ h => .inl h⟩
      have hcalls := hcall W0 _ (W1.alloc (.loop L0)) (.func (.yield W1.heap.size) ⟨[]⟩ ⟨[]⟩ :: b') hR2 hx'.free (.cons (.yld _ _ _ (Bt.set_same _ _ _)) (e2.growX (hx'.le hf)))
      refine ⟨W1.heap.size, mark, W1.alloc (.loop L0), { target := .fn (.func gf) ⟨b'⟩, args := #[.func (.yield W1.heap.size) #[] #[]] }, W1.alloc (.loop L0), gf, ⟨.func (.yield W1.heap.size) ⟨[]⟩ ⟨[]⟩ :: b'⟩, W1.alloc (.loop L0), hrun, ?_, fun f' _ => hW.fn f', ?_, hW.dep, ?_⟩
      · simp only [resolve, e3]
        simp [go_sem]
      · have := run_enters (P := P) (us := (⟨.func (.yield W1.heap.size) ⟨[]⟩ ⟨[]⟩ :: b'⟩ : Array Value)) hen (W1.alloc (.loop L0))
        simpa [invoke, go_sem] using this
      · refine hW.calls (hcalls.mono ?_)
        rintro e' W3 ⟨v, u, s1, rfl, h, hst, β2, q1, q2, q3, q4⟩
        split at h
        · rename_i st pe fr' N' ps' asg' bo' hlook
          have hlook' : s1.heap.get s.next = some (.loop st pe fr' N' ps' asg' bo') := hlook
          replace h := ifB_sound h
          obtain ⟨hb, h⟩ := h
          simp only [Bool.and_eq_true] at hb
          have hlo := Nat.le_of_ble_eq_true hb.1
          have hcalm := hb.2
          rw [turnC_eq] at h
          obtain ⟨e, h, hleft⟩ := leftC_sound (P := P) h
          have ht : Stp s1 ⟨s1.heap.set s.next (some (.loop .exhausted pe fr' N' ps' asg' bo')), s1.next, s1.lo, s1.glb⟩ := Stp.turn _ (by rw [hlook']; simp) hlo (fun _ => rfl)
          have hname : β2 s.next = some (W1.heap.size, 0) := by
            rw [q1.keep s.next (Nat.lt_succ_self _)]
            exact Bt.set_same _ _ _
          obtain ⟨L, g1, g2, g3, g4, g5, g6, g7, g8, g9⟩ := q2.blk s.next _ _ _ hlook' hname
          have hnb : L.state ≠ .busy := by
            rw [g2]
            rintro rfl
            cases hcalm
          obtain ⟨r1, r2, r3, r4⟩ := q2.putLoop (by rw [hlook']; simp) hname hlo g1 (L' := { L with state := .exhausted }) (b := .loop .exhausted pe fr' N' ps' asg' bo') fun W' hW' => ⟨_, hW', rfl, g3, g4, g5, g6, g7, g8, g9⟩
          refine ⟨L.pending, _, run_endLoop (P := P) g1 hnb, ?_⟩
          have hz1 : W.heap.size ≤ W1.heap.size := hB1.size
          have hz2 : (W1.alloc (.loop L0)).heap.size ≤ W3.heap.size := by
            have := q2.lt s.next _ _ hname
            simp
            omega
          have k1 : KD W (W1.alloc (.loop L0)) := KD.below (hB1.trans (((Below.refl _ W1).alloc (Nat.le_refl _) _).mono hz1))
          have k2 : KD W1 (W3.putObj W1.heap.size (.loop { L with state := .exhausted })) := ((KD.below ((Below.refl _ W1).alloc (Nat.le_refl _) _)).trans q4).trans r2
          have hext : ExtX W0.heap.size β β2 s.next s1.next := hx'.trans q1 (Nat.le_succ _)
          have hA : AfterY P W0 N β s ⟨s1.heap.set s.next (some (.loop .exhausted pe fr' N' ps' asg' bo')), s1.next, s1.lo, s1.glb⟩ fr a W { a with defers := mark ++ a.defers } (W3.putObj W1.heap.size (.loop { L with state := .exhausted })) := by
            refine ⟨β2, hext, r1, ⟨hF.size, fun t u hu => (hF.at_ t u hu).growX (hext.le hf), hF.lt⟩, (k1.trans q4).trans r2, ?_, ?_⟩
            · rw [r4]
              simp at hz2
              omega
            · exact (hDM.trans k2 hz1 (.refl _ _ _))
          have hq := hleft F n Q _ _ (hn _ _ _ _ _ h ((hp.x.trans hst).trans ht.x) hA)
          clear hleft h hn
          split
          · rename_i hj; exact hq.1 (g3.symm.trans hj)
          · rename_i c hj; exact hq.2 c (g3.symm.trans hj)
        · exact absurd h D.nb
    rcases hround : F.round with _ | l0
    · have hE := run_enterLoop_outer (P := P) (w := W) fn a.tmps ps assign body
      have hB1 : Below W.heap.size W (W.alloc (.deferred (some []))) := (Below.refl _ _).alloc (Nat.le_refl _) _
      have := main (W.alloc (.deferred (some []))) [markD W.heap.size] W.heap.size hB1 (hR.later hB1) (by rw [hround]; simpa [markD] using hE) ⟨[W.heap.size], rfl, by simp, fun d hd => by
        have : d = W.heap.size := by simpa using hd
        subst this
        exact ⟨Nat.le_refl _, World.alloc_heap_new W _⟩⟩
      rwa [hround] at this
    · obtain ⟨r0, hr0⟩ := hLA l0 hround
      have hE := run_enterLoop_inner (P := P) hr0 fn a.tmps ps assign body
      have := main W [] r0.defers (.refl _ _) hR (by rw [hround]; exact hE) (.refl _ _ _)
      rwa [hround] at this
  · exact absurd h D.nb
theorem codeX_sound (hm : P.follows .mixedOrders = true) (hc : CallOk P D.toDom cf) (hx : CallX P D cx) (fuel : Nat) : ∀ (c : Code) (fr : Tr Value) (s : AS) (k : KontC R), s.lo ≤ s.next → D.T (codeX D P cf cx N fuel c fr s k) → CodeX P D N c fr s k := by
  intro c
  induction c with
  | skip => intro fr s k hl h F n W0 β a W Q hW hL hR hf hF hn; exact wpIn_skip (hn _ _ _ _ _ h (.refl _) (.refl hR hf hF))
  | region id ops draw =>
    intro fr s k hl h F n W0 β a W Q hW hL hR hf hF hn
    cases draw with
    | false =>
      refine wpIn_region_list ?_
      have := opsX_sound hc hx (n := n) (Q := Q) hW _ _ _ _ hl h β a W hR hf hF fun fr' s' a' W' h1 hst hA => hn _ _ _ _ _ h1 hst hA.y
      simpa using this
    | true =>
      have := drawX_sound (m := n) (Q := Q) hm hc hx hl h id hW hR hf hF fun fr' s' a' W' h1 hst hA => hn _ _ _ _ _ h1 hst hA.y
      simpa using this
  | seq x y ihx ihy =>
    intro fr s k hl h F n W0 β a W Q hW hL hR hf hF hn
    refine wpIn_seq (ihx _ _ _ hl h F n W0 β a W _ hW hL hR hf hF fun e fr1 s1 a1 W1 h1 hst ⟨β1, q1, q2, q3, q4, q5, q6⟩ => ?_)
    by_cases he : e = .normal
    · subst he
      exact ihy _ _ _ (hst.le hl) h1 F n W0 β1 a1 W1 Q hW (hL.kd q4) q2 q1.free q3 fun e' fr' s' a' W' h2 hst2 hA => hn _ _ _ _ _ h2 (hst.trans hst2) (hA.trans hst.next q1 q4 q5 q6)
    · have hA : AfterY P W0 N β s s1 fr1 a W a1 W1 := ⟨β1, q1, q2, q3, q4, q5, q6⟩
      have h1' : D.T (k e fr1 s1) := by cases e <;> first | exact absurd rfl he | exact h1
      have := hn e fr1 s1 a1 W1 h1' hst hA
      cases e <;> first | exact absurd rfl he | exact this
  | cond c x y ihx ihy =>
    intro fr0 s k hl h F n W0 β a W Q hW hL hR hf hF0 hn
    replace h := litO_sound h
    obtain ⟨fr, hfrx, h⟩ := h
    have hF := hF0.ext hfrx
    obtain ⟨cb, hcb, h⟩ := condM_C h
    have hev0 : ∀ (β : Bt) (W0 W : World) (a : Act), Rel P W0 β s W → FrR β N fr a → a.eval c = .bool cb := fun β W0 W a hR hF => by
      have hop := hF.op hR { (default : Oper) with op := .move c }
      exact (hop c (by simp [Op.operands]) _ hcb).flat_eq rfl
    have h : (D.T (codeX D P cf cx N fuel x fr s k) ∧ ∀ (β : Bt) (W0 W : World) (a : Act), Rel P W0 β s W → FrR β N fr a → a.eval c = .bool true) ∨ (D.T (codeX D P cf cx N fuel y fr s k) ∧ ∀ (β : Bt) (W0 W : World) (a : Act), Rel P W0 β s W → FrR β N fr a → a.eval c = .bool false) := by
      rcases h with ⟨rfl, h⟩ | ⟨rfl, h⟩
      · exact .inl ⟨h, hev0⟩
      · exact .inr ⟨h, hev0⟩
    rcases h with ⟨h, hev⟩ | ⟨h, hev⟩
    · exact wpIn_cond_true (hev β W0 W a hR hF) (ihx _ _ _ hl h F n W0 β a W Q hW hL hR hf hF hn)
    · exact wpIn_cond_false (hev β W0 W a hR hF) (ihy _ _ _ hl h F n W0 β a W Q hW hL hR hf hF hn)
  | block id c ih =>
    intro fr s k hl h F n W0 β a W Q hW hL hR hf hF hn
    refine wpIn_block (ih _ _ _ hl h F n W0 β a W _ hW hL hR hf hF fun e fr' s' a' W' h1 hst hA => ?_)
    have key : ∃ e', D.T (k e' fr' s') ∧ ∀ Q : Exit → Act → World → Prop, Exit.inBlock id Q e = Q e' := by
      cases e with
      | exit id' =>
        by_cases he : id' = id
        · simp only [he, decide_true] at h1
          exact ⟨_, h1, fun Q => by funext a w; simp [Exit.inBlock, he]⟩
        · simp only [he, decide_false] at h1
          exact ⟨_, h1, fun Q => by funext a w; simp [Exit.inBlock, he]⟩
      | _ => exact ⟨_, h1, fun Q => rfl⟩
    obtain ⟨e', h2, he⟩ := key
    rw [he]
    exact hn _ _ _ _ _ h2 hst hA
  | loop c ih =>
    intro fr s k hl h
    exact D.loop_ok _ _ _ _ _ _ _ _ hl (fun fr s k hl h => ih fr s k hl h) h
  | rangeFunc g ps assign body _ _ =>
    intro fr s k hl h
    exact rangeX_sound hx hl h
  | exit id => intro fr s k hl h F n W0 β a W Q hW hL hR hf hF hn; exact wpIn_exit (hn _ _ _ _ _ h (.refl _) (.refl hR hf hF))
  | ret => intro fr s k hl h F n W0 β a W Q hW hL hR hf hF hn; exact wpIn_ret (hn _ _ _ _ _ h (.refl _) (.refl hR hf hF))
  | label l => intro fr s k hl h F n W0 β a W Q hW hL hR hf hF hn; exact wpIn_label (hn _ _ _ _ _ h (.refl _) (.refl hR hf hF))
  | scope c ih =>
    intro fr s k hl h F n W0 β a W Q hW hL hR hf hF hn
    refine wpIn_scope_straight (ih _ _ _ hl h F n W0 β a W _ hW hL hR hf hF fun e fr' s' a' W' h1 hst hA => ?_)
    have he : ∀ l, e ≠ .goto l := fun l he => by subst he; exact absurd h1 D.nb
    have h1' : D.T (k e fr' s') := by cases e <;> first | exact absurd rfl (he _) | exact h1
    have := hn _ _ _ _ _ h1' hst hA
    cases e <;> first | exact absurd rfl (he _) | exact this
  | _ => intro fr s k hl h; exact absurd h D.nb

/-! Calls. -/
noncomputable def bodyX (D : DomX R) (P : Program) (cf cx : CallF R) (fuel : Nat) : CallT R := fun f args s k =>
  match P.funcs[f]? with
  | some fn => match fn.body with
    | some c => argsC args 0 .e fun fr => natC (args.length + (fn.ntmps - args.length)) fun n => codeX D P cf cx n fuel c fr s fun e fr s => match e with
      | .normal => resC D.toDom P fr s fn.results.toList fun l => k (retC l) s
      | .ret => resC D.toDom P fr s fn.results.toList fun l => k (retC l) s
      | _ => D.bad
    | none => D.bad
  | none => D.bad
noncomputable def roundX (D : DomX R) (P : Program) (cf cx : CallF R) (fuel : Nat) : CallT R := fun l args s k =>
  match lookC s l with
  | some (.loop st pe fr N ps asg bo) => paramC D.toDom N ps args fr fun fr => codeX D P cf cx N fuel asg fr s fun e fr s => match e with
    | .normal => match lookC s l with
      | some (.loop .ready pe2 fr2 N2 ps2 asg2 bo2) => ifB D.toDom (Nat.ble s.lo l) (turnC s l (some (.loop .busy pe2 fr2 N2 ps2 asg2 bo2)) fun s => codeX D P cf cx N fuel bo fr s fun e fr s => match lookC s l with
        | some (.loop _ _ fr3 N3 ps3 asg3 bo3) => onV D.toDom (jumpC e) fun j => ifB D.toDom (Nat.ble s.lo l) (turnC s l (some (.loop (doneC j) j fr3 N3 ps3 asg3 bo3)) fun s => k (.bool (moreC j)) s)
        | _ => D.bad)
      | _ => D.bad
    | _ => D.bad
  | _ => D.bad
theorem bodyX_sound (hm : P.follows .mixedOrders = true) (hc : CallOk P D.toDom cf) (hx : CallX P D cx) (fuel : Nat) : ∀ f args s k, s.lo ≤ s.next → D.T (bodyX D P cf cx fuel f args s k) → ∀ W0 β W vs, Rel P W0 β s W → FreeA β s.next → VRs β args vs → Calls P f ⟨vs⟩ W fun e w' => ∃ v u s', e = .returned v ∧ D.T (k u s') ∧ StpX s s' ∧ LaysX P W0 β W s s' u v w' := by
  intro f args s k hl h W0 β W vs hR hf hv
  unfold bodyX at h
  split at h
  · rename_i fn hfn
    split at h
    · rename_i c hbody
      rw [argsC_eq, natC_eq] at h
      refine (callsIn_wide (n := 0)).1 (callsIn_of_wp_marks hfn hbody trivial (codeX_sound hm hc hx fuel c _ _ _ hl h Fence.wide 0 W0 β _ W _ (.inl rfl) (fun l hl => by cases hl) hR hf (frR_start hv fn.ntmps) fun e fr' s' a' W' h1 hst ⟨β1, q1, q2, q3, q4, q5, q6⟩ => ?_))
      have key : D.T (resC D.toDom P fr' s' fn.results.toList fun l => k (retC l) s') ∧ (e = .normal ∨ e = .ret) := by
        cases e <;> first | exact ⟨h1, .inl rfl⟩ | exact ⟨h1, .inr rfl⟩ | exact absurd h1 D.nb
      obtain ⟨us, h2, h3⟩ := resC_sound (N := args.length + (fn.ntmps - args.length)) _ _ key.1
      obtain ⟨l, e1, e2, e3⟩ := q6
      have fin : LeavesInM Fence.wide 0 P fn a'.tmps (fun e w' => ∃ v u s', e = .returned v ∧ D.T (k u s') ∧ StpX s s' ∧ LaysX P W0 β W s s' u v w') a'.defers .returning W' := by
        rw [e1, List.append_nil]
        refine run_takes l W' e2 (fun d hd => (e3 d hd).2) fun W'' p1 p2 p3 p4 p5 => ?_
        have hR2 := q2.takes (W' := W'') (l := l) (fun d hd => ⟨Nat.le_trans hR.below.size (e3 d hd).1, (e3 d hd).2⟩) p1 p2 p3 p4 p5
        obtain ⟨ws, r1, r2⟩ := h3 W0 β1 a' W'' hR2 q3
        refine ⟨_, run_results r2, retV ws, _, s', rfl, h2, hst, β1, q1, hR2, retC_rel r1, ⟨fun d hd => ?_, fun d L hd => ?_, by rw [p4]; exact q5⟩⟩
        · rw [p5 d fun x hx e => by
            have := (e3 x hx).1
            have := (Array.getElem?_eq_some_iff.1 hd).1
            omega]
          exact q4.d d hd
        · rw [p5 d fun x hx e => by
            have := (e3 x hx).1
            have := (Array.getElem?_eq_some_iff.1 hd).1
            omega]
          exact q4.l d L hd
      rcases key.2 with rfl | rfl
      · exact fin
      · exact fin
    · exact absurd h D.nb
  · exact absurd h D.nb
theorem roundX_sound (hm : P.follows .mixedOrders = true) (hc : CallOk P D.toDom cf) (hx : CallX P D cx) (fuel : Nat) : ∀ l args s k, s.lo ≤ s.next → D.T (roundX D P cf cx fuel l args s k) → ∀ W0 β W vs r sp, Rel P W0 β s W → FreeA β s.next → VRs β args vs → β l = some (r, sp) → DoesX D P W0 β s k W ((Instr.yield r ⟨vs⟩).run P W) := by
  intro l args s k hl h W0 β W vs r sp hR hf hv hβ
  unfold roundX at h
  split at h
  · rename_i st pe fr N ps asg bo hlook
    have hlook' : s.heap.get l = some (.loop st pe fr N ps asg bo) := hlook
    obtain ⟨hlen, fr1, h, hpar⟩ := paramC_sound (β := ⟨fun _ => none, fun _ _ => none⟩) _ _ _ _ h
    obtain ⟨L, g1, g2, g3, g4, g5, g6, g7, g8, g9⟩ := hR.blk l _ r sp hlook' hβ
    have hsz : (⟨vs⟩ : Array Value).size = L.params.size := by
      rw [g4]
      have := hv.1
      simp
      omega
    rw [run_yield g1 hsz]
    refine ⟨rfl, roundIn_of_wpIn trivial ?_⟩
    have hzip : (L.params.zip ⟨vs⟩).foldl (fun tmps (t, a) => tmps.setIfInBounds t a) L.tmps = (ps.zip vs).foldl (fun tmps (t, a) => tmps.setIfInBounds t a) L.tmps := by
      rw [g4, ← Array.foldl_toList]
      simp
    rw [hzip, g5, g6]
    have hF0 := hpar β vs L.tmps hv ⟨g7, g8, g9⟩
    have hW : WF (Fence.wide.inRound r) := .inr ⟨r, rfl⟩
    refine codeX_sound hm hc hx fuel asg _ _ _ hl h (Fence.wide.inRound r) 0 W0 β _ W _ hW (fun l0 hl0 => by cases hl0; exact ⟨L, g1⟩) hR hf hF0 fun e fr2 s1 a1 W1 h hst1 ⟨β1, q1, q2, q3, q4, q5, q6⟩ => ?_
    by_cases he : e = .normal
    · subst he
      replace h : D.T (match lookC s1 l with
        | some (.loop .ready pe2 fr3 N2 ps2 asg2 bo2) => ifB D.toDom (Nat.ble s1.lo l) (turnC s1 l (some (.loop .busy pe2 fr3 N2 ps2 asg2 bo2)) fun s => codeX D P cf cx N fuel bo fr2 s fun e fr s => match lookC s l with
          | some (.loop _ _ fr3 N3 ps3 asg3 bo3) => onV D.toDom (jumpC e) fun j => ifB D.toDom (Nat.ble s.lo l) (turnC s l (some (.loop (doneC j) j fr3 N3 ps3 asg3 bo3)) fun s => k (.bool (moreC j)) s)
          | _ => D.bad)
        | _ => D.bad) := h
      split at h
      · rename_i pe2 fr3 N2 ps2 asg2 bo2 hlook2
        have hlook2' : s1.heap.get l = some (.loop .ready pe2 fr3 N2 ps2 asg2 bo2) := hlook2
        replace h := ifB_sound h
        obtain ⟨hlo, h⟩ := h
        have hlo := Nat.le_of_ble_eq_true hlo
        rw [turnC_eq] at h
        have ht1 : Stp s1 ⟨s1.heap.set l (some (.loop .busy pe2 fr3 N2 ps2 asg2 bo2)), s1.next, s1.lo, s1.glb⟩ := Stp.turn _ (by rw [hlook2']; simp) hlo (fun _ => rfl)
        have hlt : l < s.next := by
          rcases Nat.lt_or_ge l s.next with h | h
          · exact h
          · rw [hf l h] at hβ; cases hβ
        have hβ1 : β1 l = some (r, sp) := by rw [q1.keep l hlt]; exact hβ
        obtain ⟨L1, k1, k2, k3, k4, k5, k6, k7, k8, k9⟩ := q2.blk l _ r sp hlook2' hβ1
        obtain ⟨p1, p2, p3, p4⟩ := q2.putLoop (L' := { L1 with state := .busy }) (b := .loop .busy pe2 fr3 N2 ps2 asg2 bo2) (by rw [hlook2']; simp) hβ1 hlo k1 fun W' hW' => ⟨_, hW', rfl, k3, k4, k5, k6, k7, k8, k9⟩
        refine ⟨_, run_beginRound k1 k2, ?_⟩
        refine codeX_sound hm hc hx fuel bo _ _ _ (ht1.x.le (hst1.le hl)) h (Fence.wide.inRound r) 0 W0 β1 a1 _ _ hW (fun l0 hl0 => by cases hl0; exact ⟨_, p3⟩) p1 q1.free q3 fun e fr4 s2 a2 W2 h hst2 ⟨β2, u1, u2, u3, u4, u5, u6⟩ => ?_
        split at h
        · rename_i st3 pe3 fr5 N3 ps3 asg3 bo3 hlook3
          have hlook3' : s2.heap.get l = some (.loop st3 pe3 fr5 N3 ps3 asg3 bo3) := hlook3
          replace h := onV_sound h
          obtain ⟨j, hj, h⟩ := h
          replace h := ifB_sound h
          obtain ⟨hlo2, h⟩ := h
          have hlo2 := Nat.le_of_ble_eq_true hlo2
          rw [turnC_eq] at h
          have ht2 : Stp s2 ⟨s2.heap.set l (some (.loop (doneC j) j fr5 N3 ps3 asg3 bo3)), s2.next, s2.lo, s2.glb⟩ := Stp.turn _ (by rw [hlook3']; simp) hlo2 (fun _ => rfl)
          have hβ2 : β2 l = some (r, sp) := by
            rw [u1.keep l (Nat.lt_of_lt_of_le hlt hst1.next)]
            exact hβ1
          obtain ⟨L2, m1, m2, m3, m4, m5, m6, m7, m8, m9⟩ := u2.blk l _ r sp hlook3' hβ2
          obtain ⟨o1, o2, o3, o4⟩ := u2.putLoop (L' := { L2 with state := if j.isNone then .ready else .done, pending := j }) (b := .loop (doneC j) j fr5 N3 ps3 asg3 bo3) (by rw [hlook3']; simp) hβ2 hlo2 m1 fun W' hW' => ⟨_, hW', by cases j <;> rfl, rfl, m4, m5, m6, m7, m8, m9⟩
          have hend := run_endRound (P := P) j m1
          have hres : LaysX P W0 β W s ⟨s2.heap.set l (some (.loop (doneC j) j fr5 N3 ps3 asg3 bo3)), s2.next, s2.lo, s2.glb⟩ (.bool (moreC j)) (.bool j.isNone) (W2.putObj r (.loop { L2 with state := if j.isNone then .ready else .done, pending := j })) := by
            refine ⟨β2, q1.trans u1 hst1.next, o1, ?_, ((q4.trans p2).trans u4).trans o2⟩
            have : moreC j = j.isNone := by cases j <;> rfl
            rw [this]
            exact .flat _ rfl
          have main : ∀ e', jumpC e = some j → e = e' → roundPost P r (fun e w' => ∃ v u s', e = .returned v ∧ D.T (k u s') ∧ StpX s s' ∧ LaysX P W0 β W s s' u v w') e' a2 W2 := by
            rintro e' hj rfl
            cases e <;> simp only [jumpC, Option.some.injEq] at hj <;> first
              | (subst hj; exact ⟨_, _, hend, _, _, _, rfl, h, ((hst1.trans ht1.x).trans hst2).trans ht2.x, hres⟩)
              | cases hj
          exact main e hj rfl
        · exact absurd h D.nb
      · exact absurd h D.nb
    · exact absurd (show D.T D.bad by cases e <;> first | exact absurd rfl he | exact h) D.nb
  · exact absurd h D.nb
noncomputable def callX (D : DomX R) (P : Program) (fuel : Nat) (cf ext : CallF R) : Nat → CallF R
  | 0 => ext
  | n + 1 => ⟨bodyX D P cf (callX D P fuel cf ext n) fuel, roundX D P cf (callX D P fuel cf ext n) fuel⟩
theorem badX_ok : CallX P D (badF D.toDom) := ⟨fun f args s k hl h => absurd h D.nb, fun f args s k hl h => absurd h D.nb⟩
theorem callX_ok (hm : P.follows .mixedOrders = true) (hc : CallOk P D.toDom cf) {ext : CallF R} (he : CallX P D ext) (fuel : Nat) : ∀ n, CallX P D (callX D P fuel cf ext n)
  | 0 => he
  | n + 1 => ⟨bodyX_sound hm hc (callX_ok hm hc he fuel n) fuel, roundX_sound hm hc (callX_ok hm hc he fuel n) fuel⟩
theorem start_free (l : List (Nat × List Value)) (Ts : Nat → TypeId) : FreeA ⟨fun k => if k < gTop l then some (k, 0) else none, fun _ _ => none⟩ (start l Ts).next := fun k hk => by
  have : ¬ k < gTop l := Nat.not_lt.2 hk
  simp [this]
/-- From a run that comes to 'true' in all ways to a contract. -/
theorem den_of_runX {P : Program} (hm : P.follows .mixedOrders = true) {f : FuncId} {args : List Value} {F : Facts} (l : List (Nat × List Value)) (hl : gOk l = true) (hF : ∀ W, Sat F W → gSet l W) (ha : args.all flatV = true) (fuel n m : Nat)
    (h : ∀ Ts, ((callX boolX P fuel (callN boolD P fuel (badF boolD) m) (badF boolD) n).call f args (start l Ts) yesK) = true) : Den P f ⟨args⟩ F (.bool true) := by
  refine ⟨fun W hs => ?_⟩
  have hR := start_rel (P := P) hl (hF W hs)
  refine ((callX_ok (D := boolX) hm (callN_ok (D := boolD) hm badF_ok fuel m) badX_ok fuel n).call f args (start l (typeAt W)) yesK (Nat.le_refl _) (h _) W _ W args hR (start_free _ _) ⟨rfl, fun i u v hu hv => ?_⟩).mono fun e w' ⟨v, u, s', he, h1, hst, β', _, hR', hv, _⟩ => ?_
  · rw [hu] at hv
    cases hv
    exact .of_flat _ (List.all_eq_true.1 ha _ (List.mem_of_getElem? hu))
  · have h1' : yesK u s' = true := h1
    unfold yesK at h1'
    split at h1'
    · subst h1'
      have hv' : v = .bool true := hv.flat1_eq rfl
      subst hv'
      exact ⟨he, hR'.below⟩
    · cases h1'
end Go.Proofs.Ythbhnbnlbhpooaa.U
