/- A region that draws its order: its first n operations read, compute, or call functions that leave what was there as it was; the rest stands in one forced order. One walk in the order of the text serves every order. No condition beyond the two closed checks named in the theorem. -/
import Derived.Test.YthbhnbnlbhpooaaGreatDoorRows
import Derived.WalkKit
import Derived.WalkSpells
import Derived.WalkLawsBesides
import Derived.Lib.QuietBelow
import Derived.BigQuiet
import Derived.Lib.Hide
import Derived.StillTail
namespace Go.Proofs.YthbhnbnlbhpooaaGreatDoor
open Go Go.RowKit Go.Sort

section
variable {P : Program} {ops : Array Oper} {md : Region.Mode} {C : World → Prop}

/-- f operations of the first n, whichever may come up, each quiet in the class C; then T. -/
def headQ (P : Program) (md : Region.Mode) (ops : Array Oper) (C : World → Prop) (n : Nat) (T : Array Bool → Act → Prop) : Nat → Array Bool → Act → Prop
  | 0, listed, a => T listed a
  | f + 1, listed, a => Region.ready md ops listed ≠ [] ∧ ∀ i ∈ Region.ready md ops listed, i < n ∧ qOp P ops C i (headQ P md ops C n T f (listed.setIfInBounds i true)) a

theorem headQ_wpAny {n g : Nat} {T : Array Bool → Act → Prop} {Q' : Exit → Act → World → Prop} (hT : ∀ listed a w, C w → T listed a → wpAny P md ops Q' g listed a w) :
    ∀ (f : Nat) (listed : Array Bool) (a : Act) (w : World), C w → headQ P md ops C n T f listed a → wpAny P md ops Q' (f + g) listed a w := by
  intro f
  induction f with
  | zero => intro listed a w hw h; rw [Nat.zero_add]; exact hT _ _ _ hw h
  | succ f ih =>
    intro listed a w hw h
    rw [Nat.succ_add]
    exact ⟨fun h0 => absurd h0 h.1, fun i hi => wpOp_of_qOp hw (fun a' w' hw' h' => ih _ a' w' hw' h') (h.2 i hi).2⟩

theorem headQ_take {n i : Nat} {oi : Oper} {v : Value} {T : Array Bool → Act → Prop} (hi : ops[i]? = some oi) (hsel : ∀ (j : Nat) (o : Oper) cs b, ops[j]? = some o → o.op ≠ .select cs b)
    (hs : Region.sinkB md ops n = true) (hc : Region.chainB md ops n = true) (hn : n < ops.size) (hin : i < n) (hT : ∀ listed a, T listed a → ∀ j ∈ Region.ready md ops listed, n ≤ j) :
    ∀ (f : Nat) (listed : Array Bool) (a : Act), HeadInv md ops n listed →
      (∀ j oj, ops[j]? = some oj → j ≠ i → listed.getD j true = false → (∀ e ∈ oj.after, Region.binds md e = true → e.on ≠ i) → oi.apart ops oj = true) →
      i ∈ Region.ready md ops listed → YieldsIn P ops C oi v a → headQ P md ops C n T f (listed.setIfInBounds i true) (a.put oi.dst v) → headQ P md ops C n T (f + 1) listed a := by
  intro f
  induction f with
  | zero =>
    intro listed a inv _ hr hy H
    refine ⟨fun h => (by rw [h] at hr; cases hr), fun j hj => ?_⟩
    have hjn : j < n := Nat.lt_of_not_le fun h => tail_waits hs hc hn inv _ i rfl hin (mem_ready.1 hr).1 j h hj
    by_cases hji : j = i
    · subst hji; exact ⟨hjn, hy.qOp hi H⟩
    · exact absurd (hT _ _ H j (ready_mono hj hji)) (by omega)
  | succ f ih =>
    intro listed a inv hfree hr hy H
    refine ⟨fun h => (by rw [h] at hr; cases hr), fun j hj => ?_⟩
    have hjn : j < n := Nat.lt_of_not_le fun h => tail_waits hs hc hn inv _ i rfl hin (mem_ready.1 hr).1 j h hj
    refine ⟨hjn, ?_⟩
    by_cases hji : j = i
    · subst hji; exact hy.qOp hi H
    · obtain ⟨hjun, oj, hoj, hall⟩ := mem_ready.1 hj
      have hno : ∀ e ∈ oj.after, Region.binds md e = true → e.on ≠ i := fun e he hb heq => by
        have h1 := hall e he hb
        rw [heq, getD_both (mem_ready.1 hr).1] at h1
        cases h1
      have hq := qOp_put hoj (hfree j oj hoj hji hjun hno) (fun cs b => hsel i oi cs b hi) (fun cs b => hsel j oj cs b hoj) hy (H.2 j (ready_mono hj hji)).2
      refine qOp_mono (fun a' h3 => ih _ a' (inv.set hj hjn) (fun k ok hk hki hun hnk => hfree k ok hk hki ?_ hnk) (ready_mono hr (Ne.symm hji)) h3.1 ?_) hq
      · by_cases hjk : j = k
        · subst hjk; exact hjun
        · rw [getD_set_ne true hjk] at hun; exact hun
      · rw [Array.setIfInBounds_comm _ _ hji]; exact h3.2

theorem headQ_lex {n g : Nat} {L : Act → Prop} (hsel : Region.noSelect ops = true) (hs : Region.sinkB md ops n = true) (hc : Region.chainB md ops n = true) (hn : n < ops.size) :
    ∀ (l : List Oper) (k : Nat) (listed : Array Bool) (a : Act), (∀ j, j < l.length → l[j]? = ops[k + j]?) → k + l.length = n → HeadInv md ops n listed →
    Region.lexHead md ops g l.length k listed = true → wpQuiet P ops C L l a → headQ P md ops C n (fun listed' a' => Region.seqB md ops g n listed' = true ∧ L a') l.length listed a := by
  intro l
  induction l with
  | nil =>
    intro k listed a _ hk _ hB h
    obtain rfl : k = n := by simpa using hk
    exact ⟨by simpa [Region.lexHead] using hB, h⟩
  | cons o l ih =>
    intro k listed a hl hk inv hB h
    have h0 : ops[k]? = some o := by simpa using (hl 0 (by simp)).symm
    simp only [List.length_cons] at hk
    simp only [List.length_cons, Region.lexHead, Bool.and_eq_true] at hB
    obtain ⟨⟨hr, hf⟩, hB'⟩ := hB
    have hr' : k ∈ Region.ready md ops listed := by simpa using hr
    have hst : qOp P ops C k (wpQuiet P ops C L l) a := by unfold qOp; simp only [h0]; exact h
    obtain ⟨v, hy, hK⟩ := yieldsIn_of_qOp h0 hst
    refine headQ_take h0 (Region.noSelect_spec hsel) hs hc hn (by omega) (fun listed' a' hL => seqB_ready hL.1) l.length listed a inv (Region.free_spec h0 hf) hr' hy ?_
    exact ih (k + 1) _ _ (fun j hj => by have := hl (j + 1) (by simp; omega); simpa [Nat.add_assoc, Nat.add_comm 1 j] using this) (by omega) (inv.set hr' (by omega)) hB' hK

/-- THE LAW: the head quiet in the class C, the tail in its one order, from whatever world of the class. -/
theorem wp_region_head {id : Nat} {Q : Exit → Act → World → Prop} {a : Act} {w : World} {l : List Oper} (n : Nat) (hm : P.follows .mixedOrders = true) (hB : Region.lexTailB .any l.toArray n = true)
    (hC : C { w with drawn := w.drawn + 1 }) (h : wpQuiet P l.toArray C (fun a' => ∀ w', C w' → wpList P l.toArray Q (l.drop n) a' w') (l.take n) a) : (Code.region id l.toArray true).wp P Q a w := by
  simp only [Region.lexTailB, Bool.and_eq_true, decide_eq_true_eq] at hB
  obtain ⟨⟨⟨⟨hsel, hn⟩, hs⟩, hc⟩, hlex⟩ := hB
  have hn' : n < l.length := by simpa using hn
  have htl : (l.take n).length = n := by simp; omega
  have hdl : (l.drop n).length = l.toArray.size - n := by simp
  have inv0 : HeadInv .any l.toArray n (Array.replicate l.toArray.size false) :=
    ⟨by simp, fun j oj _ hl => (by rw [getD_replicate_false] at hl; cases hl), fun t _ ht => getD_in (by simpa using ht) (getD_replicate_false _ _)⟩
  have H := headQ_lex (md := .any) (g := l.toArray.size - n) hsel hs hc hn (l.take n) 0 _ a (fun j hj => by
    have hj' : j < n := by rw [htl] at hj; exact hj
    simp [hj']) (by simpa using htl) inv0 (by rw [htl]; exact hlex) h
  refine wp_region_any hm ?_
  have H2 := headQ_wpAny (Q' := Q) (g := l.toArray.size - n) (fun listed a' w' hw' hL => by
    have h1 := wpAny_of_seq (md := .any) (Q' := Q) (l.drop n) n listed a' w' (fun j => by simp [List.getElem?_drop]) (by rw [hdl]; exact hL.1) (hL.2 w' hw')
    rwa [hdl] at h1) _ _ _ _ hC H
  rw [htl, show n + (l.toArray.size - n) = l.toArray.size by omega] at H2
  exact H2
end

/-- The class: 'w', with whatever count of draws, and blocks laid behind it. -/
theorem regrown_start (w : World) : ∃ p : Regrown, ({ w with drawn := w.drawn + 1 } : World) = grow (redrawn w p.d) p.os := ⟨⟨w.drawn + 1, #[]⟩, by rw [grow_empty]; rfl⟩

theorem wp_head_below {P : Program} {id : Nat} {Q : Exit → Act → World → Prop} {a : Act} {w : World} {l : List Oper} (n : Nat) (hm : P.follows .mixedOrders = true) (hB : Region.lexTailB .any l.toArray n = true)
    (h : wpQuiet P l.toArray (fun w' => ∃ p : Regrown, w' = grow (redrawn w p.d) p.os) (fun a' => ∀ w', Below w.heap.size w w' → wpList P l.toArray Q (l.drop n) a' w') (l.take n) a) : (Code.region id l.toArray true).wp P Q a w := by
  refine wp_region_head (C := fun w' => ∃ p : Regrown, w' = grow (redrawn w p.d) p.os) n hm hB (regrown_start w) ?_
  have : (fun a' => ∀ w', Below w.heap.size w w' → wpList P l.toArray Q (l.drop n) a' w') = (fun a' => ∀ w', (∃ p : Regrown, w' = grow (redrawn w p.d) p.os) → wpList P l.toArray Q (l.drop n) a' w') := by
    funext a'
    exact propext ⟨fun h w' ⟨p, hp⟩ => h w' (hp ▸ below_regrown w p.d p.os), fun h w' hb => h w' (regrown_of_below hb)⟩
  rw [← this]
  exact h

/-- Without a tail. -/
theorem wp_all_below {P : Program} {id : Nat} {Q : Exit → Act → World → Prop} {a : Act} {w : World} {l : List Oper} (hm : P.follows .mixedOrders = true) (hB : Region.lexB .any l.toArray = true)
    (h : wpQuiet P l.toArray (fun w' => ∃ p : Regrown, w' = grow (redrawn w p.d) p.os) (fun a' => ∀ w', Below w.heap.size w w' → Q .normal a' w') l a) : (Code.region id l.toArray true).wp P Q a w := by
  refine wp_region_quiet_below hm hB ?_
  have : (fun a' => ∀ w', Below w.heap.size w w' → Q .normal a' w') = (fun a' => ∀ w', (∃ p : Regrown, w' = grow (redrawn w p.d) p.os) → Q .normal a' w') := by
    funext a'
    exact propext ⟨fun h w' ⟨p, hp⟩ => h w' (hp ▸ below_regrown w p.d p.os), fun h w' hb => h w' (regrown_of_below hb)⟩
  rw [← this]
  exact h

/-- A cell of an old block, in every world of the class. -/
theorem grown_cell (W : World) (d : Nat) (os : Array Obj) (b o : Nat) (h : b < W.heap.size) : (grow (redrawn W d) os).cell? ⟨b, o, none⟩ = W.cell? ⟨b, o, none⟩ := (below_regrown W d os).cell h

/-- What 'Below' says of each old cell. -/
theorem bcell {W w1 : World} (hb : Below W.heap.size W w1) : (∀ b o, b < W.heap.size → w1.cell? ⟨b, o, none⟩ = W.cell? ⟨b, o, none⟩) ∧ (∀ b o, b < W.heap.size → w1.frozen? ⟨b, o, none⟩ = W.frozen? ⟨b, o, none⟩) :=
  ⟨fun b o h => hb.cell (p := ⟨b, o, none⟩) h, fun b o h => hb.frozen (p := ⟨b, o, none⟩) h⟩

/-- A callee's contract, in a world of the class. -/
theorem quietly {P : Program} {f : FuncId} {args : Array Value} {w : World} {d : Nat} {os : Array Obj} {v : Value}
    (h : ∀ W, Calls P f args W fun e w' => e = .returned v ∧ Below W.heap.size W w') : Calls P f args (grow (redrawn w d) os) fun e w'' => e = .returned v ∧ ∃ p : Regrown, w'' = grow (redrawn w p.d) p.os := Calls.regrown_of (h _)
theorem quietly_same {P : Program} {f : FuncId} {args : Array Value} {w : World} {d : Nat} {os : Array Obj} {v : Value}
    (h : ∀ W, Calls P f args W fun e w' => e = .returned v ∧ W = w') : Calls P f args (grow (redrawn w d) os) fun e w'' => e = .returned v ∧ ∃ p : Regrown, w'' = grow (redrawn w p.d) p.os :=
  Calls.regrown_of ((h _).mono fun _ _ ⟨he, hw⟩ => ⟨he, hw ▸ Below.refl _ _⟩)

/-- draws turn no block -/
theorem below_drewN {B : Nat} {a w : World} (h : Below B a w) (n : Nat) : Below B a (w.drewN n) := ⟨h.os, h.tape, h.output, h.size, h.block⟩

theorem ret_int {k : IntKind} {a b : Int} (h : a = b) : Ending.returned (.int k a) = .returned (.int k b) := by rw [h]

/-! A region that draws its order, of this shape: first operations that read, compute, or call functions that leave what was there as it was; then new variables; then a tail in one forced order ('x, y := f(a), g(b)'). One walk serves every order: the new variables' places are any two new blocks. -/
set_option linter.unusedVariables false
set_option linter.unusedSimpArgs false
section
variable {P : Program} {ops : Array Oper} {md : Region.Mode} {w0 : World}

/-- nothing of what was there has turned -/
def Ext (w w' : World) : Prop := Below w.heap.size w w'
def calmUpon (P : Program) (w : World) (v : Value) : Result Next → Prop
  | .ok (.value u) w' => w' = w ∧ u = v
  | .ok .skip w' => w' = w ∧ v = undef
  | .ok (.enter f args) w' => w' = w ∧ Calls P f args w (fun e w'' => e = .returned v ∧ Ext w w'')
  | _ => False
def calmAt (P : Program) (o : Oper) (a : Act) (w : World) (v : Value) : Prop := calmUpon P w v ((execOp a.eval o).run P w)
def calm (P : Program) (o : Oper) (a : Act) (w0 : World) (K : Act → Prop) : Prop := ∃ v, (∀ p : Regrown, calmAt P o a (grow (redrawn w0 p.d) p.os) v) ∧ K (a.put o.dst v)

theorem calm_mono {o : Oper} {a : Act} {K K' : Act → Prop} (h : ∀ a, K a → K' a) (hh : calm P o a w0 K) : calm P o a w0 K' :=
  let ⟨v, h1, h2⟩ := hh
  ⟨v, h1, h _ h2⟩

theorem calmly {f : FuncId} {args : Array Value} {w : World} {v : Value} (h : ∀ W, Calls P f args W fun e w' => e = .returned v ∧ Below W.heap.size W w') : Calls P f args w fun e w'' => e = .returned v ∧ Ext w w'' := h w

/-- operation i: below m a calm one, from m on a new variable. -/
def cOp (P : Program) (ops : Array Oper) (w0 : World) (m i : Nat) (K : Act → Prop) (a : Act) : Prop :=
  match ops[i]? with
  | none => K a
  | some o => if i < m then (if Region.wanted o (yielded ops a.tmps) then calm P o a w0 K else K (a.put o.dst undef)) else ∀ b, w0.heap.size ≤ b → K (a.put o.dst (.pointer (some ⟨b, 0, none⟩)))

theorem cOp_mono {m i : Nat} {a : Act} {K K' : Act → Prop} (h : ∀ a, K a → K' a) (hh : cOp P ops w0 m i K a) : cOp P ops w0 m i K' a := by
  unfold cOp at *
  split
  · rename_i he; simp only [he] at hh; exact h _ hh
  · rename_i o ho
    simp only [ho] at hh
    split
    · rename_i hi
      simp only [hi, if_true] at hh
      split
      · rename_i hw; simp only [hw, if_true] at hh; exact calm_mono h hh
      · rename_i hw; simp only [hw] at hh; exact h _ hh
    · rename_i hi
      simp only [hi, if_false] at hh
      exact fun b hb => h _ (hh b hb)

/-- In state 'a' operation 'o' leaves 'v', in every world of the class. -/
def CalmIn (P : Program) (ops : Array Oper) (w0 : World) (o : Oper) (v : Value) (a : Act) : Prop :=
  (Region.wanted o (yielded ops a.tmps) = true ∧ ∀ p : Regrown, calmAt P o a (grow (redrawn w0 p.d) p.os) v) ∨ (Region.wanted o (yielded ops a.tmps) = false ∧ v = undef)

theorem CalmIn.cOp {m i : Nat} {o : Oper} {v : Value} {a : Act} (hi : ops[i]? = some o) (him : i < m) (hy : CalmIn P ops w0 o v a) {K : Act → Prop} (h : K (a.put o.dst v)) : cOp P ops w0 m i K a := by
  unfold Go.Proofs.YthbhnbnlbhpooaaGreatDoor.cOp
  simp only [hi, him, if_true]
  rcases hy with ⟨hw, hv⟩ | ⟨hw, rfl⟩
  · simp only [hw, if_true]; exact ⟨v, hv, h⟩
  · simp only [hw, Bool.false_eq_true, if_false]; exact h
theorem CalmIn.same {o : Oper} {v : Value} {a a' : Act} (hy : CalmIn P ops w0 o v a) (he : execOp a'.eval o = execOp a.eval o) (hw : Region.wanted o (yielded ops a'.tmps) = Region.wanted o (yielded ops a.tmps)) : CalmIn P ops w0 o v a' := by
  unfold CalmIn calmAt at *
  rw [he, hw]
  exact hy

theorem cOp_put {m j : Nat} {oi oj : Oper} {v : Value} (hj : ops[j]? = some oj) (hap : oi.apart ops oj = true) (hsi : ∀ cs b, oi.op ≠ .select cs b) (hsj : ∀ cs b, oj.op ≠ .select cs b) {K : Act → Prop} {a : Act}
    (hy : CalmIn P ops w0 oi v a) (h : cOp P ops w0 m j K (a.put oi.dst v)) : cOp P ops w0 m j (fun a' => CalmIn P ops w0 oi v a' ∧ K (a'.put oi.dst v)) a := by
  obtain ⟨h1, h2, h3⟩ := Oper.apart_spec hap
  have keep : ∀ u, CalmIn P ops w0 oi v (a.put oj.dst u) := fun u => hy.same (execOp_put oi hsi a oj.dst u h3) (wanted_put oi a oj.dst u h3)
  unfold cOp at *
  simp only [hj] at *
  rw [wanted_put oj a oi.dst v h1] at h
  split
  · rename_i hm
    simp only [hm, if_true] at h
    split
    · rename_i hw
      simp only [hw, if_true] at h
      obtain ⟨u, hu, hn⟩ := h
      refine ⟨u, fun p => ?_, keep u, by rw [← Act.put_comm a v u h2]; exact hn⟩
      have := hu p
      unfold calmAt at *
      rwa [execOp_put oj hsj a oi.dst v h1] at this
    · rename_i hw
      simp only [hw] at h
      exact ⟨keep _, by rw [← Act.put_comm a v undef h2]; exact h⟩
  · rename_i hm
    simp only [hm, if_false] at h
    exact fun b hb => ⟨keep _, by rw [← Act.put_comm a v _ h2]; exact h b hb⟩

def headC (P : Program) (md : Region.Mode) (ops : Array Oper) (w0 : World) (m n : Nat) (T : Array Bool → Act → Prop) : Nat → Array Bool → Act → Prop
  | 0, listed, a => T listed a
  | f + 1, listed, a => Region.ready md ops listed ≠ [] ∧ ∀ i ∈ Region.ready md ops listed, i < n ∧ cOp P ops w0 m i (headC P md ops w0 m n T f (listed.setIfInBounds i true)) a

theorem headC_take {m n i : Nat} {oi : Oper} {v : Value} {T : Array Bool → Act → Prop} (hi : ops[i]? = some oi) (him : i < m) (hsel : ∀ (j : Nat) (o : Oper) cs b, ops[j]? = some o → o.op ≠ .select cs b)
    (hs : Region.sinkB md ops n = true) (hc : Region.chainB md ops n = true) (hn : n < ops.size) (hin : i < n) (hT : ∀ listed a, T listed a → ∀ j ∈ Region.ready md ops listed, n ≤ j) :
    ∀ (f : Nat) (listed : Array Bool) (a : Act), HeadInv md ops n listed →
      (∀ j oj, ops[j]? = some oj → j ≠ i → listed.getD j true = false → (∀ e ∈ oj.after, Region.binds md e = true → e.on ≠ i) → oi.apart ops oj = true) →
      i ∈ Region.ready md ops listed → CalmIn P ops w0 oi v a → headC P md ops w0 m n T f (listed.setIfInBounds i true) (a.put oi.dst v) → headC P md ops w0 m n T (f + 1) listed a := by
  intro f
  induction f with
  | zero =>
    intro listed a inv _ hr hy H
    refine ⟨fun h => (by rw [h] at hr; cases hr), fun j hj => ?_⟩
    have hjn : j < n := Nat.lt_of_not_le fun h => tail_waits hs hc hn inv _ i rfl hin (mem_ready.1 hr).1 j h hj
    by_cases hji : j = i
    · subst hji; exact ⟨hjn, hy.cOp hi him H⟩
    · exact absurd (hT _ _ H j (ready_mono hj hji)) (by omega)
  | succ f ih =>
    intro listed a inv hfree hr hy H
    refine ⟨fun h => (by rw [h] at hr; cases hr), fun j hj => ?_⟩
    have hjn : j < n := Nat.lt_of_not_le fun h => tail_waits hs hc hn inv _ i rfl hin (mem_ready.1 hr).1 j h hj
    refine ⟨hjn, ?_⟩
    by_cases hji : j = i
    · subst hji; exact hy.cOp hi him H
    · obtain ⟨hjun, oj, hoj, hall⟩ := mem_ready.1 hj
      have hno : ∀ e ∈ oj.after, Region.binds md e = true → e.on ≠ i := fun e he hb heq => by
        have h1 := hall e he hb
        rw [heq, getD_both (mem_ready.1 hr).1] at h1
        cases h1
      have hq := cOp_put hoj (hfree j oj hoj hji hjun hno) (fun cs b => hsel i oi cs b hi) (fun cs b => hsel j oj cs b hoj) hy (H.2 j (ready_mono hj hji)).2
      refine cOp_mono (fun a' h3 => ih _ a' (inv.set hj hjn) (fun k ok hk hki hun hnk => hfree k ok hk hki ?_ hnk) (ready_mono hr (Ne.symm hji)) h3.1 ?_) hq
      · by_cases hjk : j = k
        · subst hjk; exact hjun
        · rw [getD_set_ne true hjk] at hun; exact hun
      · rw [Array.setIfInBounds_comm _ _ hji]; exact h3.2

/-- The calm part, in the text's order; 'L' behind it. -/
def wpCalm (P : Program) (ops : Array Oper) (w0 : World) (Q : Act → Prop) : List Oper → Act → Prop
  | [], a => Q a
  | o :: rest, a => if Region.wanted o (yielded ops a.tmps) then calm P o a w0 (wpCalm P ops w0 Q rest) else wpCalm P ops w0 Q rest (a.put o.dst undef)
theorem wpCalm_nil {Q : Act → Prop} {a : Act} (h : Q a) : wpCalm P ops w0 Q [] a := h
theorem wpCalm_step {Q : Act → Prop} {a : Act} {o : Oper} {rest : List Oper} (h : ∀ K : Act → Prop, (∀ a, wpCalm P ops w0 Q rest a → K a) → if Region.wanted o (yielded ops a.tmps) then calm P o a w0 K else K (a.put o.dst undef)) : wpCalm P ops w0 Q (o :: rest) a :=
  h _ (fun _ h => h)

theorem wpCalm_mono {Q Q' : Act → Prop} (h : ∀ a, Q a → Q' a) : ∀ (l : List Oper) (a : Act), wpCalm P ops w0 Q l a → wpCalm P ops w0 Q' l a := by
  intro l
  induction l with
  | nil => intro a hh; exact h _ hh
  | cons o l ih =>
    intro a hh
    unfold wpCalm at hh ⊢
    split
    · rename_i hw; simp only [hw, if_true] at hh; exact calm_mono (fun a => ih a) hh
    · rename_i hw; simp only [hw] at hh; exact ih _ hh

/-- Behind the calm part: the two new variables, in either order, then the tail. -/
def twoB (md : Region.Mode) (ops : Array Oper) (g m : Nat) (listed : Array Bool) : Bool :=
  decide (Region.ready md ops listed = [m, m + 1]) && decide (Region.ready md ops (listed.setIfInBounds m true) = [m + 1]) && decide (Region.ready md ops (listed.setIfInBounds (m + 1) true) = [m]) &&
    Region.seqB md ops g (m + 2) ((listed.setIfInBounds m true).setIfInBounds (m + 1) true)
def lexC (md : Region.Mode) (ops : Array Oper) (g m : Nat) : Nat → Nat → Array Bool → Bool
  | 0, _, listed => twoB md ops g m listed
  | f + 1, k, listed => (Region.ready md ops listed).contains k && Region.free md ops listed k && lexC md ops g m f (k + 1) (listed.setIfInBounds k true)

theorem getD_self {listed : Array Bool} {i : Nat} (h : i < listed.size) : (listed.setIfInBounds i true).getD i false = true := by
  simp [h]
theorem headC_two {m g s5 s6 : Nat} {o5 o6 : Oper} {F : Act → Prop} (h5 : ops[m]? = some o5) (h6 : ops[m + 1]? = some o6) (d5 : o5.dst = some s5) (d6 : o6.dst = some s6) (hne : s5 ≠ s6) {listed : Array Bool} {a : Act} (hl : m + 1 < listed.size) (hB : twoB md ops g m listed = true)
    (h : ∀ b5 b6 : Nat, w0.heap.size ≤ b5 → w0.heap.size ≤ b6 → F ((a.put (some s5) (.pointer (some ⟨b5, 0, none⟩))).put (some s6) (.pointer (some ⟨b6, 0, none⟩)))) :
    headC P md ops w0 m (m + 2) (fun listed' a' => (listed'.getD m false = true ∧ listed'.getD (m + 1) false = true) ∧ Region.seqB md ops g (m + 2) listed' = true ∧ F a') 2 listed a := by
  simp only [twoB, Bool.and_eq_true, decide_eq_true_eq] at hB
  obtain ⟨⟨⟨r0, r1⟩, r2⟩, r3⟩ := hB
  have hput : ∀ b5 b6 : Nat, (a.put (some s5) (.pointer (some ⟨b5, 0, none⟩))).put (some s6) (.pointer (some ⟨b6, 0, none⟩)) = (a.put (some s6) (.pointer (some ⟨b6, 0, none⟩))).put (some s5) (.pointer (some ⟨b5, 0, none⟩)) :=
    fun b5 b6 => Act.put_comm a _ _ (fun d hd hd' => hne ((Option.some.inj hd).trans (Option.some.inj hd').symm))
  refine ⟨by rw [r0]; simp, fun i hi => ?_⟩
  rw [r0] at hi
  have hi' : i = m ∨ i = m + 1 := by simpa using hi
  rcases hi' with rfl | rfl
  · refine ⟨by omega, ?_⟩
    unfold cOp
    simp only [h5, Nat.lt_irrefl, if_false, d5]
    intro b5 hb5
    refine ⟨by rw [r1]; simp, fun j hj => ?_⟩
    rw [r1] at hj
    obtain rfl : j = i + 1 := by simpa using hj
    refine ⟨by omega, ?_⟩
    unfold cOp
    simp only [h6, d6, if_neg (show ¬ i + 1 < i by omega)]
    exact fun b6 hb6 => ⟨⟨getD_set_true (getD_self (by omega)), getD_self (by simpa using hl)⟩, r3, h b5 b6 hb5 hb6⟩
  · refine ⟨by omega, ?_⟩
    unfold cOp
    simp only [h6, d6, if_neg (show ¬ m + 1 < m by omega)]
    intro b6 hb6
    refine ⟨by rw [r2]; simp, fun j hj => ?_⟩
    rw [r2] at hj
    obtain rfl : j = m := by simpa using hj
    refine ⟨by omega, ?_⟩
    unfold cOp
    simp only [h5, Nat.lt_irrefl, if_false, d5]
    refine fun b5 hb5 => ⟨⟨getD_self (by simp only [Array.size_setIfInBounds]; omega), getD_set_true (getD_self hl)⟩, ?_, ?_⟩
    · rw [Array.setIfInBounds_comm _ _ (by omega)]; exact r3
    · rw [← hput]; exact h b5 b6 hb5 hb6

theorem headC_lex {m g s5 s6 : Nat} {o5 o6 : Oper} {F : Act → Prop} (h5 : ops[m]? = some o5) (h6 : ops[m + 1]? = some o6) (d5 : o5.dst = some s5) (d6 : o6.dst = some s6) (hne : s5 ≠ s6) (hsel : Region.noSelect ops = true) (hs : Region.sinkB md ops (m + 2) = true) (hc : Region.chainB md ops (m + 2) = true) (hn : m + 2 < ops.size) :
    ∀ (l : List Oper) (k : Nat) (listed : Array Bool) (a : Act), (∀ j, j < l.length → l[j]? = ops[k + j]?) → k + l.length = m → HeadInv md ops (m + 2) listed → lexC md ops g m l.length k listed = true →
    wpCalm P ops w0 (fun a' => ∀ b5 b6 : Nat, w0.heap.size ≤ b5 → w0.heap.size ≤ b6 → F ((a'.put (some s5) (.pointer (some ⟨b5, 0, none⟩))).put (some s6) (.pointer (some ⟨b6, 0, none⟩)))) l a →
    headC P md ops w0 m (m + 2) (fun listed' a' => (listed'.getD m false = true ∧ listed'.getD (m + 1) false = true) ∧ Region.seqB md ops g (m + 2) listed' = true ∧ F a') (l.length + 2) listed a := by
  intro l
  induction l with
  | nil =>
    intro k listed a _ hk inv hB h
    exact headC_two h5 h6 d5 d6 hne (by rw [inv.size]; omega) hB h
  | cons o l ih =>
    intro k listed a hl hk inv hB h
    have h0 : ops[k]? = some o := by simpa using (hl 0 (by simp)).symm
    simp only [List.length_cons] at hk
    simp only [List.length_cons, lexC, Bool.and_eq_true] at hB
    obtain ⟨⟨hr, hf⟩, hB'⟩ := hB
    have hr' : k ∈ Region.ready md ops listed := by simpa using hr
    obtain ⟨v, hy, hK⟩ : ∃ v, CalmIn P ops w0 o v a ∧ wpCalm P ops w0 (fun a' => ∀ b5 b6 : Nat, w0.heap.size ≤ b5 → w0.heap.size ≤ b6 → F ((a'.put (some s5) (.pointer (some ⟨b5, 0, none⟩))).put (some s6) (.pointer (some ⟨b6, 0, none⟩)))) l (a.put o.dst v) := by
      by_cases hw : Region.wanted o (yielded ops a.tmps) = true
      · unfold wpCalm at h
        rw [if_pos hw] at h
        obtain ⟨v, h1, h2⟩ := h
        exact ⟨v, .inl ⟨hw, h1⟩, h2⟩
      · unfold wpCalm at h
        rw [if_neg hw] at h
        exact ⟨undef, .inr ⟨by simpa using hw, rfl⟩, h⟩
    refine headC_take h0 (by omega) (Region.noSelect_spec hsel) hs hc hn (by omega) (fun listed' a' hL => seqB_ready hL.2.1) (l.length + 2) listed a inv (Region.free_spec h0 hf) hr' hy ?_
    exact ih (k + 1) _ _ (fun j hj => by have := hl (j + 1) (by simp; omega); simpa [Nat.add_assoc, Nat.add_comm 1 j] using this) (by omega) (inv.set hr' (by omega)) hB' hK

/-- What is known of the world and the frame, some operations listed. -/
structure CI (w0 : World) (m s5 s6 : Nat) (Z5 Z6 : Obj) (listed : Array Bool) (a : Act) (w : World) : Prop where
  below : Below w0.heap.size w0 w
  five : listed.getD m false = true → ∃ b, a.tmps[s5]? = some (.pointer (some ⟨b, 0, none⟩)) ∧ w0.heap.size ≤ b ∧ w.heap[b]? = some Z5
  six : listed.getD (m + 1) false = true → ∃ b, a.tmps[s6]? = some (.pointer (some ⟨b, 0, none⟩)) ∧ w0.heap.size ≤ b ∧ w.heap[b]? = some Z6
  both : listed.getD m false = true → listed.getD (m + 1) false = true → ∀ b b', a.tmps[s5]? = some (.pointer (some ⟨b, 0, none⟩)) → a.tmps[s6]? = some (.pointer (some ⟨b', 0, none⟩)) → b ≠ b'
  size5 : s5 < a.tmps.size
  size6 : s6 < a.tmps.size

theorem put_other {a : Act} {x : Option Tmp} {v : Value} {s : Nat} (h : x ≠ some s) : (a.put x v).tmps[s]? = a.tmps[s]? := by
  cases x with
  | none => rfl
  | some d =>
    have : d ≠ s := fun e => h (by rw [e])
    simp [Act.put, Array.getElem?_setIfInBounds, this]
theorem put_self {a : Act} {v : Value} {s : Nat} (h : s < a.tmps.size) : (a.put (some s) v).tmps[s]? = some v := by
  simp [Act.put, h]
theorem put_size {a : Act} {x : Option Tmp} {v : Value} : (a.put x v).tmps.size = a.tmps.size := by
  cases x <;> simp [Act.put]
theorem heap_lt {w : World} {b : Nat} {o : Obj} (h : w.heap[b]? = some o) : b < w.heap.size := (Array.getElem?_eq_some_iff.1 h).1

variable {m s5 s6 : Nat} {Z5 Z6 : Obj}
/-- a step that leaves both variables alone -/
theorem CI.step {listed : Array Bool} {a : Act} {w w' : World} {i : Nat} {x : Option Tmp} {v : Value} (c : CI w0 m s5 s6 Z5 Z6 listed a w) (hi : i < m) (h5 : x ≠ some s5) (h6 : x ≠ some s6) (hb : Below w.heap.size w w') :
    CI w0 m s5 s6 Z5 Z6 (listed.setIfInBounds i true) (a.put x v) w' := by
  have e5 : (listed.setIfInBounds i true).getD m false = listed.getD m false := getD_set_ne false (by omega)
  have e6 : (listed.setIfInBounds i true).getD (m + 1) false = listed.getD (m + 1) false := getD_set_ne false (by omega)
  refine ⟨c.below.trans (hb.mono c.below.size), fun h => ?_, fun h => ?_, fun h h' => ?_, by rw [put_size]; exact c.size5, by rw [put_size]; exact c.size6⟩
  · rw [e5] at h
    obtain ⟨b, k1, k2, k3⟩ := c.five h
    exact ⟨b, by rw [put_other h5]; exact k1, k2, by rw [hb.block b (heap_lt k3)]; exact k3⟩
  · rw [e6] at h
    obtain ⟨b, k1, k2, k3⟩ := c.six h
    exact ⟨b, by rw [put_other h6]; exact k1, k2, by rw [hb.block b (heap_lt k3)]; exact k3⟩
  · rw [e5] at h
    rw [e6] at h'
    rw [put_other h5, put_other h6]
    exact c.both h h'

theorem heap_new (w : World) (o : Obj) : (w.alloc o).heap[w.heap.size]? = some o := by
  show (w.heap.push o)[w.heap.size]? = some o
  simp

/-- the first variable comes up -/
theorem CI.take5 {listed : Array Bool} {a : Act} {w : World} (c : CI w0 m s5 s6 Z5 Z6 listed a w) (hne : s5 ≠ s6) (hl : m < listed.size) :
    CI w0 m s5 s6 Z5 Z6 (listed.setIfInBounds m true) (a.put (some s5) (.pointer (some ⟨w.heap.size, 0, none⟩))) (w.alloc Z5) := by
  have hb : Below w.heap.size w (w.alloc Z5) := (Below.refl _ _).alloc (Nat.le_refl _) _
  have e6 : (listed.setIfInBounds m true).getD (m + 1) false = listed.getD (m + 1) false := getD_set_ne false (by omega)
  refine ⟨c.below.trans (hb.mono c.below.size), fun h => ⟨_, put_self c.size5, c.below.size, heap_new _ _⟩, fun h => ?_, fun h h' b b' k k' => ?_, by rw [put_size]; exact c.size5, by rw [put_size]; exact c.size6⟩
  · rw [e6] at h
    obtain ⟨b, k1, k2, k3⟩ := c.six h
    exact ⟨b, by rw [put_other (fun e => hne (Option.some.inj e))]; exact k1, k2, by rw [hb.block b (heap_lt k3)]; exact k3⟩
  · rw [e6] at h'
    obtain ⟨b2, k1, k2, k3⟩ := c.six h'
    rw [put_self c.size5] at k
    rw [put_other (fun e => hne (Option.some.inj e)), k1] at k'
    have h1 := heap_lt k3
    simp only [Option.some.injEq, Value.pointer.injEq, Addr.mk.injEq, and_true] at k k'
    omega
theorem CI.take6 {listed : Array Bool} {a : Act} {w : World} (c : CI w0 m s5 s6 Z5 Z6 listed a w) (hne : s5 ≠ s6) (hl : m + 1 < listed.size) :
    CI w0 m s5 s6 Z5 Z6 (listed.setIfInBounds (m + 1) true) (a.put (some s6) (.pointer (some ⟨w.heap.size, 0, none⟩))) (w.alloc Z6) := by
  have hb : Below w.heap.size w (w.alloc Z6) := (Below.refl _ _).alloc (Nat.le_refl _) _
  have e5 : (listed.setIfInBounds (m + 1) true).getD m false = listed.getD m false := getD_set_ne false (by omega)
  refine ⟨c.below.trans (hb.mono c.below.size), fun h => ?_, fun h => ⟨_, put_self c.size6, c.below.size, heap_new _ _⟩, fun h h' b b' k k' => ?_, by rw [put_size]; exact c.size5, by rw [put_size]; exact c.size6⟩
  · rw [e5] at h
    obtain ⟨b, k1, k2, k3⟩ := c.five h
    exact ⟨b, by rw [put_other (fun e => hne (Option.some.inj e).symm)]; exact k1, k2, by rw [hb.block b (heap_lt k3)]; exact k3⟩
  · rw [e5] at h
    obtain ⟨b2, k1, k2, k3⟩ := c.five h
    rw [put_self c.size6] at k'
    rw [put_other (fun e => hne (Option.some.inj e).symm), k1] at k
    have h1 := heap_lt k3
    simp only [Option.some.injEq, Value.pointer.injEq, Addr.mk.injEq, and_true] at k k'
    omega

theorem headC_wpAny {g : Nat} {o5 o6 : Oper} {T : Array Bool → Act → Prop} {Q' : Exit → Act → World → Prop} (h5 : ops[m]? = some o5) (h6 : ops[m + 1]? = some o6) (d5 : o5.dst = some s5) (d6 : o6.dst = some s6) (g5 : o5.guard = none) (g6 : o6.guard = none) (hne : s5 ≠ s6)
    (hdst : ∀ i o, i < m → ops[i]? = some o → o.dst ≠ some s5 ∧ o.dst ≠ some s6)
    (a5 : ∀ (a : Act) (w : World), (execOp a.eval o5).run P w = .ok (.value (.pointer (some ⟨w.heap.size, 0, none⟩))) (w.alloc Z5)) (a6 : ∀ (a : Act) (w : World), (execOp a.eval o6).run P w = .ok (.value (.pointer (some ⟨w.heap.size, 0, none⟩))) (w.alloc Z6))
    (hT : ∀ listed a w, CI w0 m s5 s6 Z5 Z6 listed a w → T listed a → wpAny P md ops Q' g listed a w) :
    ∀ (f : Nat) (listed : Array Bool) (a : Act) (w : World), listed.size = ops.size → CI w0 m s5 s6 Z5 Z6 listed a w → headC P md ops w0 m (m + 2) T f listed a → wpAny P md ops Q' (f + g) listed a w := by
  intro f
  induction f with
  | zero => intro listed a w _ c h; rw [Nat.zero_add]; exact hT _ _ _ c h
  | succ f ih =>
    intro listed a w hsz c h
    rw [Nat.succ_add]
    refine ⟨fun h0 => absurd h0 h.1, fun i hi => ?_⟩
    obtain ⟨hin, hk⟩ := h.2 i hi
    obtain ⟨_, o, ho, _⟩ := mem_ready.1 hi
    have hsz' : ∀ k, (listed.setIfInBounds k true).size = ops.size := fun k => by simpa using hsz
    unfold wpOp
    simp only [ho]
    unfold cOp at hk
    simp only [ho] at hk
    by_cases him : i < m
    · simp only [him, if_true] at hk
      obtain ⟨n5, n6⟩ := hdst i o him ho
      split
      · rename_i hw
        simp only [hw, if_true] at hk
        left
        obtain ⟨v, k1, k2⟩ := hk
        obtain ⟨p, hp⟩ := regrown_of_below c.below
        have k3 := k1 p
        rw [← hp] at k3
        unfold calmAt at k3
        unfold Oper.wp
        generalize (execOp a.eval o).run P w = r at *
        cases r with
        | ok n w' =>
          cases n <;> simp only [calmUpon] at k3 <;> simp only [Oper.upon]
          case value u =>
            obtain ⟨e1, e2⟩ := k3
            rw [e1, e2]
            exact ih _ _ _ (hsz' i) (c.step him n5 n6 (Below.refl _ _)) k2
          case skip =>
            obtain ⟨e1, e2⟩ := k3
            rw [e1, ← e2]
            exact ih _ _ _ (hsz' i) (c.step him n5 n6 (Below.refl _ _)) k2
          case enter fn args =>
            obtain ⟨e1, hc⟩ := k3
            rw [e1]
            exact hc.mono fun e w'' ⟨he, hw''⟩ => by subst he; exact ih _ _ _ (hsz' i) (c.step him n5 n6 hw'') k2
        | halt x w' => simp only [calmUpon] at k3
      · rename_i hw
        simp only [hw] at hk
        exact ih _ _ _ (hsz' i) (c.step him n5 n6 (Below.refl _ _)) hk
    · simp only [him, if_false] at hk
      have hlt : i < ops.size := (Array.getElem?_eq_some_iff.1 ho).1
      have hi2 : i = m ∨ i = m + 1 := by omega
      rcases hi2 with rfl | rfl
      · obtain rfl : o = o5 := Option.some.inj (ho.symm.trans h5)
        rw [if_pos (by simp [Region.wanted, g5])]
        left
        unfold Oper.wp
        rw [a5]
        simp only [Oper.upon]
        rw [d5] at hk ⊢
        exact ih _ _ _ (hsz' i) (c.take5 hne (by omega)) (hk _ c.below.size)
      · obtain rfl : o = o6 := Option.some.inj (ho.symm.trans h6)
        rw [if_pos (by simp [Region.wanted, g6])]
        left
        unfold Oper.wp
        rw [a6]
        simp only [Oper.upon]
        rw [d6] at hk ⊢
        exact ih _ _ _ (hsz' (m + 1)) (c.take6 hne (by omega)) (hk _ c.below.size)

/-- the closed check -/
def twoCheck (ops : Array Oper) (m s5 s6 : Nat) : Bool :=
  Region.noSelect ops && decide (m + 2 < ops.size) && Region.sinkB .any ops (m + 2) && Region.chainB .any ops (m + 2) && lexC .any ops (ops.size - (m + 2)) m m 0 (Array.replicate ops.size false) &&
    ((List.range m).all fun i => match ops[i]? with | some o => o.dst != some s5 && o.dst != some s6 | none => true)

theorem wp_two {id : Nat} {Q : Exit → Act → World → Prop} {a : Act} {w : World} {l : List Oper} (m s5 s6 : Nat) {o5 o6 : Oper} {Z5 Z6 : Obj} (hm : P.follows .mixedOrders = true) (h5 : l[m]? = some o5) (h6 : l[m + 1]? = some o6) (d5 : o5.dst = some s5) (d6 : o6.dst = some s6) (g5 : o5.guard = none) (g6 : o6.guard = none)
    (hne : s5 ≠ s6) (hs5 : s5 < a.tmps.size) (hs6 : s6 < a.tmps.size) (hB : twoCheck l.toArray m s5 s6 = true)
    (a5 : ∀ (a : Act) (w : World), (execOp a.eval o5).run P w = .ok (.value (.pointer (some ⟨w.heap.size, 0, none⟩))) (w.alloc Z5)) (a6 : ∀ (a : Act) (w : World), (execOp a.eval o6).run P w = .ok (.value (.pointer (some ⟨w.heap.size, 0, none⟩))) (w.alloc Z6))
    (h : wpCalm P l.toArray w (fun a' => ∀ (b5 b6 : Nat) (w' : World), w.heap.size ≤ b5 → w.heap.size ≤ b6 → b5 ≠ b6 → Below w.heap.size w w' → w'.heap[b5]? = some Z5 → w'.heap[b6]? = some Z6 →
      wpList P l.toArray Q (l.drop (m + 2)) ((a'.put (some s5) (.pointer (some ⟨b5, 0, none⟩))).put (some s6) (.pointer (some ⟨b6, 0, none⟩))) w') (l.take m) a) : (Code.region id l.toArray true).wp P Q a w := by
  simp only [twoCheck, Bool.and_eq_true, decide_eq_true_eq] at hB
  obtain ⟨⟨⟨⟨⟨hsel, hn⟩, hs⟩, hc⟩, hlex⟩, hd⟩ := hB
  have hn' : m + 2 < l.length := by simpa using hn
  have htl : (l.take m).length = m := by simp; omega
  have hdl : (l.drop (m + 2)).length = l.toArray.size - (m + 2) := by simp
  have inv0 : HeadInv .any l.toArray (m + 2) (Array.replicate l.toArray.size false) :=
    ⟨by simp, fun j oj _ hl => (by rw [getD_replicate_false] at hl; cases hl), fun t _ ht => getD_in (by simpa using ht) (getD_replicate_false _ _)⟩
  have hdst : ∀ i o, i < m → l.toArray[i]? = some o → o.dst ≠ some s5 ∧ o.dst ≠ some s6 := fun i o him ho => by
    have h1 := List.all_eq_true.1 hd i (List.mem_range.2 him)
    simp only [ho, Bool.and_eq_true, bne_iff_ne, ne_eq] at h1
    exact h1
  have H := headC_lex (P := P) (w0 := w) (md := .any) (g := l.toArray.size - (m + 2)) (m := m) (s5 := s5) (s6 := s6) (o5 := o5) (o6 := o6)
    (F := fun a' => ∀ (b5 b6 : Nat) (w' : World), a'.tmps[s5]? = some (.pointer (some ⟨b5, 0, none⟩)) → a'.tmps[s6]? = some (.pointer (some ⟨b6, 0, none⟩)) → w.heap.size ≤ b5 → w.heap.size ≤ b6 → b5 ≠ b6 → Below w.heap.size w w' → w'.heap[b5]? = some Z5 → w'.heap[b6]? = some Z6 → wpList P l.toArray Q (l.drop (m + 2)) a' w')
    (by simpa using h5) (by simpa using h6) d5 d6 hne hsel hs hc hn (l.take m) 0 _ a (fun j hj => by
      have hj' : j < m := by rw [htl] at hj; exact hj
      simp [hj']) (by simpa using htl) inv0 (by rw [htl]; exact hlex) ?_
  · refine wp_region_any hm ?_
    have H2 := headC_wpAny (P := P) (Q' := Q) (w0 := w) (md := .any) (g := l.toArray.size - (m + 2)) (by simpa using h5) (by simpa using h6) d5 d6 g5 g6 hne hdst a5 a6 (fun listed a' w' c hL => by
      have hl5 : listed.getD m false = true ∧ listed.getD (m + 1) false = true := hL.1
      obtain ⟨b5, k1, k2, k3⟩ := c.five hl5.1
      obtain ⟨b6, q1, q2, q3⟩ := c.six hl5.2
      have h1 := wpAny_of_seq (md := .any) (Q' := Q) (l.drop (m + 2)) (m + 2) listed a' w' (fun j => by simp [List.getElem?_drop]) (by rw [hdl]; exact hL.2.1) (hL.2.2 b5 b6 w' k1 q1 k2 q2 (c.both hl5.1 hl5.2 b5 b6 k1 q1) c.below k3 q3)
      rwa [hdl] at h1) _ _ _ { w with drawn := w.drawn + 1 } (by simp) ⟨⟨rfl, rfl, rfl, Nat.le_refl _, fun _ _ => rfl⟩, fun h => (by rw [getD_replicate_false] at h; cases h), fun h => (by rw [getD_replicate_false] at h; cases h), fun h => (by rw [getD_replicate_false] at h; cases h), hs5, hs6⟩ H
    rw [htl, show m + 2 + (l.toArray.size - (m + 2)) = l.toArray.size by omega] at H2
    exact H2
  · refine wpCalm_mono (fun a' hu b5 b6 hb5 hb6 c5 c6 w' k5 k6 _ _ hne' hb z5 z6 => ?_) _ _ h
    have e5 : b5 = c5 := by
      rw [put_other (fun e => hne (Option.some.inj e).symm)] at k5
      have hz : s5 < a'.tmps.size := by
        rcases Nat.lt_or_ge s5 a'.tmps.size with hh | hh
        · exact hh
        · rw [Array.getElem?_eq_none (by rw [put_size]; exact hh)] at k5; cases k5
      rw [put_self hz] at k5
      simpa using k5
    have e6 : b6 = c6 := by
      have hz : s6 < a'.tmps.size := by
        rcases Nat.lt_or_ge s6 a'.tmps.size with hh | hh
        · exact hh
        · rw [Array.getElem?_eq_none (by rw [put_size, put_size]; exact hh)] at k6; cases k6
      rw [put_self (by rw [put_size]; exact hz)] at k6
      simpa using k6
    subst e5 e6
    exact hu b5 b6 w' hb5 hb6 hne' hb z5 z6
end

/-- A block of two cells: what they hold, and that they may be written. -/
theorem two_cells {w : World} {b : Nat} {x y : Value} {t : TypeId} (h : w.heap[b]? = some (.cells #[x, y] t)) : w.cell? ⟨b, 0, none⟩ = some x ∧ w.cell? ⟨b, 1, none⟩ = some y := by
  simp [World.cell?, h]
theorem two_free {w : World} {b : Nat} {x y : Value} {t : TypeId} (h : w.heap[b]? = some (.cells #[x, y] t)) : w.frozen? ⟨b, 0, none⟩ = false ∧ w.frozen? ⟨b, 1, none⟩ = false := by
  simp [World.frozen?, h]

/-! A region that draws its order: calm operations, then any number of new variables, then a tail in one forced order ('x, y, z := f(a), g(b), h(c)'). One walk serves every order: the new variables' places are any new blocks, no two the same. -/
set_option linter.unusedVariables false
set_option linter.unusedSimpArgs false
def ptr (b : Nat) : Value := .pointer (some ⟨b, 0, none⟩)
theorem ptr_inj {b b' : Nat} (h : ptr b = ptr b') : b = b' := by simpa [ptr] using h

/-- the new variables' slots, filled -/
def putAll (S : Nat → Tmp) (g : Nat → Nat) : List Nat → Act → Act
  | [], a => a
  | i :: l, a => putAll S g l (a.put (some (S i)) (ptr (g i)))

section
variable {S : Nat → Tmp} {g : Nat → Nat}
theorem putAll_size : ∀ (l : List Nat) (a : Act), (putAll S g l a).tmps.size = a.tmps.size := by
  intro l
  induction l with
  | nil => intro a; rfl
  | cons i l ih => intro a; rw [putAll, ih, put_size]
theorem putAll_defers : ∀ (l : List Nat) (a : Act), (putAll S g l a).defers = a.defers := by
  intro l
  induction l with
  | nil => intro a; rfl
  | cons i l ih => intro a; rw [putAll, ih]; rfl
theorem putAll_other {s : Tmp} : ∀ (l : List Nat) (a : Act), (∀ i ∈ l, S i ≠ s) → (putAll S g l a).tmps[s]? = a.tmps[s]? := by
  intro l
  induction l with
  | nil => intro a _; rfl
  | cons i l ih => intro a h; rw [putAll, ih _ (fun j hj => h j (List.mem_cons_of_mem _ hj)), put_other (fun e => h i (List.mem_cons_self ..) (Option.some.inj e))]
theorem putAll_in {i : Nat} : ∀ (l : List Nat) (a : Act), (∀ j ∈ l, S j = S i → j = i) → i ∈ l → S i < a.tmps.size → (putAll S g l a).tmps[S i]? = some (ptr (g i)) := by
  intro l
  induction l with
  | nil => intro a _ h; cases h
  | cons j l ih =>
    intro a hinj hi hs
    rw [putAll]
    by_cases hin : i ∈ l
    · exact ih _ (fun k hk => hinj k (List.mem_cons_of_mem _ hk)) hin (by rw [put_size]; exact hs)
    · have hij : i = j := by
        rcases List.mem_cons.1 hi with h | h
        · exact h
        · exact absurd h hin
      subst hij
      rw [putAll_other _ _ (fun k hk e => hin (by have := hinj k (List.mem_cons_of_mem _ hk) e; rwa [← this]))]
      exact put_self hs
theorem act_ext {a b : Act} (hd : a.defers = b.defers) (h : ∀ s : Nat, a.tmps[s]? = b.tmps[s]?) : a = b := by
  obtain ⟨ta, da⟩ := a
  obtain ⟨tb, db⟩ := b
  obtain rfl : da = db := hd
  obtain rfl : ta = tb := Array.ext_getElem? h
  rfl
theorem putAll_over {i : Nat} {v : Value} {l : List Nat} {a : Act} (hinj : ∀ j ∈ l, ∀ k ∈ l, S j = S k → j = k) (hi : i ∈ l) (hs : ∀ j ∈ l, S j < a.tmps.size) : putAll S g l (a.put (some (S i)) v) = putAll S g l a := by
  refine act_ext (by rw [putAll_defers, putAll_defers]; rfl) fun s => ?_
  by_cases h : ∃ j ∈ l, S j = s
  · obtain ⟨j, hj, rfl⟩ := h
    rw [putAll_in l _ (fun k hk e => hinj k hk j hj e) hj (by rw [put_size]; exact hs j hj), putAll_in l _ (fun k hk e => hinj k hk j hj e) hj (hs j hj)]
  · have h' : ∀ j ∈ l, S j ≠ s := fun j hj e => h ⟨j, hj, e⟩
    rw [putAll_other l _ h', putAll_other l _ h', put_other (fun e => h' i hi (Option.some.inj e))]
theorem putAll_same {l : List Nat} {a : Act} (hinj : ∀ j ∈ l, ∀ k ∈ l, S j = S k → j = k) (hs : ∀ j ∈ l, S j < a.tmps.size) (h : ∀ i ∈ l, a.tmps[S i]? = some (ptr (g i))) : putAll S g l a = a := by
  refine act_ext (putAll_defers _ _) fun s => ?_
  by_cases hx : ∃ j ∈ l, S j = s
  · obtain ⟨j, hj, rfl⟩ := hx
    rw [putAll_in l _ (fun k hk e => hinj k hk j hj e) hj (hs j hj), h j hj]
  · exact putAll_other l _ (fun j hj e => hx ⟨j, hj, e⟩)
end

section
variable {P : Program} {ops : Array Oper} {md : Region.Mode} {w0 : World}

/-- Behind the calm part: whichever new variable comes up, till none is left; then the tail. -/
def allB (md : Region.Mode) (ops : Array Oper) (g m n : Nat) : Nat → Array Bool → Bool
  | 0, listed => Region.seqB md ops g n listed && (List.range' m (n - m)).all (fun i => listed.getD i false)
  | k + 1, listed => decide (Region.ready md ops listed ≠ []) && (Region.ready md ops listed).all (fun i => decide (m ≤ i) && decide (i < n) && allB md ops g m n k (listed.setIfInBounds i true))
def lexA (md : Region.Mode) (ops : Array Oper) (g m n : Nat) : Nat → Nat → Array Bool → Bool
  | 0, _, listed => allB md ops g m n (n - m) listed
  | f + 1, k, listed => (Region.ready md ops listed).contains k && Region.free md ops listed k && lexA md ops g m n f (k + 1) (listed.setIfInBounds k true)

variable {m n : Nat} {S : Nat → Tmp} {Z : Nat → Obj}

theorem headC_all {g : Nat} {F : Act → Prop} {a0 : Act} (hd : ∀ i ∈ List.range' m (n - m), ∃ o, ops[i]? = some o ∧ o.dst = some (S i)) (hinj : ∀ j ∈ List.range' m (n - m), ∀ k ∈ List.range' m (n - m), S j = S k → j = k)
    (hF : ∀ b : Nat → Nat, (∀ i, w0.heap.size ≤ b i) → F (putAll S b (List.range' m (n - m)) a0)) :
    ∀ (k : Nat) (listed : Array Bool) (a : Act) (b : Nat → Nat), allB md ops g m n k listed = true → n ≤ listed.size → (∀ i, w0.heap.size ≤ b i) → (∀ b', putAll S b' (List.range' m (n - m)) a = putAll S b' (List.range' m (n - m)) a0) →
      (∀ i ∈ List.range' m (n - m), listed.getD i false = true → a.tmps[S i]? = some (ptr (b i))) → (∀ i ∈ List.range' m (n - m), S i < a.tmps.size) →
      headC P md ops w0 m n (fun listed' a' => (∀ i ∈ List.range' m (n - m), listed'.getD i false = true) ∧ Region.seqB md ops g n listed' = true ∧ F a') k listed a := by
  intro k
  induction k with
  | zero =>
    intro listed a b hB _ hb i1 i2 hs
    simp only [allB, Bool.and_eq_true, List.all_eq_true] at hB
    refine ⟨hB.2, hB.1, ?_⟩
    have e : putAll S b (List.range' m (n - m)) a = a := putAll_same hinj hs fun i hi => i2 i hi (hB.2 i hi)
    rw [← e, i1]
    exact hF b hb
  | succ k ih =>
    intro listed a b hB hsz hb i1 i2 hs
    simp only [allB, Bool.and_eq_true, List.all_eq_true, decide_eq_true_eq] at hB
    refine ⟨hB.1, fun i hi => ?_⟩
    obtain ⟨⟨h1, h2⟩, h3⟩ := hB.2 i hi
    have hil : i ∈ List.range' m (n - m) := List.mem_range'_1.2 ⟨h1, by omega⟩
    refine ⟨h2, ?_⟩
    obtain ⟨o, ho, hod⟩ := hd i hil
    unfold cOp
    simp only [ho, if_neg (show ¬ i < m by omega), hod]
    intro c hc
    refine ih _ _ (fun j => if j = i then c else b j) h3 (by simpa using hsz) (fun j => ?_) (fun b' => ?_) (fun j hj hl => ?_) (fun j hj => by rw [put_size]; exact hs j hj)
    · show w0.heap.size ≤ if j = i then c else b j
      split
      · exact hc
      · exact hb j
    · rw [putAll_over hinj hil hs]; exact i1 b'
    · by_cases hji : j = i
      · subst hji
        rw [put_self (hs j hj)]
        simp [ptr]
      · rw [getD_set_ne false (Ne.symm hji)] at hl
        rw [put_other (fun e => hji (hinj j hj i hil (Option.some.inj e).symm)), i2 j hj hl]
        simp [hji]

theorem headC_lexA {g : Nat} {F : Act → Prop} (hd : ∀ i ∈ List.range' m (n - m), ∃ o, ops[i]? = some o ∧ o.dst = some (S i)) (hinj : ∀ j ∈ List.range' m (n - m), ∀ k ∈ List.range' m (n - m), S j = S k → j = k)
    (hsel : Region.noSelect ops = true) (hs : Region.sinkB md ops n = true) (hc : Region.chainB md ops n = true) (hn : n < ops.size) (hmn : m ≤ n) :
    ∀ (l : List Oper) (k : Nat) (listed : Array Bool) (a : Act), (∀ j, j < l.length → l[j]? = ops[k + j]?) → k + l.length = m → HeadInv md ops n listed → lexA md ops g m n l.length k listed = true →
    (∀ i ∈ List.range' m (n - m), S i < a.tmps.size) → (∀ i ∈ List.range' m (n - m), listed.getD i false = false) →
    wpCalm P ops w0 (fun a' => ∀ b : Nat → Nat, (∀ i, w0.heap.size ≤ b i) → F (putAll S b (List.range' m (n - m)) a')) l a →
    headC P md ops w0 m n (fun listed' a' => (∀ i ∈ List.range' m (n - m), listed'.getD i false = true) ∧ Region.seqB md ops g n listed' = true ∧ F a') (l.length + (n - m)) listed a := by
  intro l
  induction l with
  | nil =>
    intro k listed a _ hk inv hB hsl hun h
    rw [List.length_nil, Nat.zero_add]
    exact headC_all hd hinj h (n - m) listed a (fun _ => w0.heap.size) hB (by rw [inv.size]; omega) (fun _ => Nat.le_refl _) (fun _ => rfl) (fun i hi hl => by rw [hun i hi] at hl; cases hl) hsl
  | cons o l ih =>
    intro k listed a hl hk inv hB hsl hun h
    have h0 : ops[k]? = some o := by simpa using (hl 0 (by simp)).symm
    simp only [List.length_cons] at hk
    simp only [List.length_cons, lexA, Bool.and_eq_true] at hB
    obtain ⟨⟨hr, hf⟩, hB'⟩ := hB
    have hr' : k ∈ Region.ready md ops listed := by simpa using hr
    obtain ⟨v, hy, hK⟩ : ∃ v, CalmIn P ops w0 o v a ∧ wpCalm P ops w0 (fun a' => ∀ b : Nat → Nat, (∀ i, w0.heap.size ≤ b i) → F (putAll S b (List.range' m (n - m)) a')) l (a.put o.dst v) := by
      by_cases hw : Region.wanted o (yielded ops a.tmps) = true
      · unfold wpCalm at h
        rw [if_pos hw] at h
        obtain ⟨v, h1, h2⟩ := h
        exact ⟨v, .inl ⟨hw, h1⟩, h2⟩
      · unfold wpCalm at h
        rw [if_neg hw] at h
        exact ⟨undef, .inr ⟨by simpa using hw, rfl⟩, h⟩
    have e : (o :: l).length + (n - m) = (l.length + (n - m)) + 1 := by simp only [List.length_cons]; omega
    rw [e]
    refine headC_take h0 (by omega) (Region.noSelect_spec hsel) hs hc hn (by omega) (fun listed' a' hL => seqB_ready hL.2.1) (l.length + (n - m)) listed a inv (Region.free_spec h0 hf) hr' hy ?_
    exact ih (k + 1) _ _ (fun j hj => by have := hl (j + 1) (by simp; omega); simpa [Nat.add_assoc, Nat.add_comm 1 j] using this) (by omega) (inv.set hr' (by omega)) hB' (fun i hi => by rw [put_size]; exact hsl i hi)
      (fun i hi => by have := (List.mem_range'_1.1 hi).1; rw [getD_set_ne false (by omega)]; exact hun i hi) hK

/-- What is known, some operations listed. -/
structure CA (w0 : World) (m n : Nat) (S : Nat → Tmp) (Z : Nat → Obj) (listed : Array Bool) (a : Act) (w : World) : Prop where
  below : Below w0.heap.size w0 w
  new : ∀ i ∈ List.range' m (n - m), listed.getD i false = true → ∃ b, a.tmps[S i]? = some (ptr b) ∧ w0.heap.size ≤ b ∧ w.heap[b]? = some (Z i)
  apart : ∀ i ∈ List.range' m (n - m), ∀ j ∈ List.range' m (n - m), i ≠ j → listed.getD i false = true → listed.getD j false = true → ∀ b b', a.tmps[S i]? = some (ptr b) → a.tmps[S j]? = some (ptr b') → b ≠ b'
  size : ∀ i ∈ List.range' m (n - m), S i < a.tmps.size

theorem CA.step {listed : Array Bool} {a : Act} {w w' : World} {i : Nat} {x : Option Tmp} {v : Value} (c : CA w0 m n S Z listed a w) (hi : i < m) (hx : ∀ j ∈ List.range' m (n - m), x ≠ some (S j)) (hb : Below w.heap.size w w') :
    CA w0 m n S Z (listed.setIfInBounds i true) (a.put x v) w' := by
  have e : ∀ j ∈ List.range' m (n - m), (listed.setIfInBounds i true).getD j false = listed.getD j false := fun j hj => getD_set_ne false (by have := (List.mem_range'_1.1 hj).1; omega)
  refine ⟨c.below.trans (hb.mono c.below.size), fun j hj h => ?_, fun j hj k hk hjk h h' => ?_, fun j hj => by rw [put_size]; exact c.size j hj⟩
  · rw [e j hj] at h
    obtain ⟨b, k1, k2, k3⟩ := c.new j hj h
    exact ⟨b, by rw [put_other (hx j hj)]; exact k1, k2, by rw [hb.block b (heap_lt k3)]; exact k3⟩
  · rw [e j hj] at h
    rw [e k hk] at h'
    rw [put_other (hx j hj), put_other (hx k hk)]
    exact c.apart j hj k hk hjk h h'

theorem CA.take {listed : Array Bool} {a : Act} {w : World} {i : Nat} (c : CA w0 m n S Z listed a w) (hinj : ∀ j ∈ List.range' m (n - m), ∀ k ∈ List.range' m (n - m), S j = S k → j = k) (hi : i ∈ List.range' m (n - m)) :
    CA w0 m n S Z (listed.setIfInBounds i true) (a.put (some (S i)) (ptr w.heap.size)) (w.alloc (Z i)) := by
  have hb : Below w.heap.size w (w.alloc (Z i)) := (Below.refl _ _).alloc (Nat.le_refl _) _
  have old : ∀ j ∈ List.range' m (n - m), j ≠ i → (listed.setIfInBounds i true).getD j false = true → ∃ b, (a.put (some (S i)) (ptr w.heap.size)).tmps[S j]? = some (ptr b) ∧ w0.heap.size ≤ b ∧ b < w.heap.size ∧ w.heap[b]? = some (Z j) := fun j hj hji h => by
    rw [getD_set_ne false (Ne.symm hji)] at h
    obtain ⟨b, k1, k2, k3⟩ := c.new j hj h
    exact ⟨b, by rw [put_other (fun e => hji (hinj j hj i hi (Option.some.inj e).symm))]; exact k1, k2, heap_lt k3, k3⟩
  have self : (a.put (some (S i)) (ptr w.heap.size)).tmps[S i]? = some (ptr w.heap.size) := put_self (c.size i hi)
  refine ⟨c.below.trans (hb.mono c.below.size), fun j hj h => ?_, fun j hj k hk hjk h h' b b' q q' => ?_, fun j hj => by rw [put_size]; exact c.size j hj⟩
  · by_cases hji : j = i
    · subst hji
      exact ⟨_, self, c.below.size, heap_new _ _⟩
    · obtain ⟨b, k1, k2, k3, k4⟩ := old j hj hji h
      exact ⟨b, k1, k2, by rw [hb.block b k3]; exact k4⟩
  · by_cases hji : j = i
    · subst hji
      obtain ⟨b2, k1, k2, k3, k4⟩ := old k hk (Ne.symm hjk) h'
      rw [self] at q
      rw [k1] at q'
      have := ptr_inj (Option.some.inj q)
      have := ptr_inj (Option.some.inj q')
      omega
    · obtain ⟨b2, k1, k2, k3, k4⟩ := old j hj hji h
      rw [k1] at q
      have e1 := ptr_inj (Option.some.inj q)
      by_cases hki : k = i
      · subst hki
        rw [self] at q'
        have := ptr_inj (Option.some.inj q')
        omega
      · rw [getD_set_ne false (Ne.symm hji)] at h
        rw [getD_set_ne false (Ne.symm hki)] at h'
        rw [put_other (fun e => hki (hinj k hk i hi (Option.some.inj e).symm))] at q'
        rw [put_other (fun e => hji (hinj j hj i hi (Option.some.inj e).symm))] at k1
        have hne := c.apart j hj k hk hjk h h' b2 b' k1 q'
        rw [← e1]
        exact hne

theorem headCA_wpAny {g : Nat} {T : Array Bool → Act → Prop} {Q' : Exit → Act → World → Prop} (hmn : m ≤ n)
    (hA : ∀ i ∈ List.range' m (n - m), ∃ o, ops[i]? = some o ∧ o.dst = some (S i) ∧ o.guard = none ∧ ∀ (a : Act) (w : World), (execOp a.eval o).run P w = .ok (.value (ptr w.heap.size)) (w.alloc (Z i)))
    (hinj : ∀ j ∈ List.range' m (n - m), ∀ k ∈ List.range' m (n - m), S j = S k → j = k)
    (hdst : ∀ i o, i < m → ops[i]? = some o → ∀ j ∈ List.range' m (n - m), o.dst ≠ some (S j))
    (hT : ∀ listed a w, CA w0 m n S Z listed a w → T listed a → wpAny P md ops Q' g listed a w) :
    ∀ (f : Nat) (listed : Array Bool) (a : Act) (w : World), listed.size = ops.size → CA w0 m n S Z listed a w → headC P md ops w0 m n T f listed a → wpAny P md ops Q' (f + g) listed a w := by
  intro f
  induction f with
  | zero => intro listed a w _ c h; rw [Nat.zero_add]; exact hT _ _ _ c h
  | succ f ih =>
    intro listed a w hsz c h
    rw [Nat.succ_add]
    refine ⟨fun h0 => absurd h0 h.1, fun i hi => ?_⟩
    obtain ⟨hin, hk⟩ := h.2 i hi
    obtain ⟨_, o, ho, _⟩ := mem_ready.1 hi
    have hsz' : ∀ k, (listed.setIfInBounds k true).size = ops.size := fun k => by simpa using hsz
    unfold wpOp
    simp only [ho]
    unfold cOp at hk
    simp only [ho] at hk
    by_cases him : i < m
    · simp only [him, if_true] at hk
      have nd := hdst i o him ho
      split
      · rename_i hw
        simp only [hw, if_true] at hk
        left
        obtain ⟨v, k1, k2⟩ := hk
        obtain ⟨p, hp⟩ := regrown_of_below c.below
        have k3 := k1 p
        rw [← hp] at k3
        unfold calmAt at k3
        unfold Oper.wp
        generalize (execOp a.eval o).run P w = r at *
        cases r with
        | ok n' w' =>
          cases n' <;> simp only [calmUpon] at k3 <;> simp only [Oper.upon]
          case value u =>
            obtain ⟨e1, e2⟩ := k3
            rw [e1, e2]
            exact ih _ _ _ (hsz' i) (c.step him nd (Below.refl _ _)) k2
          case skip =>
            obtain ⟨e1, e2⟩ := k3
            rw [e1, ← e2]
            exact ih _ _ _ (hsz' i) (c.step him nd (Below.refl _ _)) k2
          case enter fn args =>
            obtain ⟨e1, hc⟩ := k3
            rw [e1]
            exact hc.mono fun e w'' ⟨he, hw''⟩ => by subst he; exact ih _ _ _ (hsz' i) (c.step him nd hw'') k2
        | halt x w' => simp only [calmUpon] at k3
      · rename_i hw
        simp only [hw] at hk
        exact ih _ _ _ (hsz' i) (c.step him nd (Below.refl _ _)) hk
    · simp only [him, if_false] at hk
      have hil : i ∈ List.range' m (n - m) := List.mem_range'_1.2 ⟨by omega, by omega⟩
      obtain ⟨o', ho', hd', hg', hr'⟩ := hA i hil
      obtain rfl : o = o' := Option.some.inj (ho.symm.trans ho')
      rw [if_pos (by simp [Region.wanted, hg'])]
      left
      unfold Oper.wp
      rw [hr']
      simp only [Oper.upon]
      rw [hd'] at hk ⊢
      exact ih _ _ _ (hsz' i) (c.take hinj hil) (hk _ c.below.size)

/-- the closed check -/
def newCheck (ops : Array Oper) (m n : Nat) (ss : List Tmp) : Bool :=
  Region.noSelect ops && decide (n < ops.size) && Region.sinkB .any ops n && Region.chainB .any ops n && lexA .any ops (ops.size - n) m n m 0 (Array.replicate ops.size false) &&
    ((List.range m).all fun i => match ops[i]? with | some o => ss.all (fun s => o.dst != some s) | none => true)

theorem wp_new {id : Nat} {Q : Exit → Act → World → Prop} {a : Act} {w : World} {l : List Oper} (m n : Nat) (ss : List Tmp) {Z : Nat → Obj} (hm : P.follows .mixedOrders = true) (hmn : m ≤ n)
    (hA : ∀ i ∈ List.range' m (n - m), ∃ o, l[i]? = some o ∧ o.dst = some (ss.getD (i - m) 0) ∧ o.guard = none ∧ ∀ (a : Act) (w : World), (execOp a.eval o).run P w = .ok (.value (ptr w.heap.size)) (w.alloc (Z i)))
    (hlen : ss.length = n - m) (hinj : ∀ j ∈ List.range' m (n - m), ∀ k ∈ List.range' m (n - m), ss.getD (j - m) 0 = ss.getD (k - m) 0 → j = k) (hss : ∀ i ∈ List.range' m (n - m), ss.getD (i - m) 0 < a.tmps.size) (hB : newCheck l.toArray m n ss = true)
    (h : wpCalm P l.toArray w (fun a' => ∀ (b : Nat → Nat) (w' : World), (∀ i ∈ List.range' m (n - m), w.heap.size ≤ b i) → (∀ i ∈ List.range' m (n - m), ∀ j ∈ List.range' m (n - m), i ≠ j → b i ≠ b j) → Below w.heap.size w w' → (∀ i ∈ List.range' m (n - m), w'.heap[b i]? = some (Z i)) →
      wpList P l.toArray Q (l.drop n) (putAll (fun i => ss.getD (i - m) 0) b (List.range' m (n - m)) a') w') (l.take m) a) : (Code.region id l.toArray true).wp P Q a w := by
  simp only [newCheck, Bool.and_eq_true, decide_eq_true_eq] at hB
  obtain ⟨⟨⟨⟨⟨hsel, hn⟩, hs⟩, hc⟩, hlex⟩, hd⟩ := hB
  have hn' : n < l.length := by simpa using hn
  have htl : (l.take m).length = m := by simp; omega
  have hdl : (l.drop n).length = l.toArray.size - n := by simp
  have inv0 : HeadInv .any l.toArray n (Array.replicate l.toArray.size false) :=
    ⟨by simp, fun j oj _ hl => (by rw [getD_replicate_false] at hl; cases hl), fun t _ ht => getD_in (by simpa using ht) (getD_replicate_false _ _)⟩
  have hdst : ∀ i o, i < m → l.toArray[i]? = some o → ∀ j ∈ List.range' m (n - m), o.dst ≠ some (ss.getD (j - m) 0) := fun i o him ho j hj => by
    have h1 := List.all_eq_true.1 hd i (List.mem_range.2 him)
    simp only [ho, List.all_eq_true, bne_iff_ne, ne_eq] at h1
    have hj2 := List.mem_range'_1.1 hj
    have hlt : j - m < ss.length := by omega
    refine h1 _ ?_
    rw [show ss.getD (j - m) 0 = ss[j - m] from by simp [hlt]]
    exact List.getElem_mem _
  have hA' : ∀ i ∈ List.range' m (n - m), ∃ o, l.toArray[i]? = some o ∧ o.dst = some (ss.getD (i - m) 0) ∧ o.guard = none ∧ ∀ (a : Act) (w : World), (execOp a.eval o).run P w = .ok (.value (ptr w.heap.size)) (w.alloc (Z i)) := fun i hi => by
    obtain ⟨o, h1, h2⟩ := hA i hi
    exact ⟨o, by simpa using h1, h2⟩
  have H := headC_lexA (P := P) (w0 := w) (md := .any) (g := l.toArray.size - n) (m := m) (n := n) (S := fun i => ss.getD (i - m) 0)
    (F := fun a' => ∀ (b : Nat → Nat) (w' : World), (∀ i ∈ List.range' m (n - m), a'.tmps[ss.getD (i - m) 0]? = some (ptr (b i))) → (∀ i ∈ List.range' m (n - m), w.heap.size ≤ b i) → (∀ i ∈ List.range' m (n - m), ∀ j ∈ List.range' m (n - m), i ≠ j → b i ≠ b j) → Below w.heap.size w w' → (∀ i ∈ List.range' m (n - m), w'.heap[b i]? = some (Z i)) → wpList P l.toArray Q (l.drop n) a' w')
    (fun i hi => by obtain ⟨o, h1, h2, _⟩ := hA' i hi; exact ⟨o, h1, h2⟩) hinj hsel hs hc hn hmn (l.take m) 0 _ a (fun j hj => by
      have hj' : j < m := by rw [htl] at hj; exact hj
      simp [hj']) (by simpa using htl) inv0 (by rw [htl]; exact hlex) hss (fun i _ => getD_replicate_false _ _) ?_
  · refine wp_region_any hm ?_
    have H2 := headCA_wpAny (P := P) (Q' := Q) (w0 := w) (md := .any) (g := l.toArray.size - n) hmn hA' hinj hdst (fun listed a' w' c hL => by
      have hall := hL.1
      have hex : ∃ b : Nat → Nat, ∀ i ∈ List.range' m (n - m), a'.tmps[ss.getD (i - m) 0]? = some (ptr (b i)) ∧ w.heap.size ≤ b i ∧ w'.heap[b i]? = some (Z i) := by
        refine ⟨fun i => if hi : i ∈ List.range' m (n - m) then Classical.choose (c.new i hi (hall i hi)) else 0, fun i hi => ?_⟩
        have hb := Classical.choose_spec (c.new i hi (hall i hi))
        simp only [hi, dif_pos]
        exact hb
      obtain ⟨b, hb⟩ := hex
      have h1 := wpAny_of_seq (md := .any) (Q' := Q) (l.drop n) n listed a' w' (fun j => by simp [List.getElem?_drop]) (by rw [hdl]; exact hL.2.1)
        (hL.2.2 b w' (fun i hi => (hb i hi).1) (fun i hi => (hb i hi).2.1) (fun i hi j hj hij => c.apart i hi j hj hij (hall i hi) (hall j hj) _ _ (hb i hi).1 (hb j hj).1) c.below (fun i hi => (hb i hi).2.2))
      rwa [hdl] at h1) _ _ _ { w with drawn := w.drawn + 1 } (by simp) ⟨⟨rfl, rfl, rfl, Nat.le_refl _, fun _ _ => rfl⟩, fun i _ h => (by rw [getD_replicate_false] at h; cases h), fun i _ j _ _ h => (by rw [getD_replicate_false] at h; cases h), hss⟩ H
    rw [htl, show m + (n - m) + (l.toArray.size - n) = l.toArray.size by simp; omega] at H2
    exact H2
  · refine wpCalm_mono (fun a' hu b hb c w' k1 k2 k3 k4 k5 => ?_) _ _ h
    have e : ∀ i ∈ List.range' m (n - m), c i = b i := fun i hi => by
      have k := k1 i hi
      have hz : ss.getD (i - m) 0 < a'.tmps.size := by
        rcases Nat.lt_or_ge (ss.getD (i - m) 0) a'.tmps.size with hh | hh
        · exact hh
        · rw [Array.getElem?_eq_none (by rw [putAll_size]; exact hh)] at k; cases k
      rw [putAll_in (S := fun i => ss.getD (i - m) 0) (i := i) _ _ (fun j hj e => hinj j hj i hi e) hi hz] at k
      exact (ptr_inj (Option.some.inj k)).symm
    refine hu b w' (fun i _ => hb i) (fun i hi j hj hij => by rw [← e i hi, ← e j hj]; exact k3 i hi j hj hij) k4 (fun i hi => by rw [← e i hi]; exact k5 i hi)

theorem wp_three {id : Nat} {Q : Exit → Act → World → Prop} {a : Act} {w : World} {l : List Oper} (m s0 s1 s2 : Nat) {o0 o1 o2 : Oper} {Z0 Z1 Z2 : Obj} (hm : P.follows .mixedOrders = true) (h0 : l[m]? = some o0) (h1 : l[m + 1]? = some o1) (h2 : l[m + 2]? = some o2) (d0 : o0.dst = some s0) (d1 : o1.dst = some s1) (d2 : o2.dst = some s2)
    (g0 : o0.guard = none) (g1 : o1.guard = none) (g2 : o2.guard = none) (hne01 : s0 ≠ s1) (hne02 : s0 ≠ s2) (hne12 : s1 ≠ s2) (hs0 : s0 < a.tmps.size) (hs1 : s1 < a.tmps.size) (hs2 : s2 < a.tmps.size) (hB : newCheck l.toArray m (m + 3) [s0, s1, s2] = true)
    (a0 : ∀ (a : Act) (w : World), (execOp a.eval o0).run P w = .ok (.value (.pointer (some ⟨w.heap.size, 0, none⟩))) (w.alloc Z0)) (a1 : ∀ (a : Act) (w : World), (execOp a.eval o1).run P w = .ok (.value (.pointer (some ⟨w.heap.size, 0, none⟩))) (w.alloc Z1)) (a2 : ∀ (a : Act) (w : World), (execOp a.eval o2).run P w = .ok (.value (.pointer (some ⟨w.heap.size, 0, none⟩))) (w.alloc Z2))
    (h : wpCalm P l.toArray w (fun a' => ∀ (b0 b1 b2 : Nat) (w' : World), w.heap.size ≤ b0 → w.heap.size ≤ b1 → w.heap.size ≤ b2 → b0 ≠ b1 → b0 ≠ b2 → b1 ≠ b2 → Below w.heap.size w w' → w'.heap[b0]? = some Z0 → w'.heap[b1]? = some Z1 → w'.heap[b2]? = some Z2 →
      wpList P l.toArray Q (l.drop (m + 3)) (((a'.put (some s0) (.pointer (some ⟨b0, 0, none⟩))).put (some s1) (.pointer (some ⟨b1, 0, none⟩))).put (some s2) (.pointer (some ⟨b2, 0, none⟩))) w') (l.take m) a) : (Code.region id l.toArray true).wp P Q a w := by
  have hr : List.range' m (m + 3 - m) = [m, m + 1, m + 2] := by
    rw [show m + 3 - m = 3 by omega]; rfl
  have x0 : [s0, s1, s2].getD (m - m) 0 = s0 := by rw [Nat.sub_self]; rfl
  have x1 : [s0, s1, s2].getD (m + 1 - m) 0 = s1 := by rw [show m + 1 - m = 1 by omega]; rfl
  have x2 : [s0, s1, s2].getD (m + 2 - m) 0 = s2 := by rw [show m + 2 - m = 2 by omega]; rfl
  refine wp_new (Z := fun i => if i = m then Z0 else if i = m + 1 then Z1 else Z2) m (m + 3) [s0, s1, s2] hm (by omega) ?_ (by simp) ?_ ?_ hB ?_
  · rw [hr]
    intro i hi
    simp only [List.mem_cons, List.not_mem_nil, or_false] at hi
    rcases hi with rfl | rfl | rfl
    · exact ⟨o0, h0, by rw [x0]; exact d0, g0, by simpa [ptr] using a0⟩
    · exact ⟨o1, h1, by rw [x1]; exact d1, g1, by simpa [ptr] using a1⟩
    · exact ⟨o2, h2, by rw [x2]; exact d2, g2, by simpa [ptr] using a2⟩
  · rw [hr]
    intro j hj k hk
    simp only [List.mem_cons, List.not_mem_nil, or_false] at hj hk
    rcases hj with rfl | rfl | rfl <;> rcases hk with rfl | rfl | rfl <;> simp only [x0, x1, x2] <;> intro e <;> first | rfl | trivial | exact absurd e (by first | exact hne01 | exact hne02 | exact hne12 | exact hne01.symm | exact hne02.symm | exact hne12.symm)
  · rw [hr]
    intro i hi
    simp only [List.mem_cons, List.not_mem_nil, or_false] at hi
    rcases hi with rfl | rfl | rfl
    · rw [x0]; exact hs0
    · rw [x1]; exact hs1
    · rw [x2]; exact hs2
  · refine wpCalm_mono (fun a' hu b w' k1 k2 k3 k4 => ?_) _ _ h
    rw [hr] at k1 k2 k4 ⊢
    have q0 := k4 m (by simp)
    have q1 := k4 (m + 1) (by simp)
    have q2 := k4 (m + 2) (by simp)
    simp only [if_true, if_neg (show ¬ m + 1 = m by omega), if_neg (show ¬ m + 2 = m by omega), if_neg (show ¬ m + 2 = m + 1 by omega)] at q0 q1 q2
    have := hu (b m) (b (m + 1)) (b (m + 2)) w' (k1 _ (by simp)) (k1 _ (by simp)) (k1 _ (by simp)) (k2 _ (by simp) _ (by simp) (by omega)) (k2 _ (by simp) _ (by simp) (by omega)) (k2 _ (by simp) _ (by simp) (by omega)) k3 q0 q1 q2
    simpa only [putAll, x0, x1, x2, ptr] using this

end
end Go.Proofs.YthbhnbnlbhpooaaGreatDoor
