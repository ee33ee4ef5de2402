/- What the evaluation says of one operation that leaves the world as it is holds of it. No condition. -/
import Derived.Test.YtiefoahdikmilaaA1
import Derived.Laws.Cells
import Derived.Laws.CopyOwn
namespace Go.Proofs.Ytiefoahdikmilaa
open Go Go.RowKit Go.Sort
set_option linter.unusedVariables false
set_option linter.unusedSimpArgs false

theorem nth_eq {α : Type} : ∀ (l : List α) (n : Nat), nth l n = l[n]?
  | [], n => by simp [nth]
  | _ :: _, 0 => by simp [nth]
  | _ :: l, n + 1 => by simp [nth, nth_eq l n]
theorem setL_eq {α : Type} (x : α) : ∀ (l : List α) (n : Nat), setL l n x = l.set n x
  | [], n => by simp [setL]
  | _ :: _, 0 => by simp [setL]
  | _ :: l, n + 1 => by simp [setL, setL_eq x l n]
theorem setK_eq {α : Type} (x : α) : ∀ (l : List α) (n : Nat) (K : List α → Prop), setK l n x K = K (l.set n x)
  | [], n, K => by simp [setK]
  | _ :: _, 0, K => by simp [setK]
  | _ :: l, n + 1, K => by simp [setK, setK_eq x l n]
theorem putK_eq (d : Option Tmp) (fr : List AV) (x : AV) (K : List AV → Prop) : putK d fr x K = K (putL d fr x) := by
  cases d <;> simp [putK, putL, setK_eq, setL_eq]
theorem forceL_eq : ∀ (l : List Value) (K : List Value → Prop), forceL l K = K l
  | [], K => by simp [forceL]
  | x :: l, K => by cases x <;> simp [forceL, forceL_eq l]
theorem forceV_eq (x : Value) (K : Value → Prop) : forceV x K = K x := by
  cases x <;> simp [forceV, forceL_eq]
theorem dropL_eq {α : Type} : ∀ (l : List α) (n : Nat), dropL l n = l.drop n
  | l, 0 => by simp [dropL]
  | [], n + 1 => by simp [dropL]
  | _ :: l, n + 1 => by simp [dropL, dropL_eq l n]
theorem lenK_eq {α : Type} : ∀ (l : List α) (n : Nat) (K : Nat → Prop), lenK l n K = K (l.length + n)
  | [], n, K => by simp [lenK]
  | _ :: l, n, K => by simp [lenK, lenK_eq l, Nat.add_assoc, Nat.add_comm 1 n]
theorem appK_eq {α : Type} (x : α) : ∀ (l : List α) (K : List α → Prop), appK l x K = K (l ++ [x])
  | [], K => by simp [appK]
  | _ :: l, K => by simp [appK, appK_eq x l]
theorem mapvK_eq : ∀ (l : List Value) (K : List AV → Prop), mapvK l K = K (l.map .v)
  | [], K => by simp [mapvK]
  | _ :: l, K => by simp [mapvK, mapvK_eq l]

theorem pureRun_run {α : Type} (P : Program) : ∀ (s : Sem α) {v : α}, pureRun P s = some v → ∀ w, s.run P w = .ok v w := by
  intro s
  induction s with
  | pure a => intro v h w; simp [pureRun] at h; subst h; rfl
  | program k ih => intro v h w; exact ih P h w
  | mark m k ih => intro v h w; exact ih h w
  | _ => intro v h; simp [pureRun] at h

/-- What the value is, block k being block number 'ids[k]'. -/
def AV.Is (ids : List Nat) : AV → Value → Prop
  | .v x, u => u = x
  | .lit b, u => u = .bool b
  | .p k off, u => ∃ b, ids[k]? = some b ∧ u = .pointer (some ⟨b, off, none⟩)
  | .junk, _ => True
theorem AV.Is.grow {ids : List Nat} {x : AV} {u : Value} (h : x.Is ids u) (more : List Nat) : x.Is (ids ++ more) u := by
  cases x with
  | p k off =>
    obtain ⟨b, h1, h2⟩ := h
    exact ⟨b, by rw [List.getElem?_append_left (List.getElem?_eq_some_iff.1 h1).1]; exact h1, h2⟩
  | _ => exact h

structure FrIs (ids : List Nat) (fr : List AV) (tmps : Array Value) : Prop where
  len : fr.length = tmps.size
  at_ : ∀ (i : Nat) (x : AV), fr[i]? = some x → ∃ u, tmps[i]? = some u ∧ x.Is ids u
theorem FrIs.grow {ids : List Nat} {fr : List AV} {tmps : Array Value} (h : FrIs ids fr tmps) (more : List Nat) : FrIs (ids ++ more) fr tmps :=
  ⟨h.len, fun i x hx => let ⟨u, h1, h2⟩ := h.at_ i x hx; ⟨u, h1, h2.grow more⟩⟩
theorem FrIs.put {ids : List Nat} {fr : List AV} {a : Act} {x : AV} {u : Value} (h : FrIs ids fr a.tmps) (hx : x.Is ids u) (d : Option Tmp) : FrIs ids (putL d fr x) (a.put d u).tmps := by
  cases d with
  | none => exact h
  | some d =>
    refine ⟨by simp only [putL, setL_eq, List.length_set, put_size]; exact h.len, fun i y hy => ?_⟩
    simp only [putL, setL_eq, List.getElem?_set] at hy
    by_cases hd : d = i
    · subst hd
      have hlt : d < fr.length := by
        simp only [if_true] at hy
        split at hy
        · assumption
        · cases hy
      simp only [if_true, hlt] at hy
      obtain rfl : x = y := Option.some.inj hy
      exact ⟨u, put_self (by rw [← h.len]; exact hlt), hx⟩
    · rw [if_neg hd] at hy
      obtain ⟨u', h1, h2⟩ := h.at_ i y hy
      exact ⟨u', by rw [put_other (fun e => hd (Option.some.inj e))]; exact h1, h2⟩

/-- The call's own blocks, and the facts, in a world. -/
structure Mem (F : Facts) (ids : List Nat) (own : List (List AV)) (w : World) : Prop where
  len : ids.length = own.length
  blk : ∀ (k : Nat) (cells : List AV), own[k]? = some cells → ∃ (b : Nat) (xs : Array Value) (T : TypeId), ids[k]? = some b ∧ w.heap[b]? = some (.cells xs T (0, 0)) ∧ FrIs ids cells xs
  sat : Sat F w
theorem Mem.below {F : Facts} {ids : List Nat} {own : List (List AV)} {w w' : World} (h : Mem F ids own w) (hb : Below w.heap.size w w') : Mem F ids own w' := by
  refine ⟨h.len, fun k cells hk => ?_, fun b o x hx => ?_⟩
  · obtain ⟨b, xs, T, h1, h2, h3⟩ := h.blk k cells hk
    exact ⟨b, xs, T, h1, by rw [hb.block b (heap_lt h2)]; exact h2, h3⟩
  · have hc := h.sat b o x hx
    rw [hb.cell (p := ⟨b, o, none⟩) (block_lt_of_cell hc)]; exact hc

variable {P : Program} {F : Facts} {ids : List Nat} {fr : List AV} {own : List (List AV)} {a : Act} {o : Oper}

theorem ev_is (h : FrIs ids fr a.tmps) {x : Operand} {y : AV} (hy : ev fr x = some y) : y.Is ids (a.eval x) := by
  cases x with
  | tmp t =>
    simp only [ev, nth_eq] at hy
    obtain ⟨u, h1, h2⟩ := h.at_ t y hy
    have : a.eval (.tmp t) = u := by simp [Act.eval, h1]
    rw [this]; exact h2
  | const v => cases v <;> simp only [ev, Option.some.injEq] at hy <;> subst hy <;> rfl
  | global g => simp only [ev, Option.some.injEq] at hy; subst hy; rfl
  | func f => simp only [ev, Option.some.injEq] at hy; subst hy; rfl
theorem isx_eq (h : FrIs ids fr a.tmps) {x : Operand} (hx : isx fr x = true) : a.eval x = evx fr x := by
  unfold isx at hx
  unfold evx
  cases he : ev fr x with
  | none => simp [he] at hx
  | some y =>
    have := ev_is h he
    cases y <;> simp [he] at hx ⊢ <;> exact this

theorem exact_exec (h : FrIs ids fr a.tmps) (hs : ∀ cs b, o.op ≠ .select cs b) (hx : o.op.operands.toList.all (isx fr) = true) : execOp a.eval o = execOp (evx fr) o :=
  execOp_congr o hs fun x hx' => isx_eq h (List.all_eq_true.1 hx x (by simpa using hx'))

/-- What an operation that leaves the world as it is yields. -/
def Yld (P : Program) (F : Facts) (own : List (List AV)) (o : Oper) (ids : List Nat) (a : Act) (x : AV) : Prop :=
  ∃ u, x.Is ids u ∧ ∀ W, Mem F ids own W → calmAt P o a W u

theorem calm_value {u : Value} {W : World} (h : (execOp a.eval o).run P W = .ok (.value u) W) : calmAt P o a W u := by
  unfold calmAt; rw [h]; exact ⟨rfl, rfl⟩

theorem exactK_sound {K : AV → Prop} (h : exactK P F o fr K) : ∃ x, K x ∧ ∀ ids a, FrIs ids fr a.tmps → Yld P F own o ids a x := by
  unfold exactK at h
  split at h
  · rename_i hx0
    simp only [Bool.and_eq_true, Bool.not_eq_true'] at hx0
    have hx := hx0.2
    have hs : ∀ cs b, o.op ≠ .select cs b := fun cs b he => by rw [he] at hx0; simp [isSel] at hx0
    split at h
    · rename_i u hu
      rw [forceV_eq] at h
      exact ⟨_, h, fun ids a hfr => ⟨u, rfl, fun W _ => calm_value (by rw [exact_exec hfr hs hx, ← execX_eq]; exact pureRun_run P _ hu W)⟩⟩
    · rename_i hu
      refine ⟨_, h, fun ids a hfr => ⟨undef, rfl, fun W _ => ?_⟩⟩
      unfold calmAt
      rw [exact_exec hfr hs hx, ← execX_eq, pureRun_run P _ hu W]
      exact ⟨rfl, rfl⟩
    · rename_i f args hu
      rw [forceL_eq] at h
      obtain ⟨v, hd, hv⟩ := h
      rw [forceV_eq] at hv
      refine ⟨_, hv, fun ids a hfr => ⟨v, rfl, fun W hM => ?_⟩⟩
      unfold calmAt
      rw [exact_exec hfr hs hx, ← execX_eq, pureRun_run P _ hu W]
      refine ⟨rfl, ?_⟩
      exact hd.out W hM.sat
    · exact h.elim
  · exact h.elim

theorem run_isAgg {t : TypeId} {b : Bool} (h : aggT P t = some b) (w : World) : (isAgg t).run P w = .ok b w := by
  unfold aggT at h
  unfold isAgg
  cases hd : P.underlying t with
  | none => rw [hd] at h; cases h
  | some d =>
    rw [hd] at h
    have := run_underlying hd w
    simp only [Sem.run_bind, this, Result.andThen_ok]
    cases d <;> simp at h <;> subst h <;> rfl

end Go.Proofs.Ytiefoahdikmilaa
