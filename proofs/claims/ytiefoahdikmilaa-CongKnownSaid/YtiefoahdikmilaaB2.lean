/- What the evaluation says of one operation that leaves the world as it is holds of it. No condition. -/
import Derived.Test.YtiefoahdikmilaaB1
import Derived.Laws.Cells
import Derived.Laws.CopyOwn
import Derived.Laws.OwnMore
namespace Go.Proofs.Ytiefoahdikmilaa
open Go Go.RowKit Go.Sort
set_option linter.unusedVariables false
set_option linter.unusedSimpArgs false

theorem nth_eq {α : Type} : ∀ (l : List α) (n : Nat), nth l n = l[n]?
  | [], n => by simp [nth]
  | _ :: _, 0 => by simp [nth]
  | _ :: l, n + 1 => by simp [nth, nth_eq l n]
theorem setL_eq {α : Type} (x : α) : ∀ (l : List α) (n : Nat), setL l n x = l.set n x
  | [], n => by simp [setL]
  | _ :: _, 0 => by simp [setL]
  | _ :: l, n + 1 => by simp [setL, setL_eq x l n]
theorem setK_eq {α : Type} (x : α) : ∀ (l : List α) (n : Nat) (K : List α → Prop), setK l n x K = K (l.set n x)
  | [], n, K => by simp [setK]
  | _ :: _, 0, K => by simp [setK]
  | _ :: l, n + 1, K => by simp [setK, setK_eq x l n]
theorem putK_eq (d : Option Tmp) (fr : List AV) (x : AV) (K : List AV → Prop) : putK d fr x K = K (putL d fr x) := by
  cases d <;> simp [putK, putL, setK_eq, setL_eq]
theorem forceL_eq : ∀ (l : List Value) (K : List Value → Prop), forceL l K = K l
  | [], K => by simp [forceL]
  | x :: l, K => by cases x <;> simp [forceL, forceL_eq l]
theorem forceV_eq (x : Value) (K : Value → Prop) : forceV x K = K x := by
  cases x <;> simp [forceV, forceL_eq]
theorem dropL_eq {α : Type} : ∀ (l : List α) (n : Nat), dropL l n = l.drop n
  | l, 0 => by simp [dropL]
  | [], n + 1 => by simp [dropL]
  | _ :: l, n + 1 => by simp [dropL, dropL_eq l n]
theorem lenK_eq {α : Type} : ∀ (l : List α) (n : Nat) (K : Nat → Prop), lenK l n K = K (l.length + n)
  | [], n, K => by simp [lenK]
  | _ :: l, n, K => by simp [lenK, lenK_eq l, Nat.add_assoc, Nat.add_comm 1 n]
theorem appK_eq {α : Type} (x : α) : ∀ (l : List α) (K : List α → Prop), appK l x K = K (l ++ [x])
  | [], K => by simp [appK]
  | _ :: l, K => by simp [appK, appK_eq x l]
theorem mapvK_eq : ∀ (l : List Value) (K : List AV → Prop), mapvK l K = K (l.map .v)
  | [], K => by simp [mapvK]
  | _ :: l, K => by simp [mapvK, mapvK_eq l]

theorem pureRun_run {α : Type} (P : Program) : ∀ (s : Sem α) {v : α}, pureRun P s = some v → ∀ w, s.run P w = .ok v w := by
  intro s
  induction s with
  | pure a => intro v h w; simp [pureRun] at h; subst h; rfl
  | program k ih => intro v h w; exact ih P h w
  | mark m k ih => intro v h w; exact ih h w
  | _ => intro v h; simp [pureRun] at h

abbrev Sg := Nat → Option Value
/-- What the value is, the call's own block k being named by the value 'σ k'. -/
def AV.Is (σ : Sg) : AV → Value → Prop
  | .v x, u => u = x
  | .lit b, u => u = .bool b
  | .p k off, u => ∃ b, σ k = some (.pointer (some ⟨b, 0, none⟩)) ∧ u = .pointer (some ⟨b, off, none⟩)
  | .s k, u => σ k = some u ∧ ∃ ad n c, u = .slice ad n c
  | .e k off, u => ∃ b n c, σ k = some (.slice (some ⟨b, 0, none⟩) n c) ∧ u = .pointer (some ⟨b, off, none⟩)
  | .junk, _ => True
/-- More is named. -/
def SgLe (σ σ' : Sg) : Prop := ∀ k v, σ k = some v → σ' k = some v
theorem AV.Is.grow {σ σ' : Sg} {x : AV} {u : Value} (h : x.Is σ u) (hs : SgLe σ σ') : x.Is σ' u := by
  cases x with
  | p k off => obtain ⟨b, h1, h2⟩ := h; exact ⟨b, hs _ _ h1, h2⟩
  | s k => exact ⟨hs _ _ h.1, h.2⟩
  | e k off => obtain ⟨b, n, c, h1, h2⟩ := h; exact ⟨b, n, c, hs _ _ h1, h2⟩
  | _ => exact h
theorem is_same {σ : Sg} {x : AV} {u u' : Value} (hx : x ≠ .junk) (h : x.Is σ u) (h' : x.Is σ u') : u = u' := by
  cases x with
  | v x => exact h.trans h'.symm
  | lit b => exact h.trans h'.symm
  | p k off =>
    obtain ⟨b, h1, h2⟩ := h
    obtain ⟨b', h1', h2'⟩ := h'
    rw [h1] at h1'
    cases h1'
    rw [h2, h2']
  | s k => exact Option.some.inj (h.1.symm.trans h'.1)
  | e k off =>
    obtain ⟨b, n, c, h1, h2⟩ := h
    obtain ⟨b', n', c', h1', h2'⟩ := h'
    rw [h1] at h1'
    cases h1'
    rw [h2, h2']
  | junk => exact absurd rfl hx

structure FrIs (σ : Sg) (fr : List AV) (tmps : Array Value) : Prop where
  len : fr.length = tmps.size
  at_ : ∀ (i : Nat) (x : AV), fr[i]? = some x → ∃ u, tmps[i]? = some u ∧ x.Is σ u
theorem FrIs.grow {σ σ' : Sg} {fr : List AV} {tmps : Array Value} (h : FrIs σ fr tmps) (hs : SgLe σ σ') : FrIs σ' fr tmps :=
  ⟨h.len, fun i x hx => let ⟨u, h1, h2⟩ := h.at_ i x hx; ⟨u, h1, h2.grow hs⟩⟩
theorem FrIs.put {σ : Sg} {fr : List AV} {a : Act} {x : AV} {u : Value} (h : FrIs σ fr a.tmps) (hx : x.Is σ u) (d : Option Tmp) : FrIs σ (putL d fr x) (a.put d u).tmps := by
  cases d with
  | none => exact h
  | some d =>
    refine ⟨by simp only [putL, setL_eq, List.length_set, put_size]; exact h.len, fun i y hy => ?_⟩
    simp only [putL, setL_eq, List.getElem?_set] at hy
    by_cases hd : d = i
    · subst hd
      have hlt : d < fr.length := by
        simp only [if_true] at hy
        split at hy
        · assumption
        · cases hy
      simp only [if_true, hlt] at hy
      obtain rfl : x = y := Option.some.inj hy
      exact ⟨u, put_self (by rw [← h.len]; exact hlt), hx⟩
    · rw [if_neg hd] at hy
      obtain ⟨u', h1, h2⟩ := h.at_ i y hy
      exact ⟨u', by rw [put_other (fun e => hd (Option.some.inj e))]; exact h1, h2⟩

/-- What a block of the call's own holds. -/
def BlkIs (base : Nat) (w : World) (σ : Sg) (v : Value) : Blk → Prop
  | .cells l => ∃ b xs T, v = .pointer (some ⟨b, 0, none⟩) ∧ w.heap[b]? = some (.cells xs T (0, 0)) ∧ FrIs σ l xs
  | .row T z n xs => w.ownsRow base T z v n xs ∧ ∀ u ∈ xs, u.oneCell' = true
  | .dead => True
/-- The block that a name names. -/
def blkOf : Value → Option Nat
  | .pointer (some a) => some a.block
  | .slice (some a) _ _ => some a.block
  | _ => none
theorem ownBlock_blkOf {v : Value} {b : Nat} (h : v.ownBlock = some b) : blkOf v = some b := by
  cases v <;> simp [Value.ownBlock] at h
  rename_i a n c
  cases a <;> simp [Value.ownBlock] at h
  exact congrArg some h
theorem blkOf_row {w : World} {base : Nat} {T : TypeId} {z n : Nat} {v : Value} {xs : List Value} (h : w.ownsRow base T z v n xs) {b : Nat} (hb : blkOf v = some b) : v.ownBlock = some b := by
  rcases h.2 with ⟨rfl, _⟩ | ⟨g, cap, cur, rfl, _⟩
  · cases hb
  · exact hb

/-- The call's own blocks, and the facts, in a world. -/
structure Mem (base : Nat) (F : Facts) (σ : Sg) (own : List Blk) (w : World) : Prop where
  blk : ∀ (k : Nat) (b : Blk) (v : Value), own[k]? = some b → σ k = some v → BlkIs base w σ v b
  lt : ∀ (k : Nat) (v : Value) (b : Nat), σ k = some v → blkOf v = some b → b < w.heap.size
  sat : Sat F w
theorem BlkIs.same {base : Nat} {w w' : World} {σ : Sg} {v : Value} {b : Blk} (h : BlkIs base w σ v b) (hb : ∀ i, blkOf v = some i → w'.heap[i]? = w.heap[i]?) : BlkIs base w' σ v b := by
  cases b with
  | cells l =>
    obtain ⟨i, xs, T, rfl, h2, h3⟩ := h
    exact ⟨i, xs, T, rfl, by rw [hb i rfl]; exact h2, h3⟩
  | row T z n xs =>
    obtain ⟨⟨h1, h2⟩, h3⟩ := h
    refine ⟨⟨h1, ?_⟩, h3⟩
    rcases h2 with h2 | ⟨g, cap, cur, rfl, hbg, hg, r⟩
    · exact .inl h2
    · exact .inr ⟨g, cap, cur, rfl, hbg, by rw [hb g rfl]; exact hg, r⟩
  | dead => trivial
theorem Mem.below {base : Nat} {F : Facts} {σ : Sg} {own : List Blk} {w w' : World} (h : Mem base F σ own w) (hb : Below w.heap.size w w') : Mem base F σ own w' := by
  refine ⟨fun k b v hk hv => (h.blk k b v hk hv).same fun i hi => hb.block i (h.lt k v i hv hi), fun k v b hv hi => Nat.lt_of_lt_of_le (h.lt k v b hv hi) hb.size, fun b o x hx => ?_⟩
  have hc := h.sat b o x hx
  rw [hb.cell (p := ⟨b, o, none⟩) (block_lt_of_cell hc)]; exact hc

variable {P : Program} {F : Facts} {σ : Sg} {fr : List AV} {own : List Blk} {a : Act} {o : Oper} {base : Nat}

/-- What is known of the operands that an operation looks at. -/
def OpIs (σ : Sg) (fr : List AV) (a : Act) (o : Oper) : Prop := ∀ x ∈ o.op.operands, ∀ y, ev fr x = some y → y.Is σ (a.eval x)

theorem ev_is (h : FrIs σ fr a.tmps) {x : Operand} {y : AV} (hy : ev fr x = some y) : y.Is σ (a.eval x) := by
  cases x with
  | tmp t =>
    simp only [ev, nth_eq] at hy
    obtain ⟨u, h1, h2⟩ := h.at_ t y hy
    have : a.eval (.tmp t) = u := by simp [Act.eval, h1]
    rw [this]; exact h2
  | const v => cases v <;> simp only [ev, Option.some.injEq] at hy <;> subst hy <;> rfl
  | global g => simp only [ev, Option.some.injEq] at hy; subst hy; rfl
  | func f => simp only [ev, Option.some.injEq] at hy; subst hy; rfl
theorem FrIs.op (h : FrIs σ fr a.tmps) (o : Oper) : OpIs σ fr a o := fun _ _ _ hy => ev_is h hy
theorem isx_eq {x : Operand} (h : ∀ y, ev fr x = some y → y.Is σ (a.eval x)) (hx : isx fr x = true) : a.eval x = evx fr x := by
  unfold isx at hx
  unfold evx
  cases he : ev fr x with
  | none => simp [he] at hx
  | some y =>
    have := h y he
    cases y <;> simp [he] at hx ⊢ <;> exact this

theorem exact_exec (h : OpIs σ fr a o) (hs : ∀ cs b, o.op ≠ .select cs b) (hx : o.op.operands.toList.all (isx fr) = true) : execOp a.eval o = execOp (evx fr) o :=
  execOp_congr o hs fun x hx' => isx_eq (h x hx') (List.all_eq_true.1 hx x (by simpa using hx'))

/-- What an operation that leaves the world as it is yields. -/
def Yld (P : Program) (base : Nat) (F : Facts) (own : List Blk) (o : Oper) (σ : Sg) (a : Act) (x : AV) : Prop :=
  ∃ u, x.Is σ u ∧ ∀ W, Mem base F σ own W → calmAt P o a W u

theorem calm_value {u : Value} {W : World} (h : (execOp a.eval o).run P W = .ok (.value u) W) : calmAt P o a W u := by
  unfold calmAt; rw [h]; exact ⟨rfl, rfl⟩

theorem exactK_sound {K : AV → Prop} (h : exactK P F o fr K) : ∃ x, K x ∧ x ≠ .junk ∧ ∀ base σ a, OpIs σ fr a o → Yld P base F own o σ a x := by
  unfold exactK at h
  split at h
  · rename_i hx0
    simp only [Bool.and_eq_true, Bool.not_eq_true'] at hx0
    have hx := hx0.2
    have hs : ∀ cs b, o.op ≠ .select cs b := fun cs b he => by rw [he] at hx0; simp [isSel] at hx0
    split at h
    · rename_i u hu
      rw [forceV_eq] at h
      exact ⟨_, h, by simp, fun base σ a hfr => ⟨u, rfl, fun W _ => calm_value (by rw [exact_exec hfr hs hx, ← execX_eq]; exact pureRun_run P _ hu W)⟩⟩
    · rename_i hu
      refine ⟨_, h, by simp, fun base σ a hfr => ⟨undef, rfl, fun W _ => ?_⟩⟩
      unfold calmAt
      rw [exact_exec hfr hs hx, ← execX_eq, pureRun_run P _ hu W]
      exact ⟨rfl, rfl⟩
    · rename_i f args hu
      rw [forceL_eq] at h
      have fin : ∀ v, (∀ W, Sat F W → Calls P f args W fun e w' => e = .returned v ∧ Below W.heap.size W w') → K (.v v) → ∃ x, K x ∧ x ≠ .junk ∧ ∀ base σ a, OpIs σ fr a o → Yld P base F own o σ a x := fun v hd hv => by
        refine ⟨_, hv, by simp, fun base σ a hfr => ⟨v, rfl, fun W hM => ?_⟩⟩
        unfold calmAt
        rw [exact_exec hfr hs hx, ← execX_eq, pureRun_run P _ hu W]
        exact ⟨rfl, hd W hM.sat⟩
      rcases h with ⟨v, hd, hv⟩ | ⟨v, hd, hv⟩
      · rw [forceV_eq] at hv
        exact fin v (fun W hF => by simpa using hd.out W hF) hv
      · rw [forceV_eq] at hv
        exact fin v (fun W hF => by simpa using hd.out W (fun _ _ _ h => by cases h)) hv
    · exact h.elim
  · exact h.elim

theorem run_isAgg {t : TypeId} {b : Bool} (h : aggT P t = some b) (w : World) : (isAgg t).run P w = .ok b w := by
  unfold aggT at h
  unfold isAgg
  cases hd : P.underlying t with
  | none => rw [hd] at h; cases h
  | some d =>
    rw [hd] at h
    have := run_underlying hd w
    simp only [Sem.run_bind, this, Result.andThen_ok]
    cases d <;> simp at h <;> subst h <;> rfl

end Go.Proofs.Ytiefoahdikmilaa
