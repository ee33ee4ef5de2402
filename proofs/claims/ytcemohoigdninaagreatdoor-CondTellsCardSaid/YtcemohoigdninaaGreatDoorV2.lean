/- What the evaluation says of one operation that leaves the world as it is holds of it (first part). No condition. -/
import Derived.Test.YtcemohoigdninaaGreatDoorV1
import Derived.Laws.Cells
import Derived.Laws.CopyOwn
import Derived.Laws.OwnMore
namespace Go.Proofs.YtcemohoigdninaaGreatDoor
open Go Go.RowKit Go.Sort
set_option linter.unusedVariables false
set_option linter.unusedSimpArgs false

theorem nth_eq {α : Type} : ∀ (l : List α) (n : Nat), nth l n = l[n]?
  | [], n => by simp [nth]
  | _ :: _, 0 => by simp [nth]
  | _ :: l, n + 1 => by simp [nth, nth_eq l n]
theorem setL_eq {α : Type} (x : α) : ∀ (l : List α) (n : Nat), setL l n x = l.set n x
  | [], n => by simp [setL]
  | _ :: _, 0 => by simp [setL]
  | _ :: l, n + 1 => by simp [setL, setL_eq x l n]
theorem setK_eq {α : Type} (x : α) : ∀ (l : List α) (n : Nat) (K : List α → Prop), setK l n x K = K (l.set n x)
  | [], n, K => by simp [setK]
  | _ :: _, 0, K => by simp [setK]
  | _ :: l, n + 1, K => by simp [setK, setK_eq x l n]
theorem putK_eq (d : Option Tmp) (fr : List AV) (x : AV) (K : List AV → Prop) : putK d fr x K = K (putL d fr x) := by
  cases d <;> simp [putK, putL, setK_eq, setL_eq]
theorem forceL_eq : ∀ (l : List Value) (K : List Value → Prop), forceL l K = K l
  | [], K => by simp [forceL]
  | x :: l, K => by cases x <;> simp [forceL, forceL_eq l]
theorem forceV_eq (x : Value) (K : Value → Prop) : forceV x K = K x := by
  cases x <;> simp [forceV, forceL_eq]
theorem dropL_eq {α : Type} : ∀ (l : List α) (n : Nat), dropL l n = l.drop n
  | l, 0 => by simp [dropL]
  | [], n + 1 => by simp [dropL]
  | _ :: l, n + 1 => by simp [dropL, dropL_eq l n]
theorem lenK_eq {α : Type} : ∀ (l : List α) (n : Nat) (K : Nat → Prop), lenK l n K = K (l.length + n)
  | [], n, K => by simp [lenK]
  | _ :: l, n, K => by simp [lenK, lenK_eq l, Nat.add_assoc, Nat.add_comm 1 n]
theorem appK_eq {α : Type} (x : α) : ∀ (l : List α) (K : List α → Prop), appK l x K = K (l ++ [x])
  | [], K => by simp [appK]
  | _ :: l, K => by simp [appK, appK_eq x l]
theorem mapvK_eq : ∀ (l : List Value) (K : List AV → Prop), mapvK l K = K (l.map .v)
  | [], K => by simp [mapvK]
  | _ :: l, K => by simp [mapvK, mapvK_eq l]

theorem pureRun_run {α : Type} (P : Program) : ∀ (s : Sem α) {v : α}, pureRun P s = some v → ∀ w, s.run P w = .ok v w := by
  intro s
  induction s with
  | pure a => intro v h w; simp [pureRun] at h; subst h; rfl
  | program k ih => intro v h w; exact ih P h w
  | mark m k ih => intro v h w; exact ih h w
  | _ => intro v h; simp [pureRun] at h

/-- More is named. -/
def SgLe (σ σ' : Sg) : Prop := ∀ k m, σ k = some m → σ' k = some m
theorem SgLe.refl (σ : Sg) : SgLe σ σ := fun _ _ h => h
theorem SgLe.trans {σ σ' σ'' : Sg} (h : SgLe σ σ') (k : SgLe σ' σ'') : SgLe σ σ'' := fun i m hi => k i m (h i m hi)
theorem AV.Is.grow {σ σ' : Sg} {x : AV} {u : Value} (h : x.Is σ u) (hs : SgLe σ σ') : x.Is σ' u := by
  cases x with
  | p k off => obtain ⟨m, b, h1, h2⟩ := h; exact ⟨m, b, hs _ _ h1, h2⟩
  | s k => obtain ⟨m, h1, h2⟩ := h; exact ⟨m, hs _ _ h1, h2⟩
  | e k off => obtain ⟨m, b, n, c, h1, h2⟩ := h; exact ⟨m, b, n, c, hs _ _ h1, h2⟩
  | sub k off n => obtain ⟨m, ad, c, h1, h2⟩ := h; exact ⟨m, ad, c, hs _ _ h1, h2⟩
  | t k => obtain ⟨m, h1, h2⟩ := h; exact ⟨m, hs _ _ h1, h2⟩
  | _ => exact h
theorem FrIs.grow {σ σ' : Sg} {fr : List AV} {tmps : Array Value} (h : FrIs σ fr tmps) (hs : SgLe σ σ') : FrIs σ' fr tmps :=
  ⟨h.len, fun i x hx => let ⟨u, h1, h2⟩ := h.at_ i x hx; ⟨u, h1, h2.grow hs⟩⟩
theorem FrIs.put {σ : Sg} {fr : List AV} {a : Act} {x : AV} {u : Value} (h : FrIs σ fr a.tmps) (hx : x.Is σ u) (d : Option Tmp) : FrIs σ (putL d fr x) (a.put d u).tmps := by
  cases d with
  | none => exact h
  | some d =>
    refine ⟨by simp only [putL, setL_eq, List.length_set, put_size]; exact h.len, fun i y hy => ?_⟩
    simp only [putL, setL_eq, List.getElem?_set] at hy
    by_cases hd : d = i
    · subst hd
      have hlt : d < fr.length := by
        simp only [if_true] at hy
        split at hy
        · assumption
        · cases hy
      simp only [if_true, hlt] at hy
      obtain rfl : x = y := Option.some.inj hy
      exact ⟨u, put_self (by rw [← h.len]; exact hlt), hx⟩
    · rw [if_neg hd] at hy
      obtain ⟨u', h1, h2⟩ := h.at_ i y hy
      exact ⟨u', by rw [put_other (fun e => hd (Option.some.inj e))]; exact h1, h2⟩

theorem BlkIs.same {base : Nat} {F : Facts} {w w' : World} {σ : Sg} {m : Nm} {b : Blk} (h : BlkIs base F w σ m b) (hlt : ∀ i, m.fp i → i < w.heap.size) (hb : ∀ i, m.fp i → w'.heap[i]? = w.heap[i]?) : BlkIs base F w' σ m b := by
  cases b with
  | cells l =>
    obtain ⟨i, xs, T, h1, h2, h3, h4⟩ := h
    exact ⟨i, xs, T, h1, by rw [hb i ((h4 i).2 rfl)]; exact h2, h3, h4⟩
  | row T z n xs =>
    obtain ⟨⟨⟨h1, h2⟩, h3⟩, h4⟩ := h
    refine ⟨⟨⟨h1, ?_⟩, h3⟩, h4⟩
    rcases h2 with h2 | ⟨g, cap, cur, hv, hbg, hg, r⟩
    · exact .inl h2
    · exact .inr ⟨g, cap, cur, hv, hbg, by rw [hb g ((h4 g).2 (by rw [hv]; rfl))]; exact hg, r⟩
  | comp tup l => exact h
  | map es =>
    obtain ⟨r, es', cl, h1, h2, h3, h4⟩ := h
    exact ⟨r, es', cl, h1, by rw [hb r ((h4 r).2 rfl)]; exact h2, h3, h4⟩
  | obj p => exact fun G hF hG => h G hF fun b o x hf hc => hG b o x hf (by rw [World.cell?_of_block (w := w) (w' := w') (a := ⟨b, o, none⟩) (hb b hf)]; exact hc)
  | dead => trivial
theorem BlkIs.grow {base : Nat} {F : Facts} {w : World} {σ σ' : Sg} {m : Nm} {b : Blk} (h : BlkIs base F w σ m b) (hs : SgLe σ σ') : BlkIs base F w σ' m b := by
  cases b with
  | cells l => obtain ⟨b, xs, T, h1, h2, h3, h4⟩ := h; exact ⟨b, xs, T, h1, h2, h3.grow hs, h4⟩
  | comp tup l => obtain ⟨vs, h1, h2⟩ := h; exact ⟨vs, h1, h2.grow hs⟩
  | row T z n xs => exact h
  | map es => exact h
  | obj p => exact h
  | dead => trivial
theorem BlkIs.rebase {base base' : Nat} {F F' : Facts} {w : World} {σ : Sg} {m : Nm} {b : Blk} (h : BlkIs base F w σ m b) (hb : base' ≤ base) (hF : ∀ b o x, F b o x → F' b o x) : BlkIs base' F' w σ m b := by
  cases b with
  | row T z n xs =>
    obtain ⟨⟨⟨h1, h2⟩, h3⟩, h4⟩ := h
    refine ⟨⟨⟨h1, ?_⟩, h3⟩, h4⟩
    rcases h2 with h2 | ⟨g, cap, cur, hv, hbg, r⟩
    · exact .inl h2
    · exact .inr ⟨g, cap, cur, hv, Nat.le_trans hb hbg, r⟩
  | obj p => exact fun G h1 h2 => h G (fun b o x hx => h1 b o x (hF b o x hx)) h2
  | cells l => exact h
  | comp tup l => exact h
  | map es => exact h
  | dead => trivial
theorem Sat.lt {F : Facts} {w : World} (h : Sat F w) {b : Nat} (hb : F.at b) : b < w.heap.size := by
  rcases hb with ⟨o, x, hx⟩ | ⟨p, hp⟩
  · exact block_lt_of_cell (h.1 b o x hx)
  · obtain ⟨ob, h1, _⟩ := h.2 b p hp
    exact (Array.getElem?_eq_some_iff.1 h1).1
theorem Sat.stay {F : Facts} {w w' : World} (h : Sat F w) (hs : ∀ b, F.at b → w'.heap[b]? = w.heap[b]?) : Sat F w' := by
  refine ⟨fun b o x hx => ?_, fun b p hp => ?_⟩
  · rw [World.cell?_of_block (w := w) (w' := w') (a := ⟨b, o, none⟩) (hs b (.inl ⟨o, x, hx⟩))]; exact h.1 b o x hx
  · rw [hs b (.inr ⟨p, hp⟩)]; exact h.2 b p hp
theorem Mem.below {base : Nat} {F : Facts} {σ : Sg} {own : List Blk} {w w' : World} (h : Mem base F σ own w) (hb : Below w.heap.size w w') : Mem base F σ own w' := by
  refine ⟨fun k b m hk hm => (h.blk k b m hk hm).same (fun i hi => h.lt k m i hm hi) fun i hi => hb.block i (h.lt k m i hm hi), fun k m b hm hi => Nat.lt_of_lt_of_le (h.lt k m b hm hi) hb.size, h.sat.stay fun b hb' => hb.block b (h.sat.lt hb')⟩

variable {P : Program} {F : Facts} {σ : Sg} {fr : List AV} {own : List Blk} {a : Act} {o : Oper} {base : Nat}

/-- What is known of the operands that an operation looks at. -/
def OpIs (σ : Sg) (fr : List AV) (a : Act) (o : Oper) : Prop := ∀ x ∈ o.op.operands, ∀ y, ev fr x = some y → y.Is σ (a.eval x)

theorem ev_is (h : FrIs σ fr a.tmps) {x : Operand} {y : AV} (hy : ev fr x = some y) : y.Is σ (a.eval x) := by
  cases x with
  | tmp t =>
    simp only [ev, nth_eq] at hy
    obtain ⟨u, h1, h2⟩ := h.at_ t y hy
    have : a.eval (.tmp t) = u := by simp [Act.eval, h1]
    rw [this]; exact h2
  | const v => cases v <;> simp only [ev, Option.some.injEq] at hy <;> subst hy <;> rfl
  | global g => simp only [ev, Option.some.injEq] at hy; subst hy; rfl
  | func f => simp only [ev, Option.some.injEq] at hy; subst hy; rfl
theorem FrIs.op (h : FrIs σ fr a.tmps) (o : Oper) : OpIs σ fr a o := fun _ _ _ hy => ev_is h hy
theorem isx_eq {x : Operand} (h : ∀ y, ev fr x = some y → y.Is σ (a.eval x)) (hx : isx fr x = true) : a.eval x = evx fr x := by
  unfold isx at hx
  unfold evx
  cases he : ev fr x with
  | none => simp [he] at hx
  | some y =>
    have := h y he
    cases y <;> simp [he] at hx ⊢ <;> exact this

theorem exact_exec (h : OpIs σ fr a o) (hs : ∀ cs b, o.op ≠ .select cs b) (hx : o.op.operands.toList.all (isx fr) = true) : execOp a.eval o = execOp (evx fr) o :=
  execOp_congr o hs fun x hx' => isx_eq (h x hx') (List.all_eq_true.1 hx x (by simpa using hx'))

/-- What an operation leaves behind: its value, and things laid anew, to be named from n on. -/
def Lays (base : Nat) (F : Facts) (σ : Sg) (n : Nat) (X : AV) (bs : List Blk) (W : World) (u : Value) (W' : World) : Prop :=
  Below W.heap.size W W' ∧ ∃ ν : Nat → Nm, (∀ i, i < bs.length → ∀ b, (ν i).fp b → W.heap.size ≤ b ∧ b < W'.heap.size) ∧ (∀ i j, i < bs.length → j < bs.length → ∀ b, (ν i).fp b → (ν j).fp b → i = j) ∧
    ∀ σ', SgLe σ σ' → (∀ i, i < bs.length → σ' (n + i) = some (ν i)) → X.Is σ' u ∧ ∀ i b, bs[i]? = some b → BlkIs base F W' σ' (ν i) b
/-- An operation that comes to that, from this world on. -/
def DoesAt (P : Program) (base : Nat) (F : Facts) (σ : Sg) (n : Nat) (X : AV) (bs : List Blk) (W : World) : Result Next → Prop
  | .ok (.value u) W' => Lays base F σ n X bs W u W'
  | .ok .skip W' => Lays base F σ n X bs W undef W'
  | .ok (.enter f args) W' => W' = W ∧ Calls P f args W fun e w' => ∃ u, e = .returned u ∧ Lays base F σ n X bs W u w'
  | _ => False
/-- It comes to that in whatever world has the things. -/
def Does (P : Program) (base : Nat) (F : Facts) (own : List Blk) (n : Nat) (o : Oper) (σ : Sg) (a : Act) (X : AV) (bs : List Blk) : Prop :=
  ∀ W, base ≤ W.heap.size → Mem base F σ own W → DoesAt P base F σ n X bs W ((execOp a.eval o).run P W)

theorem lays_calm {n : Nat} {X : AV} {W W' : World} {u : Value} (hb : Below W.heap.size W W') (hu : ∀ σ', SgLe σ σ' → X.Is σ' u) : Lays base F σ n X [] W u W' :=
  ⟨hb, fun _ => ⟨undef, fun _ => False⟩, fun i hi => by simp at hi, fun i j hi => by simp at hi, fun σ' hs _ => ⟨hu σ' hs, fun i b hi => by simp at hi⟩⟩
theorem does_value {n : Nat} {X : AV} {W : World} {u : Value} (h : (execOp a.eval o).run P W = .ok (.value u) W) (hu : X.Is σ u) : DoesAt P base F σ n X [] W ((execOp a.eval o).run P W) := by
  rw [h]; exact lays_calm (Below.refl _ _) fun σ' hs => hu.grow hs

def FLe (F F' : Facts) : Prop := (∀ b o x, F b o x → F' b o x) ∧ ∀ b p, F.o b p → F'.o b p
theorem Sat.le {F F' : Facts} {W : World} (h : Sat F' W) (hF : FLe F F') : Sat F W := ⟨fun b o x hx => h.1 b o x (hF.1 b o x hx), fun b p hp => h.2 b p (hF.2 b p hp)⟩

theorem upA_is {n : Nat} {σ σ' : Sg} (hs : ∀ i m, σ i = some m → σ' (i + n) = some m) {x : AV} {u : Value} (h : x.Is σ u) : (upA n x).Is σ' u := by
  cases x with
  | p k off => obtain ⟨m, b, h1, h2⟩ := h; exact ⟨m, b, hs _ _ h1, h2⟩
  | s k => obtain ⟨m, h1, h2⟩ := h; exact ⟨m, hs _ _ h1, h2⟩
  | e k off => obtain ⟨m, b, c, d, h1, h2⟩ := h; exact ⟨m, b, c, d, hs _ _ h1, h2⟩
  | sub k off c => obtain ⟨m, ad, c, h1, h2⟩ := h; exact ⟨m, ad, c, hs _ _ h1, h2⟩
  | t k => obtain ⟨m, h1, h2⟩ := h; exact ⟨m, hs _ _ h1, h2⟩
  | v x => exact h
  | lit b => exact h
  | junk => trivial
theorem upA_fr {n : Nat} {σ σ' : Sg} (hs : ∀ i m, σ i = some m → σ' (i + n) = some m) {l : List AV} {us : Array Value} (h : FrIs σ l us) : FrIs σ' (l.map (upA n)) us :=
  ⟨by rw [List.length_map]; exact h.len, fun i y hy => by
    simp only [List.getElem?_map, Option.map_eq_some_iff] at hy
    obtain ⟨x, hx, rfl⟩ := hy
    obtain ⟨u, h1, h2⟩ := h.at_ i x hx
    exact ⟨u, h1, upA_is hs h2⟩⟩
theorem upB_is {n base : Nat} {w : World} {σ σ' : Sg} (hs : ∀ i m, σ i = some m → σ' (i + n) = some m) {m : Nm} {b : Blk} (h : BlkIs base F w σ m b) : BlkIs base F w σ' m (upB n b) := by
  cases b with
  | cells l => obtain ⟨b, xs, T, h1, h2, h3, h4⟩ := h; exact ⟨b, xs, T, h1, h2, upA_fr hs h3, h4⟩
  | comp tup l => obtain ⟨vs, h1, h2⟩ := h; exact ⟨vs, h1, upA_fr hs h2⟩
  | row T z n xs => exact h
  | map es => exact h
  | obj p => exact h
  | dead => trivial
theorem upAK_eq (n : Nat) : ∀ (l : List AV) (K : List AV → Prop), upAK n l K = K (l.map (upA n))
  | [], K => rfl
  | x :: l, K => by cases x <;> simp only [upAK, upA, List.map_cons, upAK_eq n l]
theorem upBK_eq (n : Nat) : ∀ (l : List Blk) (K : List Blk → Prop), upBK n l K = K (l.map (upB n))
  | [], K => rfl
  | x :: l, K => by cases x <;> simp only [upBK, upB, List.map_cons, upBK_eq n l, upAK_eq]

/-- A call that returns fresh things. -/
theorem denF_lays {f : FuncId} {F' : Facts} {args : List AR} {res : List AV} {bs : List Blk} {K : AV → List Blk → Prop} {n : Nat} (h : DenF P f F' args res bs) (hF : FLe F' F) (k : freshResK n res bs K) :
    ∃ X bs', K X bs' ∧ ∀ base us σ W, base ≤ W.heap.size → Sat F W → ArsAre W args us → Calls P f us.toArray W fun e w' => ∃ u, e = .returned u ∧ Lays base F σ n X bs' W u w' := by
  have key : ∀ (X : AV) (tl : List Blk), (∀ (base : Nat) (σ1 : Sg) (vs : List Value) (ν : Nat → Nm), FrIs σ1 res vs.toArray → (∀ i, bs.length ≤ i → i < bs.length + tl.length → ν i = ⟨retV vs, fun _ => False⟩) → ∀ σ' : Sg, (∀ i m, σ1 i = some m → σ' (i + n) = some m) → (∀ i, i < bs.length + tl.length → σ' (n + i) = some (ν i)) → X.Is σ' (retV vs) ∧ ∀ w' i b, tl[i]? = some b → BlkIs base F w' σ' (ν (bs.length + i)) b) → 
      ∀ base us σ W, base ≤ W.heap.size → Sat F W → ArsAre W args us → Calls P f us.toArray W fun e w' => ∃ u, e = .returned u ∧ Lays base F σ n X (bs.map (upB n) ++ tl) W u w' := by
    intro X tl hX base us σ W hbase hsat hus
    refine (h.out W us (hsat.le hF) hus).mono ?_
    rintro e w' ⟨σ1, vs, rfl, hR, hall, hres⟩
    refine ⟨_, rfl, hR.below, fun i => if i < bs.length then (σ1 i).getD ⟨undef, fun _ => False⟩ else ⟨retV vs, fun _ => False⟩, fun i hi b hb => ?_, fun i j hi hj b hb hb' => ?_, fun σ' hs hν => ?_⟩
    · by_cases hib : i < bs.length
      · simp only [if_pos hib] at hb
        obtain ⟨m, hm⟩ := Option.ne_none_iff_exists'.1 (hall i hib)
        rw [hm, Option.getD_some] at hb
        exact ⟨hR.ge i m b hm hb, hR.mem.lt i m b hm hb⟩
      · simp only [if_neg hib] at hb
    · by_cases hib : i < bs.length
      · by_cases hjb : j < bs.length
        · simp only [if_pos hib] at hb
          simp only [if_pos hjb] at hb'
          obtain ⟨m, hm⟩ := Option.ne_none_iff_exists'.1 (hall i hib)
          obtain ⟨m', hm'⟩ := Option.ne_none_iff_exists'.1 (hall j hjb)
          rw [hm, Option.getD_some] at hb
          rw [hm', Option.getD_some] at hb'
          exact hR.inj i j m m' b hm hm' hb hb'
        · simp only [if_neg hjb] at hb'
      · simp only [if_neg hib] at hb
    · have hlen : (bs.map (upB n) ++ tl).length = bs.length + tl.length := by simp
      have hup : ∀ i m, σ1 i = some m → σ' (i + n) = some m := fun i m hm => by
        have hib := hR.dom i m hm
        have := hν i (by rw [hlen]; omega)
        simp only [if_pos hib, hm, Option.getD_some] at this
        rw [Nat.add_comm]; exact this
      obtain ⟨q1, q2⟩ := hX base σ1 vs _ hres (fun i hi hi' => if_neg (by omega)) σ' hup (fun i hi => hν i (by rw [hlen]; exact hi))
      refine ⟨q1, fun i b hb => ?_⟩
      by_cases hib : i < bs.length
      · rw [List.getElem?_append_left (by simpa using hib), List.getElem?_map, Option.map_eq_some_iff] at hb
        obtain ⟨b0, hb0, rfl⟩ := hb
        simp only [if_pos hib]
        obtain ⟨m, hm⟩ := Option.ne_none_iff_exists'.1 (hall i hib)
        rw [hm, Option.getD_some]
        exact upB_is hup ((hR.mem.blk i b0 m hb0 hm).rebase hbase hF.1)
      · rw [List.getElem?_append_right (by simpa using hib)] at hb
        have := q2 w' (i - bs.length) b (by simpa using hb)
        rwa [show bs.length + (i - bs.length) = i by omega] at this
  unfold freshResK at k
  rw [upBK_eq] at k
  split at k
  · rename_i x
    rw [upAK_eq] at k
    simp only [List.map_cons, List.map_nil] at k
    refine ⟨_, _, k, fun base us σ W hb hs hu => ?_⟩
    have := key (upA n x) [] (fun base σ1 vs ν hres _ σ' hup _ => ⟨?_, fun w' i b hi => by simp at hi⟩) base us σ W hb hs hu
    · simpa using this
    · have hl := hres.len
      match vs, hl with
      | [v], _ =>
        obtain ⟨u, h1, h2⟩ := hres.at_ 0 x rfl
        simp at h1
        subst h1
        exact upA_is hup h2
      | [], hl => simp at hl
      | _ :: _ :: _, hl => simp at hl
  · rename_i hne
    rw [upAK_eq, appK_eq] at k
    refine ⟨_, _, k, fun base us σ W hb hs hu => ?_⟩
    refine key (.t (bs.length + n)) [.comp true (res.map (upA n))] (fun base σ1 vs ν hres htl σ' hup hν => ?_) base us σ W hb hs hu
    have e := htl bs.length (Nat.le_refl _) (by simp)
    have hl := hres.len
    have hret : retV vs = .tuple vs.toArray := by
      match vs, hl with
      | [], _ => rfl
      | [v], hl =>
        match res, hl, hne with
        | [x], _, hne => exact absurd rfl (hne x)
        | [], hl, _ => simp at hl
        | _ :: _ :: _, hl, _ => simp at hl
      | _ :: _ :: _, _ => rfl
    refine ⟨⟨_, by rw [Nat.add_comm]; exact hν bs.length (by simp), by rw [e]⟩, fun w' i b hi => ?_⟩
    cases i with
    | zero =>
      simp at hi
      subst hi
      rw [Nat.add_zero, e]
      exact ⟨vs.toArray, hret, upA_fr hup hres⟩
    | succ i => simp at hi

theorem den_lays {f : FuncId} {us : List Value} {v : Value} {K : AV → List Blk → Prop} {n : Nat} (h : ∀ W, Sat F W → Calls P f us.toArray W fun e w' => e = .returned v ∧ Below W.heap.size W w') (k : forceV v fun v => K (.v v) []) :
    ∃ X bs', K X bs' ∧ ∀ base σ W, base ≤ W.heap.size → Sat F W → Calls P f us.toArray W fun e w' => ∃ u, e = .returned u ∧ Lays base F σ n X bs' W u w' := by
  rw [forceV_eq] at k
  exact ⟨_, _, k, fun base σ W hb hs => (h W hs).mono fun e w' ⟨he, hw⟩ => ⟨v, he, lays_calm hw fun _ _ => rfl⟩⟩

theorem ars_vals (W : World) : ∀ (l : List Value), ArsAre W (l.map .v) l
  | [] => rfl
  | x :: l => ⟨x, l, rfl, rfl, ars_vals W l⟩
theorem noFacts_le (F : Facts) : FLe noFacts F := ⟨fun _ _ _ h => h.elim, fun _ _ h => h.elim⟩

/-- A call, exactly known: what it comes to. -/
theorem callN_lays {f : FuncId} {us : List Value} {K : AV → List Blk → Prop} {n : Nat} (h : CallN P f us F n K) :
    ∃ X bs', K X bs' ∧ ∀ base σ W, base ≤ W.heap.size → Sat F W → Calls P f us.toArray W fun e w' => ∃ u, e = .returned u ∧ Lays base F σ n X bs' W u w' := by
  rcases h with ⟨v, h, k⟩ | ⟨v, h, k⟩ | ⟨res, bs, h, k⟩ | ⟨res, bs, h, k⟩
  · exact den_lays (fun W hs => h.out W hs) k
  · exact den_lays (fun W hs => h.out W (hs.le (noFacts_le F))) k
  · obtain ⟨X, bs', h1, h2⟩ := denF_lays (F := F) h ⟨fun _ _ _ h => h, fun _ _ h => h⟩ k
    exact ⟨X, bs', h1, fun base σ W hb hs => h2 base us σ W hb hs (ars_vals W us)⟩
  · obtain ⟨X, bs', h1, h2⟩ := denF_lays (F := F) h (noFacts_le F) k
    exact ⟨X, bs', h1, fun base σ W hb hs => h2 base us σ W hb hs (ars_vals W us)⟩
/-- A call that is handed things: what it comes to. -/
theorem callA_lays {f : FuncId} {args : List AR} {K : AV → List Blk → Prop} {n : Nat} (h : CallA P f F args n K) :
    ∃ X bs', K X bs' ∧ ∀ base us σ W, base ≤ W.heap.size → Sat F W → ArsAre W args us → Calls P f us.toArray W fun e w' => ∃ u, e = .returned u ∧ Lays base F σ n X bs' W u w' := by
  have val : ∀ v, (∀ W us, Sat F W → ArsAre W args us → Calls P f us.toArray W fun e w' => e = .returned v ∧ Below W.heap.size W w') → (forceV v fun v => K (.v v) []) → ∃ X bs', K X bs' ∧ ∀ base us σ W, base ≤ W.heap.size → Sat F W → ArsAre W args us → Calls P f us.toArray W fun e w' => ∃ u, e = .returned u ∧ Lays base F σ n X bs' W u w' := fun v h k => by
    rw [forceV_eq] at k
    exact ⟨_, _, k, fun base us σ W hb hs hu => (h W us hs hu).mono fun e w' ⟨he, hw⟩ => ⟨v, he, lays_calm hw fun _ _ => rfl⟩⟩
  have fre : ∀ F' res bs, DenF P f F' args res bs → FLe F' F → freshResK n res bs K → ∃ X bs', K X bs' ∧ ∀ base us σ W, base ≤ W.heap.size → Sat F W → ArsAre W args us → Calls P f us.toArray W fun e w' => ∃ u, e = .returned u ∧ Lays base F σ n X bs' W u w' := fun F' res bs h hF k => by
    exact denF_lays h hF k
  rcases h with ⟨v, h, k⟩ | ⟨v, h, k⟩ | ⟨res, bs, h, k⟩ | ⟨res, bs, h, k⟩
  · exact val v (fun W us hs hu => h.out W us hs hu) k
  · exact val v (fun W us hs hu => h.out W us (hs.le (noFacts_le F)) hu) k
  · exact fre F res bs h ⟨fun _ _ _ h => h, fun _ _ h => h⟩ k
  · exact fre noFacts res bs h (noFacts_le F) k

/-- The form of what follows: what an operation yields, whatever world. -/
def ValS (P : Program) (F : Facts) (own : List Blk) (fr : List AV) (o : Oper) (K : AV → List Blk → Prop) : Prop :=
  ∃ X bs, K X bs ∧ ∀ base σ a, OpIs σ fr a o → Does P base F own own.length o σ a X bs

theorem exactK_sound {K : AV → List Blk → Prop} (h : exactK P F o fr own K) : ValS P F own fr o K := by
  unfold exactK at h
  split at h
  · rename_i hx0
    simp only [Bool.and_eq_true, Bool.not_eq_true'] at hx0
    have hx := hx0.2
    have hs : ∀ cs b, o.op ≠ .select cs b := fun cs b he => by rw [he] at hx0; simp [isSel] at hx0
    split at h
    · rename_i u hu
      rw [forceV_eq] at h
      exact ⟨_, _, h, fun base σ a hfr W _ _ => does_value (by rw [exact_exec hfr hs hx, ← execX_eq]; exact pureRun_run P _ hu W) rfl⟩
    · rename_i hu
      refine ⟨_, _, h, fun base σ a hfr W _ _ => ?_⟩
      rw [exact_exec hfr hs hx, ← execX_eq, pureRun_run P _ hu W]
      exact lays_calm (Below.refl _ _) fun _ _ => rfl
    · rename_i f args hu
      rw [forceL_eq, lenK_eq, Nat.add_zero] at h
      obtain ⟨X, bs, hK, hd⟩ := callN_lays h
      refine ⟨X, bs, hK, fun base σ a hfr W hb hM => ?_⟩
      rw [exact_exec hfr hs hx, ← execX_eq, pureRun_run P _ hu W]
      exact ⟨rfl, by simpa using hd base σ W hb hM.sat⟩
    · exact h.elim
  · exact h.elim

theorem run_isAgg {t : TypeId} {b : Bool} (h : aggT P t = some b) (w : World) : (isAgg t).run P w = .ok b w := by
  unfold aggT at h
  unfold isAgg
  cases hd : P.underlying t with
  | none => rw [hd] at h; cases h
  | some d =>
    rw [hd] at h
    have := run_underlying hd w
    simp only [Sem.run_bind, this, Result.andThen_ok]
    cases d <;> simp at h <;> subst h <;> rfl

end Go.Proofs.YtcemohoigdninaaGreatDoor
