/- What the evaluation says of a function's body holds of the function's calls. No condition but the closed checks that are named. -/
import Derived.Test.YthbhnbnlbhpooaaGreatDoorV6
import Derived.Deep.LoopGhost
import Derived.LoopN
import Derived.Scope
namespace Go.Proofs.YthbhnbnlbhpooaaGreatDoor
open Go Go.RowKit Go.Sort
set_option linter.unusedVariables false
set_option linter.unusedSimpArgs false

/-- What is known, told with less; 'g' tells of each new name which old one it is. -/
def leA (g : Nat → Option Nat) (x y : AV) : Prop :=
  match y with
  | .junk => True
  | .v u => match x with
    | .v u' => u' = u
    | .lit b => u = .bool b
    | _ => False
  | .lit b => match x with
    | .v u' => u' = .bool b
    | .lit b' => b' = b
    | _ => False
  | .p k off => match x with
    | .p k' off' => g k = some k' ∧ off' = off
    | _ => False
  | .s k => match x with
    | .s k' => g k = some k'
    | _ => False
  | .e k off => match x with
    | .e k' off' => g k = some k' ∧ off' = off
    | _ => False
  | .sub k off n => match x with
    | .sub k' off' n' => g k = some k' ∧ off' = off ∧ n' = n
    | _ => False
  | .t k => match x with
    | .t k' => g k = some k'
    | _ => False
def leL (g : Nat → Option Nat) : List AV → List AV → Prop
  | [], [] => True
  | x :: l, y :: m => leA g x y ∧ leL g l m
  | _, _ => False
def mapvL : List Value → List AV
  | [] => []
  | x :: l => .v x :: mapvL l
theorem mapvL_eq : ∀ (l : List Value), mapvL l = l.map .v
  | [] => rfl
  | x :: l => by simp [mapvL, mapvL_eq l]
def leB (g : Nat → Option Nat) (b c : Blk) : Prop :=
  match c with
  | .dead => True
  | .cells m => match b with
    | .cells l => leL g l m
    | _ => False
  | .comp tup m => match b with
    | .comp tup' l => tup' = tup ∧ leL g l m
    | _ => False
  | .row T z k xs => match b with
    | .row T' z' k' xs' => T' = T ∧ z' = z ∧ k' = k ∧ xs' = xs
    | _ => False
  | .map es => match b with
    | .map es' => es' = es
    | _ => False
  | .arr xs => match b with
    | .arr xs' => xs' = xs
    | .cells l => l = mapvL xs
    | _ => False
  | .clo f first m => match b with
    | .clo f' first' l => f' = f ∧ first' = first ∧ leL g l m
    | _ => False
  | .obj p => match b with
    | .obj p' => p' = p
    | _ => False
def leO (g : Nat → Option Nat) : List Blk → List Blk → Prop
  | _, [] => True
  | c :: l, d :: m => leB g c d ∧ leO g l m
  | _, _ => False
def idG (n k : Nat) : Option Nat :=
  match Nat.blt k n with
  | true => some k
  | false => none
def leS (fr : List AV) (own : List Blk) (fr' : List AV) (own' : List Blk) : Prop :=
  lenK own' 0 fun n => leL (idG n) fr fr' ∧ leO (idG n) own own'

def leM (g : Nat → Option Nat) (own : List Blk) : List Nat → List Blk → Prop
  | [], [] => True
  | k :: m, d :: l => (match nth own k with | some c => leB g c d | none => False) ∧ leM g own m l
  | _, _ => False
/-- The slots in the mask are forgotten. -/
def junkK (m : Nat) : List AV → Nat → (List AV → Prop) → Prop
  | [], _, K => K []
  | x :: l, i, K => match Nat.testBit m i with
    | true => junkK m l (i + 1) fun l => K (.junk :: l)
    | false => junkK m l (i + 1) fun l => K (x :: l)
def junkL (m : Nat) : List AV → Nat → List AV
  | [], _ => []
  | x :: l, i => match Nat.testBit m i with
    | true => .junk :: junkL m l (i + 1)
    | false => x :: junkL m l (i + 1)
theorem junkK_eq (m : Nat) : ∀ (l : List AV) (i : Nat) (K : List AV → Prop), junkK m l i K = K (junkL m l i)
  | [], i, K => rfl
  | x :: l, i, K => by
    unfold junkK junkL
    cases Nat.testBit m i <;> simp [junkK_eq m l]
def updL : List AV → List (Nat × AV) → List AV
  | fr, [] => fr
  | fr, (n, x) :: l => updL (setL fr n x) l
def forceA : List AV → (List AV → Prop) → Prop
  | [], K => K []
  | x :: l, K => match x with
    | .v u => forceA l fun l => K (.v u :: l)
    | .lit b => forceA l fun l => K (.lit b :: l)
    | .p k off => forceA l fun l => K (.p k off :: l)
    | .s k => forceA l fun l => K (.s k :: l)
    | .e k off => forceA l fun l => K (.e k off :: l)
    | .sub k off n => forceA l fun l => K (.sub k off n :: l)
    | .t k => forceA l fun l => K (.t k :: l)
    | .junk => forceA l fun l => K (.junk :: l)
/-- The same, told step by step. -/
def updK : List (Nat × AV) → List AV → (List AV → Prop) → Prop
  | [], fr, K => forceA fr K
  | (n, x) :: l, fr, K => setK fr n x fun fr => updK l fr K
theorem forceA_eq : ∀ (l : List AV) (K : List AV → Prop), forceA l K = K l
  | [], K => rfl
  | x :: l, K => by cases x <;> simp [forceA, forceA_eq l]
theorem updK_eq : ∀ (l : List (Nat × AV)) (fr : List AV) (K : List AV → Prop), updK l fr K = K (updL fr l)
  | [], fr, K => by rw [updK, forceA_eq]; rfl
  | (n, x) :: l, fr, K => by rw [updK, setK_eq, updK_eq l, updL, setL_eq]
/-- The slots that a piece of code writes. -/
def opWrites : List Oper → Nat
  | [] => 0
  | o :: l => match o.dst with
    | some d => 2 ^ d ||| opWrites l
    | none => opWrites l
def writes : Code → Nat
  | .region _ ops _ => opWrites ops.toList
  | .seq a b => writes a ||| writes b
  | .cond _ a b => writes a ||| writes b
  | .block _ c => writes c
  | .loop c => writes c
  | .scope c => writes c
  | _ => 0
inductive RoundN {α : Type} (fr0 : List AV) (s : α → List (Nat × AV)) (o : α → List Blk) (μ : α → Nat) (n : Nat) (fr : List AV) (own : List Blk) : Prop where
  | mk (y : α) (hlt : μ y < n) (hle : updK (s y) fr0 fun fr1 => leS fr own fr1 (o y)) : RoundN fr0 s o μ n fr own
  | via (m : List Nat) (hm : m.Nodup) (y : α) (hlt : μ y < n) (hl : updK (s y) fr0 fun fr1 => leL (nth m) fr fr1) (ho : leM (nth m) own m (o y)) : RoundN fr0 s o μ n fr own
/-- A loop that ends within so many rounds. -/
def rollK (body : List AV → List Blk → (Exit → List AV → List Blk → Prop) → Prop) (K : Exit → List AV → List Blk → Prop) : Nat → List AV → List Blk → Prop
  | 0, _, _ => False
  | n + 1, fr, own => body fr own fun e fr own => match e with
    | .normal => rollK body K n fr own
    | e => K e fr own
/-- A loop: the slots that it writes are told anew, by what is handed on from round to round. -/
inductive LoopN (W : Nat) (fr : List AV) (own : List Blk) (body : List AV → List Blk → (Exit → List AV → List Blk → Prop) → Prop) (K : Exit → List AV → List Blk → Prop) : Prop where
  | mk (α : Type) (s : α → List (Nat × AV)) (o : α → List Blk) (μ : α → Nat) (x : α) (h0 : junkK W fr 0 fun fr0 => updK (s x) fr0 fun fr1 => leS fr own fr1 (o x))
      (hr : junkK W fr 0 fun fr0 => ∀ x, updK (s x) fr0 fun fr1 => body fr1 (o x) fun e fr own => match e with
        | .normal => RoundN fr0 s o μ (μ x) fr own
        | e => K e fr own) : LoopN W fr own body K
  | roll (n : Nat) (h : rollK body K n fr own) : LoopN W fr own body K

/-- A branch that may come back: what follows may be told once for all ways. -/
def isIf : Code → Bool
  | .seq (.region _ _ _) (.cond _ _ _) => true
  | .seq (.region _ _ _) (.block _ _) => true
  | .cond _ _ _ => true
  | .block _ _ => true
  | _ => false
inductive EndN {α : Type} (fr0 : List AV) (s : α → List (Nat × AV)) (o : α → List Blk) (fr : List AV) (own : List Blk) : Prop where
  | mk (y : α) (hle : updK (s y) fr0 fun fr1 => leS fr own fr1 (o y)) : EndN fr0 s o fr own
  | via (m : List Nat) (hm : m.Nodup) (y : α) (hl : updK (s y) fr0 fun fr1 => leL (nth m) fr fr1) (ho : leM (nth m) own m (o y)) : EndN fr0 s o fr own
inductive SeqN (W : Nat) (A : List AV → List Blk → (Exit → List AV → List Blk → Prop) → Prop) (B : List AV → List Blk → Prop) (K : Exit → List AV → List Blk → Prop) : List AV → List Blk → Prop where
  | go {fr : List AV} {own : List Blk} (h : A fr own fun e fr own => match e with
      | .normal => B fr own
      | e => K e fr own) : SeqN W A B K fr own
  | cut {fr : List AV} {own : List Blk} (α : Type) (s : α → List (Nat × AV)) (o : α → List Blk) (hA : junkK W fr 0 fun fr0 => A fr own fun e fr own => match e with
      | .normal => EndN fr0 s o fr own
      | e => K e fr own) (hB : junkK W fr 0 fun fr0 => ∀ x, updK (s x) fr0 fun fr1 => B fr1 (o x)) : SeqN W A B K fr own
  | nil {fr : List AV} {own : List Blk} (t : Nat) (T : TypeId) (z : Nat) (hx : nth fr t = some (.v (.slice none 0 0))) (k : SeqN W A B K (fr.set t (.s own.length)) (own ++ [.row T z 0 []])) : SeqN W A B K fr own
  | part {fr : List AV} {own : List Blk} (t k : Nat) (T : TypeId) (z n : Nat) (xs : List Value) (hx : nth fr t = some (.s k)) (ho : nth own k = some (.row T z n xs)) (h : SeqN W A B K (fr.set t (.sub k 0 n)) own) : SeqN W A B K fr own

/-- A slice of the call's own that will be cut: it is told as a part of itself. -/
theorem SeqN.cutRow {W : Nat} {A : List AV → List Blk → (Exit → List AV → List Blk → Prop) → Prop} {B : List AV → List Blk → Prop} {K : Exit → List AV → List Blk → Prop} {fr : List AV} {own : List Blk} (t k : Nat) (T : TypeId) (z n : Nat) (xs : List Value) (hx : nth fr t = some (.s k)) (ho : nth own k = some (.row T z n xs))
    (h : setK fr t (.sub k 0 n) fun fr => SeqN W A B K fr own) : SeqN W A B K fr own := by
  rw [setK_eq] at h
  exact .part t k T z n xs hx ho h
/-- A nil slice that will grow: it is told as one of the call's own. -/
theorem SeqN.nilRow {W : Nat} {A : List AV → List Blk → (Exit → List AV → List Blk → Prop) → Prop} {B : List AV → List Blk → Prop} {K : Exit → List AV → List Blk → Prop} {fr : List AV} {own : List Blk} (t : Nat) (T : TypeId) (z : Nat) (hx : nth fr t = some (.v (.slice none 0 0)))
    (k : lenK own 0 fun n => appK own (.row T z 0 []) fun own => setK fr t (.s n) fun fr => SeqN W A B K fr own) : SeqN W A B K fr own := by
  rw [lenK_eq, appK_eq, setK_eq, Nat.add_zero] at k
  exact .nil t T z hx k

theorem SeqN.join {W : Nat} {A : List AV → List Blk → (Exit → List AV → List Blk → Prop) → Prop} {B : List AV → List Blk → Prop} {K : Exit → List AV → List Blk → Prop} {fr : List AV} {own : List Blk}
    (hA : junkK W fr 0 fun fr0 => A fr own fun e fr own' => match e with
      | .normal => EndN fr0 (fun (_ : Unit) => []) (fun _ => own) fr own'
      | e => K e fr own') (hB : junkK W fr 0 fun fr0 => B fr0 own) : SeqN W A B K fr own := by
  simp only [junkK_eq] at hA hB
  refine .cut Unit (fun _ => []) (fun _ => own) ?_ ?_
  · rw [junkK_eq]; exact hA
  · rw [junkK_eq]; intro _; rw [updK_eq]; exact hB

def codeK (P : Program) (F : Facts) : Code → List AV → List Blk → (Exit → List AV → List Blk → Prop) → Prop
  | .skip, fr, own, K => K .normal fr own
  | .region _ ops draw, fr, own, K => match draw with
    | false => opsK P F ops.toList ops.toList fr own fun fr own => K .normal fr own
    | true => DrawN (drawK P F ops.toList fr own fun fr own => K .normal fr own) (drawB P F true ops.toList fr own fun fr own => K .normal fr own) (drawB P F false ops.toList fr own fun fr own => K .normal fr own)
  | .seq a b, fr, own, K => match isIf a with
    | true => SeqN (writes a) (codeK P F a) (fun fr own => codeK P F b fr own K) K fr own
    | false => codeK P F a fr own fun e fr own => match e with
      | .normal => codeK P F b fr own K
      | e => K e fr own
  | .cond c a b, fr, own, K => match ev fr c with
    | some (.v (.bool t)) => Br t (codeK P F a fr own K) (codeK P F b fr own K)
    | some (.lit t) => match t with
      | true => codeK P F a fr own K
      | false => codeK P F b fr own K
    | _ => False
  | .block id c, fr, own, K => codeK P F c fr own fun e fr own => match e with
    | .exit id' => match decide (id' = id) with
      | true => K .normal fr own
      | false => K (.exit id') fr own
    | e => K e fr own
  | .loop c, fr, own, K => LoopN (writes c) fr own (codeK P F c) K
  | .exit id, fr, own, K => K (.exit id) fr own
  | .ret, fr, own, K => K .ret fr own
  | .label _, fr, own, K => K .normal fr own
  | .scope c, fr, own, K => codeK P F c fr own fun e fr own => match e with
    | .goto _ => False
    | e => K e fr own
  | _, _, _, _ => False

def padK : Nat → (List AV → Prop) → Prop
  | 0, K => K []
  | n + 1, K => padK n fun l => K (.v undef :: l)
def catK : List Value → List AV → (List AV → Prop) → Prop
  | [], l, K => K l
  | x :: xs, l, K => catK xs l fun l => K (.v x :: l)
def bodyK (P : Program) (F : Facts) (fn : Func) (args : List Value) (R : Value → Prop) : Prop :=
  match fn.body with
  | some c => padK (fn.ntmps - args.length) fun l => catK args l fun fr => codeK P F c fr [] fun e fr own => match e with
    | .normal => resK P fr own fn.results.toList fun l => R (retV l)
    | .ret => resK P fr own fn.results.toList fun l => R (retV l)
    | _ => False
  | none => False

theorem padK_eq : ∀ (n : Nat) (K : List AV → Prop), padK n K = K (List.replicate n (.v undef))
  | 0, K => rfl
  | n + 1, K => by simp [padK, padK_eq n, List.replicate_succ]
theorem catK_eq : ∀ (xs : List Value) (l : List AV) (K : List AV → Prop), catK xs l K = K (xs.map .v ++ l)
  | [], l, K => rfl
  | x :: xs, l, K => by simp [catK, catK_eq xs]

variable {P : Program} {F : Facts} {σ : Sg} {fr : List AV} {own : List Blk} {a : Act} {w0 w : World}

/-- New names for some of the old ones. -/
def Sg.via (σ : Sg) (g : Nat → Option Nat) : Sg := fun k => (g k).bind σ
theorem via_some {g : Nat → Option Nat} {k k' : Nat} (h : g k = some k') : σ.via g k = σ k' := by simp [Sg.via, h]
theorem leA_sound {g : Nat → Option Nat} {x y : AV} {u : Value} (h : leA g x y) (hx : x.Is σ u) : y.Is (σ.via g) u := by
  unfold leA at h
  cases y with
  | junk => trivial
  | v z =>
    cases x <;> simp only at h
    · subst h; exact hx
    · subst h; exact hx
  | lit b =>
    cases x <;> simp only at h
    · subst h; exact hx
    · subst h; exact hx
  | p k off =>
    cases x <;> simp only at h
    obtain ⟨h, rfl⟩ := h
    obtain ⟨m, b, h1, h2⟩ := hx
    exact ⟨m, b, by rw [via_some h]; exact h1, h2⟩
  | s k =>
    cases x <;> simp only at h
    obtain ⟨m, h1, h2⟩ := hx
    exact ⟨m, by rw [via_some h]; exact h1, h2⟩
  | e k off =>
    cases x <;> simp only at h
    obtain ⟨h, rfl⟩ := h
    obtain ⟨m, b, n, c, h1, h2⟩ := hx
    exact ⟨m, b, n, c, by rw [via_some h]; exact h1, h2⟩
  | sub k off n =>
    cases x <;> simp only at h
    obtain ⟨h, rfl, rfl⟩ := h
    obtain ⟨m, ad, c, h1, h2⟩ := hx
    exact ⟨m, ad, c, by rw [via_some h]; exact h1, h2⟩
  | t k =>
    cases x <;> simp only at h
    obtain ⟨m, h1, h2⟩ := hx
    exact ⟨m, by rw [via_some h]; exact h1, h2⟩
theorem leL_len {g : Nat → Option Nat} : ∀ (l m : List AV), leL g l m → l.length = m.length
  | [], [], _ => rfl
  | x :: l, y :: m, h => by simp [leL_len l m h.2]
  | [], _ :: _, h => h.elim
  | _ :: _, [], h => h.elim
theorem leL_at {g : Nat → Option Nat} : ∀ (l m : List AV), leL g l m → ∀ (i : Nat) (y : AV), m[i]? = some y → ∃ x, l[i]? = some x ∧ leA g x y
  | [], [], _, i, y, hy => by simp at hy
  | x :: l, z :: m, h, 0, y, hy => by simp at hy; subst hy; exact ⟨x, by simp, h.1⟩
  | x :: l, z :: m, h, i + 1, y, hy => by
    obtain ⟨x', h1, h2⟩ := leL_at l m h.2 i y (by simpa using hy)
    exact ⟨x', by simpa using h1, h2⟩
  | [], _ :: _, h, _, _, _ => h.elim
  | _ :: _, [], h, _, _, _ => h.elim
theorem leL_sound {g : Nat → Option Nat} {l m : List AV} {tmps : Array Value} (h : leL g l m) (hf : FrIs σ l tmps) : FrIs (σ.via g) m tmps :=
  ⟨(leL_len l m h).symm.trans hf.len, fun i y hy => by
    obtain ⟨x, h1, h2⟩ := leL_at l m h i y hy
    obtain ⟨u, h3, h4⟩ := hf.at_ i x h1
    exact ⟨u, h3, leA_sound h2 h4⟩⟩
theorem leB_sound {g : Nat → Option Nat} {base : Nat} {m : Nm} {c d : Blk} (h : leB g c d) (hB : BlkIs base F w σ m c) : BlkIs base F w (σ.via g) m d := by
  unfold leB at h
  cases d with
  | dead => trivial
  | cells l =>
    cases c <;> simp only at h
    obtain ⟨b, xs, T, r1, r2, r3, r4⟩ := hB
    exact ⟨b, xs, T, r1, r2, leL_sound h r3, r4⟩
  | comp tup l =>
    cases c <;> simp only at h
    obtain ⟨rfl, h⟩ := h
    obtain ⟨vs, r1, r2⟩ := hB
    exact ⟨vs, r1, leL_sound h r2⟩
  | clo f first l =>
    cases c <;> simp only at h
    obtain ⟨rfl, rfl, h⟩ := h
    obtain ⟨vs, r1, r2⟩ := hB
    exact ⟨vs, r1, leL_sound h r2⟩
  | arr xs =>
    cases c <;> simp only at h
    · subst h
      obtain ⟨b, ys, T, r1, r2, r3, r4⟩ := hB
      refine ⟨b, T, r1, ?_, r4⟩
      rw [r2]
      have e : ys = xs.toArray := by
        rw [mapvL_eq] at r3
        have hl := r3.len
        apply Array.ext'
        apply List.ext_getElem?
        intro i
        by_cases hi : i < xs.length
        · obtain ⟨u, k1, k2⟩ := r3.at_ i (.v xs[i]) (by simp [hi])
          obtain rfl : u = xs[i] := k2
          rw [Array.getElem?_toList, k1]; simp [hi]
        · rw [List.getElem?_eq_none (by simp at hl ⊢; omega), List.getElem?_eq_none (by simp; omega)]
      rw [e]
    · subst h; exact hB
  | row T z k xs =>
    cases c <;> simp only at h
    obtain ⟨rfl, rfl, rfl, rfl⟩ := h
    exact hB
  | map es =>
    cases c <;> simp only at h
    subst h
    exact hB
  | obj p =>
    cases c <;> simp only at h
    subst h
    exact hB
theorem leO_at {g : Nat → Option Nat} : ∀ (l m : List Blk), leO g l m → ∀ (i : Nat) (d : Blk), m[i]? = some d → ∃ c, l[i]? = some c ∧ leB g c d
  | _, [], _, i, d, hd => by simp at hd
  | c :: l, e :: m, h, 0, d, hd => by simp at hd; subst hd; exact ⟨c, by simp, h.1⟩
  | c :: l, e :: m, h, i + 1, d, hd => by
    obtain ⟨x', h1, h2⟩ := leO_at l m h.2 i d (by simpa using hd)
    exact ⟨x', by simpa using h1, h2⟩
  | [], _ :: _, h, _, _, _ => h.elim

/-- Things told under new names. -/
theorem reg_via {g : Nat → Option Nat} {own' : List Blk} (R : Reg w0 F σ own w) (hinj : ∀ j k i, g j = some i → g k = some i → j = k) (hdom : ∀ k i, g k = some i → k < own'.length)
    (hB : ∀ k i d, own'[k]? = some d → g k = some i → ∃ c, own[i]? = some c ∧ leB g c d) : Reg w0 F (σ.via g) own' w := by
  have old : ∀ k m, σ.via g k = some m → ∃ i, g k = some i ∧ σ i = some m := fun k m hm => by
    unfold Sg.via at hm
    cases hg : g k with
    | none => rw [hg] at hm; cases hm
    | some i => rw [hg] at hm; exact ⟨i, rfl, hm⟩
  refine ⟨⟨fun k d m hk hm => ?_, fun k m b hm hb => ?_, R.mem.sat⟩, fun k m hm => ?_, fun k k' m m' b hm hm' hb hb' => ?_, fun k m b hm hb => ?_, R.old, R.below⟩
  · obtain ⟨i, hg, hi⟩ := old k m hm
    obtain ⟨c, hc, hle⟩ := hB k i d hk hg
    exact leB_sound hle (R.mem.blk i c m hc hi)
  · obtain ⟨i, hg, hi⟩ := old k m hm
    exact R.mem.lt i m b hi hb
  · obtain ⟨i, hg, hi⟩ := old k m hm
    exact hdom k i hg
  · obtain ⟨i, hg, hi⟩ := old k m hm
    obtain ⟨i', hg', hi'⟩ := old k' m' hm'
    have := R.inj i i' m m' b hi hi' hb hb'
    subst this
    exact hinj k k' i hg hg'
  · obtain ⟨i, hg, hi⟩ := old k m hm
    exact R.ge i m b hi hb
theorem idG_some {n k i : Nat} (h : idG n k = some i) : i = k ∧ k < n := by
  unfold idG at h
  cases hb : Nat.blt k n with
  | true => rw [hb] at h; cases h; exact ⟨rfl, by simpa [Nat.blt_eq] using hb⟩
  | false => rw [hb] at h; cases h
theorem leS_sound {fr' : List AV} {own' : List Blk} (h : leS fr own fr' own') (hH : Holds w0 F σ fr own a w) : Holds w0 F (σ.via (idG own'.length)) fr' own' a w := by
  unfold leS at h
  rw [lenK_eq, Nat.add_zero] at h
  obtain ⟨h1, h2⟩ := h
  refine ⟨reg_via hH.reg (fun j k i hj hk => ?_) (fun k i hk => (idG_some hk).2) (fun k i d hd hg => ?_), leL_sound h1 hH.fr, hH.dfr⟩
  · rw [← (idG_some hj).1, ← (idG_some hk).1]
  · obtain ⟨rfl, _⟩ := idG_some hg
    exact leO_at _ _ h2 _ d hd

theorem leM_at {g : Nat → Option Nat} : ∀ (m : List Nat) (l : List Blk), leM g own m l → m.length = l.length ∧ ∀ (i k : Nat) (d : Blk), l[i]? = some d → m[i]? = some k → ∃ c, own[k]? = some c ∧ leB g c d
  | [], [], _ => ⟨rfl, fun i k d hd => by simp at hd⟩
  | k :: m, d :: l, h => by
    obtain ⟨h1, h2⟩ := leM_at m l h.2
    refine ⟨by simp [h1], fun i k' d' hd hk => ?_⟩
    cases i with
    | zero =>
      simp at hd hk
      subst hd
      subst hk
      have := h.1
      split at this
      · rename_i c hc
        rw [nth_eq] at hc
        exact ⟨c, hc, this⟩
      · exact this.elim
    | succ i => exact h2 i k' d' (by simpa using hd) (by simpa using hk)
  | [], _ :: _, h => h.elim
  | _ :: _, [], h => h.elim
theorem nth_inj {m : List Nat} (hm : m.Nodup) (j k i : Nat) (hj : nth m j = some i) (hk : nth m k = some i) : j = k := by
  rw [nth_eq] at hj hk
  obtain ⟨hjl, hj'⟩ := List.getElem?_eq_some_iff.1 hj
  obtain ⟨hkl, hk'⟩ := List.getElem?_eq_some_iff.1 hk
  have hp := List.pairwise_iff_getElem.1 hm
  rcases Nat.lt_trichotomy j k with hlt | rfl | hlt
  · exact absurd (hj'.trans hk'.symm) (hp j k hjl hkl hlt)
  · rfl
  · exact absurd (hk'.trans hj'.symm) (hp k j hkl hjl hlt)
/-- The own things told anew, by other names. -/
theorem leV_sound {fr' : List AV} {own' : List Blk} {m : List Nat} (hm : m.Nodup) (hl : leL (nth m) fr fr') (ho : leM (nth m) own m own') (hH : Holds w0 F σ fr own a w) : Holds w0 F (σ.via (nth m)) fr' own' a w := by
  obtain ⟨h1, h2⟩ := leM_at m own' ho
  refine ⟨reg_via hH.reg (nth_inj hm) (fun k i hk => ?_) (fun k i d hd hg => ?_), leL_sound hl hH.fr, hH.dfr⟩
  · rw [nth_eq] at hk
    have := (List.getElem?_eq_some_iff.1 hk).1
    omega
  · rw [nth_eq] at hg
    exact h2 k i d hd hg
theorem codeK_sound (hm : P.follows .mixedOrders = true) : ∀ (c : Code) (σ : Sg) (fr : List AV) (own : List Blk) (K : Exit → List AV → List Blk → Prop) (Q : Exit → Act → World → Prop) (a : Act) (w : World), codeK P F c fr own K → Holds w0 F σ fr own a w →
    (∀ e σ' fr' own' a' w', Holds w0 F σ' fr' own' a' w' → K e fr' own' → Q e a' w') → c.wp P Q a w := by
  intro c
  induction c with
  | skip => intro σ fr own K Q a w h hH hn; exact wp_skip (hn _ _ _ _ _ _ hH h)
  | region id ops draw =>
    intro σ fr own K Q a w h hH hn
    cases draw with
    | false => exact wp_region_list (by have := opsK_sound (Q := Q) _ _ _ _ _ _ h hH (fun σ' fr' own' a' w' hH' hK => hn _ _ _ _ _ _ hH' hK); simpa using this)
    | true =>
      rcases h with h | h | h
      · have := draw_sound (id := id) (Q := Q) hm h hH (fun σ' fr' own' a' w' hH' hK => hn _ _ _ _ _ _ hH' hK); simpa using this
      · have := drawB_sound (id := id) (Q := Q) hm h hH (fun σ' fr' own' a' w' hH' hK => hn _ _ _ _ _ _ hH' hK); simpa using this
      · have := drawB_sound (id := id) (Q := Q) hm h hH (fun σ' fr' own' a' w' hH' hK => hn _ _ _ _ _ _ hH' hK); simpa using this
  | seq x y ihx ihy =>
    intro σ fr own K Q a w h hH hn
    unfold codeK at h
    split at h
    · rename_i hif
      clear hif
      generalize hW : writes x = W at h
      clear hW
      induction h generalizing σ with
      | @go fr own h =>
        refine wp_seq (ihx _ _ _ _ _ _ _ h hH fun e σ' fr' own' a' w' hH' hK => ?_)
        cases e with
        | normal => exact ihy _ _ _ _ _ _ _ hK hH' hn
        | _ => exact hn _ _ _ _ _ _ hH' hK
      | @cut fr own α s o hA hB =>
        simp only [junkK_eq, updK_eq] at hA hB
        refine wp_seq (ihx _ _ _ _ _ _ _ hA hH fun e σ' fr' own' a' w' hH' hK => ?_)
        cases e with
        | normal =>
          rcases hK with ⟨z, hle⟩ | ⟨m, hm, z, hl, ho⟩ <;> (first | rw [updK_eq] at hle | rw [updK_eq] at hl)
          · exact ihy _ _ _ _ _ _ _ (hB z) (leS_sound hle hH') hn
          · exact ihy _ _ _ _ _ _ _ (hB z) (leV_sound hm hl ho hH') hn
        | _ => exact hn _ _ _ _ _ _ hH' hK
      | @nil fr own t T z hx k ih =>
        obtain ⟨σ', hle, hnew, hR⟩ := hH.reg.newNil T z
        refine ih σ' ⟨hR, ?_, hH.dfr⟩
        have hg := hH.fr.grow hle
        rw [nth_eq] at hx
        refine ⟨by rw [List.length_set]; exact hg.len, fun i y hy => ?_⟩
        by_cases he : t = i
        · subst he
          have hlt := (List.getElem?_eq_some_iff.1 hx).1
          rw [List.getElem?_set_self hlt] at hy
          cases hy
          obtain ⟨u, h1, h2⟩ := hg.at_ t _ hx
          obtain rfl : u = .slice none 0 0 := h2
          exact ⟨_, h1, _, hnew, rfl, none, 0, 0, rfl⟩
        · rw [List.getElem?_set_ne he] at hy
          exact hg.at_ i y hy
      | @part fr own t k T z n xs hx ho h ih =>
        refine ih σ ⟨hH.reg, ?_, hH.dfr⟩
        have hg := hH.fr
        rw [nth_eq] at hx ho
        refine ⟨by rw [List.length_set]; exact hg.len, fun i y hy => ?_⟩
        by_cases he : t = i
        · subst he
          have hlt := (List.getElem?_eq_some_iff.1 hx).1
          rw [List.getElem?_set_self hlt] at hy
          cases hy
          obtain ⟨u, h1, m, h2, h3, _⟩ := hg.at_ t _ hx
          obtain ⟨⟨hrow, _⟩, _⟩ := hH.reg.mem.blk k _ m ho h2
          refine ⟨u, h1, ?_⟩
          rcases hrow.2 with ⟨hv, h0⟩ | ⟨g, cap, cur, hv, _, _, hc, _⟩
          · exact ⟨m, none, 0, h2, by rw [← h3, hv, h0], by omega, fun h => by omega⟩
          · exact ⟨m, _, cap, h2, by rw [← h3, hv], hc, fun _ => ⟨g, n, cap, hv, rfl⟩⟩
        · rw [List.getElem?_set_ne he] at hy
          exact hg.at_ i y hy
    · refine wp_seq (ihx _ _ _ _ _ _ _ h hH fun e σ' fr' own' a' w' hH' hK => ?_)
      cases e with
      | normal => exact ihy _ _ _ _ _ _ _ hK hH' hn
      | _ => exact hn _ _ _ _ _ _ hH' hK
  | cond c x y ihx ihy =>
    intro σ fr own K Q a w h hH hn
    unfold codeK at h
    split at h
    · rename_i t hc
      exact wp_cond_split (ev_is hH.fr hc) (fun ht => ihx _ _ _ _ _ _ _ (h.t ht) hH hn) (fun ht => ihy _ _ _ _ _ _ _ (h.f ht) hH hn)
    · rename_i t hc
      cases t with
      | true => exact wp_cond_true (ev_is hH.fr hc) (ihx _ _ _ _ _ _ _ h hH hn)
      | false => exact wp_cond_false (ev_is hH.fr hc) (ihy _ _ _ _ _ _ _ h hH hn)
    · exact h.elim
  | block id c ih =>
    intro σ fr own K Q a w h hH hn
    refine wp_block (ih _ _ _ _ _ _ _ h hH fun e σ' fr' own' a' w' hH' hK => ?_)
    cases e with
    | exit id' =>
      simp only [Exit.inBlock]
      by_cases he : id' = id
      · simp only [he, decide_true] at hK
        rw [if_pos he]
        exact hn _ _ _ _ _ _ hH' hK
      · simp only [he, decide_false] at hK
        rw [if_neg he]
        exact hn _ _ _ _ _ _ hH' hK
    | _ => exact hn _ _ _ _ _ _ hH' hK
  | loop c ih =>
    intro σ fr own K Q a w h hH hn
    rcases h with ⟨α, s, o, μ, x, h0, hr⟩ | ⟨n, h⟩
    · simp only [junkK_eq, updK_eq] at h0 hr
      refine wp_loop_ghost (fun n a w => ∃ x σ, μ x = n ∧ Holds w0 F σ (updL (junkL (writes c) fr 0) (s x)) (o x) a w) (μ x) ⟨x, _, rfl, leS_sound h0 hH⟩ ?_
      rintro n a w ⟨x, σ, rfl, hH⟩
      refine ih _ _ _ _ _ _ _ (hr x) hH fun e σ' fr' own' a' w' hH' hK => ?_
      cases e with
      | normal =>
        rcases hK with ⟨y, hy, hle⟩ | ⟨m, hm, y, hy, hl, ho⟩ <;> (first | rw [updK_eq] at hle | rw [updK_eq] at hl)
        · exact ⟨μ y, hy, y, _, rfl, leS_sound hle hH'⟩
        · exact ⟨μ y, hy, y, _, rfl, leV_sound hm hl ho hH'⟩
      | _ => exact hn _ _ _ _ _ _ hH' hK
    · refine wp_loop_rounds n ?_
      induction n generalizing σ fr own a w with
      | zero => exact h.elim
      | succ n ihn =>
        refine ih _ _ _ _ _ _ _ h hH fun e σ' fr' own' a' w' hH' hK => ?_
        cases e with
        | normal => exact ihn _ _ _ _ _ hH' hK
        | _ => exact hn _ _ _ _ _ _ hH' hK
  | exit id => intro σ fr own K Q a w h hH hn; exact wp_exit (hn _ _ _ _ _ _ hH h)
  | ret => intro σ fr own K Q a w h hH hn; exact wp_ret (hn _ _ _ _ _ _ hH h)
  | label l => intro σ fr own K Q a w h hH hn; exact wp_label (hn _ _ _ _ _ _ hH h)
  | scope c ih =>
    intro σ fr own K Q a w h hH hn
    refine wp_scope_straight (ih _ _ _ _ _ _ _ h hH fun e σ' fr' own' a' w' hH' hK => ?_)
    cases e with
    | goto l => exact hK
    | _ => exact hn _ _ _ _ _ _ hH' hK
  | _ => intro σ fr own K Q a w h hH hn; exact h.elim

def resF (a : Act) (r : ResultVar) : Sem Value :=
  match r with
  | .tmp t => pure (a.tmps.getD t undef)
  | .cell x t => do loadVar t (← asAddr (a.tmps.getD x undef))
theorem resF_cons {r : ResultVar} {rs : List ResultVar} {u : Value} {vs : List Value} (h1 : (resF a r).run P w = .ok u w) (h2 : (rs.mapM (resF a)).run P w = .ok vs w) : ((r :: rs).mapM (resF a)).run P w = .ok (u :: vs) w := by
  rw [List.mapM_cons]
  simp only [Sem.run_bind, h1, Result.andThen_ok, h2, Sem.run_pure]

theorem resF_load {x : Tmp} {t : TypeId} {k off : Nat} {cells : List AV} {K : AV → Prop} (hx : nth fr x = some (.p k off)) (hc : nth own k = some (.cells cells)) (h : loadK P t cells off K) (hH : Holds w0 F σ fr own a w) : ∃ y u, K y ∧ y.Is σ u ∧ (resF a (.cell x t)).run P w = .ok u w := by
  rw [nth_eq] at hx hc
  obtain ⟨y, h1, h3⟩ := loadK_sound h
  obtain ⟨z, q1, q2⟩ := hH.fr.at_ x _ hx
  obtain ⟨m, b, r1, r2, rfl⟩ := q2
  obtain ⟨b', xs, T, s1, s2, s3, _⟩ := hH.reg.mem.blk k _ m hc r1
  rw [r2] at s1
  obtain rfl : b = b' := by simpa using s1
  obtain ⟨u, hu, hrun⟩ := h3 σ w b xs T s2 s3
  exact ⟨y, u, h1, hu, by simp [resF, q1, asAddr, hrun]⟩
theorem resF_arr {x : Tmp} {t : TypeId} {k off : Nat} {xs : List Value} {K : AV → Prop} (hx : nth fr x = some (.p k off)) (hc : nth own k = some (.arr xs)) (h : loadR P t xs off K) (hH : Holds w0 F σ fr own a w) : ∃ u, K (.v u) ∧ (resF a (.cell x t)).run P w = .ok u w := by
  rw [nth_eq] at hx hc
  obtain ⟨u, h1, h2⟩ := loadR_sound h
  obtain ⟨z, q1, q2⟩ := hH.fr.at_ x _ hx
  obtain ⟨m, b, r1, r2, rfl⟩ := q2
  obtain ⟨b', T, s1, s2, _⟩ := hH.reg.mem.blk k _ m hc r1
  rw [r2] at s1
  obtain rfl : b = b' := by simpa using s1
  have hrun := h2 w b fun j v hj => cell_of s2 (by simpa using hj)
  exact ⟨u, h1, by simp [resF, q1, asAddr, hrun]⟩
theorem resK_sound : ∀ (rs : List ResultVar) (K : List Value → Prop), resK P fr own rs K → Holds w0 F σ fr own a w → ∃ vs, K vs ∧ (rs.mapM (resF a)).run P w = .ok vs w
  | [], K, h, hH => ⟨[], h, by simp⟩
  | .tmp t :: rs, K, h, hH => by
    have key : ∀ (x : AV) (u : Value), nth fr t = some x → (∀ z, x.Is σ z → z = u) → (resF a (.tmp t)).run P w = .ok u w := fun x u hx hu => by
      rw [nth_eq] at hx
      obtain ⟨z, h1, h2⟩ := hH.fr.at_ t x hx
      simp [resF, h1, hu z h2]
    unfold resK at h
    split at h
    · rename_i u hu
      obtain ⟨vs, h1, h2⟩ := resK_sound rs _ h hH
      exact ⟨_, h1, resF_cons (key _ u hu (fun z hz => hz)) h2⟩
    · rename_i b hu
      obtain ⟨vs, h1, h2⟩ := resK_sound rs _ h hH
      exact ⟨_, h1, resF_cons (key _ (.bool b) hu (fun z hz => hz)) h2⟩
    · exact h.elim
  | .cell x t :: rs, K, h, hH => by
    unfold resK at h
    split at h
    · rename_i k off hx
      split at h
      · rename_i cells hc
        obtain ⟨y, u, h1, hu, hr⟩ := resF_load hx hc h hH
        cases y with
        | v u' =>
          obtain rfl : u = u' := hu
          obtain ⟨vs, g1, g2⟩ := resK_sound rs _ h1 hH
          exact ⟨_, g1, resF_cons hr g2⟩
        | lit b =>
          obtain rfl : u = .bool b := hu
          obtain ⟨vs, g1, g2⟩ := resK_sound rs _ h1 hH
          exact ⟨_, g1, resF_cons hr g2⟩
        | _ => exact h1.elim
      · rename_i xs hc
        obtain ⟨u, h1, hr⟩ := resF_arr hx hc h hH
        obtain ⟨vs, g1, g2⟩ := resK_sound rs _ h1 hH
        exact ⟨_, g1, resF_cons hr g2⟩
      · exact h.elim
    · exact h.elim
/-- The results, whatever is known of them. -/
def resA (P : Program) (fr : List AV) (own : List Blk) : List ResultVar → (List AV → Prop) → Prop
  | [], K => K []
  | .tmp t :: rs, K => match nth fr t with
    | some x => resA P fr own rs fun l => K (x :: l)
    | none => False
  | .cell a t :: rs, K => match nth fr a with
    | some (.p k off) => match nth own k with
      | some (.cells cells) => loadK P t cells off fun x => resA P fr own rs fun l => K (x :: l)
      | some (.arr xs) => loadR P t xs off fun x => resA P fr own rs fun l => K (x :: l)
      | _ => False
    | _ => False
theorem resA_sound : ∀ (rs : List ResultVar) (K : List AV → Prop), resA P fr own rs K → Holds w0 F σ fr own a w → ∃ l vs, K l ∧ FrIs σ l vs.toArray ∧ (rs.mapM (resF a)).run P w = .ok vs w
  | [], K, h, hH => ⟨[], [], h, ⟨rfl, fun i x hx => by simp at hx⟩, by simp⟩
  | r :: rs, K, h, hH => by
    have cons : ∀ (x : AV) (u : Value), x.Is σ u → (resF a r).run P w = .ok u w → resA P fr own rs (fun l => K (x :: l)) → ∃ l vs, K l ∧ FrIs σ l vs.toArray ∧ ((r :: rs).mapM (resF a)).run P w = .ok vs w := fun x u hu hr h => by
      obtain ⟨l, vs, h1, h2, h3⟩ := resA_sound rs _ h hH
      refine ⟨_, _, h1, ⟨by simpa using h2.len, fun i y hy => ?_⟩, resF_cons hr h3⟩
      cases i with
      | zero => simp at hy; subst hy; exact ⟨u, by simp, hu⟩
      | succ i =>
        obtain ⟨v, q1, q2⟩ := h2.at_ i y (by simpa using hy)
        exact ⟨v, by simpa using q1, q2⟩
    cases r with
    | tmp t =>
      unfold resA at h
      split at h
      · rename_i x hx
        rw [nth_eq] at hx
        obtain ⟨u, h1, h2⟩ := hH.fr.at_ t x hx
        exact cons x u h2 (by simp [resF, h1]) h
      · exact h.elim
    | cell x t =>
      unfold resA at h
      split at h
      · rename_i k off hx
        split at h
        · rename_i cells hc
          obtain ⟨y, u, h1, hu, hr⟩ := resF_load hx hc h hH
          exact cons y u hu hr h1
        · rename_i xs hc
          obtain ⟨u, h1, hr⟩ := resF_arr hx hc h hH
          exact cons (.v u) u rfl hr h1
        · exact h.elim
      · exact h.elim

theorem run_results {fn : Func} {vs : List Value} (h : (fn.results.toList.mapM (resF a)).run P w = .ok vs w) : (results fn a.tmps).run P w = .ok (retV vs) w := by
  have e : results fn a.tmps = (do let vs ← fn.results.mapM (resF a); pure (if h : vs.size = 1 then vs[0] else .tuple vs)) := rfl
  rw [e, Array.mapM_eq_mapM_toList]
  simp only [Sem.run_bind, Sem.run_map, h, Result.andThen_ok]
  match vs with
  | [] => rfl
  | [u] => rfl
  | u :: u' :: l => simp [retV]

/-- What is named by results. -/
def namesOf : List AV → List Nat
  | [] => []
  | .p k _ :: l => k :: namesOf l
  | .s k :: l => k :: namesOf l
  | .e k _ :: l => k :: namesOf l
  | .sub k _ _ :: l => k :: namesOf l
  | .t k :: l => k :: namesOf l
  | _ :: l => namesOf l
theorem namesOf_some : ∀ (l : List AV) (us : List Value), FrIs σ l us.toArray → ∀ k ∈ namesOf l, σ k ≠ none
  | [], us, h, k, hk => by simp [namesOf] at hk
  | x :: l, us, h, k, hk => by
    match us, h.len with
    | u :: us', hl =>
      have tail : FrIs σ l us'.toArray := ⟨by simpa using hl, fun i y hy => by
        obtain ⟨v, h1, h2⟩ := h.at_ (i + 1) y (by simpa using hy)
        exact ⟨v, by simpa using h1, h2⟩⟩
      obtain ⟨u0, h1, h2⟩ := h.at_ 0 x (by simp)
      cases x with
      | p k' off => obtain ⟨m, b, h3, _⟩ := h2; rcases List.mem_cons.1 hk with rfl | hk; rw [h3]; simp; exact namesOf_some l us' tail k hk
      | s k' => obtain ⟨m, h3, _⟩ := h2; rcases List.mem_cons.1 hk with rfl | hk; rw [h3]; simp; exact namesOf_some l us' tail k hk
      | e k' off => obtain ⟨m, b, n, c, h3, _⟩ := h2; rcases List.mem_cons.1 hk with rfl | hk; rw [h3]; simp; exact namesOf_some l us' tail k hk
      | sub k' off n => obtain ⟨m, ad, c, h3, _⟩ := h2; rcases List.mem_cons.1 hk with rfl | hk; rw [h3]; simp; exact namesOf_some l us' tail k hk
      | t k' => obtain ⟨m, h3, _⟩ := h2; rcases List.mem_cons.1 hk with rfl | hk; rw [h3]; simp; exact namesOf_some l us' tail k hk
      | _ => exact namesOf_some l us' tail k hk
    | [], hl => simp at hl
/-- The results of a function that returns fresh things: 'm' tells which of its own things they are. -/
inductive RetN (res0 : List AV) (own0 : List Blk) (res : List AV) (own : List Blk) : Prop where
  | mk (m : List Nat) (hm : m.Nodup) (hn : (List.range own0.length).all (fun k => (namesOf res0).contains k) = true) (hr : leL (nth m) res res0) (ho : leM (nth m) own m own0) : RetN res0 own0 res own
theorem RetN.sound {res0 res : List AV} {own0 : List Blk} {vs : List Value} (h : RetN res0 own0 res own) (R : Reg w0 F σ own w) (hv : FrIs σ res vs.toArray) : ∃ σ', Reg w0 F σ' own0 w ∧ (∀ k, k < own0.length → σ' k ≠ none) ∧ FrIs σ' res0 vs.toArray := by
  obtain ⟨m, hm, hn, hr, ho⟩ := h
  obtain ⟨h1, h2⟩ := leM_at m own0 ho
  have hv' := leL_sound hr hv
  refine ⟨σ.via (nth m), reg_via R (fun j k i hj hk => ?_) (fun k i hk => ?_) (fun k i d hd hg => ?_), fun k hk => namesOf_some _ _ hv' k ?_, hv'⟩
  · exact nth_inj hm j k i hj hk
  · rw [nth_eq] at hk
    have := (List.getElem?_eq_some_iff.1 hk).1
    omega
  · rw [nth_eq] at hg
    exact h2 k i d hd hg
  · have := List.all_eq_true.1 hn k (List.mem_range.2 hk)
    simpa using this

def bodyF (P : Program) (F : Facts) (fn : Func) (args : List Value) (R : List AV → List Blk → Prop) : Prop :=
  match fn.body with
  | some c => padK (fn.ntmps - args.length) fun l => catK args l fun fr => codeK P F c fr [] fun e fr own => match e with
    | .normal => resA P fr own fn.results.toList fun l => R l own
    | .ret => resA P fr own fn.results.toList fun l => R l own
    | _ => False
  | none => False

theorem holds_start {W : World} {fn : Func} {args : List Value} (hF : Sat F W) : Holds W F (fun _ => none) (args.map .v ++ List.replicate (fn.ntmps - args.length) (.v undef)) [] { tmps := args.toArray ++ Array.replicate (fn.ntmps - args.toArray.size) undef, defers := [] } W := by
  refine ⟨⟨⟨fun k b v hk => (by simp at hk), fun k v b hv => (by cases hv), hF⟩, fun k v hv => (by cases hv), fun k k' v v' b hv => (by cases hv), fun k v b hv => (by cases hv), fun b hb => hF.lt hb, Below.refl _ _⟩, ⟨by simp, fun i x hx => ?_⟩, rfl⟩
  by_cases hi : i < args.length
  · rw [List.getElem?_append_left (by simpa using hi)] at hx
    simp only [List.getElem?_map, Option.map_eq_some_iff] at hx
    obtain ⟨u, hu, rfl⟩ := hx
    refine ⟨u, ?_, rfl⟩
    rw [Array.getElem?_append_left (by simpa using hi)]
    simpa using hu
  · rw [List.getElem?_append_right (by simp; omega)] at hx
    rw [Array.getElem?_append_right (by simp; omega)]
    simp only [List.length_map, List.getElem?_replicate] at hx
    split at hx
    · rename_i hlt
      cases hx
      exact ⟨undef, by simp [Array.getElem?_replicate]; omega, rfl⟩
    · cases hx

/-- THE LAW. -/
theorem den_of_body {f : FuncId} {fn : Func} {args : List Value} {v : Value} (hm : P.follows .mixedOrders = true) (hf : P.funcs[f]? = some fn) (h : bodyK P F fn args (fun u => u = v)) : Den P f args.toArray F v := by
  constructor
  intro W hF
  unfold bodyK at h
  split at h
  · rename_i c hc
    rw [padK_eq, catK_eq] at h
    refine calls_of_wp hf hc (codeK_sound (w0 := W) hm c (fun _ => none) _ _ _ _ _ _ h (holds_start hF) fun e σ' fr' own' a' w' hH hK => ?_)
    have fin : resK P fr' own' fn.results.toList (fun l => retV l = v) → bodyPost P fn (fun e w' => e = .returned v ∧ Below W.heap.size W w') .normal a' w' := fun hr => by
      obtain ⟨vs, h1, h2⟩ := resK_sound _ _ hr hH
      exact ⟨hH.dfr, _, run_results h2, by rw [h1], hH.reg.below⟩
    cases e with
    | normal => exact fin hK
    | ret => exact fin hK
    | _ => exact hK.elim
  · exact h.elim
/-- THE LAW, of functions that return fresh things. -/
theorem denV_of_body {f : FuncId} {fn : Func} {args : List Value} {res : List AV} {own0 : List Blk} (hm : P.follows .mixedOrders = true) (hf : P.funcs[f]? = some fn) (h : bodyF P F fn args (RetN res own0)) : DenV P f F args res own0 := by
  constructor
  intro W hF
  unfold bodyF at h
  split at h
  · rename_i c hc
    rw [padK_eq, catK_eq] at h
    refine calls_of_wp hf hc (codeK_sound (w0 := W) hm c (fun _ => none) _ _ _ _ _ _ h (holds_start hF) fun e σ' fr' own' a' w' hH hK => ?_)
    have fin : resA P fr' own' fn.results.toList (fun l => RetN res own0 l own') → bodyPost P fn (fun e w' => ∃ σ vs, e = .returned (retV vs) ∧ Reg W F σ own0 w' ∧ (∀ k, k < own0.length → σ k ≠ none) ∧ FrIs σ res vs.toArray) .normal a' w' := fun hr => by
      obtain ⟨l, vs, h1, h2, h3⟩ := resA_sound _ _ hr hH
      obtain ⟨σ2, q1, q2, q3⟩ := h1.sound hH.reg h2
      exact ⟨hH.dfr, _, run_results h3, σ2, vs, rfl, q1, q2, q3⟩
    cases e with
    | normal => exact fin hK
    | ret => exact fin hK
    | _ => exact hK.elim
  · exact h.elim
/-- A contract for values is one for arguments. -/
theorem DenA.of {f : FuncId} {us : List Value} {v : Value} (h : Den P f us.toArray F v) : DenA P f F (us.map .v) v := by
  refine DenA.fam ?_
  have : ∀ (l acc : List Value), Fam (fun us F => Den P f us.toArray F v) (l.map .v) acc F = Den P f (acc ++ l).toArray F v := fun l => by
    induction l with
    | nil => intro acc; simp [Fam]
    | cons x l ih => intro acc; simp [Fam, ih]
  rw [this]
  simpa using h

/-! The evaluation of a body whose parameters are laid in cells that stay as they are: behind its first part these are memory that came in. No condition but the closed checks that are named. -/
/-- The call's own pointers, their blocks being told. -/
def frzA (β : Nat → Nat) : AV → AV
  | .v u => .v u
  | .lit b => .lit b
  | .p k off => .v (.pointer (some ⟨β k, off, none⟩))
  | _ => .junk
def frzK (β : Nat → Nat) : List AV → (List AV → Prop) → Prop
  | [], K => K []
  | x :: l, K => match x with
    | .v u => frzK β l fun l => K (.v u :: l)
    | .lit b => frzK β l fun l => K (.lit b :: l)
    | .p k off => frzK β l fun l => K (.v (.pointer (some ⟨β k, off, none⟩)) :: l)
    | _ => frzK β l fun l => K (.junk :: l)
theorem frzK_eq (β : Nat → Nat) : ∀ (l : List AV) (K : List AV → Prop), frzK β l K = K (l.map (frzA β))
  | [], K => rfl
  | x :: l, K => by cases x <;> simp [frzK, frzA, frzK_eq β l]
/-- What stands in the cells that the frame points into. -/
def ownF (β : Nat → Nat) (fr : List AV) (own : List Blk) : Facts := ⟨fun b o x => ∃ k l, k ∈ namesOf fr ∧ nth own k = some (.cells l) ∧ b = β k ∧ nth l o = some (.v x), fun _ _ => False⟩
def bodyBoxK (P : Program) (F : Facts) (fn : Func) (args : List Value) (R : Value → Prop) : Prop :=
  match fn.body with
  | some (.seq c d) => padK (fn.ntmps - args.length) fun l => catK args l fun fr => codeK P F c fr [] fun e fr own => match e with
    | .normal => ∀ β : Nat → Nat, frzK β fr fun fr' => codeK P (orF F (ownF β fr own)) d fr' [] fun e fr own => match e with
      | .normal => resK P fr own fn.results.toList fun l => R (retV l)
      | .ret => resK P fr own fn.results.toList fun l => R (retV l)
      | _ => False
    | _ => False
  | _ => False

variable {P : Program} {F : Facts} {σ : Sg} {fr : List AV} {own : List Blk} {a : Act} {w0 w : World}

def blockOf (v : Value) : Nat := match v with
  | .pointer (some ad) => ad.block
  | _ => 0
def betaOf (σ : Sg) (k : Nat) : Nat := match σ k with
  | some m => blockOf m.v
  | none => 0
theorem betaOf_is {k : Nat} {m : Nm} {b : Nat} (h : σ k = some m) (hv : m.v = .pointer (some ⟨b, 0, none⟩)) : betaOf σ k = b := by
  simp [betaOf, h, blockOf, hv]
theorem frz_is {l : List AV} {us : Array Value} (h : FrIs σ l us) : FrIs (fun _ => none) (l.map (frzA (betaOf σ))) us := by
  refine ⟨by rw [List.length_map]; exact h.len, fun i y hy => ?_⟩
  rw [List.getElem?_map, Option.map_eq_some_iff] at hy
  obtain ⟨x, hx, rfl⟩ := hy
  obtain ⟨u, h1, h2⟩ := h.at_ i x hx
  refine ⟨u, h1, ?_⟩
  cases x with
  | v z => exact h2
  | lit b => exact h2
  | p k off =>
    obtain ⟨m, b, q1, q2, q3⟩ := h2
    show u = .pointer (some ⟨betaOf σ k, off, none⟩)
    rw [betaOf_is q1 q2]; exact q3
  | _ => trivial
theorem ownF_sat (hR : Reg w0 F σ own w) (hf : FrIs σ fr a.tmps) : Sat (orF F (ownF (betaOf σ) fr own)) w := by
  refine ⟨fun b o x hx => ?_, fun b p hp => ?_⟩
  · rcases hx with hx | ⟨k, l, hk, hl, rfl, ho⟩
    · exact hR.mem.sat.1 b o x hx
    · have hn := namesOf_some fr a.tmps.toList (by simpa using hf) k hk
      obtain ⟨m, hm⟩ := Option.ne_none_iff_exists'.1 hn
      rw [nth_eq] at hl ho
      obtain ⟨b, xs, T, q1, q2, q3, q4⟩ := hR.mem.blk k _ m hl hm
      rw [betaOf_is hm q1]
      obtain ⟨u, h1, h2⟩ := q3.at_ o _ ho
      obtain rfl : u = x := h2
      exact cell_of q2 h1
  · rcases hp with hp | hp
    · exact hR.mem.sat.2 b p hp
    · exact hp.elim
/-- THE LAW, of bodies that lay their parameters first. -/
theorem den_of_box {f : FuncId} {fn : Func} {args : List Value} {v : Value} (hm : P.follows .mixedOrders = true) (hf : P.funcs[f]? = some fn) (h : bodyBoxK P F fn args (fun u => u = v)) : Den P f args.toArray F v := by
  constructor
  intro W hF
  unfold bodyBoxK at h
  split at h
  · rename_i c d hc
    rw [padK_eq, catK_eq] at h
    refine calls_of_wp hf hc (wp_seq (codeK_sound (w0 := W) hm c (fun _ => none) _ _ _ _ _ _ h (holds_start hF) fun e σ' fr' own' a' w' hH hK => ?_))
    cases e with
    | normal =>
      have hK := hK (betaOf σ')
      rw [frzK_eq] at hK
      have hS := ownF_sat hH.reg hH.fr
      have hH2 : Holds w' (orF F (ownF (betaOf σ') fr' own')) (fun _ => none) (fr'.map (frzA (betaOf σ'))) [] a' w' :=
        ⟨⟨⟨fun k b v hk => (by simp at hk), fun k v b hv => (by cases hv), hS⟩, fun k v hv => (by cases hv), fun k k' v v' b hv => (by cases hv), fun k v b hv => (by cases hv), fun b hb => hS.lt hb, Below.refl _ _⟩, frz_is hH.fr, hH.dfr⟩
      refine codeK_sound (w0 := w') hm d (fun _ => none) _ _ _ _ _ _ hK hH2 fun e σ2 fr2 own2 a2 w2 hH3 hK3 => ?_
      have fin : resK P fr2 own2 fn.results.toList (fun l => retV l = v) → bodyPost P fn (fun e w' => e = .returned v ∧ Below W.heap.size W w') .normal a2 w2 := fun hr => by
        obtain ⟨vs, h1, h2⟩ := resK_sound _ _ hr hH3
        exact ⟨hH3.dfr, _, run_results h2, by rw [h1], hH.reg.below.trans (hH3.reg.below.mono hH.reg.below.size)⟩
      cases e with
      | normal => exact fin hK3
      | ret => exact fin hK3
      | _ => exact hK3.elim
    | _ => exact hK.elim
  · exact h.elim
end Go.Proofs.YthbhnbnlbhpooaaGreatDoor
