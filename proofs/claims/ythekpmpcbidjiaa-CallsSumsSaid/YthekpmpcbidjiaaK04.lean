import Derived.Laws.CopyRow
import Derived.Deep.LoopGhost
import Derived.LoopN
import Derived.Scope
import Derived.Test.YthekpmpcbidjiaaK03
/- A region that draws its order: whichever order comes, its head (operations that read, compute, call, or lay blocks anew) ends as it does in the text's order. No condition but the closed check that is named. -/
namespace Go.Proofs.Ythekpmpcbidjiaa
open Go Go.RowKit Go.Sort
set_option linter.unusedVariables false
set_option linter.unusedSimpArgs false
variable {P : Program} {F : Facts} {σ : Sg} {fr : List AV} {own : List Blk} {a : Act} {o : Oper} {w0 w : World}
abbrev SF := Nat → Sg → Value → Prop
/-- What an operation of the head does: the value that it leaves; whether it is carried out; the things that it lays, and the first one's name. -/
structure Ent where
  X : AV
  wd : Bool
  n : Nat
  bs : List Blk
def entX (E : List Ent) (n : Nat) : AV :=
  match E[n]? with
  | some e => e.X
  | none => .junk
/-- What is in the slots when these operations of the head have been carried out: the last of them that writes a slot fills it. -/
def SFof (arr : Array Oper) (E : List Ent) (S0 : SF) (L : Nat → Bool) : Nat → SF
  | 0 => S0
  | n + 1 => fun t => if L n = true ∧ (arr[n]?).bind (·.dst) = some t then (entX E n).Is else SFof arr E S0 L n t
section
variable {arr : Array Oper} {E : List Ent} {S0 : SF} {L L' : Nat → Bool} {t : Nat}
end
structure InvL (arr : Array Oper) (E : List Ent) (S0 : SF) (h N : Nat) (w0 : World) (F : Facts) (ownF : List Blk) (listed : Array Bool) (a : Act) (W : World) (σ : Sg) : Prop where
  reg : Reg w0 F σ ownF W
  slots : ∀ t, SFof arr E S0 (fun i => listed.getD i false) h t σ (a.tmps.getD t undef)
  size : a.tmps.size = N
  dfr : a.defers = []
  lab : ∀ (i : Nat) (e : Ent) (q : Nat), E[i]? = some e → q < e.bs.length → listed.getD i false = false → σ (e.n + q) = none
/-- Two operations of the head, of which the one need not wait for the other, have nothing to do with each other. -/
def pairB (arr : Array Oper) (h : Nat) : Bool := (List.range h).all fun j => (List.range j).all fun i => Region.waitsFor .any arr j i || (match arr[i]?, arr[j]? with | some oi, some oj => oi.apart arr oj | _, _ => false)
def backB (arr : Array Oper) (h : Nat) : Bool := (List.range h).all fun j => match arr[j]? with | some o => o.after.all (fun e => !Region.binds .any e || decide (e.on < j)) | none => false
theorem pairB_spec {arr : Array Oper} {h i j : Nat} {oi oj : Oper} (hp : pairB arr h = true) (hij : i < j) (hj : j < h) (hoi : arr[i]? = some oi) (hoj : arr[j]? = some oj) : Region.waitsFor .any arr j i = true ∨ oi.apart arr oj = true := by
  have h1 := List.all_eq_true.1 (List.all_eq_true.1 hp j (List.mem_range.2 hj)) i (List.mem_range.2 hij)
  simp only [hoi, hoj, Bool.or_eq_true] at h1
  exact h1
section
variable {arr : Array Oper} {E : List Ent} {S0 : SF} {h N : Nat} {ownF : List Blk} {listed : Array Bool} {W : World}
theorem waits_listed {i j : Nat} (hj : j ∈ Region.ready .any arr listed) (hw : Region.waitsFor .any arr j i = true) : listed.getD i false = true := by
  obtain ⟨_, oj, hoj, hall⟩ := mem_ready.1 hj
  obtain ⟨oj', hoj', e, he, hb, hon⟩ := Region.waitsFor_spec hw
  obtain rfl : oj' = oj := Option.some.inj (hoj'.symm.trans hoj)
  rw [← hon]; exact hall e he hb
/-- Whoever writes a slot that a ready operation looks at, or writes, has been carried out if it stands ahead of it, and has not if it stands behind it. -/
theorem writers {j t : Nat} {oj : Oper} (hp : pairB arr h = true) (inv : HeadInv .any arr h listed) (hj : j ∈ Region.ready .any arr listed) (hjh : j < h) (hoj : arr[j]? = some oj) (ht : t ∈ oj.looksAt arr ∨ oj.dst = some t) :
    (∀ i, i < j → (arr[i]?).bind (·.dst) = some t → listed.getD i false = true) ∧ (∀ i, j < i → i < h → (arr[i]?).bind (·.dst) = some t → listed.getD i false = false) := by
  have hun := getD_both (mem_ready.1 hj).1
  refine ⟨fun i hi hd => ?_, fun i hi hih hd => ?_⟩
  · cases hoi : arr[i]? with
    | none => simp [hoi] at hd
    | some oi =>
      simp only [hoi, Option.bind_some] at hd
      rcases pairB_spec hp hi hjh hoi hoj with hw | hap
      · exact waits_listed hj hw
      · obtain ⟨h1, h2, h3⟩ := Oper.apart_spec hap
        rcases ht with ht | ht
        · exact absurd ht (h1 t hd)
        · exact absurd ht (h2 t hd)
  · cases hoi : arr[i]? with
    | none => simp [hoi] at hd
    | some oi =>
      simp only [hoi, Option.bind_some] at hd
      rcases pairB_spec hp hi hih hoj hoi with hw | hap
      · obtain ⟨oi', hoi', e, he, hb, hon⟩ := Region.waitsFor_spec hw
        obtain rfl : oi' = oi := Option.some.inj (hoi'.symm.trans hoi)
        cases hl : listed.getD i false with
        | false => rfl
        | true =>
          have := inv.closed i oi' hoi hl e he hb
          rw [hon, hun] at this
          cases this
      · obtain ⟨h1, h2, h3⟩ := Oper.apart_spec hap
        rcases ht with ht | ht
        · exact absurd ht (h3 t hd)
        · exact absurd hd (h2 t ht)
end
/-! What the evaluation says of a function's body holds of the function's calls. No condition but the closed checks that are named. -/
section
variable {P : Program} {F : Facts} {σ : Sg} {fr : List AV} {own : List Blk} {a : Act} {o : Oper} {w0 w : World} {arr : Array Oper} {h : Nat} {listed : Array Bool}
/-- How many of the head's operations are still to come. -/
def cnt (listed : Array Bool) : Nat → Nat
  | 0 => 0
  | n + 1 => cnt listed n + if listed.getD n false = true then 0 else 1
theorem cnt_set {j : Nat} (hj : listed.getD j false = false) (hs : j < listed.size) : ∀ n, cnt listed n = cnt (listed.setIfInBounds j true) n + if j < n then 1 else 0
  | 0 => by simp [cnt]
  | n + 1 => by
    unfold cnt
    rw [cnt_set hj hs n]
    by_cases he : j = n
    · subst he
      have e1 : (listed.setIfInBounds j true).getD j false = true := by simp [hs]
      rw [hj, e1]
      simp
    · rw [getD_set_ne false he]
      have e2 : (if j < n then 1 else 0) = (if j < n + 1 then 1 else 0) := by split <;> split <;> omega
      rw [e2]
      omega
theorem cnt_zero : ∀ n, cnt listed n = 0 → ∀ i, i < n → listed.getD i false = true
  | n + 1, h, i, hi => by
    unfold cnt at h
    by_cases he : i = n
    · subst he
      cases hl : listed.getD i false with
      | true => rfl
      | false => rw [hl] at h; simp at h
    · exact cnt_zero n (by omega) i (by omega)
theorem cnt_first : ∀ n, 0 < cnt listed n → ∃ i, i < n ∧ listed.getD i false = false ∧ ∀ k, k < i → listed.getD k false = true
  | n + 1, h => by
    by_cases h0 : 0 < cnt listed n
    · obtain ⟨i, h1, h2, h3⟩ := cnt_first n h0
      exact ⟨i, by omega, h2, h3⟩
    · have hz := cnt_zero (listed := listed) n (by omega)
      unfold cnt at h
      cases hl : listed.getD n false with
      | true => rw [hl] at h; simp at h; omega
      | false => exact ⟨n, by omega, hl, hz⟩
def canon (m h : Nat) : Array Bool := ((List.range m).map fun i => decide (i < h)).toArray
theorem canon_of (inv : HeadInv .any arr h listed) (hall : ∀ i, i < h → listed.getD i false = true) : listed = canon arr.size h := by
  have hs := inv.size
  apply Array.ext_getElem?
  intro i
  by_cases hi : i < arr.size
  · have hc : (canon arr.size h)[i]? = some (decide (i < h)) := by simp [canon, hi]
    rw [hc]
    have hi' : i < listed.size := by omega
    by_cases hih : i < h
    · have := hall i hih
      simp [hi'] at this
      simp [hi', this, hih]
    · have := inv.tail i (by omega) hi
      simp [hi'] at this
      simp [hi', this, hih]
  · rw [Array.getElem?_eq_none (by omega), Array.getElem?_eq_none (by simp [canon]; omega)]
end
section
variable {P : Program} {F : Facts} {σ : Sg} {fr : List AV} {own : List Blk} {a : Act} {o : Oper} {w0 w : World} {arr : Array Oper} {h : Nat} {listed : Array Bool}
/-- The stores into new variables that a region that draws its order makes: the operation, the block, the cells. -/
abbrev Ini := List (Nat × Nat × List AV)
def ownAt : Ini → List Blk → (Nat → Bool) → List Blk
  | [], own, _ => own
  | (s, k, l) :: I, own, L => ownAt I (if L s = true then own.set k (.cells l) else own) L
def iniKeys (I : Ini) : List Nat := I.map fun x => x.2.1
structure InvB (arr : Array Oper) (E : List Ent) (S0 : SF) (h N : Nat) (w0 : World) (F : Facts) (I : Ini) (own0 : List Blk) (listed : Array Bool) (a : Act) (W : World) (σ : Sg) : Prop where
  inv : InvL arr E S0 h N w0 F (ownAt I own0 fun i => listed.getD i false) listed a W σ
  st : ∀ s k l, (s, k, l) ∈ I → listed.getD s false = true → σ k ≠ none
structure IniOk (I : Ini) (own : List Blk) (j : Nat) : Prop where
  nd : (iniKeys I).Nodup
  uq : ∀ x ∈ I, ∀ y ∈ I, x.1 = y.1 → x = y
  lt : ∀ x ∈ I, x.1 < j
  jk : ∀ s k l, (s, k, l) ∈ I → own[k]? = some (.cells (List.replicate l.length .junk))
inductive DrawN (A B C : Prop) : Prop where
  | a (h : A) : DrawN A B C
  | b (h : B) : DrawN A B C
  | c (h : C) : DrawN A B C
end
end Go.Proofs.Ythekpmpcbidjiaa
/- What the evaluation says of a function's body holds of the function's calls. No condition but the closed checks that are named. -/
namespace Go.Proofs.Ythekpmpcbidjiaa
open Go Go.RowKit Go.Sort
set_option linter.unusedVariables false
set_option linter.unusedSimpArgs false
/-- What is known, told with less; 'g' tells of each new name which old one it is. -/
def leA (g : Nat → Option Nat) (x y : AV) : Prop :=
  match y with
  | .junk => True
  | .v u => match x with
    | .v u' => u' = u
    | .lit b => u = .bool b
    | _ => False
  | .lit b => match x with
    | .v u' => u' = .bool b
    | .lit b' => b' = b
    | _ => False
  | .p k off => match x with
    | .p k' off' => g k = some k' ∧ off' = off
    | _ => False
  | .s k => match x with
    | .s k' => g k = some k'
    | _ => False
  | .e k off => match x with
    | .e k' off' => g k = some k' ∧ off' = off
    | _ => False
  | .sub k off n => match x with
    | .sub k' off' n' => g k = some k' ∧ off' = off ∧ n' = n
    | _ => False
  | .t k => match x with
    | .t k' => g k = some k'
    | _ => False
def leL (g : Nat → Option Nat) : List AV → List AV → Prop
  | [], [] => True
  | x :: l, y :: m => leA g x y ∧ leL g l m
  | _, _ => False
def mapvL : List Value → List AV
  | [] => []
  | x :: l => .v x :: mapvL l
def leB (g : Nat → Option Nat) (b c : Blk) : Prop :=
  match c with
  | .dead => True
  | .cells m => match b with
    | .cells l => leL g l m
    | _ => False
  | .comp tup m => match b with
    | .comp tup' l => tup' = tup ∧ leL g l m
    | _ => False
  | .row T z k xs => match b with
    | .row T' z' k' xs' => T' = T ∧ z' = z ∧ k' = k ∧ xs' = xs
    | _ => False
  | .map es => match b with
    | .map es' => es' = es
    | _ => False
  | .arr xs => match b with
    | .arr xs' => xs' = xs
    | .cells l => l = mapvL xs
    | _ => False
  | .clo f first m => match b with
    | .clo f' first' l => f' = f ∧ first' = first ∧ leL g l m
    | _ => False
  | .obj p => match b with
    | .obj p' => p' = p
    | _ => False
def leO (g : Nat → Option Nat) : List Blk → List Blk → Prop
  | _, [] => True
  | c :: l, d :: m => leB g c d ∧ leO g l m
  | _, _ => False
def idG (n k : Nat) : Option Nat :=
  match Nat.blt k n with
  | true => some k
  | false => none
def leS (fr : List AV) (own : List Blk) (fr' : List AV) (own' : List Blk) : Prop :=
  lenK own' 0 fun n => leL (idG n) fr fr' ∧ leO (idG n) own own'
def leM (g : Nat → Option Nat) (own : List Blk) : List Nat → List Blk → Prop
  | [], [] => True
  | k :: m, d :: l => (match nth own k with | some c => leB g c d | none => False) ∧ leM g own m l
  | _, _ => False
/-- The slots in the mask are forgotten. -/
def junkK (m : Nat) : List AV → Nat → (List AV → Prop) → Prop
  | [], _, K => K []
  | x :: l, i, K => match Nat.testBit m i with
    | true => junkK m l (i + 1) fun l => K (.junk :: l)
    | false => junkK m l (i + 1) fun l => K (x :: l)
def forceA : List AV → (List AV → Prop) → Prop
  | [], K => K []
  | x :: l, K => match x with
    | .v u => forceA l fun l => K (.v u :: l)
    | .lit b => forceA l fun l => K (.lit b :: l)
    | .p k off => forceA l fun l => K (.p k off :: l)
    | .s k => forceA l fun l => K (.s k :: l)
    | .e k off => forceA l fun l => K (.e k off :: l)
    | .sub k off n => forceA l fun l => K (.sub k off n :: l)
    | .t k => forceA l fun l => K (.t k :: l)
    | .junk => forceA l fun l => K (.junk :: l)
/-- The same, told step by step. -/
def updK : List (Nat × AV) → List AV → (List AV → Prop) → Prop
  | [], fr, K => forceA fr K
  | (n, x) :: l, fr, K => setK fr n x fun fr => updK l fr K
inductive RoundN {α : Type} (fr0 : List AV) (s : α → List (Nat × AV)) (o : α → List Blk) (μ : α → Nat) (n : Nat) (fr : List AV) (own : List Blk) : Prop where
  | mk (y : α) (hlt : μ y < n) (hle : updK (s y) fr0 fun fr1 => leS fr own fr1 (o y)) : RoundN fr0 s o μ n fr own
  | via (m : List Nat) (hm : m.Nodup) (y : α) (hlt : μ y < n) (hl : updK (s y) fr0 fun fr1 => leL (nth m) fr fr1) (ho : leM (nth m) own m (o y)) : RoundN fr0 s o μ n fr own
/-- A loop that ends within so many rounds. -/
def rollK (body : List AV → List Blk → (Exit → List AV → List Blk → Prop) → Prop) (K : Exit → List AV → List Blk → Prop) : Nat → List AV → List Blk → Prop
  | 0, _, _ => False
  | n + 1, fr, own => body fr own fun e fr own => match e with
    | .normal => rollK body K n fr own
    | e => K e fr own
/-- A loop: the slots that it writes are told anew, by what is handed on from round to round. -/
inductive LoopN (W : Nat) (fr : List AV) (own : List Blk) (body : List AV → List Blk → (Exit → List AV → List Blk → Prop) → Prop) (K : Exit → List AV → List Blk → Prop) : Prop where
  | mk (α : Type) (s : α → List (Nat × AV)) (o : α → List Blk) (μ : α → Nat) (x : α) (h0 : junkK W fr 0 fun fr0 => updK (s x) fr0 fun fr1 => leS fr own fr1 (o x))
      (hr : junkK W fr 0 fun fr0 => ∀ x, updK (s x) fr0 fun fr1 => body fr1 (o x) fun e fr own => match e with
        | .normal => RoundN fr0 s o μ (μ x) fr own
        | e => K e fr own) : LoopN W fr own body K
  | roll (n : Nat) (h : rollK body K n fr own) : LoopN W fr own body K
inductive EndN {α : Type} (fr0 : List AV) (s : α → List (Nat × AV)) (o : α → List Blk) (fr : List AV) (own : List Blk) : Prop where
  | mk (y : α) (hle : updK (s y) fr0 fun fr1 => leS fr own fr1 (o y)) : EndN fr0 s o fr own
  | via (m : List Nat) (hm : m.Nodup) (y : α) (hl : updK (s y) fr0 fun fr1 => leL (nth m) fr fr1) (ho : leM (nth m) own m (o y)) : EndN fr0 s o fr own
inductive SeqN (W : Nat) (A : List AV → List Blk → (Exit → List AV → List Blk → Prop) → Prop) (B : List AV → List Blk → Prop) (K : Exit → List AV → List Blk → Prop) : List AV → List Blk → Prop where
  | go {fr : List AV} {own : List Blk} (h : A fr own fun e fr own => match e with
      | .normal => B fr own
      | e => K e fr own) : SeqN W A B K fr own
  | cut {fr : List AV} {own : List Blk} (α : Type) (s : α → List (Nat × AV)) (o : α → List Blk) (hA : junkK W fr 0 fun fr0 => A fr own fun e fr own => match e with
      | .normal => EndN fr0 s o fr own
      | e => K e fr own) (hB : junkK W fr 0 fun fr0 => ∀ x, updK (s x) fr0 fun fr1 => B fr1 (o x)) : SeqN W A B K fr own
  | nil {fr : List AV} {own : List Blk} (t : Nat) (T : TypeId) (z : Nat) (hx : nth fr t = some (.v (.slice none 0 0))) (k : SeqN W A B K (fr.set t (.s own.length)) (own ++ [.row T z 0 []])) : SeqN W A B K fr own
  | part {fr : List AV} {own : List Blk} (t k : Nat) (T : TypeId) (z n : Nat) (xs : List Value) (hx : nth fr t = some (.s k)) (ho : nth own k = some (.row T z n xs)) (h : SeqN W A B K (fr.set t (.sub k 0 n)) own) : SeqN W A B K fr own
variable {P : Program} {F : Facts} {σ : Sg} {fr : List AV} {own : List Blk} {a : Act} {w0 w : World}
def resF (a : Act) (r : ResultVar) : Sem Value :=
  match r with
  | .tmp t => pure (a.tmps.getD t undef)
  | .cell x t => do loadVar t (← asAddr (a.tmps.getD x undef))
theorem resF_cons {r : ResultVar} {rs : List ResultVar} {u : Value} {vs : List Value} (h1 : (resF a r).run P w = .ok u w) (h2 : (rs.mapM (resF a)).run P w = .ok vs w) : ((r :: rs).mapM (resF a)).run P w = .ok (u :: vs) w := by
  rw [List.mapM_cons]
  simp only [Sem.run_bind, h1, Result.andThen_ok, h2, Sem.run_pure]
theorem run_results {fn : Func} {vs : List Value} (h : (fn.results.toList.mapM (resF a)).run P w = .ok vs w) : (results fn a.tmps).run P w = .ok (retV vs) w := by
  have e : results fn a.tmps = (do let vs ← fn.results.mapM (resF a); pure (if h : vs.size = 1 then vs[0] else .tuple vs)) := rfl
  rw [e, Array.mapM_eq_mapM_toList]
  simp only [Sem.run_bind, Sem.run_map, h, Result.andThen_ok]
  match vs with
  | [] => rfl
  | [u] => rfl
  | u :: u' :: l => simp [retV]
/-- What is named by results. -/
def namesOf : List AV → List Nat
  | [] => []
  | .p k _ :: l => k :: namesOf l
  | .s k :: l => k :: namesOf l
  | .e k _ :: l => k :: namesOf l
  | .sub k _ _ :: l => k :: namesOf l
  | .t k :: l => k :: namesOf l
  | _ :: l => namesOf l
/-- The results of a function that returns fresh things: 'm' tells which of its own things they are. -/
inductive RetN (res0 : List AV) (own0 : List Blk) (res : List AV) (own : List Blk) : Prop where
  | mk (m : List Nat) (hm : m.Nodup) (hn : (List.range own0.length).all (fun k => (namesOf res0).contains k) = true) (hr : leL (nth m) res res0) (ho : leM (nth m) own m own0) : RetN res0 own0 res own
/-! The evaluation of a body whose parameters are laid in cells that stay as they are: behind its first part these are memory that came in. No condition but the closed checks that are named. -/
variable {P : Program} {F : Facts} {σ : Sg} {fr : List AV} {own : List Blk} {a : Act} {w0 w : World}
end Go.Proofs.Ythekpmpcbidjiaa
