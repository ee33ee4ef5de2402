/- An evaluation of Go code on plain data, with things of the call's own: whatever it says of a function's body holds of the function's calls, in whatever world and order. No condition. -/
import Derived.Test.YtcemohoigdninaaGreatDoorQ3
namespace Go.Proofs.YtcemohoigdninaaGreatDoor
open Go Go.RowKit Go.Sort
set_option linter.unusedVariables false
set_option linter.unusedSimpArgs false

/-- What is known of a value: it; that it is this Bool (known); that it points into the call's own block k; that it is the call's own slice k; that it points to cell 'off' of that slice's array; a part of slice k, n elements from cell 'off' on; the call's own value k; nothing. -/
inductive AV where
  | v (x : Value)
  | lit (b : Bool)
  | p (k off : Nat)
  | s (k : Nat)
  | e (k off : Nat)
  | sub (k off n : Nat)
  | t (k : Nat)
  | junk
/-- What is known of memory that came in: of cells; of whole blocks. -/
structure Facts where
  c : Nat → Nat → Value → Prop
  o : Nat → (Obj → Prop) → Prop
instance : CoeFun Facts (fun _ => Nat → Nat → Value → Prop) := ⟨Facts.c⟩
def Facts.at (F : Facts) (b : Nat) : Prop := (∃ o x, F.c b o x) ∨ ∃ p, F.o b p
abbrev OP := Facts → Value → Prop
/-- A block of the call's own: a variable's cells; the array of a slice of n elements of type T, z cells each, whose cells are xs; a value of these parts (a tuple, or a struct); a map; what a fresh thing is; one that is no longer known. -/
inductive Blk where
  | cells (l : List AV)
  | row (T : TypeId) (z n : Nat) (xs : List Value)
  | comp (tup : Bool) (l : List AV)
  | map (es : List (Value × Value))
  | obj (p : OP)
  | dead

/-- The places where an evaluation stands still. -/
structure Br (b : Bool) (A B : Prop) : Prop where
  t : b = true → A
  f : b = false → B
structure Ob (p K : Prop) : Prop where
  ob : p
  k : K

def nth {α : Type} : List α → Nat → Option α
  | [], _ => none
  | x :: _, 0 => some x
  | _ :: l, n + 1 => nth l n
def setL {α : Type} : List α → Nat → α → List α
  | [], _, _ => []
  | _ :: l, 0, x => x :: l
  | y :: l, n + 1, x => y :: setL l n x
def setK {α : Type} : List α → Nat → α → (List α → Prop) → Prop
  | [], _, _, K => K []
  | _ :: l, 0, x, K => K (x :: l)
  | y :: l, n + 1, x, K => setK l n x fun l' => K (y :: l')
def putK (d : Option Tmp) (fr : List AV) (x : AV) (K : List AV → Prop) : Prop :=
  match d with
  | none => K fr
  | some d => setK fr d x K
def putL (d : Option Tmp) (fr : List AV) (x : AV) : List AV :=
  match d with
  | none => fr
  | some d => setL fr d x
def ev (fr : List AV) : Operand → Option AV
  | .tmp t => nth fr t
  | .const v => match v with
    | .bool b => some (.lit b)
    | v => some (.v v)
  | .global g => some (.v (.pointer (some ⟨g, 0, none⟩)))
  | .func f => some (.v (.func (.func f) #[] #[]))
def evx (fr : List AV) (x : Operand) : Value :=
  match ev fr x with
  | some (.v u) => u
  | some (.lit b) => .bool b
  | _ => undef
def isx (fr : List AV) (x : Operand) : Bool :=
  match ev fr x with
  | some (.v _) => true
  | some (.lit _) => true
  | _ => false

/-- What asks nothing of the world. -/
def pureRun {α : Type} (P : Program) : Sem α → Option α
  | .pure a => some a
  | .program k => pureRun P (k P)
  | .mark _ k => pureRun P k
  | _ => none
def forceL : List Value → (List Value → Prop) → Prop
  | [], K => K []
  | x :: l, K => match x with
    | .int k n => forceL l fun l => K (.int k n :: l)
    | .bool b => forceL l fun l => K (.bool b :: l)
    | .string s => forceL l fun l => K (.string s :: l)
    | .agg c => forceL l fun l => K (.agg c :: l)
    | .tuple c => forceL l fun l => K (.tuple c :: l)
    | .pointer a => forceL l fun l => K (.pointer a :: l)
    | .slice a n c => forceL l fun l => K (.slice a n c :: l)
    | .func f x y => forceL l fun l => K (.func f x y :: l)
    | .map r => forceL l fun l => K (.map r :: l)
    | .nilFunc => forceL l fun l => K (.nilFunc :: l)
    | .nilIface => forceL l fun l => K (.nilIface :: l)
    | x => forceL l fun l => K (x :: l)
def forceV (x : Value) (K : Value → Prop) : Prop :=
  match x with
  | .int k n => K (.int k n)
  | .bool b => K (.bool b)
  | .string s => K (.string s)
  | .agg c => forceL c.toList fun l => K (.agg l.toArray)
  | .tuple c => forceL c.toList fun l => K (.tuple l.toArray)
  | .pointer a => K (.pointer a)
  | .slice a n c => K (.slice a n c)
  | .func f x y => K (.func f x y)
  | .map r => K (.map r)
  | .nilFunc => K .nilFunc
  | .nilIface => K .nilIface
  | x => K x
def intK (op : BinOp) (k : IntKind) (a b : Int) (K : Value → Prop) (E : Prop) : Prop :=
  match op with
  | .add => K (.int k (k.wrap (a + b)))
  | .sub => K (.int k (k.wrap (a - b)))
  | .mul => K (.int k (k.wrap (a * b)))
  | .quo => Ob (b ≠ 0) <| K (.int k (k.wrap (a.tdiv b)))
  | .rem => Ob (b ≠ 0) <| K (.int k (a.tmod b))
  | .shl => Ob (0 ≤ b) <| K (.int k (k.wrap (a * 2 ^ min b.toNat k.bits)))
  | .shr => Ob (0 ≤ b) <| K (.int k (a.fdiv (2 ^ min b.toNat k.bits)))
  | .eql => K (.bool (a == b))
  | .neq => K (.bool (a != b))
  | .lss => K (.bool (a < b))
  | .leq => K (.bool (a ≤ b))
  | .gtr => K (.bool (a > b))
  | .geq => K (.bool (a ≥ b))
  | _ => E

/-- The facts hold of a world. -/
def Sat (F : Facts) (W : World) : Prop := (∀ b o x, F b o x → W.cell? ⟨b, o, none⟩ = some x) ∧ ∀ b p, F.o b p → ∃ ob, W.heap[b]? = some ob ∧ p ob
def noFacts : Facts := ⟨fun _ _ _ => False, fun _ _ => False⟩
def orF (F G : Facts) : Facts := ⟨fun b o x => F b o x ∨ G b o x, fun b p => F.o b p ∨ G.o b p⟩
/-- All that a world holds. -/
def memF (W : World) : Facts := ⟨fun b o x => W.cell? ⟨b, o, none⟩ = some x, fun b p => ∃ ob, W.heap[b]? = some ob ∧ p ob⟩
/-- The cells of a row. -/
def rowF (b off : Nat) (xs : List Value) : Facts := ⟨fun b' o x => b' = b ∧ ∃ j, o = off + j ∧ xs[j]? = some x, fun _ _ => False⟩

/-- A function's contract: in every world in which the facts hold it returns this, and leaves what was there as it was. -/
structure Den (P : Program) (f : FuncId) (args : Array Value) (F : Facts) (v : Value) : Prop where
  out : ∀ W, Sat F W → Calls P f args W fun e w' => e = .returned v ∧ Below W.heap.size W w'

/-- Where the call's own slices stand among the arguments: for whatever address they have. -/
def argsX : List AV → Option (List Value)
  | [] => some []
  | .v x :: l => match argsX l with
    | some l => some (x :: l)
    | none => none
  | .lit b :: l => match argsX l with
    | some l => some (.bool b :: l)
    | none => none
  | _ => none
/-- An argument: a value; a slice that has these cells; whatever the memory says so of. -/
inductive AR where
  | v (x : Value)
  | r (z n : Nat) (xs : List Value)
  | o (p : OP)
/-- A slice of n elements, z cells each. -/
def SlP (z n : Nat) (xs : List Value) : OP := fun G u => xs.length = n * z ∧ ∃ ad c, u = .slice ad n c ∧ (0 < n → ∃ b off, ad = some ⟨b, off, none⟩ ∧ ∀ (j : Nat) (v : Value), xs[j]? = some v → G b (off + j) v)
def ArIs (W : World) : AR → Value → Prop
  | .v x, u => u = x
  | .r z n xs, u => SlP z n xs (memF W) u
  | .o p, u => p (memF W) u
def ArsAre (W : World) : List AR → List Value → Prop
  | [], us => us = []
  | x :: l, us => ∃ u us', us = u :: us' ∧ ArIs W x u ∧ ArsAre W l us'
/-- A contract for slices, and fresh things, that lie wherever they lie. -/
structure DenA (P : Program) (f : FuncId) (F : Facts) (args : List AR) (v : Value) : Prop where
  out : ∀ W us, Sat F W → ArsAre W args us → Calls P f us.toArray W fun e w' => e = .returned v ∧ Below W.heap.size W w'

/-- The call's own values, by their names: each with the blocks that it takes up. -/
structure Nm where
  v : Value
  fp : Nat → Prop
abbrev Sg := Nat → Option Nm
/-- What the value is, the call's own things being named by σ. -/
def AV.Is (σ : Sg) : AV → Value → Prop
  | .v x, u => u = x
  | .lit b, u => u = .bool b
  | .p k off, u => ∃ m b, σ k = some m ∧ m.v = .pointer (some ⟨b, 0, none⟩) ∧ u = .pointer (some ⟨b, off, none⟩)
  | .s k, u => ∃ m, σ k = some m ∧ m.v = u ∧ ∃ ad n c, u = .slice ad n c
  | .e k off, u => ∃ m b n c, σ k = some m ∧ m.v = .slice (some ⟨b, 0, none⟩) n c ∧ u = .pointer (some ⟨b, off, none⟩)
  | .sub k off n, u => ∃ m ad c, σ k = some m ∧ u = .slice ad n c ∧ n ≤ c ∧ (0 < n → ∃ b N c', m.v = .slice (some ⟨b, 0, none⟩) N c' ∧ ad = some ⟨b, off, none⟩)
  | .t k, u => ∃ m, σ k = some m ∧ m.v = u
  | .junk, _ => True
structure FrIs (σ : Sg) (fr : List AV) (tmps : Array Value) : Prop where
  len : fr.length = tmps.size
  at_ : ∀ (i : Nat) (x : AV), fr[i]? = some x → ∃ u, tmps[i]? = some u ∧ x.Is σ u
/-- What a thing of the call's own is. -/
def BlkIs (base : Nat) (F : Facts) (w : World) (σ : Sg) (m : Nm) : Blk → Prop
  | .cells l => ∃ b xs T, m.v = .pointer (some ⟨b, 0, none⟩) ∧ w.heap[b]? = some (.cells xs T (0, 0)) ∧ FrIs σ l xs ∧ ∀ g, m.fp g ↔ g = b
  | .row T z n xs => (w.ownsRow base T z m.v n xs ∧ ∀ u ∈ xs, u.oneCell' = true) ∧ ∀ g, m.fp g ↔ m.v.ownBlock = some g
  | .comp tup l => ∃ vs, m.v = (match tup with | true => .tuple vs | false => .agg vs) ∧ FrIs σ l vs
  | .map es => ∃ r es' cl, m.v = .map (some r) ∧ w.heap[r]? = some (.map es' cl) ∧ (es'.toList.map fun e => (e.key, e.val)) = es ∧ ∀ g, m.fp g ↔ g = r
  | .obj p => ∀ G : Facts, (∀ b o x, F b o x → G b o x) → (∀ b o x, m.fp b → w.cell? ⟨b, o, none⟩ = some x → G b o x) → p G m.v
  | .dead => True
/-- The call's own things, and the facts, in a world. -/
structure Mem (base : Nat) (F : Facts) (σ : Sg) (own : List Blk) (w : World) : Prop where
  blk : ∀ (k : Nat) (b : Blk) (m : Nm), own[k]? = some b → σ k = some m → BlkIs base F w σ m b
  lt : ∀ (k : Nat) (m : Nm) (b : Nat), σ k = some m → m.fp b → b < w.heap.size
  sat : Sat F w
/-- The memory when the call has come here. -/
structure Reg (w0 : World) (F : Facts) (σ : Sg) (own : List Blk) (w : World) : Prop where
  mem : Mem w0.heap.size F σ own w
  dom : ∀ (k : Nat) (m : Nm), σ k = some m → k < own.length
  inj : ∀ (k k' : Nat) (m m' : Nm) (b : Nat), σ k = some m → σ k' = some m' → m.fp b → m'.fp b → k = k'
  ge : ∀ (k : Nat) (m : Nm) (b : Nat), σ k = some m → m.fp b → w0.heap.size ≤ b
  old : ∀ b, F.at b → b < w0.heap.size
  below : Below w0.heap.size w0 w
def retV (l : List Value) : Value :=
  match l with
  | [u] => u
  | l => .tuple l.toArray
/-- A contract of a function that returns fresh things: 'res' are its results, 'own' what is new. -/
structure DenF (P : Program) (f : FuncId) (F : Facts) (args : List AR) (res : List AV) (own : List Blk) : Prop where
  out : ∀ W us, Sat F W → ArsAre W args us → Calls P f us.toArray W fun e w' => ∃ σ vs, e = .returned (retV vs) ∧ Reg W F σ own w' ∧ (∀ k, k < own.length → σ k ≠ none) ∧ FrIs σ res vs.toArray

/-- Named n further up. -/
def upA (n : Nat) : AV → AV
  | .p k off => .p (k + n) off
  | .s k => .s (k + n)
  | .e k off => .e (k + n) off
  | .sub k off m => .sub (k + n) off m
  | .t k => .t (k + n)
  | x => x
def upAK (n : Nat) : List AV → (List AV → Prop) → Prop
  | [], K => K []
  | x :: l, K => match x with
    | .v u => upAK n l fun l => K (.v u :: l)
    | .lit b => upAK n l fun l => K (.lit b :: l)
    | .p k off => upAK n l fun l => K (.p (k + n) off :: l)
    | .s k => upAK n l fun l => K (.s (k + n) :: l)
    | .e k off => upAK n l fun l => K (.e (k + n) off :: l)
    | .sub k off m => upAK n l fun l => K (.sub (k + n) off m :: l)
    | .t k => upAK n l fun l => K (.t (k + n) :: l)
    | .junk => upAK n l fun l => K (.junk :: l)
def upB (n : Nat) : Blk → Blk
  | .cells l => .cells (l.map (upA n))
  | .comp tup l => .comp tup (l.map (upA n))
  | b => b
def upBK (n : Nat) : List Blk → (List Blk → Prop) → Prop
  | [], K => K []
  | b :: l, K => match b with
    | .cells c => upAK n c fun c => upBK n l fun l => K (.cells c :: l)
    | .comp tup c => upAK n c fun c => upBK n l fun l => K (.comp tup c :: l)
    | .row T z m xs => upBK n l fun l => K (.row T z m xs :: l)
    | .map es => upBK n l fun l => K (.map es :: l)
    | .obj p => upBK n l fun l => K (.obj p :: l)
    | .dead => upBK n l fun l => K (.dead :: l)
def appK {α : Type} : List α → α → (List α → Prop) → Prop
  | [], x, K => K [x]
  | y :: l, x, K => appK l x fun l => K (y :: l)
/-- What comes of a call that returns fresh things. -/
def freshResK (n : Nat) (res : List AV) (own : List Blk) (K : AV → List Blk → Prop) : Prop :=
  upBK n own fun bs => match res with
    | [x] => upAK n [x] fun l => match l with
      | [x] => K x bs
      | _ => False
    | l => upAK n l fun l => appK bs (.comp true l) fun bs => K (.t (own.length + n)) bs

inductive CallN (P : Program) (f : FuncId) (args : List Value) (F : Facts) (n : Nat) (K : AV → List Blk → Prop) : Prop where
  | mk (v : Value) (h : Den P f args.toArray F v) (k : forceV v fun v => K (.v v) []) : CallN P f args F n K
  | any (v : Value) (h : Den P f args.toArray noFacts v) (k : forceV v fun v => K (.v v) []) : CallN P f args F n K
  | fresh (res : List AV) (own : List Blk) (h : DenF P f F (args.map .v) res own) (k : freshResK n res own K) : CallN P f args F n K
  | anyFresh (res : List AV) (own : List Blk) (h : DenF P f noFacts (args.map .v) res own) (k : freshResK n res own K) : CallN P f args F n K
/-- A call of a function that the model stands in for. -/
inductive ExtN (P : Program) (f : FuncId) (args : List Value) (K : AV → List Blk → Prop) : Prop where
  | mk (v : Value) (h : ∀ W, (callFunc f args.toArray).run P W = .ok (.value v) W) (k : forceV v fun v => K (.v v) []) : ExtN P f args K
def extCall (P : Program) (fr : List AV) (c : Call) : Option (FuncId × List Value) :=
  match c.callee with
  | .value f => match ev fr f with
    | some (.v (.func (.func g) first captured)) => match P.funcs[g]? with
      | some fn => match fn.body with
        | none => some (g, first.toList ++ (c.args.toList.map (evx fr) ++ captured.toList))
        | some _ => none
      | none => none
    | _ => none
  | _ => none
inductive CallA (P : Program) (f : FuncId) (F : Facts) (args : List AR) (n : Nat) (K : AV → List Blk → Prop) : Prop where
  | mk (v : Value) (h : DenA P f F args v) (k : forceV v fun v => K (.v v) []) : CallA P f F args n K
  | any (v : Value) (h : DenA P f noFacts args v) (k : forceV v fun v => K (.v v) []) : CallA P f F args n K
  | fresh (res : List AV) (own : List Blk) (h : DenF P f F args res own) (k : freshResK n res own K) : CallA P f F args n K
  | anyFresh (res : List AV) (own : List Blk) (h : DenF P f noFacts args res own) (k : freshResK n res own K) : CallA P f F args n K
def entersB (P : Program) (g : FuncId) : Bool :=
  match P.funcs[g]? with
  | some fn => match fn.name == "runtime.NumGoroutine", fn.body with
    | false, some _ => true
    | _, _ => false
  | none => false
def valsR (l : List Value) (m : List AR) : List AR :=
  match l with
  | [] => m
  | x :: l => .v x :: valsR l m
/-- The cells of a slice of the call's own. -/
inductive RowN (xs : List Value) (off n : Nat) (K : List Value → Prop) : Prop where
  | mk (vs : List Value) (h : (xs.drop off).take n = vs) (hl : vs.length = n) (k : K vs) : RowN xs off n K
/-- Cells of the memory that came in. -/
inductive CellsN (F : Facts) (b off n : Nat) (K : List Value → Prop) : Prop where
  | mk (vs : List Value) (h : ∀ (j : Nat) (v : Value), vs[j]? = some v → F b (off + j) v) (hl : vs.length = n) (k : K vs) : CellsN F b off n K
/-- Where a slice lies. -/
inductive AdN (ad : Option Addr) (K : Nat → Nat → Prop) : Prop where
  | mk (b off : Nat) (h : ad = some ⟨b, off, none⟩) (k : K b off) : AdN ad K
/-- The text of bytes. -/
inductive StrN (xs : List Value) (K : Value → Prop) : Prop where
  | mk (s : ByteArray) (h : xs = (s.data.toList.map fun b => Value.int .u8 b.toNat)) (k : K (.string s)) : StrN xs K

def isSel : Op → Bool
  | .select _ _ => true
  | _ => false
def mapA {α β : Type} (f : α → β) (xs : Array α) : Array β := (xs.toList.map f).toArray
def appA {α : Type} (xs ys : Array α) : Array α := (xs.toList ++ ys.toList).toArray
/-- 'execOp', its arrays laid as lists. -/
def execX (ρ : Operand → Value) (o : Oper) : Sem Next :=
  match o.op with
  | .makeFunc fn first captured => do pure (.value (← Instr.makeFunc fn (mapA ρ first) (mapA ρ captured)))
  | .call c => match c.callee with
    | .builtin b => builtin b c.argTypes o.type (c.args.map fun | .const _ => true | _ => false) (mapA ρ c.args)
    | .value f => match ρ f with
      | .func (.func g) first captured => callFunc g (appA (appA first (mapA ρ c.args)) captured)
      | _ => execOp ρ o
    | _ => execOp ρ o
  | _ => execOp ρ o
theorem mapA_eq {α β : Type} (f : α → β) (xs : Array α) : mapA f xs = xs.map f := by unfold mapA; rw [← Array.toList_map]
theorem appA_eq {α : Type} (xs ys : Array α) : appA xs ys = xs ++ ys := by unfold appA; rw [← Array.toList_append]
theorem execX_eq (ρ : Operand → Value) (o : Oper) : execX ρ o = execOp ρ o := by
  unfold execX
  split
  · rename_i fn first captured ho
    simp only [execOp, ho, mapA_eq]
  · rename_i c ho
    split
    · rename_i b hb
      simp only [execOp, ho, resolve, hb, mapA_eq]
      rfl
    · rename_i f hf
      split
      · rename_i g first captured hg
        simp only [execOp, ho, resolve, hf, hg, mapA_eq, appA_eq, Deferred.ofValue]
        rfl
      · rfl
    · rfl
  · rfl

def storeV : List Value → Nat → List Value → List Value
  | cells, _, [] => cells
  | cells, off, x :: l => storeV (setL cells off x) (off + 1) l
def fillX (place : Nat → Option (Nat × Nat)) : List Value → List (Nat × Value) → Option (List Value)
  | cells, [] => some cells
  | cells, (i, v) :: l => match place i with
    | some (off, size) => match decide (v.cells.size = size), decide (off + v.cells.size ≤ cells.length) with
      | true, true => fillX place (storeV cells off v.cells.toList) l
      | _, _ => none
    | none => none
def placeX (P : Program) (fs : Array Field) (i : Nat) : Option (Nat × Nat) :=
  match fs[i]? with
  | some f => match P.info? f.type with
    | some g => some (f.offset, g.size)
    | none => none
  | none => none
def zeroX (P : Program) (t : TypeId) : Option (List Value) :=
  match P.info? t with
  | some i => match i.zero with
    | some z => some z.cells.toList
    | none => none
  | none => none
def partsX (fr : List AV) (ps : Array (Nat × Operand)) : List (Nat × Value) := ps.toList.map fun (i, x) => (i, evx fr x)
def allInfo (P : Program) (fs : Array Field) : Bool := fs.toList.all fun f => (P.info? f.type).isSome
def buildX (P : Program) (t : TypeId) (ps : List (Nat × Value)) : Option (List Value) :=
  match P.underlying t, zeroX P t with
  | some (.struct fs), some z => match allInfo P fs with
    | true => fillX (placeX P fs) z ps
    | false => none
  | some (.array _ e), some z => match P.info? e with
    | some g => fillX (fun i => some (i * g.size, g.size)) z ps
    | none => none
  | _, _ => none

def lenK {α : Type} : List α → Nat → (Nat → Prop) → Prop
  | [], n, K => K n
  | _ :: l, n, K => lenK l (n + 1) K
def exactK (P : Program) (F : Facts) (o : Oper) (fr : List AV) (own : List Blk) (K : AV → List Blk → Prop) : Prop :=
  match !isSel o.op && o.op.operands.toList.all (isx fr) with
  | true => match pureRun P (execX (evx fr) o) with
    | some (.value u) => forceV u fun u => K (.v u) []
    | some .skip => K (.v undef) []
    | some (.enter f args) => forceL args.toList fun args => lenK own 0 fun n => CallN P f args F n K
    | _ => False
  | false => False

def takeX : List AV → Nat → (List Value → Prop) → Prop
  | _, 0, K => K []
  | .v x :: l, n + 1, K => takeX l n fun l => K (x :: l)
  | .lit b :: l, n + 1, K => takeX l n fun l => K (.bool b :: l)
  | _, _ + 1, _ => False
def dropL {α : Type} : List α → Nat → List α
  | l, 0 => l
  | [], _ + 1 => []
  | _ :: l, n + 1 => dropL l n
def aggT (P : Program) (t : TypeId) : Option Bool :=
  match P.underlying t with
  | some (.struct _) => some true
  | some (.array _ _) => some true
  | some _ => some false
  | none => none
def loadK (P : Program) (t : TypeId) (cells : List AV) (off : Nat) (K : AV → Prop) : Prop :=
  match aggT P t with
  | some true => match P.info? t with
    | some i => takeX (dropL cells off) i.size fun l => K (.v (.agg l.toArray))
    | none => False
  | some false => match nth cells off with
    | some (.v x) => K (.v x)
    | some (.lit b) => K (.lit b)
    | some (.p k off) => K (.p k off)
    | some (.s k) => K (.s k)
    | some (.e k off) => K (.e k off)
    | some (.sub k off n) => K (.sub k off n)
    | some (.t k) => K (.t k)
    | _ => False
  | none => False

def loadF (P : Program) (t : TypeId) (F : Facts) (b off : Nat) (K : AV → Prop) : Prop :=
  match aggT P t with
  | some true => match P.info? t with
    | some i => CellsN F b off i.size fun l => K (.v (.agg l.toArray))
    | none => False
  | some false => CellsN F b off 1 fun l => match l with
    | [x] => K (.v x)
    | _ => False
  | none => False
def loadR (P : Program) (t : TypeId) (xs : List Value) (off : Nat) (K : AV → Prop) : Prop :=
  match aggT P t with
  | some true => match P.info? t with
    | some i => RowN xs off i.size fun l => K (.v (.agg l.toArray))
    | none => False
  | some false => RowN xs off 1 fun l => match l with
    | [x] => K (.v x)
    | _ => False
  | none => False
/-- The size of a slice type's elements. -/
def elemSize (P : Program) (t : TypeId) : Option Nat :=
  match P.underlying t with
  | some (.slice e) => match P.info? e with
    | some i => some i.size
    | none => none
  | _ => none
def oneC : Value → Bool
  | .agg _ => false
  | .tuple _ => false
  | _ => true

/-- Types whose values are compared part by part. -/
def eqTy (P : Program) : Nat → TypeId → Bool
  | 0, _ => false
  | n + 1, t => match P.underlying t with
    | some (.int _) => true
    | some .bool => true
    | some .string => true
    | some (.struct fs) => !P.stoodInHeld t && fs.toList.all fun f => eqTy P n f.type
    | some (.array _ e) => eqTy P n e
    | _ => false
def partV (P : Program) (t : TypeId) (cs : Array Value) (off : Nat) : Option Value :=
  match aggT P t with
  | some true => match P.info? t with
    | some i => some (.agg (cs.extract off (off + i.size)))
    | none => none
  | some false => cs[off]?
  | none => none
def oneA : AV → Bool
  | .v x => oneC x
  | .junk => false
  | .t _ => false
  | _ => true
/-- A slice type: its elements' type, and their size in cells and bytes. -/
def rowInfo (P : Program) (t : TypeId) : Option (TypeId × Nat × Nat) :=
  match P.underlying t with
  | some (.slice e) => match P.info? e, zeroX P e with
    | some i, some l => match i.size with
      | 0 => none
      | z + 1 => match decide (l.length = z + 1) with
        | true => some (e, z + 1, i.bytes)
        | false => none
    | _, _ => none
  | _ => none
def repX (n : Nat) (z : List Value) : List Value :=
  match n with
  | 0 => []
  | n + 1 => z ++ repX n z
/-- The cells of a slice that is written out. -/
def rowX (P : Program) (t : TypeId) (n : Nat) (ps : List (Nat × Value)) : Option (TypeId × Nat × List Value) :=
  match rowInfo P t with
  | some (e, z, _) => match zeroX P e, decide (n * z ≤ 16777216) with
    | some l, true => match fillX (fun i => some (i * z, z)) (repX n l) ps with
      | some l => some (e, z, l)
      | none => none
    | _, _ => none
  | none => none
def andO (x y : Option Bool) : Option Bool :=
  match x, y with
  | some a, some b => some (a && b)
  | _, _ => none
def eqFs (P : Program) (eq : TypeId → Value → Value → Option Bool) (xs ys : Array Value) : List Field → Option Bool
  | [] => some true
  | f :: fs => match f.name != "_" with
    | true => match partV P f.type xs f.offset, partV P f.type ys f.offset with
      | some a, some b => match fs with
        | [] => eq f.type a b
        | fs => andO (eq f.type a b) (eqFs P eq xs ys fs)
      | _, _ => none
    | false => eqFs P eq xs ys fs
def eqIs (P : Program) (eq : TypeId → Value → Value → Option Bool) (e : TypeId) (z : Nat) (xs ys : Array Value) : List Nat → Option Bool
  | [] => some true
  | i :: is => match partV P e xs (i * z), partV P e ys (i * z) with
    | some a, some b => match is with
      | [] => eq e a b
      | is => andO (eq e a b) (eqIs P eq e z xs ys is)
    | _, _ => none
def eqV (P : Program) : Nat → TypeId → Value → Value → Option Bool
  | 0, _, _, _ => none
  | n + 1, t, x, y => match P.underlying t, x, y with
    | some (.int _), .int k a, .int k' b => match decide (k = k') with
      | true => some (a == b)
      | false => none
    | some .bool, .bool a, .bool b => some (a == b)
    | some .string, .string a, .string b => some (a.toList == b.toList)
    | some (.struct fs), .agg xs, .agg ys => eqFs P (eqV P n) xs ys fs.toList
    | some (.array m e), .agg xs, .agg ys => match P.info? e with
      | some i => eqIs P (eqV P n) e i.size xs ys (List.range m)
      | none => none
    | _, _, _ => none
def eqDeep : Nat := 12
def eqOk (P : Program) (t : TypeId) : Bool := eqTy P eqDeep t && !P.eqGuardType P.depth t
def isShift : BinOp → Bool
  | .shl => true
  | .shr => true
  | _ => false

def boolA : AV → Option Bool
  | .v (.bool b) => some b
  | .lit b => some b
  | _ => none

/-- 'len(x)': x, and its type. -/
def lenArg (c : Call) : Option (TypeId × Operand) :=
  match c.callee with
  | .builtin .len => match c.argTypes.toList, c.args.toList with
    | [t], [x] => some (t, x)
    | _, _ => none
  | _ => none
def isSlice (P : Program) (t : TypeId) : Bool :=
  match P.underlying t with
  | some (.slice _) => true
  | _ => false

/-- A part of a slice's cells. -/
def partRow (z off n : Nat) (xs : List Value) : List Value := (xs.drop off).take (n * z)
/-- A call that is handed slices of the caller's own. -/
def rowsK (fr : List AV) (own : List Blk) : List Operand → List AR → (List AR → Prop) → Prop
  | [], m, K => K m
  | x :: l, m, K => match ev fr x with
    | some (.v u) => rowsK fr own l m fun l => K (.v u :: l)
    | some (.lit b) => rowsK fr own l m fun l => K (.v (.bool b) :: l)
    | some (.s k) => match nth own k with
      | some (.row _ z n xs) => rowsK fr own l m fun l => K (.r z n xs :: l)
      | _ => False
    | some (.sub k off n) => match nth own k with
      | some (.row _ z N xs) => Ob (off + n * z ≤ N * z) <| rowsK fr own l m fun l => K (.r z n (partRow z off n xs) :: l)
      | _ => False
    | some (.t k) => match nth own k with
      | some (.obj p) => rowsK fr own l m fun l => K (.o p :: l)
      | _ => False
    | _ => False
def ownCallK (P : Program) (F : Facts) (fr : List AV) (own : List Blk) (c : Call) (K : AV → List Blk → Prop) : Prop :=
  match c.callee with
  | .value f => match ev fr f with
    | some (.v (.func (.func g) first captured)) => match entersB P g with
      | true => rowsK fr own c.args.toList (valsR captured.toList []) fun args => lenK own 0 fun n => CallA P g F (valsR first.toList args) n K
      | false => False
    | _ => False
  | _ => False

def mapvK : List Value → (List AV → Prop) → Prop
  | [], K => K []
  | x :: l, K => mapvK l fun l => K (.v x :: l)
/-- The cells of one value. -/
def cellsK (x : AV) (K : List AV → Prop) : Prop :=
  match x with
  | .v u => forceL u.cells.toList fun l => mapvK l K
  | .lit b => K [.lit b]
  | .p k off => K [.p k off]
  | .s k => K [.s k]
  | .e k off => K [.e k off]
  | .sub k off n => K [.sub k off n]
  | .t _ => False
  | .junk => False
/-- What is looked up in a map: key by key. -/
def findK (k : IntKind) (a : Int) : List (Value × Value) → (Option Value → Prop) → Prop
  | [], K => K none
  | (.int k' b, v) :: l, K => match decide (k = k') with
    | true => Br (decide (a = b)) (K (some v)) (findK k a l K)
    | false => False
  | _ :: _, _ => False
def mapInfo (P : Program) (t : TypeId) : Option (TypeId × Value) :=
  match P.underlying t with
  | some (.map kt e) => match P.underlying kt, P.info? e with
    | some (.int _), some i => match i.zero with
      | some z => some (kt, z)
      | none => none
    | _, _ => none
  | _ => none
/-- The bounds of a slice expression. -/
def boundX (fr : List AV) (x : Option Operand) (d : Nat) : Option Int :=
  match x with
  | none => some d
  | some x => match ev fr x with
    | some (.v (.int _ n)) => some n
    | _ => none

/-- Operations that leave the memory that was there as it is: they may lay things anew. -/
def valK (P : Program) (F : Facts) (o : Oper) (fr : List AV) (own : List Blk) (K : AV → List Blk → Prop) : Prop :=
  match o.op with
  | .move x => match ev fr x with
    | some u => K u []
    | none => False
  | .assign x => match ev fr x with
    | some u => K u []
    | none => False
  | .pick c x y => match ev fr c, ev fr x, ev fr y with
    | some (.v (.bool b)), some u, some u' => Br b (K u []) (K u' [])
    | some (.lit b), some u, some u' => (match b with | true => K u [] | false => K u' [])
    | _, _, _ => False
  | .binOp op t x y _ => match ev fr x, ev fr y with
    | some (.v (.int k a)), some (.v (.int k' b)) => match isShift op || decide (k = k') with
      | true => intK op k a b (fun u => K (.v u) []) (exactK P F o fr own K)
      | false => exactK P F o fr own K
    | some (.v (.string a)), some (.v (.string b)) => match op with
      | .add => Ob (((a.size + b.size : Nat) : Int) ≤ 9223372036854775807) <| K (.v (.string (a ++ b))) []
      | _ => exactK P F o fr own K
    | some (.v (.agg xs)), some (.v (.agg ys)) => match op with
      | .eql => Ob (eqOk P t = true) <| match eqV P eqDeep t (.agg xs) (.agg ys) with
        | some b => K (.v (.bool b)) []
        | none => False
      | .neq => Ob (eqOk P t = true) <| match eqV P eqDeep t (.agg xs) (.agg ys) with
        | some b => K (.v (.bool !b)) []
        | none => False
      | _ => False
    | some u, some u' => match boolA u, boolA u', P.underlying t, op with
      | some b, some b', some .bool, .eql => K (.v (.bool (b == b'))) []
      | some b, some b', some .bool, .neq => K (.v (.bool (!(b == b')))) []
      | _, _, _, _ => exactK P F o fr own K
    | _, _ => False
  | .load t x => match ev fr x with
    | some (.p k off) => match nth own k with
      | some (.cells cells) => loadK P t cells off fun x => K x []
      | _ => False
    | some (.e k off) => match nth own k with
      | some (.row _ _ _ xs) => loadR P t xs off fun x => K x []
      | _ => False
    | some (.v (.pointer (some ⟨b, off, none⟩))) => loadF P t F b off fun x => K x []
    | _ => False
  | .indexAddr t x i => match ev fr x, ev fr i with
    | some (.v (.slice ad len cap)), some (.v (.int k n)) => match elemSize P t with
      | some z => Ob (0 ≤ n ∧ n < len) <| AdN ad fun b off => K (.v (.pointer (some ⟨b, off + n.toNat * z, none⟩))) []
      | none => False
    | some (.s k), some (.v (.int _ n)) => match nth own k, elemSize P t with
      | some (.row _ z' len _), some z => match decide (z = z') with
        | true => Ob (0 ≤ n ∧ n < len) <| K (.e k (n.toNat * z)) []
        | false => False
      | _, _ => False
    | some (.sub k off m), some (.v (.int _ n)) => match nth own k, elemSize P t with
      | some (.row _ z' _ _), some z => match decide (z = z') with
        | true => Ob (0 ≤ n ∧ n < m) <| K (.e k (off + n.toNat * z)) []
        | false => False
      | _, _ => False
    | some (.p k off), some (.v (.int _ n)) => match P.underlying t with
      | some (.array len e) => match P.info? e with
        | some i => Ob (0 ≤ n ∧ n < len) <| K (.p k (off + n.toNat * i.size)) []
        | none => False
      | _ => False
    | _, _ => exactK P F o fr own K
  | .slice t x lo hi none => match ev fr x, elemSize P t with
    | some (.s k), some z => match nth own k with
      | some (.row _ z' len _) => match decide (z = z'), boundX fr lo 0, boundX fr hi len with
        | true, some l, some h => Ob (0 ≤ l ∧ l ≤ h ∧ h ≤ len) <| K (.sub k (l.toNat * z) (h.toNat - l.toNat)) []
        | _, _, _ => False
      | _ => False
    | some (.sub k off n), some z => match nth own k with
      | some (.row _ z' len _) => match decide (z = z'), boundX fr lo 0, boundX fr hi n with
        | true, some l, some h => Ob (0 ≤ l ∧ l ≤ h ∧ h ≤ n) <| K (.sub k (off + l.toNat * z) (h.toNat - l.toNat)) []
        | _, _, _ => False
      | _ => False
    | _, _ => exactK P F o fr own K
  | .fieldAddr s x f => match ev fr x, P.underlying s with
    | some (.p k off), some (.struct fs) => match fs[f]? with
      | some g => match P.info? g.type with
        | some i => match i.size with
          | 0 => False
          | _ + 1 => K (.p k (off + g.offset)) []
        | none => False
      | none => False
    | some (.e k off), some (.struct fs) => match fs[f]? with
      | some g => match P.info? g.type with
        | some i => match i.size with
          | 0 => False
          | _ + 1 => K (.e k (off + g.offset)) []
        | none => False
      | none => False
    | _, _ => exactK P F o fr own K
  | .nilCheck x => match ev fr x with
    | some (.p k off) => K (.p k off) []
    | some (.e k off) => K (.e k off) []
    | _ => exactK P F o fr own K
  | .extract x i => match ev fr x with
    | some (.t k) => match nth own k with
      | some (.comp true l) => match nth l i with
        | some y => K y []
        | none => False
      | _ => False
    | _ => exactK P F o fr own K
  | .convert src dst x => match ev fr x with
    | some (.s k) => match nth own k, P.underlying src, P.underlying dst with
      | some (.row _ 1 n xs), some (.slice e), some .string => match P.underlying e with
        | some (.int .u8) => StrN xs fun u => K (.v u) []
        | _ => False
      | _, _, _ => False
    | _ => exactK P F o fr own K
  | .lookup t x i ok => match ev fr x, ev fr i with
    | some (.t k), some (.v (.int ik n)) => match nth own k, mapInfo P t with
      | some (.map es), some (_, z) => findK ik n es fun r => match r, ok with
        | some v, true => K (.v (.tuple #[v, .bool true])) []
        | none, true => K (.v (.tuple #[z, .bool false])) []
        | some v, false => forceV v fun v => K (.v v) []
        | none, false => forceV z fun v => K (.v v) []
      | _, _ => False
    | _, _ => False
  | .call c => match lenArg c with
    | some (t, x) => match ev fr x with
      | some (.s k) => match nth own k, isSlice P t with
        | some (.row _ _ n _), true => K (.v (.int .i64 n)) []
        | _, _ => False
      | some (.sub k off n) => match isSlice P t with
        | true => K (.v (.int .i64 n)) []
        | false => False
      | _ => exactK P F o fr own K
    | none => match c.args.toList.all (isx fr) with
      | true => match extCall P fr c with
        | some (g, us) => forceL us fun us => ExtN P g us K
        | none => exactK P F o fr own K
      | false => ownCallK P F fr own c K
  | .build t ps => match ps.toList.all fun (_, x) => isx fr x with
    | true => match buildX P t (partsX fr ps) with
      | some l => forceL l fun l => K (.v (.agg l.toArray)) []
      | none => False
    | false => False
  | .alloc t => match zeroX P t with
    | some cells => forceL cells fun l => mapvK l fun l => lenK own 0 fun n => K (.p n 0) [.cells l]
    | none => False
  | .box _ x => match ev fr x with
    | some x => cellsK x fun l => lenK own 0 fun n => K (.p n 0) [.cells l]
    | none => False
  | .buildSlice t n ps => match ps.toList.all (fun (_, x) => isx fr x), rowX P t n (partsX fr ps) with
    | true, some (T, z, l) => match l.all oneC with
      | true => forceL l fun l => lenK own 0 fun m => K (.s m) [.row T z n l]
      | false => False
    | _, _ => False
  | .makeSlice t l c => match ev fr l, ev fr c, rowInfo P t with
    | some (.v (.int _ n)), some (.v (.int _ m)), some (e, z, by') => match zeroX P e with
      | some zs => match zs.all oneC with
        | true => Ob (0 ≤ n ∧ n ≤ m ∧ m * by' ≤ 140737488355328 ∧ m ≤ 140737488355328) <| lenK own 0 fun i => K (.s i) [.row e z n.toNat (repX n.toNat zs)]
        | false => False
      | none => False
    | _, _, _ => False
  | .makeMap _ none => lenK own 0 fun n => K (.t n) [.map []]
  | .store _ _ _ => False
  | .mapUpdate _ _ _ _ => False
  | .insert _ _ _ _ => False
  | _ => exactK P F o fr own K

def storeK : List AV → Nat → List AV → (List AV → Prop) → Prop
  | cells, _, [], K => K cells
  | cells, off, x :: l, K => setK cells off x fun cells => storeK cells (off + 1) l K
def catBK : List Blk → List Blk → (List Blk → Prop) → Prop
  | own, [], K => K own
  | own, b :: l, K => appK own b fun own => catBK own l K

/-- Names of slice k are forgotten. -/
def killA (k : Nat) (x : AV) : AV :=
  match x with
  | .s k' => match decide (k' = k) with
    | true => .junk
    | false => .s k'
  | .e k' off => match decide (k' = k) with
    | true => .junk
    | false => .e k' off
  | .sub k' off n => match decide (k' = k) with
    | true => .junk
    | false => .sub k' off n
  | .t k' => match decide (k' = k) with
    | true => .junk
    | false => .t k'
  | x => x
def killB (k : Nat) (b : Blk) : Blk :=
  match b with
  | .cells l => .cells (l.map (killA k))
  | .comp tup l => .comp tup (l.map (killA k))
  | b => b
def killK (k : Nat) : List AV → (List AV → Prop) → Prop
  | [], K => K []
  | x :: l, K => match x with
    | .v u => killK k l fun l => K (.v u :: l)
    | .lit b => killK k l fun l => K (.lit b :: l)
    | .p k' off => killK k l fun l => K (.p k' off :: l)
    | .s k' => match decide (k' = k) with
      | true => killK k l fun l => K (.junk :: l)
      | false => killK k l fun l => K (.s k' :: l)
    | .e k' off => match decide (k' = k) with
      | true => killK k l fun l => K (.junk :: l)
      | false => killK k l fun l => K (.e k' off :: l)
    | .sub k' off n => match decide (k' = k) with
      | true => killK k l fun l => K (.junk :: l)
      | false => killK k l fun l => K (.sub k' off n :: l)
    | .t k' => match decide (k' = k) with
      | true => killK k l fun l => K (.junk :: l)
      | false => killK k l fun l => K (.t k' :: l)
    | .junk => killK k l fun l => K (.junk :: l)
def killO (k : Nat) : List Blk → (List Blk → Prop) → Prop
  | [], K => K []
  | b :: l, K => match b with
    | .cells c => killK k c fun c => killO k l fun l => K (.cells c :: l)
    | .comp tup c => killK k c fun c => killO k l fun l => K (.comp tup c :: l)
    | .row T z n xs => killO k l fun l => K (.row T z n xs :: l)
    | .map es => killO k l fun l => K (.map es :: l)
    | .obj p => killO k l fun l => K (.obj p :: l)
    | .dead => killO k l fun l => K (.dead :: l)

/-- 'append(s, x...)': the slices, and their type. -/
def appArgs (c : Call) : Option (TypeId × Operand × Operand) :=
  match c.callee with
  | .builtin .append => match c.argTypes.toList, c.args.toList with
    | [t, t'], [s, x] => match decide (t = t') with
      | true => some (t, s, x)
      | false => none
    | _, _ => none
  | _ => none
/-- What an append to slice k does: the slice is told anew, its other names are forgotten. -/
def appendK (P : Program) (t : TypeId) (d : Option Tmp) (fr : List AV) (own : List Blk) (k : Nat) (T : TypeId) (z n m : Nat) (xs news : List Value) (K : List AV → List Blk → Prop) : Prop :=
  match rowInfo P t with
  | some (T', z', by') => match decide (T' = T), decide (z' = z) with
    | true, true => Ob (0 < m ∧ (n + m) * by' ≤ 140737488355328 ∧ n + m ≤ 140737488355328) <| killK k fr fun fr => killO k own fun own => setK own k (.row T z (n + m) (xs ++ news)) fun own => putK d fr (.s k) fun fr => K fr own
    | _, _ => False
  | none => False

/-- What is put into a map. -/
def insK (k : IntKind) (a : Int) : List (Value × Value) → (Bool → Prop) → Prop
  | [], K => K true
  | (.int k' b, _) :: l, K => match decide (k = k') with
    | true => Br (decide (a = b)) (K false) (insK k a l K)
    | false => False
  | _ :: _, _ => False
/-- An operation. -/
def opK (P : Program) (F : Facts) (o : Oper) (fr : List AV) (own : List Blk) (K : List AV → List Blk → Prop) : Prop :=
  match o.op with
  | .store t a x => match ev fr a, ev fr x, P.info? t with
    | some (.p k off), some x, some i => match nth own k with
      | some (.cells cells) => cellsK x fun l => match decide (l.length = i.size), decide (off + l.length ≤ cells.length), l.all oneA with
        | true, true, true => storeK cells off l fun cells => setK own k (.cells cells) fun own => putK o.dst fr (.v undef) fun fr => K fr own
        | _, _, _ => False
      | _ => False
    | some (.e k off), some x, some i => match nth own k with
      | some (.row T z n xs) => cellsK x fun l => match decide (l.length = i.size), argsX l, l.all oneA with
        | true, some l, true => Ob (off + l.length ≤ xs.length) <| setK own k (.row T z n (storeV xs off l)) fun own => putK o.dst fr (.v undef) fun fr => K fr own
        | _, _, _ => False
      | _ => False
    | _, _, _ => False
  | .insert t m k x => match ev fr m, ev fr k, ev fr x, mapInfo P t with
    | some (.t i), some (.v (.int ik a)), some (.v u), some _ => match nth own i with
      | some (.map es) => insK ik a es fun new => match new with
        | true => appK es (.int ik a, u) fun es => setK own i (.map es) fun own => putK o.dst fr (.v undef) fun fr => K fr own
        | false => False
      | _ => False
    | _, _, _, _ => False
  | .call c => match appArgs c with
    | some (t, s, x) => match ev fr s, ev fr x with
      | some (.s k), some (.s k') => match nth own k, nth own k', decide (k = k') with
        | some (.row T z n xs), some (.row T' z' m news), false => match decide (T' = T), decide (z' = z) with
          | true, true => appendK P t o.dst fr own k T z n m xs news K
          | _, _ => False
        | _, _, _ => False
      | some (.s k), some (.sub k' off m) => match nth own k, nth own k', decide (k = k'), rowInfo P t with
        | some (.row T z n xs), some (.row T' z' N news), false, some _ => match decide (T' = T), decide (z' = z) with
          | true, true => Ob (off + m * z ≤ N * z') <| Br (decide (m = 0)) (putK o.dst fr (.s k) fun fr => K fr own) (appendK P t o.dst fr own k T z n m xs (partRow z off m news) K)
          | _, _ => False
        | _, _, _, _ => False
      | some (.s k), some (.v (.slice ad m _)) => match nth own k, rowInfo P t with
        | some (.row T z n xs), some _ => Br (decide (m = 0)) (putK o.dst fr (.s k) fun fr => K fr own) <| AdN ad fun b off => CellsN F b off (m * z) fun news => Ob (∀ v ∈ news, v.oneCell' = true) <| appendK P t o.dst fr own k T z n m xs news K
        | _, _ => False
      | some (.v (.slice none 0 0)), some (.s k') => match nth own k' with
        | some (.row T z m news) => lenK own 0 fun n => appK own (.row T z 0 []) fun own => appendK P t o.dst fr own n T z 0 m [] news K
        | _ => False
      | _, _ => False
    | none => valK P F o fr own fun x bs => catBK own bs fun own => putK o.dst fr x fun fr => K fr own
  | _ => valK P F o fr own fun x bs => catBK own bs fun own => putK o.dst fr x fun fr => K fr own

/-- The slot that a guard looks at. -/
def guardSlot (ops : List Oper) (j : Nat) : Option Tmp :=
  match nth ops j with
  | some o => o.dst
  | none => none
def guardK (ops : List Oper) (o : Oper) (fr : List AV) (yes no : List AV → Prop) : Prop :=
  match o.guard with
  | none => yes fr
  | some (j, want) =>
    match guardSlot ops j with
    | some d => match nth fr d with
      | some (.v (.bool b)) => match want with
        | true => Br b (setK fr d (.lit true) yes) (setK fr d (.lit false) no)
        | false => Br b (setK fr d (.lit true) no) (setK fr d (.lit false) yes)
      | some (.lit b) => match b, want with
        | true, true => yes fr
        | false, false => yes fr
        | _, _ => no fr
      | some (.v (.tuple _)) => no fr
      | _ => False
    | none => no fr

def opsK (P : Program) (F : Facts) (ops : List Oper) : List Oper → List AV → List Blk → (List AV → List Blk → Prop) → Prop
  | [], fr, own, K => K fr own
  | o :: l, fr, own, K => guardK ops o fr (fun fr => opK P F o fr own fun fr own => opsK P F ops l fr own K) (fun fr => putK o.dst fr (.v undef) fun fr => opsK P F ops l fr own K)

def resK (P : Program) (fr : List AV) (own : List Blk) : List ResultVar → (List Value → Prop) → Prop
  | [], K => K []
  | .tmp t :: rs, K => match nth fr t with
    | some (.v u) => resK P fr own rs fun l => K (u :: l)
    | some (.lit b) => resK P fr own rs fun l => K (.bool b :: l)
    | _ => False
  | .cell a t :: rs, K => match nth fr a with
    | some (.p k off) => match nth own k with
      | some (.cells cells) => loadK P t cells off fun x => match x with
        | .v u => resK P fr own rs fun l => K (u :: l)
        | .lit b => resK P fr own rs fun l => K (.bool b :: l)
        | _ => False
      | _ => False
    | _ => False
end Go.Proofs.YtcemohoigdninaaGreatDoor
