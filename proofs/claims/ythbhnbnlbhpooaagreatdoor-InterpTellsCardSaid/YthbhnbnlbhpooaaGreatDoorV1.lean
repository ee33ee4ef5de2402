/- An evaluation of Go code on plain data, with things of the call's own: whatever it says of a function's body holds of the function's calls, in whatever world and order. No condition. -/
import Derived.Test.YthbhnbnlbhpooaaGreatDoorQ
import Derived.Laws.Cells
import Derived.Laws.CopyOwn
import Derived.Laws.OwnMore
import Derived.ChangeKeysEq
import Derived.Laws.StructEq
namespace Go.Proofs.YthbhnbnlbhpooaaGreatDoor
open Go Go.RowKit Go.Sort
set_option linter.unusedVariables false
set_option linter.unusedSimpArgs false

/-- What is known of a value: it; that it is this Bool (known); that it points into the call's own block k; that it is the call's own slice k; that it points to cell 'off' of that slice's array; a part of slice k, n elements from cell 'off' on; the call's own value k; nothing. -/
inductive AV where
  | v (x : Value)
  | lit (b : Bool)
  | p (k off : Nat)
  | s (k : Nat)
  | e (k off : Nat)
  | sub (k off n : Nat)
  | t (k : Nat)
  | junk
/-- What is known of memory that came in: of cells; of whole blocks. -/
structure Facts where
  c : Nat → Nat → Value → Prop
  o : Nat → (Obj → Prop) → Prop
instance : CoeFun Facts (fun _ => Nat → Nat → Value → Prop) := ⟨Facts.c⟩
def Facts.at (F : Facts) (b : Nat) : Prop := (∃ o x, F.c b o x) ∨ ∃ p, F.o b p
abbrev OP := Facts → Value → Prop
/-- A block of the call's own: a variable's cells; a variable whose cells are xs; a function with what it holds; the array of a slice of n elements of type T, z cells each, whose cells are xs; a value of these parts (a tuple, or a struct); a map; what a fresh thing is; one that is no longer known. -/
inductive Blk where
  | cells (l : List AV)
  | row (T : TypeId) (z n : Nat) (xs : List Value)
  | comp (tup : Bool) (l : List AV)
  | map (es : List (Value × Value))
  | arr (xs : List Value)
  | clo (g : FuncId) (first : List Value) (l : List AV)
  | obj (p : OP)
  | dead

/-- The places where an evaluation stands still. -/
structure Br (b : Bool) (A B : Prop) : Prop where
  t : b = true → A
  f : b = false → B
structure Ob (p K : Prop) : Prop where
  ob : p
  k : K

def nth {α : Type} : List α → Nat → Option α
  | [], _ => none
  | x :: _, 0 => some x
  | _ :: l, n + 1 => nth l n
def setL {α : Type} : List α → Nat → α → List α
  | [], _, _ => []
  | _ :: l, 0, x => x :: l
  | y :: l, n + 1, x => y :: setL l n x
def setK {α : Type} : List α → Nat → α → (List α → Prop) → Prop
  | [], _, _, K => K []
  | _ :: l, 0, x, K => K (x :: l)
  | y :: l, n + 1, x, K => setK l n x fun l' => K (y :: l')
def putK (d : Option Tmp) (fr : List AV) (x : AV) (K : List AV → Prop) : Prop :=
  match d with
  | none => K fr
  | some d => setK fr d x K
def putL (d : Option Tmp) (fr : List AV) (x : AV) : List AV :=
  match d with
  | none => fr
  | some d => setL fr d x
def ev (fr : List AV) : Operand → Option AV
  | .tmp t => nth fr t
  | .const v => match v with
    | .bool b => some (.lit b)
    | v => some (.v v)
  | .global g => some (.v (.pointer (some ⟨g, 0, none⟩)))
  | .func f => some (.v (.func (.func f) #[] #[]))
def evx (fr : List AV) (x : Operand) : Value :=
  match ev fr x with
  | some (.v u) => u
  | some (.lit b) => .bool b
  | _ => undef
def isx (fr : List AV) (x : Operand) : Bool :=
  match ev fr x with
  | some (.v _) => true
  | some (.lit _) => true
  | _ => false

/-- What asks nothing of the world. -/
def pureRun {α : Type} (P : Program) : Sem α → Option α
  | .pure a => some a
  | .program k => pureRun P (k P)
  | .mark _ k => pureRun P k
  | _ => none
def forceN : Nat → Nat → (Nat → Prop) → Prop
  | 0, m, K => K m
  | n + 1, m, K => forceN n (m + 1) K
theorem forceN_eq : ∀ (n m : Nat) (K : Nat → Prop), forceN n m K = K (m + n)
  | 0, m, K => rfl
  | n + 1, m, K => by rw [forceN, forceN_eq n (m + 1) K]; congr 1; omega
def forceL : List Value → (List Value → Prop) → Prop
  | [], K => K []
  | x :: l, K => match x with
    | .int k n => forceL l fun l => K (.int k n :: l)
    | .bool b => forceL l fun l => K (.bool b :: l)
    | .string s => forceL l fun l => K (.string s :: l)
    | .agg c => forceL l fun l => K (.agg c :: l)
    | .tuple c => forceL l fun l => K (.tuple c :: l)
    | .pointer a => forceL l fun l => K (.pointer a :: l)
    | .slice a n c => forceL l fun l => K (.slice a n c :: l)
    | .func f x y => forceL l fun l => K (.func f x y :: l)
    | .map r => forceL l fun l => K (.map r :: l)
    | .nilFunc => forceL l fun l => K (.nilFunc :: l)
    | .nilIface => forceL l fun l => K (.nilIface :: l)
    | x => forceL l fun l => K (x :: l)
def forceV (x : Value) (K : Value → Prop) : Prop :=
  match x with
  | .int k n => K (.int k n)
  | .bool b => K (.bool b)
  | .string s => K (.string s)
  | .agg c => forceL c.toList fun l => K (.agg l.toArray)
  | .tuple c => forceL c.toList fun l => K (.tuple l.toArray)
  | .pointer a => K (.pointer a)
  | .slice a n c => K (.slice a n c)
  | .func f x y => K (.func f x y)
  | .map r => K (.map r)
  | .nilFunc => K .nilFunc
  | .nilIface => K .nilIface
  | x => K x
def intK (op : BinOp) (k : IntKind) (a b : Int) (K : Value → Prop) (E : Prop) : Prop :=
  match op with
  | .add => K (.int k (k.wrap (a + b)))
  | .sub => K (.int k (k.wrap (a - b)))
  | .mul => K (.int k (k.wrap (a * b)))
  | .quo => Ob (b ≠ 0) <| K (.int k (k.wrap (a.tdiv b)))
  | .rem => Ob (b ≠ 0) <| K (.int k (a.tmod b))
  | .shl => Ob (0 ≤ b) <| K (.int k (k.wrap (a * 2 ^ min b.toNat k.bits)))
  | .shr => Ob (0 ≤ b) <| K (.int k (a.fdiv (2 ^ min b.toNat k.bits)))
  | .eql => K (.bool (a == b))
  | .neq => K (.bool (a != b))
  | .lss => K (.bool (a < b))
  | .leq => K (.bool (a ≤ b))
  | .gtr => K (.bool (a > b))
  | .geq => K (.bool (a ≥ b))
  | _ => E

/-- The facts hold of a world. -/
def Sat (F : Facts) (W : World) : Prop := (∀ b o x, F b o x → W.cell? ⟨b, o, none⟩ = some x) ∧ ∀ b p, F.o b p → ∃ ob, W.heap[b]? = some ob ∧ p ob
def noFacts : Facts := ⟨fun _ _ _ => False, fun _ _ => False⟩
def orF (F G : Facts) : Facts := ⟨fun b o x => F b o x ∨ G b o x, fun b p => F.o b p ∨ G.o b p⟩
/-- All that a world holds. -/
def memF (W : World) : Facts := ⟨fun b o x => W.cell? ⟨b, o, none⟩ = some x, fun b p => ∃ ob, W.heap[b]? = some ob ∧ p ob⟩
/-- The cells of a row. -/
def rowF (b off : Nat) (xs : List Value) : Facts := ⟨fun b' o x => b' = b ∧ ∃ j, o = off + j ∧ xs[j]? = some x, fun _ _ => False⟩

/-- A function's contract: in every world in which the facts hold it returns this, and leaves what was there as it was. -/
structure Den (P : Program) (f : FuncId) (args : Array Value) (F : Facts) (v : Value) : Prop where
  out : ∀ W, Sat F W → Calls P f args W fun e w' => e = .returned v ∧ Below W.heap.size W w'

/-- Where the call's own slices stand among the arguments: for whatever address they have. -/
def argsX : List AV → Option (List Value)
  | [] => some []
  | .v x :: l => match argsX l with
    | some l => some (x :: l)
    | none => none
  | .lit b :: l => match argsX l with
    | some l => some (.bool b :: l)
    | none => none
  | _ => none
/-- An argument: a value; a slice that has these cells; whatever the memory says so of. -/
inductive AR where
  | v (x : Value)
  | r (z n : Nat) (xs : List Value)
  | o (p : OP)
/-- A slice of n elements, z cells each. -/
def SlP (z n : Nat) (xs : List Value) : OP := fun G u => xs.length = n * z ∧ ∃ ad c, u = .slice ad n c ∧ (0 < n → ∃ b off, ad = some ⟨b, off, none⟩ ∧ ∀ (j : Nat) (v : Value), xs[j]? = some v → G b (off + j) v)
def ArIs (W : World) : AR → Value → Prop
  | .v x, u => u = x
  | .r z n xs, u => SlP z n xs (memF W) u
  | .o p, u => p (memF W) u
def ArsAre (W : World) : List AR → List Value → Prop
  | [], us => us = []
  | x :: l, us => ∃ u us', us = u :: us' ∧ ArIs W x u ∧ ArsAre W l us'
/-- A contract for slices, and fresh things, that lie wherever they lie. -/
structure DenA (P : Program) (f : FuncId) (F : Facts) (args : List AR) (v : Value) : Prop where
  out : ∀ W us, Sat F W → ArsAre W args us → Calls P f us.toArray W fun e w' => e = .returned v ∧ Below W.heap.size W w'

/-- The call's own values, by their names: each with the blocks that it takes up. -/
structure Nm where
  v : Value
  fp : Nat → Prop
abbrev Sg := Nat → Option Nm
/-- What the value is, the call's own things being named by σ. -/
def AV.Is (σ : Sg) : AV → Value → Prop
  | .v x, u => u = x
  | .lit b, u => u = .bool b
  | .p k off, u => ∃ m b, σ k = some m ∧ m.v = .pointer (some ⟨b, 0, none⟩) ∧ u = .pointer (some ⟨b, off, none⟩)
  | .s k, u => ∃ m, σ k = some m ∧ m.v = u ∧ ∃ ad n c, u = .slice ad n c
  | .e k off, u => ∃ m b n c, σ k = some m ∧ m.v = .slice (some ⟨b, 0, none⟩) n c ∧ u = .pointer (some ⟨b, off, none⟩)
  | .sub k off n, u => ∃ m ad c, σ k = some m ∧ u = .slice ad n c ∧ n ≤ c ∧ (0 < n → ∃ b N c', m.v = .slice (some ⟨b, 0, none⟩) N c' ∧ ad = some ⟨b, off, none⟩)
  | .t k, u => ∃ m, σ k = some m ∧ m.v = u
  | .junk, _ => True
structure FrIs (σ : Sg) (fr : List AV) (tmps : Array Value) : Prop where
  len : fr.length = tmps.size
  at_ : ∀ (i : Nat) (x : AV), fr[i]? = some x → ∃ u, tmps[i]? = some u ∧ x.Is σ u
/-- What a thing of the call's own is. -/
def BlkIs (base : Nat) (F : Facts) (w : World) (σ : Sg) (m : Nm) : Blk → Prop
  | .cells l => ∃ b xs T, m.v = .pointer (some ⟨b, 0, none⟩) ∧ w.heap[b]? = some (.cells xs T (0, 0)) ∧ FrIs σ l xs ∧ ∀ g, m.fp g ↔ g = b
  | .row T z n xs => (w.ownsRow base T z m.v n xs ∧ ∀ u ∈ xs, u.oneCell' = true) ∧ ∀ g, m.fp g ↔ m.v.ownBlock = some g
  | .comp tup l => ∃ vs, m.v = (match tup with | true => .tuple vs | false => .agg vs) ∧ FrIs σ l vs
  | .arr xs => ∃ b T, m.v = .pointer (some ⟨b, 0, none⟩) ∧ w.heap[b]? = some (.cells xs.toArray T (0, 0)) ∧ ∀ g, m.fp g ↔ g = b
  | .clo g first l => ∃ vs, m.v = .func (.func g) first.toArray vs ∧ FrIs σ l vs
  | .map es => ∃ r es' cl, m.v = .map (some r) ∧ w.heap[r]? = some (.map es' cl) ∧ (es'.toList.map fun e => (e.key, e.val)) = es ∧ ∀ g, m.fp g ↔ g = r
  | .obj p => ∀ G : Facts, (∀ b o x, F b o x → G b o x) → (∀ b o x, m.fp b → w.cell? ⟨b, o, none⟩ = some x → G b o x) → p G m.v
  | .dead => True
/-- The call's own things, and the facts, in a world. -/
structure Mem (base : Nat) (F : Facts) (σ : Sg) (own : List Blk) (w : World) : Prop where
  blk : ∀ (k : Nat) (b : Blk) (m : Nm), own[k]? = some b → σ k = some m → BlkIs base F w σ m b
  lt : ∀ (k : Nat) (m : Nm) (b : Nat), σ k = some m → m.fp b → b < w.heap.size
  sat : Sat F w
/-- The memory when the call has come here. -/
structure Reg (w0 : World) (F : Facts) (σ : Sg) (own : List Blk) (w : World) : Prop where
  mem : Mem w0.heap.size F σ own w
  dom : ∀ (k : Nat) (m : Nm), σ k = some m → k < own.length
  inj : ∀ (k k' : Nat) (m m' : Nm) (b : Nat), σ k = some m → σ k' = some m' → m.fp b → m'.fp b → k = k'
  ge : ∀ (k : Nat) (m : Nm) (b : Nat), σ k = some m → m.fp b → w0.heap.size ≤ b
  old : ∀ b, F.at b → b < w0.heap.size
  below : Below w0.heap.size w0 w
def retV (l : List Value) : Value :=
  match l with
  | [u] => u
  | l => .tuple l.toArray
/-- A contract of a function that returns fresh things: 'res' are its results, 'own' what is new. -/
structure DenF (P : Program) (f : FuncId) (F : Facts) (args : List AR) (res : List AV) (own : List Blk) : Prop where
  out : ∀ W us, Sat F W → ArsAre W args us → Calls P f us.toArray W fun e w' => ∃ σ vs, e = .returned (retV vs) ∧ Reg W F σ own w' ∧ (∀ k, k < own.length → σ k ≠ none) ∧ FrIs σ res vs.toArray

/-- Named n further up. -/
def upA (n : Nat) : AV → AV
  | .p k off => .p (k + n) off
  | .s k => .s (k + n)
  | .e k off => .e (k + n) off
  | .sub k off m => .sub (k + n) off m
  | .t k => .t (k + n)
  | x => x
def upAK (n : Nat) : List AV → (List AV → Prop) → Prop
  | [], K => K []
  | x :: l, K => match x with
    | .v u => upAK n l fun l => K (.v u :: l)
    | .lit b => upAK n l fun l => K (.lit b :: l)
    | .p k off => upAK n l fun l => K (.p (k + n) off :: l)
    | .s k => upAK n l fun l => K (.s (k + n) :: l)
    | .e k off => upAK n l fun l => K (.e (k + n) off :: l)
    | .sub k off m => upAK n l fun l => K (.sub (k + n) off m :: l)
    | .t k => upAK n l fun l => K (.t (k + n) :: l)
    | .junk => upAK n l fun l => K (.junk :: l)
def upB (n : Nat) : Blk → Blk
  | .cells l => .cells (l.map (upA n))
  | .comp tup l => .comp tup (l.map (upA n))
  | .clo g first l => .clo g first (l.map (upA n))
  | b => b
def upBK (n : Nat) : List Blk → (List Blk → Prop) → Prop
  | [], K => K []
  | b :: l, K => match b with
    | .cells c => upAK n c fun c => upBK n l fun l => K (.cells c :: l)
    | .comp tup c => upAK n c fun c => upBK n l fun l => K (.comp tup c :: l)
    | .row T z m xs => upBK n l fun l => K (.row T z m xs :: l)
    | .map es => upBK n l fun l => K (.map es :: l)
    | .arr xs => upBK n l fun l => K (.arr xs :: l)
    | .clo g first c => upAK n c fun c => upBK n l fun l => K (.clo g first c :: l)
    | .obj p => upBK n l fun l => K (.obj p :: l)
    | .dead => upBK n l fun l => K (.dead :: l)
def appK {α : Type} : List α → α → (List α → Prop) → Prop
  | [], x, K => K [x]
  | y :: l, x, K => appK l x fun l => K (y :: l)
/-- What comes of a call that returns fresh things. -/
def freshResK (n : Nat) (res : List AV) (own : List Blk) (K : AV → List Blk → Prop) : Prop :=
  upBK n own fun bs => match res with
    | [x] => upAK n [x] fun l => match l with
      | [x] => K x bs
      | _ => False
    | l => upAK n l fun l => appK bs (.comp true l) fun bs => K (.t (own.length + n)) bs

theorem forceL_id : ∀ (l : List Value) (K : List Value → Prop), forceL l K = K l
  | [], K => by simp [forceL]
  | x :: l, K => by cases x <;> simp [forceL, forceL_id l]
inductive CallN (P : Program) (f : FuncId) (args : List Value) (F : Facts) (n : Nat) (K : AV → List Blk → Prop) : Prop where
  | mk (v : Value) (h : Den P f args.toArray F v) (k : forceV v fun v => K (.v v) []) : CallN P f args F n K
  | any (v : Value) (h : Den P f args.toArray noFacts v) (k : forceV v fun v => K (.v v) []) : CallN P f args F n K
  | fresh (res : List AV) (own : List Blk) (h : DenF P f F (args.map .v) res own) (k : freshResK n res own K) : CallN P f args F n K
  | anyFresh (res : List AV) (own : List Blk) (h : DenF P f noFacts (args.map .v) res own) (k : freshResK n res own K) : CallN P f args F n K
theorem CallN.big {P : Program} {f : FuncId} {args : List Value} {F : Facts} {n : Nat} {K : AV → List Blk → Prop} (v : Value) (h : Den P f args.toArray noFacts v) (k : K (.v v) []) : CallN P f args F n K := .any v h (by cases v <;> simp only [forceV, forceL_id] <;> exact k)
/-- A call of a function that the model stands in for. -/
inductive ExtN (P : Program) (f : FuncId) (args : List Value) (K : AV → List Blk → Prop) : Prop where
  | mk (v : Value) (h : ∀ W, (callFunc f args.toArray).run P W = .ok (.value v) W) (k : forceV v fun v => K (.v v) []) : ExtN P f args K
def extCall (P : Program) (fr : List AV) (c : Call) : Option (FuncId × List Value) :=
  match c.callee with
  | .value f => match ev fr f with
    | some (.v (.func (.func g) first captured)) => match P.funcs[g]? with
      | some fn => match fn.body with
        | none => some (g, first.toList ++ (c.args.toList.map (evx fr) ++ captured.toList))
        | some _ => none
      | none => none
    | _ => none
  | _ => none
inductive CallA (P : Program) (f : FuncId) (F : Facts) (args : List AR) (n : Nat) (K : AV → List Blk → Prop) : Prop where
  | mk (v : Value) (h : DenA P f F args v) (k : forceV v fun v => K (.v v) []) : CallA P f F args n K
  | any (v : Value) (h : DenA P f noFacts args v) (k : forceV v fun v => K (.v v) []) : CallA P f F args n K
  | fresh (res : List AV) (own : List Blk) (h : DenF P f F args res own) (k : freshResK n res own K) : CallA P f F args n K
  | anyFresh (res : List AV) (own : List Blk) (h : DenF P f noFacts args res own) (k : freshResK n res own K) : CallA P f F args n K
theorem CallA.big {P : Program} {f : FuncId} {F : Facts} {args : List AR} {n : Nat} {K : AV → List Blk → Prop} (v : Value) (h : DenA P f noFacts args v) (k : K (.v v) []) : CallA P f F args n K := .any v h (by cases v <;> simp only [forceV, forceL_id] <;> exact k)
def entersB (P : Program) (g : FuncId) : Bool :=
  match P.funcs[g]? with
  | some fn => match fn.name == "runtime.NumGoroutine", fn.body with
    | false, some _ => true
    | _, _ => false
  | none => false
def valsR (l : List Value) (m : List AR) : List AR :=
  match l with
  | [] => m
  | x :: l => .v x :: valsR l m
/-- The cells of a slice of the call's own. -/
inductive RowN (xs : List Value) (off n : Nat) (K : List Value → Prop) : Prop where
  | mk (vs : List Value) (h : (xs.drop off).take n = vs) (hl : vs.length = n) (k : K vs) : RowN xs off n K
/-- Cells of the memory that came in. -/
inductive CellsN (F : Facts) (b off n : Nat) (K : List Value → Prop) : Prop where
  | mk (vs : List Value) (h : ∀ (j : Nat) (v : Value), vs[j]? = some v → F b (off + j) v) (hl : vs.length = n) (k : K vs) : CellsN F b off n K
/-- Where a slice lies. -/
inductive AdN (ad : Option Addr) (K : Nat → Nat → Prop) : Prop where
  | mk (b off : Nat) (h : ad = some ⟨b, off, none⟩) (k : K b off) : AdN ad K
/-- A byte of a text. -/
inductive ByteN (s : ByteArray) (n : Nat) (K : Value → Prop) : Prop where
  | mk (b : UInt8) (h : s[n]? = some b) (k : K (.int .u8 b.toNat)) : ByteN s n K
/-- The text of bytes. -/
inductive StrN (xs : List Value) (K : Value → Prop) : Prop where
  | mk (s : ByteArray) (h : xs = (s.data.toList.map fun b => Value.int .u8 b.toNat)) (k : K (.string s)) : StrN xs K

def isSel : Op → Bool
  | .select _ _ => true
  | _ => false
def mapA {α β : Type} (f : α → β) (xs : Array α) : Array β := (xs.toList.map f).toArray
def appA {α : Type} (xs ys : Array α) : Array α := (xs.toList ++ ys.toList).toArray
/-- 'execOp', its arrays laid as lists. -/
def execX (ρ : Operand → Value) (o : Oper) : Sem Next :=
  match o.op with
  | .makeFunc fn first captured => do pure (.value (← Instr.makeFunc fn (mapA ρ first) (mapA ρ captured)))
  | .call c => match c.callee with
    | .builtin b => builtin b c.argTypes o.type (c.args.map fun | .const _ => true | _ => false) (mapA ρ c.args)
    | .value f => match ρ f with
      | .func (.func g) first captured => callFunc g (appA (appA first (mapA ρ c.args)) captured)
      | _ => execOp ρ o
    | _ => execOp ρ o
  | _ => execOp ρ o
theorem mapA_eq {α β : Type} (f : α → β) (xs : Array α) : mapA f xs = xs.map f := by unfold mapA; rw [← Array.toList_map]
theorem appA_eq {α : Type} (xs ys : Array α) : appA xs ys = xs ++ ys := by unfold appA; rw [← Array.toList_append]
theorem execX_eq (ρ : Operand → Value) (o : Oper) : execX ρ o = execOp ρ o := by
  unfold execX
  split
  · rename_i fn first captured ho
    simp only [execOp, ho, mapA_eq]
  · rename_i c ho
    split
    · rename_i b hb
      simp only [execOp, ho, resolve, hb, mapA_eq]
      rfl
    · rename_i f hf
      split
      · rename_i g first captured hg
        simp only [execOp, ho, resolve, hf, hg, mapA_eq, appA_eq, Deferred.ofValue]
        rfl
      · rfl
    · rfl
  · rfl

def storeV : List Value → Nat → List Value → List Value
  | cells, _, [] => cells
  | cells, off, x :: l => storeV (setL cells off x) (off + 1) l
def fillX (place : Nat → Option (Nat × Nat)) : List Value → List (Nat × Value) → Option (List Value)
  | cells, [] => some cells
  | cells, (i, v) :: l => match place i with
    | some (off, size) => match decide (v.cells.size = size), decide (off + v.cells.size ≤ cells.length) with
      | true, true => fillX place (storeV cells off v.cells.toList) l
      | _, _ => none
    | none => none
def placeX (P : Program) (fs : Array Field) (i : Nat) : Option (Nat × Nat) :=
  match fs[i]? with
  | some f => match P.info? f.type with
    | some g => some (f.offset, g.size)
    | none => none
  | none => none
def zeroX (P : Program) (t : TypeId) : Option (List Value) :=
  match P.info? t with
  | some i => match i.zero with
    | some z => some z.cells.toList
    | none => none
  | none => none
def partsX (fr : List AV) (ps : Array (Nat × Operand)) : List (Nat × Value) := ps.toList.map fun (i, x) => (i, evx fr x)
def allInfo (P : Program) (fs : Array Field) : Bool := fs.toList.all fun f => (P.info? f.type).isSome
def buildX (P : Program) (t : TypeId) (ps : List (Nat × Value)) : Option (List Value) :=
  match P.underlying t, zeroX P t with
  | some (.struct fs), some z => match allInfo P fs with
    | true => fillX (placeX P fs) z ps
    | false => none
  | some (.array _ e), some z => match P.info? e with
    | some g => fillX (fun i => some (i * g.size, g.size)) z ps
    | none => none
  | _, _ => none

def lenK {α : Type} : List α → Nat → (Nat → Prop) → Prop
  | [], n, K => K n
  | _ :: l, n, K => lenK l (n + 1) K
def exactK (P : Program) (F : Facts) (o : Oper) (fr : List AV) (own : List Blk) (K : AV → List Blk → Prop) : Prop :=
  match !isSel o.op && o.op.operands.toList.all (isx fr) with
  | true => match pureRun P (execX (evx fr) o) with
    | some (.value u) => forceV u fun u => K (.v u) []
    | some .skip => K (.v undef) []
    | some (.enter f args) => forceL args.toList fun args => lenK own 0 fun n => CallN P f args F n K
    | _ => False
  | false => False

def takeX : List AV → Nat → (List Value → Prop) → Prop
  | _, 0, K => K []
  | .v x :: l, n + 1, K => takeX l n fun l => K (x :: l)
  | .lit b :: l, n + 1, K => takeX l n fun l => K (.bool b :: l)
  | _, _ + 1, _ => False
def dropL {α : Type} : List α → Nat → List α
  | l, 0 => l
  | [], _ + 1 => []
  | _ :: l, n + 1 => dropL l n
def aggT (P : Program) (t : TypeId) : Option Bool :=
  match P.underlying t with
  | some (.struct _) => some true
  | some (.array _ _) => some true
  | some _ => some false
  | none => none
def loadK (P : Program) (t : TypeId) (cells : List AV) (off : Nat) (K : AV → Prop) : Prop :=
  match aggT P t with
  | some true => match P.info? t with
    | some i => takeX (dropL cells off) i.size fun l => K (.v (.agg l.toArray))
    | none => False
  | some false => match nth cells off with
    | some (.v x) => K (.v x)
    | some (.lit b) => K (.lit b)
    | some (.p k off) => K (.p k off)
    | some (.s k) => K (.s k)
    | some (.e k off) => K (.e k off)
    | some (.sub k off n) => K (.sub k off n)
    | some (.t k) => K (.t k)
    | _ => False
  | none => False

def loadF (P : Program) (t : TypeId) (F : Facts) (b off : Nat) (K : AV → Prop) : Prop :=
  match aggT P t with
  | some true => match P.info? t with
    | some i => CellsN F b off i.size fun l => K (.v (.agg l.toArray))
    | none => False
  | some false => CellsN F b off 1 fun l => match l with
    | [x] => K (.v x)
    | _ => False
  | none => False
def loadR (P : Program) (t : TypeId) (xs : List Value) (off : Nat) (K : AV → Prop) : Prop :=
  match aggT P t with
  | some true => match P.info? t with
    | some i => RowN xs off i.size fun l => K (.v (.agg l.toArray))
    | none => False
  | some false => RowN xs off 1 fun l => match l with
    | [x] => K (.v x)
    | _ => False
  | none => False
/-- The size of a slice type's elements. -/
def elemSize (P : Program) (t : TypeId) : Option Nat :=
  match P.underlying t with
  | some (.slice e) => match P.info? e with
    | some i => some i.size
    | none => none
  | _ => none
def oneC : Value → Bool
  | .agg _ => false
  | .tuple _ => false
  | _ => true

/-- Types whose values are compared part by part. -/
def eqTy (P : Program) : Nat → TypeId → Bool
  | 0, _ => false
  | n + 1, t => match P.underlying t with
    | some (.int _) => true
    | some .bool => true
    | some .string => true
    | some (.struct fs) => !P.stoodInHeld t && fs.toList.all fun f => eqTy P n f.type
    | some (.array _ e) => eqTy P n e
    | _ => false
def partV (P : Program) (t : TypeId) (cs : Array Value) (off : Nat) : Option Value :=
  match aggT P t with
  | some true => match P.info? t with
    | some i => some (.agg (cs.extract off (off + i.size)))
    | none => none
  | some false => cs[off]?
  | none => none
def oneA : AV → Bool
  | .v x => oneC x
  | .junk => false
  | .t _ => false
  | _ => true
/-- A slice type: its elements' type, and their size in cells and bytes. -/
def rowInfo (P : Program) (t : TypeId) : Option (TypeId × Nat × Nat) :=
  match P.underlying t with
  | some (.slice e) => match P.info? e, zeroX P e with
    | some i, some l => match i.size with
      | 0 => none
      | z + 1 => match decide (l.length = z + 1) with
        | true => some (e, z + 1, i.bytes)
        | false => none
    | _, _ => none
  | _ => none
def repX (n : Nat) (z : List Value) : List Value :=
  match n with
  | 0 => []
  | n + 1 => z ++ repX n z
/-- The cells of a slice that is written out. -/
def rowX (P : Program) (t : TypeId) (n : Nat) (ps : List (Nat × Value)) : Option (TypeId × Nat × List Value) :=
  match rowInfo P t with
  | some (e, z, _) => match zeroX P e, decide (n * z ≤ 16777216) with
    | some l, true => match fillX (fun i => some (i * z, z)) (repX n l) ps with
      | some l => some (e, z, l)
      | none => none
    | _, _ => none
  | none => none
/-- The same, step by step. -/
def storeVK : List Value → Nat → List Value → (List Value → Prop) → Prop
  | cells, _, [], K => K cells
  | cells, off, x :: l, K => setK cells off x fun cells => storeVK cells (off + 1) l K
def fillXK (place : Nat → Option (Nat × Nat)) : List Value → List (Nat × Value) → (Option (List Value) → Prop) → Prop
  | cells, [], K => K (some cells)
  | cells, (i, v) :: l, K => match place i with
    | some (off, size) => match decide (v.cells.size = size), decide (off + v.cells.size ≤ cells.length) with
      | true, true => forceL v.cells.toList fun vs => storeVK cells off vs fun cells => fillXK place cells l K
      | _, _ => K none
    | none => K none
def rowK (P : Program) (t : TypeId) (n : Nat) (ps : List (Nat × Value)) (K : Option (TypeId × Nat × List Value) → Prop) : Prop :=
  match rowInfo P t with
  | some (e, z, _) => match zeroX P e, decide (n * z ≤ 16777216) with
    | some l, true => forceL (repX n l) fun cells => fillXK (fun i => some (i * z, z)) cells ps fun r => match r with
      | some l => K (some (e, z, l))
      | none => K none
    | _, _ => K none
  | none => K none
def andO (x y : Option Bool) : Option Bool :=
  match x, y with
  | some a, some b => some (a && b)
  | _, _ => none
def eqFs (P : Program) (eq : TypeId → Value → Value → Option Bool) (xs ys : Array Value) : List Field → Option Bool
  | [] => some true
  | f :: fs => match f.name != "_" with
    | true => match partV P f.type xs f.offset, partV P f.type ys f.offset with
      | some a, some b => match fs with
        | [] => eq f.type a b
        | fs => andO (eq f.type a b) (eqFs P eq xs ys fs)
      | _, _ => none
    | false => eqFs P eq xs ys fs
def eqIs (P : Program) (eq : TypeId → Value → Value → Option Bool) (e : TypeId) (z : Nat) (xs ys : Array Value) : List Nat → Option Bool
  | [] => some true
  | i :: is => match partV P e xs (i * z), partV P e ys (i * z) with
    | some a, some b => match is with
      | [] => eq e a b
      | is => andO (eq e a b) (eqIs P eq e z xs ys is)
    | _, _ => none
def eqV (P : Program) : Nat → TypeId → Value → Value → Option Bool
  | 0, _, _, _ => none
  | n + 1, t, x, y => match P.underlying t, x, y with
    | some (.int _), .int k a, .int k' b => match decide (k = k') with
      | true => some (a == b)
      | false => none
    | some .bool, .bool a, .bool b => some (a == b)
    | some .string, .string a, .string b => some (a.toList == b.toList)
    | some (.struct fs), .agg xs, .agg ys => eqFs P (eqV P n) xs ys fs.toList
    | some (.array m e), .agg xs, .agg ys => match P.info? e with
      | some i => eqIs P (eqV P n) e i.size xs ys (List.range m)
      | none => none
    | _, _, _ => none
def eqDeep : Nat := 12
def eqOk (P : Program) (t : TypeId) : Bool := eqTy P eqDeep t && !P.eqGuardType P.depth t
def isShift : BinOp → Bool
  | .shl => true
  | .shr => true
  | _ => false

def boolA : AV → Option Bool
  | .v (.bool b) => some b
  | .lit b => some b
  | _ => none

/-- 'len(x)': x, and its type. -/
def lenArg (c : Call) : Option (TypeId × Operand) :=
  match c.callee with
  | .builtin .len => match c.argTypes.toList, c.args.toList with
    | [t], [x] => some (t, x)
    | _, _ => none
  | _ => none
def isSlice (P : Program) (t : TypeId) : Bool :=
  match P.underlying t with
  | some (.slice _) => true
  | _ => false

/-- A part of a slice's cells. -/
def partRow (z off n : Nat) (xs : List Value) : List Value := (xs.drop off).take (n * z)
/-- A call that is handed slices of the caller's own. -/
def rowsK (fr : List AV) (own : List Blk) : List Operand → List AR → (List AR → Prop) → Prop
  | [], m, K => K m
  | x :: l, m, K => match ev fr x with
    | some (.v u) => rowsK fr own l m fun l => K (.v u :: l)
    | some (.lit b) => rowsK fr own l m fun l => K (.v (.bool b) :: l)
    | some (.s k) => match nth own k with
      | some (.row _ z n xs) => rowsK fr own l m fun l => K (.r z n xs :: l)
      | _ => False
    | some (.sub k off n) => match nth own k with
      | some (.row _ z N xs) => Ob (off + n * z ≤ N * z) <| rowsK fr own l m fun l => K (.r z n (partRow z off n xs) :: l)
      | _ => False
    | some (.t k) => match nth own k with
      | some (.obj p) => rowsK fr own l m fun l => K (.o p :: l)
      | _ => False
    | _ => False
def ownCallK (P : Program) (F : Facts) (fr : List AV) (own : List Blk) (c : Call) (K : AV → List Blk → Prop) : Prop :=
  match c.callee with
  | .value f => match ev fr f with
    | some (.v (.func (.func g) first captured)) => match entersB P g with
      | true => rowsK fr own c.args.toList (valsR captured.toList []) fun args => lenK own 0 fun n => CallA P g F (valsR first.toList args) n K
      | false => False
    | _ => False
  | _ => False

def mapvK : List Value → (List AV → Prop) → Prop
  | [], K => K []
  | x :: l, K => mapvK l fun l => K (.v x :: l)
/-- The cells of one value. -/
def cellsK (x : AV) (K : List AV → Prop) : Prop :=
  match x with
  | .v u => forceL u.cells.toList fun l => mapvK l K
  | .lit b => K [.lit b]
  | .p k off => K [.p k off]
  | .s k => K [.s k]
  | .e k off => K [.e k off]
  | .sub k off n => K [.sub k off n]
  | .t _ => False
  | .junk => False
/-- What is looked up in a map: key by key. -/
def findK (k : IntKind) (a : Int) : List (Value × Value) → (Option Value → Prop) → Prop
  | [], K => K none
  | (.int k' b, v) :: l, K => match decide (k = k') with
    | true => Br (decide (a = b)) (K (some v)) (findK k a l K)
    | false => False
  | _ :: _, _ => False
def mapInfo (P : Program) (t : TypeId) : Option (TypeId × Value) :=
  match P.underlying t with
  | some (.map kt e) => match P.underlying kt, P.info? e with
    | some (.int _), some i => match i.zero with
      | some z => some (kt, z)
      | none => none
    | _, _ => none
  | _ => none
/-- The bounds of a slice expression. -/
def boundX (fr : List AV) (x : Option Operand) (d : Nat) : Option Int :=
  match x with
  | none => some d
  | some x => match ev fr x with
    | some (.v (.int _ n)) => some n
    | _ => none

/-- Arrays that are told by their cells. -/
def bigArr (P : Program) (t : TypeId) : Bool :=
  match P.underlying t with
  | some (.array len _) => decide (16 < len)
  | _ => false
/-- What is known of some operands. -/
def evsK (fr : List AV) : List Operand → (List AV → Prop) → Prop
  | [], K => K []
  | x :: l, K => match ev fr x with
    | some u => evsK fr l fun l => K (u :: l)
    | none => False
/-- Operations that leave the memory that was there as it is: they may lay things anew. -/
def valK (P : Program) (F : Facts) (o : Oper) (fr : List AV) (own : List Blk) (K : AV → List Blk → Prop) : Prop :=
  match o.op with
  | .move x => match ev fr x with
    | some u => K u []
    | none => False
  | .assign x => match ev fr x with
    | some u => K u []
    | none => False
  | .pick c x y => match ev fr c, ev fr x, ev fr y with
    | some (.v (.bool b)), some u, some u' => Br b (K u []) (K u' [])
    | some (.lit b), some u, some u' => (match b with | true => K u [] | false => K u' [])
    | _, _, _ => False
  | .binOp op t x y _ => match ev fr x, ev fr y with
    | some (.v (.int k a)), some (.v (.int k' b)) => match isShift op || decide (k = k') with
      | true => intK op k a b (fun u => K (.v u) []) (exactK P F o fr own K)
      | false => exactK P F o fr own K
    | some (.v (.string a)), some (.v (.string b)) => match op with
      | .add => Ob (((a.size + b.size : Nat) : Int) ≤ 9223372036854775807) <| K (.v (.string (a ++ b))) []
      | _ => exactK P F o fr own K
    | some (.v (.agg xs)), some (.v (.agg ys)) => match op with
      | .eql => Ob (eqOk P t = true) <| match eqV P eqDeep t (.agg xs) (.agg ys) with
        | some b => K (.v (.bool b)) []
        | none => False
      | .neq => Ob (eqOk P t = true) <| match eqV P eqDeep t (.agg xs) (.agg ys) with
        | some b => K (.v (.bool !b)) []
        | none => False
      | _ => False
    | some u, some u' => match boolA u, boolA u', P.underlying t, op with
      | some b, some b', some .bool, .eql => K (.v (.bool (b == b'))) []
      | some b, some b', some .bool, .neq => K (.v (.bool (!(b == b')))) []
      | _, _, _, _ => exactK P F o fr own K
    | _, _ => False
  | .load t x => match ev fr x with
    | some (.p k off) => match nth own k with
      | some (.cells cells) => loadK P t cells off fun x => K x []
      | some (.arr xs) => loadR P t xs off fun x => K x []
      | _ => False
    | some (.e k off) => match nth own k with
      | some (.row _ _ _ xs) => loadR P t xs off fun x => K x []
      | _ => False
    | some (.v (.pointer (some ⟨b, off, none⟩))) => loadF P t F b off fun x => K x []
    | _ => False
  | .indexAddr t x i => match ev fr x, ev fr i with
    | some (.v (.slice ad len cap)), some (.v (.int k n)) => match elemSize P t with
      | some z => Ob (0 ≤ n ∧ n < len) <| AdN ad fun b off => K (.v (.pointer (some ⟨b, off + n.toNat * z, none⟩))) []
      | none => False
    | some (.s k), some (.v (.int _ n)) => match nth own k, elemSize P t with
      | some (.row _ z' len _), some z => match decide (z = z') with
        | true => Ob (0 ≤ n ∧ n < len) <| K (.e k (n.toNat * z)) []
        | false => False
      | _, _ => False
    | some (.sub k off m), some (.v (.int _ n)) => match nth own k, elemSize P t with
      | some (.row _ z' _ _), some z => match decide (z = z') with
        | true => Ob (0 ≤ n ∧ n < m) <| K (.e k (off + n.toNat * z)) []
        | false => False
      | _, _ => False
    | some (.p k off), some (.v (.int _ n)) => match P.underlying t with
      | some (.array len e) => match P.info? e with
        | some i => Ob (0 ≤ n ∧ n < len) <| K (.p k (off + n.toNat * i.size)) []
        | none => False
      | _ => False
    | _, _ => exactK P F o fr own K
  | .index t x i => match ev fr x, ev fr i with
    | some (.v (.agg cs)), some (.v (.int _ n)) => match P.underlying t with
      | some (.array len e) => match decide (16 < len), P.info? e with
        | true, some inf => Ob (0 ≤ n ∧ n < len) <| loadR P e cs.toList (n.toNat * inf.size) fun x => K x []
        | _, _ => exactK P F o fr own K
      | _ => exactK P F o fr own K
    | some (.v (.string s)), some (.v (.int _ n)) => match P.underlying t with
      | some .string => Ob (0 ≤ n) <| ByteN s n.toNat fun v => K (.v v) []
      | _ => exactK P F o fr own K
    | _, _ => exactK P F o fr own K
  | .slice t x lo hi none => match ev fr x, elemSize P t with
    | some (.s k), some z => match nth own k with
      | some (.row _ z' len _) => match decide (z = z'), boundX fr lo 0, boundX fr hi len with
        | true, some l, some h => Ob (0 ≤ l ∧ l ≤ h ∧ h ≤ len) <| K (.sub k (l.toNat * z) (h.toNat - l.toNat)) []
        | _, _, _ => False
      | _ => False
    | some (.sub k off n), some z => match nth own k with
      | some (.row _ z' len _) => match decide (z = z'), boundX fr lo 0, boundX fr hi n with
        | true, some l, some h => Ob (0 ≤ l ∧ l ≤ h ∧ h ≤ n) <| K (.sub k (off + l.toNat * z) (h.toNat - l.toNat)) []
        | _, _, _ => False
      | _ => False
    | _, _ => exactK P F o fr own K
  | .fieldAddr s x f => match ev fr x, P.underlying s with
    | some (.p k off), some (.struct fs) => match fs[f]? with
      | some g => match P.info? g.type with
        | some i => match i.size with
          | 0 => False
          | _ + 1 => forceN g.offset 0 fun o => K (.p k (off + o)) []
        | none => False
      | none => False
    | some (.e k off), some (.struct fs) => match fs[f]? with
      | some g => match P.info? g.type with
        | some i => match i.size with
          | 0 => False
          | _ + 1 => forceN g.offset 0 fun o => K (.e k (off + o)) []
        | none => False
      | none => False
    | _, _ => exactK P F o fr own K
  | .nilCheck x => match ev fr x with
    | some (.p k off) => K (.p k off) []
    | some (.e k off) => K (.e k off) []
    | _ => exactK P F o fr own K
  | .extract x i => match ev fr x with
    | some (.t k) => match nth own k with
      | some (.comp true l) => match nth l i with
        | some y => K y []
        | none => False
      | _ => False
    | _ => exactK P F o fr own K
  | .convert src dst x => match ev fr x with
    | some (.s k) => match nth own k, P.underlying src, P.underlying dst with
      | some (.row _ 1 n xs), some (.slice e), some .string => match P.underlying e with
        | some (.int .u8) => StrN xs fun u => K (.v u) []
        | _ => False
      | _, _, _ => False
    | _ => exactK P F o fr own K
  | .lookup t x i ok => match ev fr x, ev fr i with
    | some (.t k), some (.v (.int ik n)) => match nth own k, mapInfo P t with
      | some (.map es), some (_, z) => findK ik n es fun r => match r, ok with
        | some v, true => K (.v (.tuple #[v, .bool true])) []
        | none, true => K (.v (.tuple #[z, .bool false])) []
        | some v, false => forceV v fun v => K (.v v) []
        | none, false => forceV z fun v => K (.v v) []
      | _, _ => False
    | _, _ => False
  | .call c => match lenArg c with
    | some (t, x) => match ev fr x with
      | some (.s k) => match nth own k, isSlice P t with
        | some (.row _ _ n _), true => K (.v (.int .i64 n)) []
        | _, _ => False
      | some (.sub k off n) => match isSlice P t with
        | true => K (.v (.int .i64 n)) []
        | false => False
      | _ => exactK P F o fr own K
    | none => match c.args.toList.all (isx fr) with
      | true => match extCall P fr c with
        | some (g, us) => forceL us fun us => ExtN P g us K
        | none => exactK P F o fr own K
      | false => ownCallK P F fr own c K
  | .build t ps => match ps.toList.all fun (_, x) => isx fr x with
    | true => match buildX P t (partsX fr ps) with
      | some l => forceL l fun l => K (.v (.agg l.toArray)) []
      | none => False
    | false => False
  | .alloc t => match zeroX P t with
    | some cells => match bigArr P t with
      | true => lenK own 0 fun n => K (.p n 0) [.arr cells]
      | false => forceL cells fun l => mapvK l fun l => lenK own 0 fun n => K (.p n 0) [.cells l]
    | none => False
  | .box t x => match bigArr P t, ev fr x with
    | true, some (.v (.agg c)) => lenK own 0 fun n => K (.p n 0) [.arr c.toList]
    | _, some x => cellsK x fun l => lenK own 0 fun n => K (.p n 0) [.cells l]
    | _, none => False
  | .buildSlice t n ps => match ps.toList.all (fun (_, x) => isx fr x) with
    | true => rowK P t n (partsX fr ps) fun r => match r with
      | some (T, z, l) => match l.all oneC with
        | true => forceL l fun l => lenK own 0 fun m => K (.s m) [.row T z n l]
        | false => False
      | none => False
    | false => False
  | .makeSlice t l c => match ev fr l, ev fr c, rowInfo P t with
    | some (.v (.int _ n)), some (.v (.int _ m)), some (e, z, by') => match zeroX P e with
      | some zs => match zs.all oneC with
        | true => Ob (0 ≤ n ∧ n ≤ m ∧ m * by' ≤ 140737488355328 ∧ m ≤ 140737488355328) <| lenK own 0 fun i => K (.s i) [.row e z n.toNat (repX n.toNat zs)]
        | false => False
      | none => False
    | _, _, _ => False
  | .makeMap _ none => lenK own 0 fun n => K (.t n) [.map []]
  | .makeFunc (.func g) first captured => match captured.toList.all (isx fr), first.toList.all (isx fr) with
    | true, _ => exactK P F o fr own K
    | false, true => evsK fr captured.toList fun l => forceL (first.toList.map (evx fr)) fun first => lenK own 0 fun n => K (.t n) [.clo g first l]
    | _, _ => False
  | .store _ _ _ => False
  | .mapUpdate _ _ _ _ => False
  | .insert _ _ _ _ => False
  | _ => exactK P F o fr own K

def storeK : List AV → Nat → List AV → (List AV → Prop) → Prop
  | cells, _, [], K => K cells
  | cells, off, x :: l, K => setK cells off x fun cells => storeK cells (off + 1) l K
def catBK : List Blk → List Blk → (List Blk → Prop) → Prop
  | own, [], K => K own
  | own, b :: l, K => appK own b fun own => catBK own l K

/-- Names of slice k are forgotten. -/
def killA (k : Nat) (x : AV) : AV :=
  match x with
  | .s k' => match decide (k' = k) with
    | true => .junk
    | false => .s k'
  | .e k' off => match decide (k' = k) with
    | true => .junk
    | false => .e k' off
  | .sub k' off n => match decide (k' = k) with
    | true => .junk
    | false => .sub k' off n
  | .t k' => match decide (k' = k) with
    | true => .junk
    | false => .t k'
  | x => x
def killB (k : Nat) (b : Blk) : Blk :=
  match b with
  | .cells l => .cells (l.map (killA k))
  | .comp tup l => .comp tup (l.map (killA k))
  | .clo g first l => .clo g first (l.map (killA k))
  | b => b
def killK (k : Nat) : List AV → (List AV → Prop) → Prop
  | [], K => K []
  | x :: l, K => match x with
    | .v u => killK k l fun l => K (.v u :: l)
    | .lit b => killK k l fun l => K (.lit b :: l)
    | .p k' off => killK k l fun l => K (.p k' off :: l)
    | .s k' => match decide (k' = k) with
      | true => killK k l fun l => K (.junk :: l)
      | false => killK k l fun l => K (.s k' :: l)
    | .e k' off => match decide (k' = k) with
      | true => killK k l fun l => K (.junk :: l)
      | false => killK k l fun l => K (.e k' off :: l)
    | .sub k' off n => match decide (k' = k) with
      | true => killK k l fun l => K (.junk :: l)
      | false => killK k l fun l => K (.sub k' off n :: l)
    | .t k' => match decide (k' = k) with
      | true => killK k l fun l => K (.junk :: l)
      | false => killK k l fun l => K (.t k' :: l)
    | .junk => killK k l fun l => K (.junk :: l)
def killO (k : Nat) : List Blk → (List Blk → Prop) → Prop
  | [], K => K []
  | b :: l, K => match b with
    | .cells c => killK k c fun c => killO k l fun l => K (.cells c :: l)
    | .comp tup c => killK k c fun c => killO k l fun l => K (.comp tup c :: l)
    | .row T z n xs => killO k l fun l => K (.row T z n xs :: l)
    | .map es => killO k l fun l => K (.map es :: l)
    | .arr xs => killO k l fun l => K (.arr xs :: l)
    | .clo g first c => killK k c fun c => killO k l fun l => K (.clo g first c :: l)
    | .obj p => killO k l fun l => K (.obj p :: l)
    | .dead => killO k l fun l => K (.dead :: l)

/-- 'append(s, x...)': the slices, and their type. -/
def appArgs (c : Call) : Option (TypeId × Operand × Operand) :=
  match c.callee with
  | .builtin .append => match c.argTypes.toList, c.args.toList with
    | [t, t'], [s, x] => match decide (t = t') with
      | true => some (t, s, x)
      | false => none
    | _, _ => none
  | _ => none
/-- What an append to slice k does: the slice is told anew, its other names are forgotten. -/
def appendK (P : Program) (t : TypeId) (d : Option Tmp) (fr : List AV) (own : List Blk) (k : Nat) (T : TypeId) (z n m : Nat) (xs news : List Value) (K : List AV → List Blk → Prop) : Prop :=
  match rowInfo P t with
  | some (T', z', by') => match decide (T' = T), decide (z' = z) with
    | true, true => Ob (0 < m ∧ (n + m) * by' ≤ 140737488355328 ∧ n + m ≤ 140737488355328) <| killK k fr fun fr => killO k own fun own => setK own k (.row T z (n + m) (xs ++ news)) fun own => putK d fr (.s k) fun fr => K fr own
    | _, _ => False
  | none => False

/-- What is put into a map. -/
def insK (k : IntKind) (a : Int) : List (Value × Value) → (Bool → Prop) → Prop
  | [], K => K true
  | (.int k' b, _) :: l, K => match decide (k = k') with
    | true => Br (decide (a = b)) (K false) (insK k a l K)
    | false => False
  | _ :: _, _ => False
/-- An operation. -/
def opK (P : Program) (F : Facts) (o : Oper) (fr : List AV) (own : List Blk) (K : List AV → List Blk → Prop) : Prop :=
  match o.op with
  | .store t a x => match ev fr a, ev fr x, P.info? t with
    | some (.p k off), some x, some i => match nth own k with
      | some (.cells cells) => cellsK x fun l => match decide (l.length = i.size), decide (off + l.length ≤ cells.length), l.all oneA with
        | true, true, true => storeK cells off l fun cells => setK own k (.cells cells) fun own => putK o.dst fr (.v undef) fun fr => K fr own
        | _, _, _ => False
      | some (.arr xs) => match x with
        | .v (.agg c) => Ob (off = 0 ∧ c.toList.length = i.size ∧ xs.length = i.size ∧ ∀ u ∈ c.toList, u.oneCell' = true) <| setK own k (.arr c.toList) fun own => putK o.dst fr (.v undef) fun fr => K fr own
        | x => cellsK x fun l => match decide (l.length = i.size), argsX l, l.all oneA with
          | true, some l, true => Ob (off + l.length ≤ xs.length) <| setK own k (.arr (storeV xs off l)) fun own => putK o.dst fr (.v undef) fun fr => K fr own
          | _, _, _ => False
      | _ => False
    | some (.e k off), some x, some i => match nth own k with
      | some (.row T z n xs) => cellsK x fun l => match decide (l.length = i.size), argsX l, l.all oneA with
        | true, some l, true => Ob (off + l.length ≤ xs.length) <| setK own k (.row T z n (storeV xs off l)) fun own => putK o.dst fr (.v undef) fun fr => K fr own
        | _, _, _ => False
      | _ => False
    | _, _, _ => False
  | .insert t m k x => match ev fr m, ev fr k, ev fr x, mapInfo P t with
    | some (.t i), some (.v (.int ik a)), some (.v u), some _ => match nth own i with
      | some (.map es) => insK ik a es fun new => match new with
        | true => appK es (.int ik a, u) fun es => setK own i (.map es) fun own => putK o.dst fr (.v undef) fun fr => K fr own
        | false => False
      | _ => False
    | _, _, _, _ => False
  | .call c => match appArgs c with
    | some (t, s, x) => match ev fr s, ev fr x with
      | some (.s k), some (.s k') => match nth own k, nth own k', decide (k = k') with
        | some (.row T z n xs), some (.row T' z' m news), false => match decide (T' = T), decide (z' = z) with
          | true, true => appendK P t o.dst fr own k T z n m xs news K
          | _, _ => False
        | _, _, _ => False
      | some (.s k), some (.sub k' off m) => match nth own k, nth own k', decide (k = k'), rowInfo P t with
        | some (.row T z n xs), some (.row T' z' N news), false, some _ => match decide (T' = T), decide (z' = z) with
          | true, true => Ob (off + m * z ≤ N * z') <| Br (decide (m = 0)) (putK o.dst fr (.s k) fun fr => K fr own) (appendK P t o.dst fr own k T z n m xs (partRow z off m news) K)
          | _, _ => False
        | _, _, _, _ => False
      | some (.s k), some (.v (.slice ad m _)) => match nth own k, rowInfo P t with
        | some (.row T z n xs), some _ => Br (decide (m = 0)) (putK o.dst fr (.s k) fun fr => K fr own) <| AdN ad fun b off => CellsN F b off (m * z) fun news => Ob (∀ v ∈ news, v.oneCell' = true) <| appendK P t o.dst fr own k T z n m xs news K
        | _, _ => False
      | some (.v (.slice none 0 0)), some (.s k') => match nth own k' with
        | some (.row T z m news) => lenK own 0 fun n => appK own (.row T z 0 []) fun own => appendK P t o.dst fr own n T z 0 m [] news K
        | _ => False
      | some (.v (.slice none 0 0)), some (.v (.slice ad m _)) => match rowInfo P t with
        | some (T, z, _) => lenK own 0 fun n => appK own (.row T z 0 []) fun own => Br (decide (m = 0)) (putK o.dst fr (.s n) fun fr => K fr own) <| AdN ad fun b off => CellsN F b off (m * z) fun news => Ob (∀ v ∈ news, v.oneCell' = true) <| appendK P t o.dst fr own n T z 0 m [] news K
        | none => False
      | _, _ => False
    | none => valK P F o fr own fun x bs => catBK own bs fun own => putK o.dst fr x fun fr => K fr own
  | _ => valK P F o fr own fun x bs => catBK own bs fun own => putK o.dst fr x fun fr => K fr own

/-- The slot that a guard looks at. -/
def guardSlot (ops : List Oper) (j : Nat) : Option Tmp :=
  match nth ops j with
  | some o => o.dst
  | none => none
def guardK (ops : List Oper) (o : Oper) (fr : List AV) (yes no : List AV → Prop) : Prop :=
  match o.guard with
  | none => yes fr
  | some (j, want) =>
    match guardSlot ops j with
    | some d => match nth fr d with
      | some (.v (.bool b)) => match want with
        | true => Br b (setK fr d (.lit true) yes) (setK fr d (.lit false) no)
        | false => Br b (setK fr d (.lit true) no) (setK fr d (.lit false) yes)
      | some (.lit b) => match b, want with
        | true, true => yes fr
        | false, false => yes fr
        | _, _ => no fr
      | some (.v (.tuple _)) => no fr
      | _ => False
    | none => no fr

def opsK (P : Program) (F : Facts) (ops : List Oper) : List Oper → List AV → List Blk → (List AV → List Blk → Prop) → Prop
  | [], fr, own, K => K fr own
  | o :: l, fr, own, K => guardK ops o fr (fun fr => opK P F o fr own fun fr own => opsK P F ops l fr own K) (fun fr => putK o.dst fr (.v undef) fun fr => opsK P F ops l fr own K)

def resK (P : Program) (fr : List AV) (own : List Blk) : List ResultVar → (List Value → Prop) → Prop
  | [], K => K []
  | .tmp t :: rs, K => match nth fr t with
    | some (.v u) => resK P fr own rs fun l => K (u :: l)
    | some (.lit b) => resK P fr own rs fun l => K (.bool b :: l)
    | _ => False
  | .cell a t :: rs, K => match nth fr a with
    | some (.p k off) => match nth own k with
      | some (.cells cells) => loadK P t cells off fun x => match x with
        | .v u => resK P fr own rs fun l => K (u :: l)
        | .lit b => resK P fr own rs fun l => K (.bool b :: l)
        | _ => False
      | some (.arr xs) => loadR P t xs off fun x => match x with
        | .v u => resK P fr own rs fun l => K (u :: l)
        | _ => False
      | _ => False
    | _ => False
/-! What the evaluation says of one operation that leaves the world as it is holds of it (first part). No condition. -/
theorem nth_eq {α : Type} : ∀ (l : List α) (n : Nat), nth l n = l[n]?
  | [], n => by simp [nth]
  | _ :: _, 0 => by simp [nth]
  | _ :: l, n + 1 => by simp [nth, nth_eq l n]
theorem setL_eq {α : Type} (x : α) : ∀ (l : List α) (n : Nat), setL l n x = l.set n x
  | [], n => by simp [setL]
  | _ :: _, 0 => by simp [setL]
  | _ :: l, n + 1 => by simp [setL, setL_eq x l n]
theorem setK_eq {α : Type} (x : α) : ∀ (l : List α) (n : Nat) (K : List α → Prop), setK l n x K = K (l.set n x)
  | [], n, K => by simp [setK]
  | _ :: _, 0, K => by simp [setK]
  | _ :: l, n + 1, K => by simp [setK, setK_eq x l n]
theorem putK_eq (d : Option Tmp) (fr : List AV) (x : AV) (K : List AV → Prop) : putK d fr x K = K (putL d fr x) := by
  cases d <;> simp [putK, putL, setK_eq, setL_eq]
theorem forceL_eq : ∀ (l : List Value) (K : List Value → Prop), forceL l K = K l
  | [], K => by simp [forceL]
  | x :: l, K => by cases x <;> simp [forceL, forceL_eq l]
theorem forceV_eq (x : Value) (K : Value → Prop) : forceV x K = K x := by
  cases x <;> simp [forceV, forceL_eq]
theorem dropL_eq {α : Type} : ∀ (l : List α) (n : Nat), dropL l n = l.drop n
  | l, 0 => by simp [dropL]
  | [], n + 1 => by simp [dropL]
  | _ :: l, n + 1 => by simp [dropL, dropL_eq l n]
theorem lenK_eq {α : Type} : ∀ (l : List α) (n : Nat) (K : Nat → Prop), lenK l n K = K (l.length + n)
  | [], n, K => by simp [lenK]
  | _ :: l, n, K => by simp [lenK, lenK_eq l, Nat.add_assoc, Nat.add_comm 1 n]
theorem appK_eq {α : Type} (x : α) : ∀ (l : List α) (K : List α → Prop), appK l x K = K (l ++ [x])
  | [], K => by simp [appK]
  | _ :: l, K => by simp [appK, appK_eq x l]
theorem mapvK_eq : ∀ (l : List Value) (K : List AV → Prop), mapvK l K = K (l.map .v)
  | [], K => by simp [mapvK]
  | _ :: l, K => by simp [mapvK, mapvK_eq l]

theorem pureRun_run {α : Type} (P : Program) : ∀ (s : Sem α) {v : α}, pureRun P s = some v → ∀ w, s.run P w = .ok v w := by
  intro s
  induction s with
  | pure a => intro v h w; simp [pureRun] at h; subst h; rfl
  | program k ih => intro v h w; exact ih P h w
  | mark m k ih => intro v h w; exact ih h w
  | _ => intro v h; simp [pureRun] at h

/-- More is named. -/
def SgLe (σ σ' : Sg) : Prop := ∀ k m, σ k = some m → σ' k = some m
theorem SgLe.refl (σ : Sg) : SgLe σ σ := fun _ _ h => h
theorem SgLe.trans {σ σ' σ'' : Sg} (h : SgLe σ σ') (k : SgLe σ' σ'') : SgLe σ σ'' := fun i m hi => k i m (h i m hi)
theorem AV.Is.grow {σ σ' : Sg} {x : AV} {u : Value} (h : x.Is σ u) (hs : SgLe σ σ') : x.Is σ' u := by
  cases x with
  | p k off => obtain ⟨m, b, h1, h2⟩ := h; exact ⟨m, b, hs _ _ h1, h2⟩
  | s k => obtain ⟨m, h1, h2⟩ := h; exact ⟨m, hs _ _ h1, h2⟩
  | e k off => obtain ⟨m, b, n, c, h1, h2⟩ := h; exact ⟨m, b, n, c, hs _ _ h1, h2⟩
  | sub k off n => obtain ⟨m, ad, c, h1, h2⟩ := h; exact ⟨m, ad, c, hs _ _ h1, h2⟩
  | t k => obtain ⟨m, h1, h2⟩ := h; exact ⟨m, hs _ _ h1, h2⟩
  | _ => exact h
theorem FrIs.grow {σ σ' : Sg} {fr : List AV} {tmps : Array Value} (h : FrIs σ fr tmps) (hs : SgLe σ σ') : FrIs σ' fr tmps :=
  ⟨h.len, fun i x hx => let ⟨u, h1, h2⟩ := h.at_ i x hx; ⟨u, h1, h2.grow hs⟩⟩
theorem FrIs.put {σ : Sg} {fr : List AV} {a : Act} {x : AV} {u : Value} (h : FrIs σ fr a.tmps) (hx : x.Is σ u) (d : Option Tmp) : FrIs σ (putL d fr x) (a.put d u).tmps := by
  cases d with
  | none => exact h
  | some d =>
    refine ⟨by simp only [putL, setL_eq, List.length_set, put_size]; exact h.len, fun i y hy => ?_⟩
    simp only [putL, setL_eq, List.getElem?_set] at hy
    by_cases hd : d = i
    · subst hd
      have hlt : d < fr.length := by
        simp only [if_true] at hy
        split at hy
        · assumption
        · cases hy
      simp only [if_true, hlt] at hy
      obtain rfl : x = y := Option.some.inj hy
      exact ⟨u, put_self (by rw [← h.len]; exact hlt), hx⟩
    · rw [if_neg hd] at hy
      obtain ⟨u', h1, h2⟩ := h.at_ i y hy
      exact ⟨u', by rw [put_other (fun e => hd (Option.some.inj e))]; exact h1, h2⟩

theorem BlkIs.same {base : Nat} {F : Facts} {w w' : World} {σ : Sg} {m : Nm} {b : Blk} (h : BlkIs base F w σ m b) (hlt : ∀ i, m.fp i → i < w.heap.size) (hb : ∀ i, m.fp i → w'.heap[i]? = w.heap[i]?) : BlkIs base F w' σ m b := by
  cases b with
  | cells l =>
    obtain ⟨i, xs, T, h1, h2, h3, h4⟩ := h
    exact ⟨i, xs, T, h1, by rw [hb i ((h4 i).2 rfl)]; exact h2, h3, h4⟩
  | row T z n xs =>
    obtain ⟨⟨⟨h1, h2⟩, h3⟩, h4⟩ := h
    refine ⟨⟨⟨h1, ?_⟩, h3⟩, h4⟩
    rcases h2 with h2 | ⟨g, cap, cur, hv, hbg, hg, r⟩
    · exact .inl h2
    · exact .inr ⟨g, cap, cur, hv, hbg, by rw [hb g ((h4 g).2 (by rw [hv]; rfl))]; exact hg, r⟩
  | comp tup l => exact h
  | clo g first l => exact h
  | arr xs =>
    obtain ⟨i, T, h1, h2, h4⟩ := h
    exact ⟨i, T, h1, by rw [hb i ((h4 i).2 rfl)]; exact h2, h4⟩
  | map es =>
    obtain ⟨r, es', cl, h1, h2, h3, h4⟩ := h
    exact ⟨r, es', cl, h1, by rw [hb r ((h4 r).2 rfl)]; exact h2, h3, h4⟩
  | obj p => exact fun G hF hG => h G hF fun b o x hf hc => hG b o x hf (by rw [World.cell?_of_block (w := w) (w' := w') (a := ⟨b, o, none⟩) (hb b hf)]; exact hc)
  | dead => trivial
theorem BlkIs.grow {base : Nat} {F : Facts} {w : World} {σ σ' : Sg} {m : Nm} {b : Blk} (h : BlkIs base F w σ m b) (hs : SgLe σ σ') : BlkIs base F w σ' m b := by
  cases b with
  | cells l => obtain ⟨b, xs, T, h1, h2, h3, h4⟩ := h; exact ⟨b, xs, T, h1, h2, h3.grow hs, h4⟩
  | comp tup l => obtain ⟨vs, h1, h2⟩ := h; exact ⟨vs, h1, h2.grow hs⟩
  | clo g first l => obtain ⟨vs, h1, h2⟩ := h; exact ⟨vs, h1, h2.grow hs⟩
  | arr xs => exact h
  | row T z n xs => exact h
  | map es => exact h
  | obj p => exact h
  | dead => trivial
theorem BlkIs.rebase {base base' : Nat} {F F' : Facts} {w : World} {σ : Sg} {m : Nm} {b : Blk} (h : BlkIs base F w σ m b) (hb : base' ≤ base) (hF : ∀ b o x, F b o x → F' b o x) : BlkIs base' F' w σ m b := by
  cases b with
  | row T z n xs =>
    obtain ⟨⟨⟨h1, h2⟩, h3⟩, h4⟩ := h
    refine ⟨⟨⟨h1, ?_⟩, h3⟩, h4⟩
    rcases h2 with h2 | ⟨g, cap, cur, hv, hbg, r⟩
    · exact .inl h2
    · exact .inr ⟨g, cap, cur, hv, Nat.le_trans hb hbg, r⟩
  | obj p => exact fun G h1 h2 => h G (fun b o x hx => h1 b o x (hF b o x hx)) h2
  | cells l => exact h
  | comp tup l => exact h
  | clo g first l => exact h
  | arr xs => exact h
  | map es => exact h
  | dead => trivial
theorem Sat.lt {F : Facts} {w : World} (h : Sat F w) {b : Nat} (hb : F.at b) : b < w.heap.size := by
  rcases hb with ⟨o, x, hx⟩ | ⟨p, hp⟩
  · exact block_lt_of_cell (h.1 b o x hx)
  · obtain ⟨ob, h1, _⟩ := h.2 b p hp
    exact (Array.getElem?_eq_some_iff.1 h1).1
theorem Sat.stay {F : Facts} {w w' : World} (h : Sat F w) (hs : ∀ b, F.at b → w'.heap[b]? = w.heap[b]?) : Sat F w' := by
  refine ⟨fun b o x hx => ?_, fun b p hp => ?_⟩
  · rw [World.cell?_of_block (w := w) (w' := w') (a := ⟨b, o, none⟩) (hs b (.inl ⟨o, x, hx⟩))]; exact h.1 b o x hx
  · rw [hs b (.inr ⟨p, hp⟩)]; exact h.2 b p hp
theorem Mem.below {base : Nat} {F : Facts} {σ : Sg} {own : List Blk} {w w' : World} (h : Mem base F σ own w) (hb : Below w.heap.size w w') : Mem base F σ own w' := by
  refine ⟨fun k b m hk hm => (h.blk k b m hk hm).same (fun i hi => h.lt k m i hm hi) fun i hi => hb.block i (h.lt k m i hm hi), fun k m b hm hi => Nat.lt_of_lt_of_le (h.lt k m b hm hi) hb.size, h.sat.stay fun b hb' => hb.block b (h.sat.lt hb')⟩

variable {P : Program} {F : Facts} {σ : Sg} {fr : List AV} {own : List Blk} {a : Act} {o : Oper} {base : Nat}

/-- What is known of the operands that an operation looks at. -/
def OpIs (σ : Sg) (fr : List AV) (a : Act) (o : Oper) : Prop := ∀ x ∈ o.op.operands, ∀ y, ev fr x = some y → y.Is σ (a.eval x)

theorem ev_is (h : FrIs σ fr a.tmps) {x : Operand} {y : AV} (hy : ev fr x = some y) : y.Is σ (a.eval x) := by
  cases x with
  | tmp t =>
    simp only [ev, nth_eq] at hy
    obtain ⟨u, h1, h2⟩ := h.at_ t y hy
    have : a.eval (.tmp t) = u := by simp [Act.eval, h1]
    rw [this]; exact h2
  | const v => cases v <;> simp only [ev, Option.some.injEq] at hy <;> subst hy <;> rfl
  | global g => simp only [ev, Option.some.injEq] at hy; subst hy; rfl
  | func f => simp only [ev, Option.some.injEq] at hy; subst hy; rfl
theorem FrIs.op (h : FrIs σ fr a.tmps) (o : Oper) : OpIs σ fr a o := fun _ _ _ hy => ev_is h hy
theorem isx_eq {x : Operand} (h : ∀ y, ev fr x = some y → y.Is σ (a.eval x)) (hx : isx fr x = true) : a.eval x = evx fr x := by
  unfold isx at hx
  unfold evx
  cases he : ev fr x with
  | none => simp [he] at hx
  | some y =>
    have := h y he
    cases y <;> simp [he] at hx ⊢ <;> exact this

theorem exact_exec (h : OpIs σ fr a o) (hs : ∀ cs b, o.op ≠ .select cs b) (hx : o.op.operands.toList.all (isx fr) = true) : execOp a.eval o = execOp (evx fr) o :=
  execOp_congr o hs fun x hx' => isx_eq (h x hx') (List.all_eq_true.1 hx x (by simpa using hx'))

/-- What an operation leaves behind: its value, and things laid anew, to be named from n on. -/
def Lays (base : Nat) (F : Facts) (σ : Sg) (n : Nat) (X : AV) (bs : List Blk) (W : World) (u : Value) (W' : World) : Prop :=
  Below W.heap.size W W' ∧ ∃ ν : Nat → Nm, (∀ i, i < bs.length → ∀ b, (ν i).fp b → W.heap.size ≤ b ∧ b < W'.heap.size) ∧ (∀ i j, i < bs.length → j < bs.length → ∀ b, (ν i).fp b → (ν j).fp b → i = j) ∧
    ∀ σ', SgLe σ σ' → (∀ i, i < bs.length → σ' (n + i) = some (ν i)) → X.Is σ' u ∧ ∀ i b, bs[i]? = some b → BlkIs base F W' σ' (ν i) b
/-- An operation that comes to that, from this world on. -/
def DoesAt (P : Program) (base : Nat) (F : Facts) (σ : Sg) (n : Nat) (X : AV) (bs : List Blk) (W : World) : Result Next → Prop
  | .ok (.value u) W' => Lays base F σ n X bs W u W'
  | .ok .skip W' => Lays base F σ n X bs W undef W'
  | .ok (.enter f args) W' => W' = W ∧ Calls P f args W fun e w' => ∃ u, e = .returned u ∧ Lays base F σ n X bs W u w'
  | _ => False
/-- It comes to that in whatever world has the things. -/
def Does (P : Program) (base : Nat) (F : Facts) (own : List Blk) (n : Nat) (o : Oper) (σ : Sg) (a : Act) (X : AV) (bs : List Blk) : Prop :=
  ∀ W, base ≤ W.heap.size → Mem base F σ own W → DoesAt P base F σ n X bs W ((execOp a.eval o).run P W)

theorem lays_calm {n : Nat} {X : AV} {W W' : World} {u : Value} (hb : Below W.heap.size W W') (hu : ∀ σ', SgLe σ σ' → X.Is σ' u) : Lays base F σ n X [] W u W' :=
  ⟨hb, fun _ => ⟨undef, fun _ => False⟩, fun i hi => by simp at hi, fun i j hi => by simp at hi, fun σ' hs _ => ⟨hu σ' hs, fun i b hi => by simp at hi⟩⟩
theorem does_value {n : Nat} {X : AV} {W : World} {u : Value} (h : (execOp a.eval o).run P W = .ok (.value u) W) (hu : X.Is σ u) : DoesAt P base F σ n X [] W ((execOp a.eval o).run P W) := by
  rw [h]; exact lays_calm (Below.refl _ _) fun σ' hs => hu.grow hs

def FLe (F F' : Facts) : Prop := (∀ b o x, F b o x → F' b o x) ∧ ∀ b p, F.o b p → F'.o b p
theorem Sat.le {F F' : Facts} {W : World} (h : Sat F' W) (hF : FLe F F') : Sat F W := ⟨fun b o x hx => h.1 b o x (hF.1 b o x hx), fun b p hp => h.2 b p (hF.2 b p hp)⟩

theorem upA_is {n : Nat} {σ σ' : Sg} (hs : ∀ i m, σ i = some m → σ' (i + n) = some m) {x : AV} {u : Value} (h : x.Is σ u) : (upA n x).Is σ' u := by
  cases x with
  | p k off => obtain ⟨m, b, h1, h2⟩ := h; exact ⟨m, b, hs _ _ h1, h2⟩
  | s k => obtain ⟨m, h1, h2⟩ := h; exact ⟨m, hs _ _ h1, h2⟩
  | e k off => obtain ⟨m, b, c, d, h1, h2⟩ := h; exact ⟨m, b, c, d, hs _ _ h1, h2⟩
  | sub k off c => obtain ⟨m, ad, c, h1, h2⟩ := h; exact ⟨m, ad, c, hs _ _ h1, h2⟩
  | t k => obtain ⟨m, h1, h2⟩ := h; exact ⟨m, hs _ _ h1, h2⟩
  | v x => exact h
  | lit b => exact h
  | junk => trivial
theorem upA_fr {n : Nat} {σ σ' : Sg} (hs : ∀ i m, σ i = some m → σ' (i + n) = some m) {l : List AV} {us : Array Value} (h : FrIs σ l us) : FrIs σ' (l.map (upA n)) us :=
  ⟨by rw [List.length_map]; exact h.len, fun i y hy => by
    simp only [List.getElem?_map, Option.map_eq_some_iff] at hy
    obtain ⟨x, hx, rfl⟩ := hy
    obtain ⟨u, h1, h2⟩ := h.at_ i x hx
    exact ⟨u, h1, upA_is hs h2⟩⟩
theorem upB_is {n base : Nat} {w : World} {σ σ' : Sg} (hs : ∀ i m, σ i = some m → σ' (i + n) = some m) {m : Nm} {b : Blk} (h : BlkIs base F w σ m b) : BlkIs base F w σ' m (upB n b) := by
  cases b with
  | cells l => obtain ⟨b, xs, T, h1, h2, h3, h4⟩ := h; exact ⟨b, xs, T, h1, h2, upA_fr hs h3, h4⟩
  | comp tup l => obtain ⟨vs, h1, h2⟩ := h; exact ⟨vs, h1, upA_fr hs h2⟩
  | clo g first l => obtain ⟨vs, h1, h2⟩ := h; exact ⟨vs, h1, upA_fr hs h2⟩
  | arr xs => exact h
  | row T z n xs => exact h
  | map es => exact h
  | obj p => exact h
  | dead => trivial
theorem upAK_eq (n : Nat) : ∀ (l : List AV) (K : List AV → Prop), upAK n l K = K (l.map (upA n))
  | [], K => rfl
  | x :: l, K => by cases x <;> simp only [upAK, upA, List.map_cons, upAK_eq n l]
theorem upBK_eq (n : Nat) : ∀ (l : List Blk) (K : List Blk → Prop), upBK n l K = K (l.map (upB n))
  | [], K => rfl
  | x :: l, K => by cases x <;> simp only [upBK, upB, List.map_cons, upBK_eq n l, upAK_eq]

/-- A call that returns fresh things. -/
theorem denF_lays {f : FuncId} {F' : Facts} {args : List AR} {res : List AV} {bs : List Blk} {K : AV → List Blk → Prop} {n : Nat} (h : DenF P f F' args res bs) (hF : FLe F' F) (k : freshResK n res bs K) :
    ∃ X bs', K X bs' ∧ ∀ base us σ W, base ≤ W.heap.size → Sat F W → ArsAre W args us → Calls P f us.toArray W fun e w' => ∃ u, e = .returned u ∧ Lays base F σ n X bs' W u w' := by
  have key : ∀ (X : AV) (tl : List Blk), (∀ (base : Nat) (σ1 : Sg) (vs : List Value) (ν : Nat → Nm), FrIs σ1 res vs.toArray → (∀ i, bs.length ≤ i → i < bs.length + tl.length → ν i = ⟨retV vs, fun _ => False⟩) → ∀ σ' : Sg, (∀ i m, σ1 i = some m → σ' (i + n) = some m) → (∀ i, i < bs.length + tl.length → σ' (n + i) = some (ν i)) → X.Is σ' (retV vs) ∧ ∀ w' i b, tl[i]? = some b → BlkIs base F w' σ' (ν (bs.length + i)) b) → 
      ∀ base us σ W, base ≤ W.heap.size → Sat F W → ArsAre W args us → Calls P f us.toArray W fun e w' => ∃ u, e = .returned u ∧ Lays base F σ n X (bs.map (upB n) ++ tl) W u w' := by
    intro X tl hX base us σ W hbase hsat hus
    refine (h.out W us (hsat.le hF) hus).mono ?_
    rintro e w' ⟨σ1, vs, rfl, hR, hall, hres⟩
    refine ⟨_, rfl, hR.below, fun i => if i < bs.length then (σ1 i).getD ⟨undef, fun _ => False⟩ else ⟨retV vs, fun _ => False⟩, fun i hi b hb => ?_, fun i j hi hj b hb hb' => ?_, fun σ' hs hν => ?_⟩
    · by_cases hib : i < bs.length
      · simp only [if_pos hib] at hb
        obtain ⟨m, hm⟩ := Option.ne_none_iff_exists'.1 (hall i hib)
        rw [hm, Option.getD_some] at hb
        exact ⟨hR.ge i m b hm hb, hR.mem.lt i m b hm hb⟩
      · simp only [if_neg hib] at hb
    · by_cases hib : i < bs.length
      · by_cases hjb : j < bs.length
        · simp only [if_pos hib] at hb
          simp only [if_pos hjb] at hb'
          obtain ⟨m, hm⟩ := Option.ne_none_iff_exists'.1 (hall i hib)
          obtain ⟨m', hm'⟩ := Option.ne_none_iff_exists'.1 (hall j hjb)
          rw [hm, Option.getD_some] at hb
          rw [hm', Option.getD_some] at hb'
          exact hR.inj i j m m' b hm hm' hb hb'
        · simp only [if_neg hjb] at hb'
      · simp only [if_neg hib] at hb
    · have hlen : (bs.map (upB n) ++ tl).length = bs.length + tl.length := by simp
      have hup : ∀ i m, σ1 i = some m → σ' (i + n) = some m := fun i m hm => by
        have hib := hR.dom i m hm
        have := hν i (by rw [hlen]; omega)
        simp only [if_pos hib, hm, Option.getD_some] at this
        rw [Nat.add_comm]; exact this
      obtain ⟨q1, q2⟩ := hX base σ1 vs _ hres (fun i hi hi' => if_neg (by omega)) σ' hup (fun i hi => hν i (by rw [hlen]; exact hi))
      refine ⟨q1, fun i b hb => ?_⟩
      by_cases hib : i < bs.length
      · rw [List.getElem?_append_left (by simpa using hib), List.getElem?_map, Option.map_eq_some_iff] at hb
        obtain ⟨b0, hb0, rfl⟩ := hb
        simp only [if_pos hib]
        obtain ⟨m, hm⟩ := Option.ne_none_iff_exists'.1 (hall i hib)
        rw [hm, Option.getD_some]
        exact upB_is hup ((hR.mem.blk i b0 m hb0 hm).rebase hbase hF.1)
      · rw [List.getElem?_append_right (by simpa using hib)] at hb
        have := q2 w' (i - bs.length) b (by simpa using hb)
        rwa [show bs.length + (i - bs.length) = i by omega] at this
  unfold freshResK at k
  rw [upBK_eq] at k
  split at k
  · rename_i x
    rw [upAK_eq] at k
    simp only [List.map_cons, List.map_nil] at k
    refine ⟨_, _, k, fun base us σ W hb hs hu => ?_⟩
    have := key (upA n x) [] (fun base σ1 vs ν hres _ σ' hup _ => ⟨?_, fun w' i b hi => by simp at hi⟩) base us σ W hb hs hu
    · simpa using this
    · have hl := hres.len
      match vs, hl with
      | [v], _ =>
        obtain ⟨u, h1, h2⟩ := hres.at_ 0 x rfl
        simp at h1
        subst h1
        exact upA_is hup h2
      | [], hl => simp at hl
      | _ :: _ :: _, hl => simp at hl
  · rename_i hne
    rw [upAK_eq, appK_eq] at k
    refine ⟨_, _, k, fun base us σ W hb hs hu => ?_⟩
    refine key (.t (bs.length + n)) [.comp true (res.map (upA n))] (fun base σ1 vs ν hres htl σ' hup hν => ?_) base us σ W hb hs hu
    have e := htl bs.length (Nat.le_refl _) (by simp)
    have hl := hres.len
    have hret : retV vs = .tuple vs.toArray := by
      match vs, hl with
      | [], _ => rfl
      | [v], hl =>
        match res, hl, hne with
        | [x], _, hne => exact absurd rfl (hne x)
        | [], hl, _ => simp at hl
        | _ :: _ :: _, hl, _ => simp at hl
      | _ :: _ :: _, _ => rfl
    refine ⟨⟨_, by rw [Nat.add_comm]; exact hν bs.length (by simp), by rw [e]⟩, fun w' i b hi => ?_⟩
    cases i with
    | zero =>
      simp at hi
      subst hi
      rw [Nat.add_zero, e]
      exact ⟨vs.toArray, hret, upA_fr hup hres⟩
    | succ i => simp at hi

theorem den_lays {f : FuncId} {us : List Value} {v : Value} {K : AV → List Blk → Prop} {n : Nat} (h : ∀ W, Sat F W → Calls P f us.toArray W fun e w' => e = .returned v ∧ Below W.heap.size W w') (k : forceV v fun v => K (.v v) []) :
    ∃ X bs', K X bs' ∧ ∀ base σ W, base ≤ W.heap.size → Sat F W → Calls P f us.toArray W fun e w' => ∃ u, e = .returned u ∧ Lays base F σ n X bs' W u w' := by
  rw [forceV_eq] at k
  exact ⟨_, _, k, fun base σ W hb hs => (h W hs).mono fun e w' ⟨he, hw⟩ => ⟨v, he, lays_calm hw fun _ _ => rfl⟩⟩

theorem ars_vals (W : World) : ∀ (l : List Value), ArsAre W (l.map .v) l
  | [] => rfl
  | x :: l => ⟨x, l, rfl, rfl, ars_vals W l⟩
theorem noFacts_le (F : Facts) : FLe noFacts F := ⟨fun _ _ _ h => h.elim, fun _ _ h => h.elim⟩

/-- A call, exactly known: what it comes to. -/
theorem callN_lays {f : FuncId} {us : List Value} {K : AV → List Blk → Prop} {n : Nat} (h : CallN P f us F n K) :
    ∃ X bs', K X bs' ∧ ∀ base σ W, base ≤ W.heap.size → Sat F W → Calls P f us.toArray W fun e w' => ∃ u, e = .returned u ∧ Lays base F σ n X bs' W u w' := by
  rcases h with ⟨v, h, k⟩ | ⟨v, h, k⟩ | ⟨res, bs, h, k⟩ | ⟨res, bs, h, k⟩
  · exact den_lays (fun W hs => h.out W hs) k
  · exact den_lays (fun W hs => h.out W (hs.le (noFacts_le F))) k
  · obtain ⟨X, bs', h1, h2⟩ := denF_lays (F := F) h ⟨fun _ _ _ h => h, fun _ _ h => h⟩ k
    exact ⟨X, bs', h1, fun base σ W hb hs => h2 base us σ W hb hs (ars_vals W us)⟩
  · obtain ⟨X, bs', h1, h2⟩ := denF_lays (F := F) h (noFacts_le F) k
    exact ⟨X, bs', h1, fun base σ W hb hs => h2 base us σ W hb hs (ars_vals W us)⟩
/-- A call that is handed things: what it comes to. -/
theorem callA_lays {f : FuncId} {args : List AR} {K : AV → List Blk → Prop} {n : Nat} (h : CallA P f F args n K) :
    ∃ X bs', K X bs' ∧ ∀ base us σ W, base ≤ W.heap.size → Sat F W → ArsAre W args us → Calls P f us.toArray W fun e w' => ∃ u, e = .returned u ∧ Lays base F σ n X bs' W u w' := by
  have val : ∀ v, (∀ W us, Sat F W → ArsAre W args us → Calls P f us.toArray W fun e w' => e = .returned v ∧ Below W.heap.size W w') → (forceV v fun v => K (.v v) []) → ∃ X bs', K X bs' ∧ ∀ base us σ W, base ≤ W.heap.size → Sat F W → ArsAre W args us → Calls P f us.toArray W fun e w' => ∃ u, e = .returned u ∧ Lays base F σ n X bs' W u w' := fun v h k => by
    rw [forceV_eq] at k
    exact ⟨_, _, k, fun base us σ W hb hs hu => (h W us hs hu).mono fun e w' ⟨he, hw⟩ => ⟨v, he, lays_calm hw fun _ _ => rfl⟩⟩
  have fre : ∀ F' res bs, DenF P f F' args res bs → FLe F' F → freshResK n res bs K → ∃ X bs', K X bs' ∧ ∀ base us σ W, base ≤ W.heap.size → Sat F W → ArsAre W args us → Calls P f us.toArray W fun e w' => ∃ u, e = .returned u ∧ Lays base F σ n X bs' W u w' := fun F' res bs h hF k => by
    exact denF_lays h hF k
  rcases h with ⟨v, h, k⟩ | ⟨v, h, k⟩ | ⟨res, bs, h, k⟩ | ⟨res, bs, h, k⟩
  · exact val v (fun W us hs hu => h.out W us hs hu) k
  · exact val v (fun W us hs hu => h.out W us (hs.le (noFacts_le F)) hu) k
  · exact fre F res bs h ⟨fun _ _ _ h => h, fun _ _ h => h⟩ k
  · exact fre noFacts res bs h (noFacts_le F) k

/-- The form of what follows: what an operation yields, whatever world. -/
def ValS (P : Program) (F : Facts) (own : List Blk) (fr : List AV) (o : Oper) (K : AV → List Blk → Prop) : Prop :=
  ∃ X bs, K X bs ∧ ∀ base σ a, OpIs σ fr a o → Does P base F own own.length o σ a X bs

theorem exactK_sound {K : AV → List Blk → Prop} (h : exactK P F o fr own K) : ValS P F own fr o K := by
  unfold exactK at h
  split at h
  · rename_i hx0
    simp only [Bool.and_eq_true, Bool.not_eq_true'] at hx0
    have hx := hx0.2
    have hs : ∀ cs b, o.op ≠ .select cs b := fun cs b he => by rw [he] at hx0; simp [isSel] at hx0
    split at h
    · rename_i u hu
      rw [forceV_eq] at h
      exact ⟨_, _, h, fun base σ a hfr W _ _ => does_value (by rw [exact_exec hfr hs hx, ← execX_eq]; exact pureRun_run P _ hu W) rfl⟩
    · rename_i hu
      refine ⟨_, _, h, fun base σ a hfr W _ _ => ?_⟩
      rw [exact_exec hfr hs hx, ← execX_eq, pureRun_run P _ hu W]
      exact lays_calm (Below.refl _ _) fun _ _ => rfl
    · rename_i f args hu
      rw [forceL_eq, lenK_eq, Nat.add_zero] at h
      obtain ⟨X, bs, hK, hd⟩ := callN_lays h
      refine ⟨X, bs, hK, fun base σ a hfr W hb hM => ?_⟩
      rw [exact_exec hfr hs hx, ← execX_eq, pureRun_run P _ hu W]
      exact ⟨rfl, by simpa using hd base σ W hb hM.sat⟩
    · exact h.elim
  · exact h.elim

theorem run_isAgg {t : TypeId} {b : Bool} (h : aggT P t = some b) (w : World) : (isAgg t).run P w = .ok b w := by
  unfold aggT at h
  unfold isAgg
  cases hd : P.underlying t with
  | none => rw [hd] at h; cases h
  | some d =>
    rw [hd] at h
    have := run_underlying hd w
    simp only [Sem.run_bind, this, Result.andThen_ok]
    cases d <;> simp at h <;> subst h <;> rfl

/-! What the evaluation says of one operation that leaves the world as it is holds of it. No condition. -/
variable {P : Program} {F : Facts} {σ : Sg} {fr : List AV} {own : List Blk} {a : Act} {o : Oper}

theorem add_at (b off n : Nat) : (⟨b, off, none⟩ : Addr).add n = ⟨b, off + n, none⟩ := Addr.add_lit b off n

theorem takeX_sound : ∀ (n : Nat) (l : List AV) (K : List Value → Prop), takeX l n K → ∃ vs : List Value, vs.length = n ∧ K vs ∧ ∀ (j : Nat) (v : Value), vs[j]? = some v → ∃ x, l[j]? = some x ∧ ∀ σ u, x.Is σ u → u = v
  | 0, l, K, h => ⟨[], rfl, by cases l <;> exact h, fun j v hj => by simp at hj⟩
  | n + 1, [], K, h => by simp [takeX] at h
  | n + 1, x :: l, K, h => by
    have key : ∀ v0 : Value, (∀ σ u, x.Is σ u → u = v0) → takeX l n (fun l => K (v0 :: l)) → ∃ vs : List Value, vs.length = n + 1 ∧ K vs ∧ ∀ (j : Nat) (v : Value), vs[j]? = some v → ∃ x', (x :: l)[j]? = some x' ∧ ∀ σ u, x'.Is σ u → u = v := by
      intro v0 hv0 h
      obtain ⟨vs, h1, h2, h3⟩ := takeX_sound n l _ h
      refine ⟨v0 :: vs, by simp [h1], h2, fun j v hj => ?_⟩
      cases j with
      | zero =>
        simp at hj
        subst hj
        exact ⟨x, by simp, hv0⟩
      | succ j =>
        obtain ⟨y, k1, k2⟩ := h3 j v (by simpa using hj)
        exact ⟨y, by simpa using k1, k2⟩
    cases x with
    | v x => exact key x (fun _ _ h => h) h
    | lit b => exact key (.bool b) (fun _ _ h => h) h
    | p k off => simp [takeX] at h
    | s k => simp [takeX] at h
    | e k off => simp [takeX] at h
    | sub k off n => simp [takeX] at h
    | t k => simp [takeX] at h
    | junk => simp [takeX] at h

theorem run_load_agg {t : TypeId} {i : TypeInfo} {w : World} {b off : Nat} {vs : List Value} (hA : aggT P t = some true) (hi : P.info? t = some i) (hl : vs.length = i.size) (h : ∀ (j : Nat) (v : Value), vs[j]? = some v → w.cell? ⟨b, off + j, none⟩ = some v) :
    (loadVar t ⟨b, off, none⟩).run P w = .ok (.agg vs.toArray) w := by
  have hc := run_loadCells_list (P := P) w ⟨b, off, none⟩ vs (fun j v hj => by rw [add_at]; exact h j v hj)
  rw [hl] at hc
  simp [loadVar, run_isAgg hA, sizeOf, typeInfo, hi, hc]
theorem run_load_cell {t : TypeId} {w : World} {b off : Nat} {v : Value} (hA : aggT P t = some false) (h : w.cell? ⟨b, off, none⟩ = some v) : (loadVar t ⟨b, off, none⟩).run P w = .ok v w := by
  simp [loadVar, run_isAgg hA, h]

theorem cell_of {w : World} {b off : Nat} {xs : Array Value} {T : TypeId} {v : Value} (h : w.heap[b]? = some (.cells xs T (0, 0))) (hv : xs[off]? = some v) : w.cell? ⟨b, off, none⟩ = some v := by
  simp [World.cell?, h, hv]

theorem loadK_sound {t : TypeId} {cells : List AV} {off : Nat} {K : AV → Prop} (h : loadK P t cells off K) : ∃ x, K x ∧ ∀ (σ : Sg) (w : World) (b : Nat) (xs : Array Value) (T : TypeId), w.heap[b]? = some (.cells xs T (0, 0)) → FrIs σ cells xs →
    ∃ u, x.Is σ u ∧ (loadVar t ⟨b, off, none⟩).run P w = .ok u w := by
  unfold loadK at h
  split at h
  · rename_i hA
    split at h
    · rename_i i hi
      rw [dropL_eq] at h
      obtain ⟨vs, h1, h2, h3⟩ := takeX_sound _ _ _ h
      refine ⟨_, h2, fun σ w b xs T hb hfr => ⟨_, rfl, run_load_agg hA hi h1 fun j v hj => ?_⟩⟩
      obtain ⟨x, k1, k2⟩ := h3 j v hj
      rw [List.getElem?_drop] at k1
      obtain ⟨u, q1, q2⟩ := hfr.at_ _ x k1
      rw [k2 σ u q2] at q1
      exact cell_of hb q1
    · exact h.elim
  · rename_i hA
    have key : ∀ x : AV, nth cells off = some x → ∀ (σ : Sg) (w : World) (b : Nat) (xs : Array Value) (T : TypeId), w.heap[b]? = some (.cells xs T (0, 0)) → FrIs σ cells xs → ∃ u, x.Is σ u ∧ (loadVar t ⟨b, off, none⟩).run P w = .ok u w := by
      intro x hx σ w b xs T hb hfr
      rw [nth_eq] at hx
      obtain ⟨u, q1, q2⟩ := hfr.at_ _ x hx
      exact ⟨u, q2, run_load_cell hA (cell_of hb q1)⟩
    split at h
    all_goals first | exact h.elim | (rename_i hx; exact ⟨_, h, key _ hx⟩)
  · exact h.elim

theorem loadF_sound {t : TypeId} {b off : Nat} {K : AV → Prop} (h : loadF P t F b off K) : ∃ u, K (.v u) ∧ ∀ (w : World), Sat F w → (loadVar t ⟨b, off, none⟩).run P w = .ok u w := by
  unfold loadF at h
  split at h
  · rename_i hA
    split at h
    · rename_i i hi
      obtain ⟨vs, h1, h2, h3⟩ := h
      exact ⟨_, h3, fun w hs => run_load_agg hA hi h2 fun j v hj => hs.1 _ _ _ (h1 j v hj)⟩
    · exact h.elim
  · rename_i hA
    obtain ⟨vs, h1, h2, h3⟩ := h
    split at h3
    · rename_i x
      exact ⟨_, h3, fun w hs => run_load_cell hA (hs.1 _ _ _ (by have := h1 0 x rfl; rwa [Nat.add_zero] at this))⟩
    · exact h3.elim
  · exact h.elim

theorem loadR_sound {t : TypeId} {xs : List Value} {off : Nat} {K : AV → Prop} (h : loadR P t xs off K) : ∃ u, K (.v u) ∧ ∀ (w : World) (b : Nat), (∀ (j : Nat) (v : Value), xs[j]? = some v → w.cell? ⟨b, j, none⟩ = some v) → (loadVar t ⟨b, off, none⟩).run P w = .ok u w := by
  unfold loadR at h
  split at h
  · rename_i hA
    split at h
    · rename_i i hi
      obtain ⟨vs, h1, h2, h3⟩ := h
      refine ⟨_, h3, fun w b hc => run_load_agg hA hi h2 fun j v hj => hc _ _ ?_⟩
      rw [← h1] at hj
      have hjl := (List.getElem?_eq_some_iff.1 hj).1
      rw [List.getElem?_take_of_lt (by simp at hjl; omega), List.getElem?_drop] at hj
      exact hj
    · exact h.elim
  · rename_i hA
    obtain ⟨vs, h1, h2, h3⟩ := h
    split at h3
    · rename_i x
      refine ⟨_, h3, fun w b hc => run_load_cell hA (hc _ _ ?_)⟩
      have hj : ((xs.drop off).take 1)[0]? = some x := by rw [h1]; rfl
      rw [List.getElem?_take_of_lt (by omega), List.getElem?_drop] at hj
      simpa using hj
    · exact h3.elim
  · exact h.elim

theorem intK_sound {op : BinOp} {k k' : IntKind} {m n : Int} {K : Value → Prop} {E : Prop} (hk : (isShift op || decide (k = k')) = true) (h : intK op k m n K E) : E ∨ ∃ v, K v ∧ ∀ w t, (binOp op t (.int k m) (.int k' n)).run P w = .ok v w := by
  cases op <;> simp only [intK] at h <;> simp [isShift] at hk
  case shl => exact .inr ⟨_, h.k, fun w t => by simp [binOp, Op.shift, Int.not_lt.2 h.ob]⟩
  case shr => exact .inr ⟨_, h.k, fun w t => by simp [binOp, Op.shift, Int.not_lt.2 h.ob]⟩
  all_goals subst hk
  case quo => exact .inr ⟨_, h.k, fun w t => by simp [binOp, Op.intDiv, h.ob]⟩
  case rem => exact .inr ⟨_, h.k, fun w t => by simp [binOp, Op.intDiv, h.ob]⟩
  all_goals first
    | exact .inl h
    | exact .inr ⟨_, h, fun w t => by simp [binOp, Op.intArith, Op.intCmp]⟩

theorem run_part {t : TypeId} {cs : Array Value} {off : Nat} {v : Value} (h : partV P t cs off = some v) (w : World) : (part t cs off).run P w = .ok v w := by
  unfold partV at h
  split at h
  · rename_i hA
    split at h
    · rename_i i hi
      cases h
      simp [part, run_isAgg hA, sizeOf, typeInfo, hi]
    · cases h
  · rename_i hA
    simp [part, run_isAgg hA, h]
  · cases h
theorem loadR_part {t : TypeId} {xs : List Value} {off : Nat} {K : AV → Prop} (h : loadR P t xs off K) : ∃ u, K (.v u) ∧ partV P t xs.toArray off = some u := by
  unfold loadR at h
  split at h
  · rename_i hA
    split at h
    · rename_i i hi
      obtain ⟨vs, h1, h2, h3⟩ := h
      refine ⟨_, h3, ?_⟩
      simp only [partV, hA, hi]
      congr 2
      apply Array.ext'
      simp [← h1, List.extract_eq_take_drop]
    · exact h.elim
  · rename_i hA
    obtain ⟨vs, h1, h2, h3⟩ := h
    split at h3
    · rename_i x
      refine ⟨_, h3, ?_⟩
      simp only [partV, hA]
      have hj : ((xs.drop off).take 1)[0]? = some x := by rw [h1]; rfl
      rw [List.getElem?_take_of_lt (by omega), List.getElem?_drop] at hj
      simpa using hj
    · exact h3.elim
  · exact h.elim
theorem andO_some {x y : Option Bool} {b : Bool} (h : andO x y = some b) : ∃ c d, x = some c ∧ y = some d ∧ b = (c && d) := by
  cases x <;> cases y <;> simp [andO] at h
  exact ⟨_, _, rfl, rfl, h.symm⟩
theorem eqFs_sound {d e : Nat} {eq : TypeId → Value → Value → Option Bool} (heq : ∀ t x y b w, eqTy P d t = true → eq t x y = some b → (Op.equalIn (d + e) t x y).run P w = .ok b w) {xs ys : Array Value} : ∀ (fs : List Field) (b : Bool) (w : World), (fs.all fun f => eqTy P d f.type) = true →
    eqFs P eq xs ys fs = some b → (Op.eqFields (d + e) xs ys fs).run P w = .ok b w
  | [], b, w, _, h => by simp [eqFs] at h; subst h; simp [Op.eqFields]
  | f :: fs, b, w, ht, h => by
    simp only [List.all_cons, Bool.and_eq_true] at ht
    unfold eqFs at h
    unfold Op.eqFields
    cases hn : (f.name != "_") with
    | false =>
      simp only [hn] at h
      have : ¬ f.name ≠ "_" := by simpa using hn
      rw [if_neg this]
      exact eqFs_sound heq fs b w ht.2 h
    | true =>
      simp only [hn] at h
      have hne : f.name ≠ "_" := by simpa using hn
      rw [if_pos hne]
      split at h
      · rename_i u v hu hv
        simp only [Sem.run_bind, run_part hu, run_part hv, Result.andThen_ok]
        split at h
        · have := heq _ _ _ _ w ht.1 h
          simp only [this, Result.andThen_ok]
          cases b <;> simp [Op.eqFields]
        · obtain ⟨c, g, h1, h2, rfl⟩ := andO_some h
          have q1 := heq _ _ _ _ w ht.1 h1
          have q2 := eqFs_sound heq fs g w ht.2 h2
          simp only [q1, Result.andThen_ok]
          cases c
          · simp
          · simpa using q2
      · cases h
theorem eqIs_sound {d e : Nat} {eq : TypeId → Value → Value → Option Bool} (heq : ∀ t x y b w, eqTy P d t = true → eq t x y = some b → (Op.equalIn (d + e) t x y).run P w = .ok b w) {xs ys : Array Value} {t : TypeId} {z : Nat} (ht : eqTy P d t = true) : ∀ (is : List Nat) (b : Bool) (w : World),
    eqIs P eq t z xs ys is = some b → (Op.eqItems (d + e) t z xs ys is).run P w = .ok b w
  | [], b, w, h => by simp [eqIs] at h; subst h; simp [Op.eqItems]
  | i :: is, b, w, h => by
    unfold eqIs at h
    unfold Op.eqItems
    split at h
    · rename_i u v hu hv
      simp only [Sem.run_bind, run_part hu, run_part hv, Result.andThen_ok]
      split at h
      · have := heq _ _ _ _ w ht h
        simp only [this, Result.andThen_ok]
        cases b <;> simp [Op.eqItems]
      · obtain ⟨c, g, h1, h2, rfl⟩ := andO_some h
        have q1 := heq _ _ _ _ w ht h1
        have q2 := eqIs_sound heq ht is g w h2
        simp only [q1, Result.andThen_ok]
        cases c
        · simp
        · simpa using q2
    · cases h
theorem eqV_sound (e : Nat) : ∀ (d : Nat) (t : TypeId) (x y : Value) (b : Bool) (w : World), eqTy P d t = true → eqV P d t x y = some b → (Op.equalIn (d + e) t x y).run P w = .ok b w
  | 0, t, x, y, b, w, _, h => by simp [eqV] at h
  | d + 1, t, x, y, b, w, ht, h => by
    rw [show d + 1 + e = d + e + 1 by omega]
    unfold eqV at h
    split at h
    · rename_i k0 k m k' n hu
      split at h
      · rename_i hk
        obtain rfl := of_decide_eq_true hk
        cases h
        exact run_equalIn_int w _ t _ _ _ _ hu
      · cases h
    · rename_i m n hu
      cases h
      exact run_equalIn_bool' w _ t _ _ hu
    · rename_i m n hu
      cases h
      exact run_equalIn_string w _ t _ _ hu
    · rename_i fs xs ys hu
      unfold eqTy at ht
      simp only [hu, Bool.and_eq_true, Bool.not_eq_true'] at ht
      have hf : P.fieldsOf t = fs := by unfold Program.fieldsOf; rw [hu]
      rw [run_equalIn_struct w _ t xs ys (by rw [hf]; exact hu) ht.1, hf]
      exact eqFs_sound (fun t x y b w => eqV_sound e d t x y b w) fs.toList b w ht.2 h
    · rename_i m el xs ys hu
      unfold eqTy at ht
      simp only [hu] at ht
      split at h
      · rename_i i hi
        have hz : P.cellsOf el = i.size := by simp [Program.cellsOf, hi]
        rw [run_equalIn_array w _ xs ys hu hi, hz]
        exact eqIs_sound (fun t x y b w => eqV_sound e d t x y b w) ht (List.range m) b w h
      · cases h
    · cases h

theorem run_eqV {t : TypeId} {xs ys : Array Value} {b : Bool} (hok : eqOk P t = true) (h : eqV P eqDeep t (.agg xs) (.agg ys) = some b) (x y : Operand) (w : World) :
    ((do eqGuard .eql t x y (.agg xs) (.agg ys); binOp .eql t (.agg xs) (.agg ys)) : Sem Value).run P w = .ok (.bool b) w ∧ ((do eqGuard .neq t x y (.agg xs) (.agg ys); binOp .neq t (.agg xs) (.agg ys)) : Sem Value).run P w = .ok (.bool !b) w := by
  simp only [eqOk, Bool.and_eq_true, Bool.not_eq_true'] at hok
  have h2 : (Op.equalIn 10000 t (.agg xs) (.agg ys)).run P w = .ok b w := eqV_sound 9988 eqDeep t _ _ b w hok.1 h
  constructor
  · simp only [Sem.run_bind, run_eqGuard_agg w _ t x y xs ys hok.2, Result.andThen_ok, run_eql_struct, h2]
  · simp only [Sem.run_bind, run_eqGuard_agg w _ t x y xs ys hok.2, Result.andThen_ok, run_neq_struct, h2]

theorem storeV_toList : ∀ (vs : List Value) (cs : Array Value) (off i : Nat), ((vs.zipIdx i).foldl (fun cs (x : Value × Nat) => cs.setIfInBounds (off + x.2) x.1) cs).toList = storeV cs.toList (off + i) vs
  | [], cs, off, i => by simp [storeV]
  | v :: vs, cs, off, i => by
    simp only [List.zipIdx_cons, List.foldl_cons]
    rw [storeV_toList vs _ off (i + 1)]
    simp [storeV, setL_eq', Nat.add_assoc]
where setL_eq' : ∀ (l : List Value) (n : Nat) (x : Value), setL l n x = l.set n x := fun l n x => setL_eq x l n
theorem fillX_sound {place : Nat → Option (Nat × Nat)} : ∀ (ps : List (Nat × Value)) (cells : Array Value) (l : List Value), fillX place cells.toList ps = some l → Instr.fill place cells ps = some l.toArray
  | [], cells, l, h => by simp [fillX] at h; subst h; simp [Instr.fill]
  | (i, v) :: ps, cells, l, h => by
    unfold fillX at h
    unfold Instr.fill
    split at h
    · rename_i off size hp
      rw [hp]
      simp only
      split at h
      · rename_i h1 h2
        have h1 := of_decide_eq_true h1
        have h2 := of_decide_eq_true h2
        rw [if_neg (by simp only [Array.length_toList] at h2; simp [h1]; omega)]
        refine fillX_sound ps _ l ?_
        rw [← Array.foldl_toList, Array.toList_zipIdx, storeV_toList]
        exact h
      · cases h
    · cases h

theorem run_zeroX {t : TypeId} {z : List Value} (h : zeroX P t = some z) (w : World) : ∃ v, (zeroValue t).run P w = .ok v w ∧ v.cells.toList = z := by
  unfold zeroX at h
  split at h
  · rename_i i hi
    split at h
    · rename_i v hv
      cases h
      exact ⟨v, by simp [zeroValue, typeInfo, hi, hv], rfl⟩
    · cases h
  · cases h

theorem run_places (w : World) : ∀ (fs : List Field), (fs.all fun f => (P.info? f.type).isSome) = true → (fs.mapM fun (f : Field) => (do pure (f.offset, ← sizeOf f.type) : Sem (Nat × Nat))).run P w = .ok (fs.map fun f => (f.offset, ((P.info? f.type).map (·.size)).getD 0)) w
  | [], _ => by simp
  | f :: fs, h => by
    simp only [List.all_cons, Bool.and_eq_true] at h
    obtain ⟨i, hi⟩ := Option.isSome_iff_exists.1 h.1
    have := run_places w fs h.2
    have h1 : (sizeOf f.type).run P w = .ok i.size w := by simp [sizeOf, typeInfo, hi]
    rw [List.mapM_cons]
    simp only [Sem.run_bind, this, Sem.run_pure, Result.andThen_ok, h1, hi, List.map_cons, Option.map_some, Option.getD_some]

theorem run_buildX {t : TypeId} {ps : List (Nat × Value)} {l : List Value} (h : buildX P t ps = some l) (w : World) : (Instr.build t ps.toArray).run P w = .ok (.agg l.toArray) w := by
  unfold buildX at h
  split at h
  · rename_i fs z hu hz
    split at h
    · rename_i hall
      obtain ⟨v, hv, hvz⟩ := run_zeroX hz w
      have hpl := run_places (P := P) w fs.toList hall
      have hplace : placeX P fs = fun i => (fs.toList.map fun f => (f.offset, ((P.info? f.type).map (·.size)).getD 0)).toArray[i]? := by
        funext i
        unfold placeX
        cases hf : fs[i]? with
        | none => simp [hf]
        | some f =>
          have := List.all_eq_true.1 hall f (by simpa using Array.mem_of_getElem? hf)
          obtain ⟨g, hg⟩ := Option.isSome_iff_exists.1 this
          simp [hf, hg]
      rw [← hvz, hplace] at h
      have := fillX_sound ps _ l h
      simp only [Instr.build, Sem.run_bind, hv, run_underlying hu, Result.andThen_ok, Array.mapM_eq_mapM_toList, Sem.run_map, hpl, this]
      rfl
    · cases h
  · rename_i n e z hu hz
    split at h
    · rename_i g hg
      obtain ⟨v, hv, hvz⟩ := run_zeroX hz w
      rw [← hvz] at h
      have := fillX_sound ps _ l h
      have h1 : (sizeOf e).run P w = .ok g.size w := by simp [sizeOf, typeInfo, hg]
      simp only [Instr.build, Sem.run_bind, hv, run_underlying hu, Result.andThen_ok, h1, this]
      rfl
    · cases h
  · cases h

end Go.Proofs.YthbhnbnlbhpooaaGreatDoor
