/- Contracts of package inter, and of the reference's intervals: whatever the numbers. -/
import Derived.Test.YtljhbdgoknfkcaaGreatDoorV8
import Derived.Test.YtljhbdgoknfkcaaGreatDoorM
namespace Go.Proofs.YtljhbdgoknfkcaaGreatDoor
open Go Go.RowKit Go.Sort
set_option linter.unusedVariables false
set_option linter.unusedSimpArgs false
set_option maxRecDepth 100000

theorem hmix : Tryz.prog.follows .mixedOrders = true := by kernel_rfl
theorem den_of {P : Program} {f : FuncId} {args : Array Value} {F : Facts} {v : Value} (h : ∀ W, Calls P f args W fun e w' => e = .returned v ∧ Below W.heap.size W w') : Den P f args F v := ⟨fun W _ => h W⟩
theorem Den.eq {P : Program} {f : FuncId} {args : Array Value} {F : Facts} {v v' : Value} (h : Den P f args F v) (e : v = v') : Den P f args F v' := e ▸ h
theorem Den.mono {P : Program} {f : FuncId} {args : Array Value} {F F' : Facts} {v : Value} (h : Den P f args F v) (hF : FLe F F') : Den P f args F' v := ⟨fun W hs => h.out W (hs.le hF)⟩
theorem le_orL {F G : Facts} : FLe F (orF F G) := ⟨fun _ _ _ h => .inl h, fun _ _ h => .inl h⟩
theorem le_orR {F G : Facts} : FLe G (orF F G) := ⟨fun _ _ _ h => .inr h, fun _ _ h => .inr h⟩
theorem FLe.trans {F G H : Facts} (h : FLe F G) (k : FLe G H) : FLe F H := ⟨fun b o x hx => k.1 b o x (h.1 b o x hx), fun b p hp => k.2 b p (h.2 b p hp)⟩
theorem orF_no {F : Facts} : orF noFacts F = F := by cases F; simp [orF, noFacts]
theorem arIs_in {W : World} {F : Facts} {z n b off c : Nat} {xs : List Value} {ad : Option Addr} (hW : Sat F W) (hF : FLe (rowF b off xs) F) (hl : xs.length = n * z) (hs : 0 < n → ad = some ⟨b, off, none⟩) : ArIs W (.r z n xs) (.slice ad n c) :=
  ⟨hl, ad, c, rfl, fun h => ⟨b, off, hs h, fun j v hj => hW.1 b (off + j) v (hF.1 b (off + j) v ⟨rfl, j, rfl, hj⟩)⟩⟩
theorem arsAre_v {W : World} : ∀ {us vs : List Value}, ArsAre W (us.map .v) vs → vs = us
  | [], vs, h => h
  | u :: us, vs, h => by
    obtain ⟨x, vs', rfl, hx, h2⟩ := h
    obtain rfl : x = u := hx
    rw [arsAre_v h2]
/-- A contract for rows, at slices that came in. -/
theorem DenF.here {P : Program} {f : FuncId} {F : Facts} {args : List AR} {res : List AV} {own : List Blk} (us : List Value) (hn : noObj own = true) (h : DenF P f noFacts args res own) (ha : ∀ W, Sat F W → ArsAre W args us) : DenF P f F (us.map .v) res own := by
  constructor
  intro W vs hW hv
  obtain rfl := arsAre_v hv
  refine (h.out W _ ⟨fun _ _ _ h => h.elim, fun _ _ h => h.elim⟩ (ha W hW)).mono ?_
  rintro e w' ⟨σ, us, he, hR, hall, hres⟩
  refine ⟨σ, us, he, hR.facts (hW.stay fun b hb => hR.below.block b (hW.lt hb)) (fun b hb => hW.lt hb) (fun k b hk => ?_), hall, hres⟩
  have := List.all_eq_true.1 hn b (List.mem_of_getElem? hk)
  cases b <;> simp at this ⊢
theorem DenA.here {P : Program} {f : FuncId} {F : Facts} {args : List AR} {v : Value} (us : List Value) (h : DenA P f noFacts args v) (ha : ∀ W, Sat F W → ArsAre W args us) : Den P f us.toArray F v :=
  ⟨fun W hW => h.out W us ⟨fun _ _ _ h => h.elim, fun _ _ h => h.elim⟩ (ha W hW)⟩
/-- The cells of a row that lies here. -/
theorem cellsN_row {b off i n : Nat} {xs : List Value} {K : List Value → Prop} (vs : List Value) (h : (xs.drop i).take n = vs) (hl : vs.length = n) (k : K vs) : CellsN (rowF b off xs) b (off + i) n K :=
  .mk vs (fun j v hj => ⟨rfl, i + j, by omega, by
    rw [← h] at hj
    have hjl := (List.getElem?_eq_some_iff.1 hj).1
    rw [List.getElem?_take_of_lt (by simp at hjl; omega), List.getElem?_drop] at hj
    exact hj⟩) hl k

def iof (lo hi : Int) : Int × Int := if lo > hi then (1, 0) else (lo, hi)
theorem iEmpty_d : Den Tryz.prog 90 #[] noFacts (.agg #[.int .i64 1, .int .i64 0]) := by
  refine den_of_body (args := []) hmix Tryz.func90 ?_
  (repeat' ((conv => whnf); first | refine AdN.mk _ _ rfl ?_ | refine DrawN.a (Ob.mk (by decide +kernel) ?_) | refine DrawN.c (Ob.mk (by decide +kernel) ?_) | refine DrawN.b (Ob.mk (by decide +kernel) ?_) | refine Ob.mk (by kernel_rfl) ?_ | (refine Br.mk (fun h => ?_) (fun h => ?_) <;> (first | (exfalso; exact Bool.false_ne_true h) | (exfalso; exact Bool.false_ne_true h.symm) | skip)) | refine SeqN.go ?_)); all_goals (conv => whnf)
  all_goals rfl
theorem iOf_d (lo hi : Int) : Den Tryz.prog 44 #[.int .i64 lo, .int .i64 hi] noFacts (.agg #[.int .i64 (iof lo hi).1, .int .i64 (iof lo hi).2]) := by
  refine den_of_body (args := [.int .i64 lo, .int .i64 hi]) hmix Tryz.func44 ?_
  (repeat' ((conv => whnf); first | refine CallN.any _ iEmpty_d ?_ | refine AdN.mk _ _ rfl ?_ | refine DrawN.a (Ob.mk (by decide +kernel) ?_) | refine DrawN.c (Ob.mk (by decide +kernel) ?_) | refine DrawN.b (Ob.mk (by decide +kernel) ?_) | refine Ob.mk (by kernel_rfl) ?_ | (refine Br.mk (fun h => ?_) (fun h => ?_) <;> (first | (exfalso; exact Bool.false_ne_true h) | (exfalso; exact Bool.false_ne_true h.symm) | skip)) | refine SeqN.go ?_)); all_goals (conv => whnf)
  all_goals grind [retV, iof]
theorem iOne_d (n : Int) : Den Tryz.prog 71 #[.int .i64 n] noFacts (.agg #[.int .i64 n, .int .i64 n]) := by
  refine den_of_body (args := [.int .i64 n]) hmix Tryz.func71 ?_
  (repeat' ((conv => whnf); first | refine AdN.mk _ _ rfl ?_ | refine DrawN.a (Ob.mk (by decide +kernel) ?_) | refine DrawN.c (Ob.mk (by decide +kernel) ?_) | refine DrawN.b (Ob.mk (by decide +kernel) ?_) | refine Ob.mk (by kernel_rfl) ?_ | (refine Br.mk (fun h => ?_) (fun h => ?_) <;> (first | (exfalso; exact Bool.false_ne_true h) | (exfalso; exact Bool.false_ne_true h.symm) | skip)) | refine SeqN.go ?_)); all_goals (conv => whnf)
  all_goals rfl
theorem iWhole_d : Den Tryz.prog 45 #[] noFacts (.agg #[.int .i64 (-9223372036854775808), .int .i64 9223372036854775807]) := by
  refine den_of_body (args := []) hmix Tryz.func45 ?_
  (repeat' ((conv => whnf); first | refine AdN.mk _ _ rfl ?_ | refine DrawN.a (Ob.mk (by decide +kernel) ?_) | refine DrawN.c (Ob.mk (by decide +kernel) ?_) | refine DrawN.b (Ob.mk (by decide +kernel) ?_) | refine Ob.mk (by kernel_rfl) ?_ | (refine Br.mk (fun h => ?_) (fun h => ?_) <;> (first | (exfalso; exact Bool.false_ne_true h) | (exfalso; exact Bool.false_ne_true h.symm) | skip)) | refine SeqN.go ?_)); all_goals (conv => whnf)
  all_goals rfl
theorem iIsEmpty_d (lo hi : Int) : Den Tryz.prog 124 #[.agg #[.int .i64 lo, .int .i64 hi]] noFacts (.bool (decide (lo > hi))) := by
  refine den_of_body (args := [.agg #[.int .i64 lo, .int .i64 hi]]) hmix Tryz.func124 ?_
  (repeat' ((conv => whnf); first | refine AdN.mk _ _ rfl ?_ | refine DrawN.a (Ob.mk (by decide +kernel) ?_) | refine DrawN.c (Ob.mk (by decide +kernel) ?_) | refine DrawN.b (Ob.mk (by decide +kernel) ?_) | refine Ob.mk (by kernel_rfl) ?_ | (refine Br.mk (fun h => ?_) (fun h => ?_) <;> (first | (exfalso; exact Bool.false_ne_true h) | (exfalso; exact Bool.false_ne_true h.symm) | skip)) | refine SeqN.go ?_)); all_goals (conv => whnf)
  all_goals rfl
theorem iHas_d (lo hi n : Int) : Den Tryz.prog 117 #[.agg #[.int .i64 lo, .int .i64 hi], .int .i64 n] noFacts (.bool (decide (lo ≤ n) && decide (n ≤ hi))) := by
  refine den_of_body (args := [.agg #[.int .i64 lo, .int .i64 hi], .int .i64 n]) hmix Tryz.func117 ?_
  (repeat' ((conv => whnf); first | refine AdN.mk _ _ rfl ?_ | refine DrawN.a (Ob.mk (by decide +kernel) ?_) | refine DrawN.c (Ob.mk (by decide +kernel) ?_) | refine DrawN.b (Ob.mk (by decide +kernel) ?_) | refine Ob.mk (by kernel_rfl) ?_ | (refine Br.mk (fun h => ?_) (fun h => ?_) <;> (first | (exfalso; exact Bool.false_ne_true h) | (exfalso; exact Bool.false_ne_true h.symm) | skip)) | refine SeqN.go ?_)); all_goals (conv => whnf)
  all_goals grind [retV]
theorem iSingle_d (lo hi : Int) : Den Tryz.prog 100 #[.agg #[.int .i64 lo, .int .i64 hi]] noFacts (.tuple #[.int .i64 (if lo = hi then lo else 0), .bool (lo == hi)]) := by
  refine den_of_body (args := [.agg #[.int .i64 lo, .int .i64 hi]]) hmix Tryz.func100 ?_
  (repeat' ((conv => whnf); first | refine AdN.mk _ _ rfl ?_ | refine DrawN.a (Ob.mk (by decide +kernel) ?_) | refine DrawN.c (Ob.mk (by decide +kernel) ?_) | refine DrawN.b (Ob.mk (by decide +kernel) ?_) | refine Ob.mk (by kernel_rfl) ?_ | (refine Br.mk (fun h => ?_) (fun h => ?_) <;> (first | (exfalso; exact Bool.false_ne_true h) | (exfalso; exact Bool.false_ne_true h.symm) | skip)) | refine SeqN.go ?_)); all_goals (conv => whnf)
  all_goals grind [retV]
def iwithin (a b c d : Int) : Bool := decide (a > b) || (decide (c ≤ a) && decide (b ≤ d))
theorem iWithin_d (a b c d : Int) : Den Tryz.prog 151 #[.agg #[.int .i64 a, .int .i64 b], .agg #[.int .i64 c, .int .i64 d]] noFacts (.bool (iwithin a b c d)) := by
  refine den_of_body (args := [.agg #[.int .i64 a, .int .i64 b], .agg #[.int .i64 c, .int .i64 d]]) hmix Tryz.func151 ?_
  have E := iIsEmpty_d a b
  (repeat' ((conv => whnf); first | refine CallN.any _ E ?_ | refine AdN.mk _ _ rfl ?_ | refine DrawN.a (Ob.mk (by decide +kernel) ?_) | refine DrawN.c (Ob.mk (by decide +kernel) ?_) | refine DrawN.b (Ob.mk (by decide +kernel) ?_) | refine Ob.mk (by kernel_rfl) ?_ | (refine Br.mk (fun h => ?_) (fun h => ?_) <;> (first | (exfalso; exact Bool.false_ne_true h) | (exfalso; exact Bool.false_ne_true h.symm) | skip)) | refine SeqN.go ?_)); all_goals (conv => whnf)
  all_goals grind [retV, iwithin]
def iwiden (a b c d : Int) : Int × Int := if a > b then iof c d else if c > d then (a, b) else (if c < a then -9223372036854775808 else a, if d > b then 9223372036854775807 else b)
theorem iWiden_d (a b c d : Int) : Den Tryz.prog 147 #[.agg #[.int .i64 a, .int .i64 b], .agg #[.int .i64 c, .int .i64 d]] noFacts (.agg #[.int .i64 (iwiden a b c d).1, .int .i64 (iwiden a b c d).2]) := by
  refine den_of_body (args := [.agg #[.int .i64 a, .int .i64 b], .agg #[.int .i64 c, .int .i64 d]]) hmix Tryz.func147 ?_
  have E := iIsEmpty_d a b
  have E2 := iIsEmpty_d c d
  have O := iOf_d c d
  (repeat' ((conv => whnf); first | refine CallN.any _ E ?_ | refine CallN.any _ E2 ?_ | refine CallN.any _ O ?_ | refine AdN.mk _ _ rfl ?_ | refine DrawN.a (Ob.mk (by decide +kernel) ?_) | refine DrawN.c (Ob.mk (by decide +kernel) ?_) | refine DrawN.b (Ob.mk (by decide +kernel) ?_) | refine Ob.mk (by kernel_rfl) ?_ | (refine Br.mk (fun h => ?_) (fun h => ?_) <;> (first | (exfalso; exact Bool.false_ne_true h) | (exfalso; exact Bool.false_ne_true h.symm) | skip)) | refine SeqN.go ?_)); all_goals (conv => whnf)
  all_goals grind [retV, iwiden]
def inarrow (a b c d : Int) : Int × Int := if a > b ∨ c > d then (1, 0) else iof (if a = -9223372036854775808 then c else a) (if b = 9223372036854775807 then d else b)
theorem iNarrow_d (a b c d : Int) : Den Tryz.prog 149 #[.agg #[.int .i64 a, .int .i64 b], .agg #[.int .i64 c, .int .i64 d]] noFacts (.agg #[.int .i64 (inarrow a b c d).1, .int .i64 (inarrow a b c d).2]) := by
  refine den_of_body (args := [.agg #[.int .i64 a, .int .i64 b], .agg #[.int .i64 c, .int .i64 d]]) hmix Tryz.func149 ?_
  have E := iIsEmpty_d a b
  have E2 := iIsEmpty_d c d
  have O1 := iOf_d a b
  have O2 := iOf_d c b
  have O3 := iOf_d a d
  have O4 := iOf_d c d
  (repeat' ((conv => whnf); first | refine CallN.any _ E ?_ | refine CallN.any _ E2 ?_ | refine CallN.any _ O1 ?_ | refine CallN.any _ O2 ?_ | refine CallN.any _ O3 ?_ | refine CallN.any _ O4 ?_ | refine CallN.any _ iEmpty_d ?_ | refine AdN.mk _ _ rfl ?_ | refine DrawN.a (Ob.mk (by decide +kernel) ?_) | refine DrawN.c (Ob.mk (by decide +kernel) ?_) | refine DrawN.b (Ob.mk (by decide +kernel) ?_) | refine Ob.mk (by kernel_rfl) ?_ | (refine Br.mk (fun h => ?_) (fun h => ?_) <;> (first | (exfalso; exact Bool.false_ne_true h) | (exfalso; exact Bool.false_ne_true h.symm) | skip)) | refine SeqN.go ?_)); all_goals (conv => whnf)
  all_goals grind [retV, inarrow]
def ijoin (a b c d : Int) : Int × Int := if c > d then (a, b) else if a > b then (c, d) else (if a ≤ c then a else c, if b ≤ d then d else b)
theorem iJoin1_d (a b c d : Int) : Den Tryz.prog 220 #[.agg #[.int .i64 a, .int .i64 b], .agg #[.int .i64 c, .int .i64 d]] noFacts (.agg #[.int .i64 (ijoin a b c d).1, .int .i64 (ijoin a b c d).2]) := by
  refine den_of_body (args := [.agg #[.int .i64 a, .int .i64 b], .agg #[.int .i64 c, .int .i64 d]]) hmix Tryz.func220 ?_
  have E := iIsEmpty_d a b
  have E2 := iIsEmpty_d c d
  (repeat' ((conv => whnf); first | refine CallN.any _ E ?_ | refine CallN.any _ E2 ?_ | refine AdN.mk _ _ rfl ?_ | refine DrawN.a (Ob.mk (by decide +kernel) ?_) | refine DrawN.c (Ob.mk (by decide +kernel) ?_) | refine DrawN.b (Ob.mk (by decide +kernel) ?_) | refine Ob.mk (by kernel_rfl) ?_ | (refine Br.mk (fun h => ?_) (fun h => ?_) <;> (first | (exfalso; exact Bool.false_ne_true h) | (exfalso; exact Bool.false_ne_true h.symm) | skip)) | refine SeqN.go ?_)); all_goals (conv => whnf)
  all_goals grind [retV, ijoin]
def imeet (a b c d : Int) : Int × Int := iof (if a ≤ c then c else a) (if b ≤ d then b else d)
theorem iMeet1_d (a b c d : Int) : Den Tryz.prog 223 #[.agg #[.int .i64 a, .int .i64 b], .agg #[.int .i64 c, .int .i64 d]] noFacts (.agg #[.int .i64 (imeet a b c d).1, .int .i64 (imeet a b c d).2]) := by
  refine den_of_body (args := [.agg #[.int .i64 a, .int .i64 b], .agg #[.int .i64 c, .int .i64 d]]) hmix Tryz.func223 ?_
  (repeat' ((conv => whnf); first | refine CallN.any _ (iOf_d _ _) ?_ | refine AdN.mk _ _ rfl ?_ | refine DrawN.a (Ob.mk (by decide +kernel) ?_) | refine DrawN.c (Ob.mk (by decide +kernel) ?_) | refine DrawN.b (Ob.mk (by decide +kernel) ?_) | refine Ob.mk (by kernel_rfl) ?_ | (refine Br.mk (fun h => ?_) (fun h => ?_) <;> (first | (exfalso; exact Bool.false_ne_true h) | (exfalso; exact Bool.false_ne_true h.symm) | skip)) | refine SeqN.go ?_)); all_goals (conv => whnf)
  all_goals grind [retV, imeet]
theorem iFoldJ_d (ad : Option Addr) (b off cap : Nat) (l1 h1 l2 h2 : Int) (hs : 0 < 2 → ad = some ⟨b, off, none⟩) : Den Tryz.prog 219 #[.agg #[.int .i64 1, .int .i64 0], .slice ad 2 cap, .func (.func 220) #[] #[]] (rowF b off [.int .i64 l1, .int .i64 h1, .int .i64 l2, .int .i64 h2])
    (.agg #[.int .i64 (ijoin (ijoin 1 0 l1 h1).1 (ijoin 1 0 l1 h1).2 l2 h2).1, .int .i64 (ijoin (ijoin 1 0 l1 h1).1 (ijoin 1 0 l1 h1).2 l2 h2).2]) := by
  obtain rfl := hs (by decide)
  refine den_of_body (args := [.agg #[.int .i64 1, .int .i64 0], .slice (some ⟨b, off, none⟩) 2 cap, .func (.func 220) #[] #[]]) hmix Tryz.func219 ?_
  (repeat' ((conv => whnf); first | refine CallN.any _ (iJoin1_d _ _ _ _) ?_ | refine LoopN.roll 3 ?_ | refine Ob.mk ⟨by decide, by decide⟩ ?_ | refine cellsN_row _ rfl rfl ?_ | refine AdN.mk _ _ rfl ?_ | refine DrawN.a (Ob.mk (by decide +kernel) ?_) | refine DrawN.c (Ob.mk (by decide +kernel) ?_) | refine DrawN.b (Ob.mk (by decide +kernel) ?_) | refine Ob.mk (by kernel_rfl) ?_ | (refine Br.mk (fun h => ?_) (fun h => ?_) <;> (first | (exfalso; exact Bool.false_ne_true h) | (exfalso; exact Bool.false_ne_true h.symm) | skip)) | refine SeqN.go ?_)); all_goals (conv => whnf)
  all_goals rfl
theorem iJoin_d (l1 h1 l2 h2 : Int) : DenA Tryz.prog 142 noFacts [.r 2 2 [.int .i64 l1, .int .i64 h1, .int .i64 l2, .int .i64 h2]] (.agg #[.int .i64 (ijoin (ijoin 1 0 l1 h1).1 (ijoin 1 0 l1 h1).2 l2 h2).1, .int .i64 (ijoin (ijoin 1 0 l1 h1).1 (ijoin 1 0 l1 h1).2 l2 h2).2]) := by
  refine DenA.fam ?_
  intro ad b off cap hs hl
  rw [orF_no]
  have D := iFoldJ_d ad b off cap l1 h1 l2 h2 hs
  refine den_of_body (args := [.slice ad 2 cap]) hmix Tryz.func142 ?_
  (repeat' ((conv => whnf); first | refine CallN.any _ iEmpty_d ?_ | refine CallN.mk _ D ?_ | refine AdN.mk _ _ rfl ?_ | refine DrawN.a (Ob.mk (by decide +kernel) ?_) | refine DrawN.c (Ob.mk (by decide +kernel) ?_) | refine DrawN.b (Ob.mk (by decide +kernel) ?_) | refine Ob.mk (by kernel_rfl) ?_ | (refine Br.mk (fun h => ?_) (fun h => ?_) <;> (first | (exfalso; exact Bool.false_ne_true h) | (exfalso; exact Bool.false_ne_true h.symm) | skip)) | refine SeqN.go ?_)); all_goals (conv => whnf)
  all_goals rfl
theorem iFoldM_d (ad : Option Addr) (b off cap : Nat) (l1 h1 l2 h2 : Int) (hs : 0 < 2 → ad = some ⟨b, off, none⟩) : Den Tryz.prog 219 #[.agg #[.int .i64 (-9223372036854775808), .int .i64 9223372036854775807], .slice ad 2 cap, .func (.func 223) #[] #[]] (rowF b off [.int .i64 l1, .int .i64 h1, .int .i64 l2, .int .i64 h2])
    (.agg #[.int .i64 (imeet (imeet (-9223372036854775808) 9223372036854775807 l1 h1).1 (imeet (-9223372036854775808) 9223372036854775807 l1 h1).2 l2 h2).1, .int .i64 (imeet (imeet (-9223372036854775808) 9223372036854775807 l1 h1).1 (imeet (-9223372036854775808) 9223372036854775807 l1 h1).2 l2 h2).2]) := by
  obtain rfl := hs (by decide)
  refine den_of_body (args := [.agg #[.int .i64 (-9223372036854775808), .int .i64 9223372036854775807], .slice (some ⟨b, off, none⟩) 2 cap, .func (.func 223) #[] #[]]) hmix Tryz.func219 ?_
  (repeat' ((conv => whnf); first | refine CallN.any _ (iMeet1_d _ _ _ _) ?_ | refine LoopN.roll 3 ?_ | refine Ob.mk ⟨by decide, by decide⟩ ?_ | refine cellsN_row _ rfl rfl ?_ | refine AdN.mk _ _ rfl ?_ | refine DrawN.a (Ob.mk (by decide +kernel) ?_) | refine DrawN.c (Ob.mk (by decide +kernel) ?_) | refine DrawN.b (Ob.mk (by decide +kernel) ?_) | refine Ob.mk (by kernel_rfl) ?_ | (refine Br.mk (fun h => ?_) (fun h => ?_) <;> (first | (exfalso; exact Bool.false_ne_true h) | (exfalso; exact Bool.false_ne_true h.symm) | skip)) | refine SeqN.go ?_)); all_goals (conv => whnf)
  all_goals rfl
theorem iMeet_d (l1 h1 l2 h2 : Int) : DenA Tryz.prog 146 noFacts [.r 2 2 [.int .i64 l1, .int .i64 h1, .int .i64 l2, .int .i64 h2]] (.agg #[.int .i64 (imeet (imeet (-9223372036854775808) 9223372036854775807 l1 h1).1 (imeet (-9223372036854775808) 9223372036854775807 l1 h1).2 l2 h2).1, .int .i64 (imeet (imeet (-9223372036854775808) 9223372036854775807 l1 h1).1 (imeet (-9223372036854775808) 9223372036854775807 l1 h1).2 l2 h2).2]) := by
  refine DenA.fam ?_
  intro ad b off cap hs hl
  rw [orF_no]
  have D := iFoldM_d ad b off cap l1 h1 l2 h2 hs
  refine den_of_body (args := [.slice ad 2 cap]) hmix Tryz.func146 ?_
  (repeat' ((conv => whnf); first | refine CallN.any _ iWhole_d ?_ | refine CallN.mk _ D ?_ | refine AdN.mk _ _ rfl ?_ | refine DrawN.a (Ob.mk (by decide +kernel) ?_) | refine DrawN.c (Ob.mk (by decide +kernel) ?_) | refine DrawN.b (Ob.mk (by decide +kernel) ?_) | refine Ob.mk (by kernel_rfl) ?_ | (refine Br.mk (fun h => ?_) (fun h => ?_) <;> (first | (exfalso; exact Bool.false_ne_true h) | (exfalso; exact Bool.false_ne_true h.symm) | skip)) | refine SeqN.go ?_)); all_goals (conv => whnf)
  all_goals rfl
end Go.Proofs.YtljhbdgoknfkcaaGreatDoor
