/- Contracts of package inter, and of the reference's intervals: whatever the numbers. -/
import Derived.Test.YtcemohoigdninaaDoorV8
import Derived.Test.YtcemohoigdninaaDoorM
namespace Go.Proofs.YtcemohoigdninaaDoor
open Go Go.RowKit Go.Sort
set_option linter.unusedVariables false
set_option linter.unusedSimpArgs false
set_option maxRecDepth 100000

theorem hmix : Tryd.prog.follows .mixedOrders = true := by kernel_rfl
theorem den_of {P : Program} {f : FuncId} {args : Array Value} {F : Facts} {v : Value} (h : ∀ W, Calls P f args W fun e w' => e = .returned v ∧ Below W.heap.size W w') : Den P f args F v := ⟨fun W _ => h W⟩
theorem Den.eq {P : Program} {f : FuncId} {args : Array Value} {F : Facts} {v v' : Value} (h : Den P f args F v) (e : v = v') : Den P f args F v' := e ▸ h
theorem orF_no {F : Facts} : orF noFacts F = F := by cases F; simp [orF, noFacts]
/-- The cells of a row that lies here. -/
theorem cellsN_row {b off i n : Nat} {xs : List Value} {K : List Value → Prop} (vs : List Value) (h : (xs.drop i).take n = vs) (hl : vs.length = n) (k : K vs) : CellsN (rowF b off xs) b (off + i) n K :=
  .mk vs (fun j v hj => ⟨rfl, i + j, by omega, by
    rw [← h] at hj
    have hjl := (List.getElem?_eq_some_iff.1 hj).1
    rw [List.getElem?_take_of_lt (by simp at hjl; omega), List.getElem?_drop] at hj
    exact hj⟩) hl k

def iof (lo hi : Int) : Int × Int := if lo > hi then (1, 0) else (lo, hi)
theorem iEmpty_d : Den Tryd.prog 87 #[] noFacts (.agg #[.int .i64 1, .int .i64 0]) := by
  refine den_of_body (args := []) hmix Tryd.func87 ?_
  (repeat' ((conv => whnf); first | refine AdN.mk _ _ rfl ?_ | refine DrawN.a (Ob.mk (by decide +kernel) ?_) | refine DrawN.c (Ob.mk (by decide +kernel) ?_) | refine DrawN.b (Ob.mk (by decide +kernel) ?_) | refine Ob.mk (by kernel_rfl) ?_ | (refine Br.mk (fun h => ?_) (fun h => ?_) <;> (first | (exfalso; exact Bool.false_ne_true h) | (exfalso; exact Bool.false_ne_true h.symm) | skip)) | refine SeqN.go ?_)); all_goals (conv => whnf)
  all_goals rfl
theorem iOf_d (lo hi : Int) : Den Tryd.prog 68 #[.int .i64 lo, .int .i64 hi] noFacts (.agg #[.int .i64 (iof lo hi).1, .int .i64 (iof lo hi).2]) := by
  refine den_of_body (args := [.int .i64 lo, .int .i64 hi]) hmix Tryd.func68 ?_
  (repeat' ((conv => whnf); first | refine CallN.any _ iEmpty_d ?_ | refine AdN.mk _ _ rfl ?_ | refine DrawN.a (Ob.mk (by decide +kernel) ?_) | refine DrawN.c (Ob.mk (by decide +kernel) ?_) | refine DrawN.b (Ob.mk (by decide +kernel) ?_) | refine Ob.mk (by kernel_rfl) ?_ | (refine Br.mk (fun h => ?_) (fun h => ?_) <;> (first | (exfalso; exact Bool.false_ne_true h) | (exfalso; exact Bool.false_ne_true h.symm) | skip)) | refine SeqN.go ?_)); all_goals (conv => whnf)
  all_goals grind [retV, iof]
theorem iOne_d (n : Int) : Den Tryd.prog 81 #[.int .i64 n] noFacts (.agg #[.int .i64 n, .int .i64 n]) := by
  refine den_of_body (args := [.int .i64 n]) hmix Tryd.func81 ?_
  (repeat' ((conv => whnf); first | refine AdN.mk _ _ rfl ?_ | refine DrawN.a (Ob.mk (by decide +kernel) ?_) | refine DrawN.c (Ob.mk (by decide +kernel) ?_) | refine DrawN.b (Ob.mk (by decide +kernel) ?_) | refine Ob.mk (by kernel_rfl) ?_ | (refine Br.mk (fun h => ?_) (fun h => ?_) <;> (first | (exfalso; exact Bool.false_ne_true h) | (exfalso; exact Bool.false_ne_true h.symm) | skip)) | refine SeqN.go ?_)); all_goals (conv => whnf)
  all_goals rfl
theorem iWhole_d : Den Tryd.prog 84 #[] noFacts (.agg #[.int .i64 (-9223372036854775808), .int .i64 9223372036854775807]) := by
  refine den_of_body (args := []) hmix Tryd.func84 ?_
  (repeat' ((conv => whnf); first | refine AdN.mk _ _ rfl ?_ | refine DrawN.a (Ob.mk (by decide +kernel) ?_) | refine DrawN.c (Ob.mk (by decide +kernel) ?_) | refine DrawN.b (Ob.mk (by decide +kernel) ?_) | refine Ob.mk (by kernel_rfl) ?_ | (refine Br.mk (fun h => ?_) (fun h => ?_) <;> (first | (exfalso; exact Bool.false_ne_true h) | (exfalso; exact Bool.false_ne_true h.symm) | skip)) | refine SeqN.go ?_)); all_goals (conv => whnf)
  all_goals rfl
theorem iIsEmpty_d (lo hi : Int) : Den Tryd.prog 65 #[.agg #[.int .i64 lo, .int .i64 hi]] noFacts (.bool (decide (lo > hi))) := by
  refine den_of_body (args := [.agg #[.int .i64 lo, .int .i64 hi]]) hmix Tryd.func65 ?_
  (repeat' ((conv => whnf); first | refine AdN.mk _ _ rfl ?_ | refine DrawN.a (Ob.mk (by decide +kernel) ?_) | refine DrawN.c (Ob.mk (by decide +kernel) ?_) | refine DrawN.b (Ob.mk (by decide +kernel) ?_) | refine Ob.mk (by kernel_rfl) ?_ | (refine Br.mk (fun h => ?_) (fun h => ?_) <;> (first | (exfalso; exact Bool.false_ne_true h) | (exfalso; exact Bool.false_ne_true h.symm) | skip)) | refine SeqN.go ?_)); all_goals (conv => whnf)
  all_goals rfl
theorem iHas_d (lo hi n : Int) : Den Tryd.prog 73 #[.agg #[.int .i64 lo, .int .i64 hi], .int .i64 n] noFacts (.bool (decide (lo ≤ n) && decide (n ≤ hi))) := by
  refine den_of_body (args := [.agg #[.int .i64 lo, .int .i64 hi], .int .i64 n]) hmix Tryd.func73 ?_
  (repeat' ((conv => whnf); first | refine AdN.mk _ _ rfl ?_ | refine DrawN.a (Ob.mk (by decide +kernel) ?_) | refine DrawN.c (Ob.mk (by decide +kernel) ?_) | refine DrawN.b (Ob.mk (by decide +kernel) ?_) | refine Ob.mk (by kernel_rfl) ?_ | (refine Br.mk (fun h => ?_) (fun h => ?_) <;> (first | (exfalso; exact Bool.false_ne_true h) | (exfalso; exact Bool.false_ne_true h.symm) | skip)) | refine SeqN.go ?_)); all_goals (conv => whnf)
  all_goals grind [retV]
theorem iSingle_d (lo hi : Int) : Den Tryd.prog 71 #[.agg #[.int .i64 lo, .int .i64 hi]] noFacts (.tuple #[.int .i64 (if lo = hi then lo else 0), .bool (lo == hi)]) := by
  refine den_of_body (args := [.agg #[.int .i64 lo, .int .i64 hi]]) hmix Tryd.func71 ?_
  (repeat' ((conv => whnf); first | refine AdN.mk _ _ rfl ?_ | refine DrawN.a (Ob.mk (by decide +kernel) ?_) | refine DrawN.c (Ob.mk (by decide +kernel) ?_) | refine DrawN.b (Ob.mk (by decide +kernel) ?_) | refine Ob.mk (by kernel_rfl) ?_ | (refine Br.mk (fun h => ?_) (fun h => ?_) <;> (first | (exfalso; exact Bool.false_ne_true h) | (exfalso; exact Bool.false_ne_true h.symm) | skip)) | refine SeqN.go ?_)); all_goals (conv => whnf)
  all_goals grind [retV]
def iwithin (a b c d : Int) : Bool := decide (a > b) || (decide (c ≤ a) && decide (b ≤ d))
theorem iWithin_d (a b c d : Int) : Den Tryd.prog 105 #[.agg #[.int .i64 a, .int .i64 b], .agg #[.int .i64 c, .int .i64 d]] noFacts (.bool (iwithin a b c d)) := by
  refine den_of_body (args := [.agg #[.int .i64 a, .int .i64 b], .agg #[.int .i64 c, .int .i64 d]]) hmix Tryd.func105 ?_
  have E := iIsEmpty_d a b
  (repeat' ((conv => whnf); first | refine CallN.any _ E ?_ | refine AdN.mk _ _ rfl ?_ | refine DrawN.a (Ob.mk (by decide +kernel) ?_) | refine DrawN.c (Ob.mk (by decide +kernel) ?_) | refine DrawN.b (Ob.mk (by decide +kernel) ?_) | refine Ob.mk (by kernel_rfl) ?_ | (refine Br.mk (fun h => ?_) (fun h => ?_) <;> (first | (exfalso; exact Bool.false_ne_true h) | (exfalso; exact Bool.false_ne_true h.symm) | skip)) | refine SeqN.go ?_)); all_goals (conv => whnf)
  all_goals grind [retV, iwithin]
def iwiden (a b c d : Int) : Int × Int := if a > b then iof c d else if c > d then (a, b) else (if c < a then -9223372036854775808 else a, if d > b then 9223372036854775807 else b)
theorem iWiden_d (a b c d : Int) : Den Tryd.prog 101 #[.agg #[.int .i64 a, .int .i64 b], .agg #[.int .i64 c, .int .i64 d]] noFacts (.agg #[.int .i64 (iwiden a b c d).1, .int .i64 (iwiden a b c d).2]) := by
  refine den_of_body (args := [.agg #[.int .i64 a, .int .i64 b], .agg #[.int .i64 c, .int .i64 d]]) hmix Tryd.func101 ?_
  have E := iIsEmpty_d a b
  have E2 := iIsEmpty_d c d
  have O := iOf_d c d
  (repeat' ((conv => whnf); first | refine CallN.any _ E ?_ | refine CallN.any _ E2 ?_ | refine CallN.any _ O ?_ | refine AdN.mk _ _ rfl ?_ | refine DrawN.a (Ob.mk (by decide +kernel) ?_) | refine DrawN.c (Ob.mk (by decide +kernel) ?_) | refine DrawN.b (Ob.mk (by decide +kernel) ?_) | refine Ob.mk (by kernel_rfl) ?_ | (refine Br.mk (fun h => ?_) (fun h => ?_) <;> (first | (exfalso; exact Bool.false_ne_true h) | (exfalso; exact Bool.false_ne_true h.symm) | skip)) | refine SeqN.go ?_)); all_goals (conv => whnf)
  all_goals grind [retV, iwiden]
def inarrow (a b c d : Int) : Int × Int := if a > b ∨ c > d then (1, 0) else iof (if a = -9223372036854775808 then c else a) (if b = 9223372036854775807 then d else b)
theorem iNarrow_d (a b c d : Int) : Den Tryd.prog 103 #[.agg #[.int .i64 a, .int .i64 b], .agg #[.int .i64 c, .int .i64 d]] noFacts (.agg #[.int .i64 (inarrow a b c d).1, .int .i64 (inarrow a b c d).2]) := by
  refine den_of_body (args := [.agg #[.int .i64 a, .int .i64 b], .agg #[.int .i64 c, .int .i64 d]]) hmix Tryd.func103 ?_
  have E := iIsEmpty_d a b
  have E2 := iIsEmpty_d c d
  have O1 := iOf_d a b
  have O2 := iOf_d c b
  have O3 := iOf_d a d
  have O4 := iOf_d c d
  (repeat' ((conv => whnf); first | refine CallN.any _ E ?_ | refine CallN.any _ E2 ?_ | refine CallN.any _ O1 ?_ | refine CallN.any _ O2 ?_ | refine CallN.any _ O3 ?_ | refine CallN.any _ O4 ?_ | refine CallN.any _ iEmpty_d ?_ | refine AdN.mk _ _ rfl ?_ | refine DrawN.a (Ob.mk (by decide +kernel) ?_) | refine DrawN.c (Ob.mk (by decide +kernel) ?_) | refine DrawN.b (Ob.mk (by decide +kernel) ?_) | refine Ob.mk (by kernel_rfl) ?_ | (refine Br.mk (fun h => ?_) (fun h => ?_) <;> (first | (exfalso; exact Bool.false_ne_true h) | (exfalso; exact Bool.false_ne_true h.symm) | skip)) | refine SeqN.go ?_)); all_goals (conv => whnf)
  all_goals grind [retV, inarrow]
def ijoin (a b c d : Int) : Int × Int := if c > d then (a, b) else if a > b then (c, d) else (if a ≤ c then a else c, if b ≤ d then d else b)
theorem iJoin1_d (a b c d : Int) : Den Tryd.prog 144 #[.agg #[.int .i64 a, .int .i64 b], .agg #[.int .i64 c, .int .i64 d]] noFacts (.agg #[.int .i64 (ijoin a b c d).1, .int .i64 (ijoin a b c d).2]) := by
  refine den_of_body (args := [.agg #[.int .i64 a, .int .i64 b], .agg #[.int .i64 c, .int .i64 d]]) hmix Tryd.func144 ?_
  have E := iIsEmpty_d a b
  have E2 := iIsEmpty_d c d
  (repeat' ((conv => whnf); first | refine CallN.any _ E ?_ | refine CallN.any _ E2 ?_ | refine AdN.mk _ _ rfl ?_ | refine DrawN.a (Ob.mk (by decide +kernel) ?_) | refine DrawN.c (Ob.mk (by decide +kernel) ?_) | refine DrawN.b (Ob.mk (by decide +kernel) ?_) | refine Ob.mk (by kernel_rfl) ?_ | (refine Br.mk (fun h => ?_) (fun h => ?_) <;> (first | (exfalso; exact Bool.false_ne_true h) | (exfalso; exact Bool.false_ne_true h.symm) | skip)) | refine SeqN.go ?_)); all_goals (conv => whnf)
  all_goals grind [retV, ijoin]
def imeet (a b c d : Int) : Int × Int := iof (if a ≤ c then c else a) (if b ≤ d then b else d)
theorem iMeet1_d (a b c d : Int) : Den Tryd.prog 147 #[.agg #[.int .i64 a, .int .i64 b], .agg #[.int .i64 c, .int .i64 d]] noFacts (.agg #[.int .i64 (imeet a b c d).1, .int .i64 (imeet a b c d).2]) := by
  refine den_of_body (args := [.agg #[.int .i64 a, .int .i64 b], .agg #[.int .i64 c, .int .i64 d]]) hmix Tryd.func147 ?_
  (repeat' ((conv => whnf); first | refine CallN.any _ (iOf_d _ _) ?_ | refine AdN.mk _ _ rfl ?_ | refine DrawN.a (Ob.mk (by decide +kernel) ?_) | refine DrawN.c (Ob.mk (by decide +kernel) ?_) | refine DrawN.b (Ob.mk (by decide +kernel) ?_) | refine Ob.mk (by kernel_rfl) ?_ | (refine Br.mk (fun h => ?_) (fun h => ?_) <;> (first | (exfalso; exact Bool.false_ne_true h) | (exfalso; exact Bool.false_ne_true h.symm) | skip)) | refine SeqN.go ?_)); all_goals (conv => whnf)
  all_goals grind [retV, imeet]
theorem iFoldJ_d (ad : Option Addr) (b off cap : Nat) (l1 h1 l2 h2 : Int) (hs : 0 < 2 → ad = some ⟨b, off, none⟩) : Den Tryd.prog 143 #[.agg #[.int .i64 1, .int .i64 0], .slice ad 2 cap, .func (.func 144) #[] #[]] (rowF b off [.int .i64 l1, .int .i64 h1, .int .i64 l2, .int .i64 h2])
    (.agg #[.int .i64 (ijoin (ijoin 1 0 l1 h1).1 (ijoin 1 0 l1 h1).2 l2 h2).1, .int .i64 (ijoin (ijoin 1 0 l1 h1).1 (ijoin 1 0 l1 h1).2 l2 h2).2]) := by
  obtain rfl := hs (by decide)
  refine den_of_body (args := [.agg #[.int .i64 1, .int .i64 0], .slice (some ⟨b, off, none⟩) 2 cap, .func (.func 144) #[] #[]]) hmix Tryd.func143 ?_
  (repeat' ((conv => whnf); first | refine CallN.any _ (iJoin1_d _ _ _ _) ?_ | refine LoopN.roll 3 ?_ | refine Ob.mk ⟨by decide, by decide⟩ ?_ | refine cellsN_row _ rfl rfl ?_ | refine AdN.mk _ _ rfl ?_ | refine DrawN.a (Ob.mk (by decide +kernel) ?_) | refine DrawN.c (Ob.mk (by decide +kernel) ?_) | refine DrawN.b (Ob.mk (by decide +kernel) ?_) | refine Ob.mk (by kernel_rfl) ?_ | (refine Br.mk (fun h => ?_) (fun h => ?_) <;> (first | (exfalso; exact Bool.false_ne_true h) | (exfalso; exact Bool.false_ne_true h.symm) | skip)) | refine SeqN.go ?_)); all_goals (conv => whnf)
  all_goals rfl
theorem iJoin_d (l1 h1 l2 h2 : Int) : DenA Tryd.prog 96 noFacts [.r 2 2 [.int .i64 l1, .int .i64 h1, .int .i64 l2, .int .i64 h2]] (.agg #[.int .i64 (ijoin (ijoin 1 0 l1 h1).1 (ijoin 1 0 l1 h1).2 l2 h2).1, .int .i64 (ijoin (ijoin 1 0 l1 h1).1 (ijoin 1 0 l1 h1).2 l2 h2).2]) := by
  refine DenA.fam ?_
  intro ad b off cap hs hl
  rw [orF_no]
  have D := iFoldJ_d ad b off cap l1 h1 l2 h2 hs
  refine den_of_body (args := [.slice ad 2 cap]) hmix Tryd.func96 ?_
  (repeat' ((conv => whnf); first | refine CallN.any _ iEmpty_d ?_ | refine CallN.mk _ D ?_ | refine AdN.mk _ _ rfl ?_ | refine DrawN.a (Ob.mk (by decide +kernel) ?_) | refine DrawN.c (Ob.mk (by decide +kernel) ?_) | refine DrawN.b (Ob.mk (by decide +kernel) ?_) | refine Ob.mk (by kernel_rfl) ?_ | (refine Br.mk (fun h => ?_) (fun h => ?_) <;> (first | (exfalso; exact Bool.false_ne_true h) | (exfalso; exact Bool.false_ne_true h.symm) | skip)) | refine SeqN.go ?_)); all_goals (conv => whnf)
  all_goals rfl
theorem iFoldM_d (ad : Option Addr) (b off cap : Nat) (l1 h1 l2 h2 : Int) (hs : 0 < 2 → ad = some ⟨b, off, none⟩) : Den Tryd.prog 143 #[.agg #[.int .i64 (-9223372036854775808), .int .i64 9223372036854775807], .slice ad 2 cap, .func (.func 147) #[] #[]] (rowF b off [.int .i64 l1, .int .i64 h1, .int .i64 l2, .int .i64 h2])
    (.agg #[.int .i64 (imeet (imeet (-9223372036854775808) 9223372036854775807 l1 h1).1 (imeet (-9223372036854775808) 9223372036854775807 l1 h1).2 l2 h2).1, .int .i64 (imeet (imeet (-9223372036854775808) 9223372036854775807 l1 h1).1 (imeet (-9223372036854775808) 9223372036854775807 l1 h1).2 l2 h2).2]) := by
  obtain rfl := hs (by decide)
  refine den_of_body (args := [.agg #[.int .i64 (-9223372036854775808), .int .i64 9223372036854775807], .slice (some ⟨b, off, none⟩) 2 cap, .func (.func 147) #[] #[]]) hmix Tryd.func143 ?_
  (repeat' ((conv => whnf); first | refine CallN.any _ (iMeet1_d _ _ _ _) ?_ | refine LoopN.roll 3 ?_ | refine Ob.mk ⟨by decide, by decide⟩ ?_ | refine cellsN_row _ rfl rfl ?_ | refine AdN.mk _ _ rfl ?_ | refine DrawN.a (Ob.mk (by decide +kernel) ?_) | refine DrawN.c (Ob.mk (by decide +kernel) ?_) | refine DrawN.b (Ob.mk (by decide +kernel) ?_) | refine Ob.mk (by kernel_rfl) ?_ | (refine Br.mk (fun h => ?_) (fun h => ?_) <;> (first | (exfalso; exact Bool.false_ne_true h) | (exfalso; exact Bool.false_ne_true h.symm) | skip)) | refine SeqN.go ?_)); all_goals (conv => whnf)
  all_goals rfl
theorem iMeet_d (l1 h1 l2 h2 : Int) : DenA Tryd.prog 100 noFacts [.r 2 2 [.int .i64 l1, .int .i64 h1, .int .i64 l2, .int .i64 h2]] (.agg #[.int .i64 (imeet (imeet (-9223372036854775808) 9223372036854775807 l1 h1).1 (imeet (-9223372036854775808) 9223372036854775807 l1 h1).2 l2 h2).1, .int .i64 (imeet (imeet (-9223372036854775808) 9223372036854775807 l1 h1).1 (imeet (-9223372036854775808) 9223372036854775807 l1 h1).2 l2 h2).2]) := by
  refine DenA.fam ?_
  intro ad b off cap hs hl
  rw [orF_no]
  have D := iFoldM_d ad b off cap l1 h1 l2 h2 hs
  refine den_of_body (args := [.slice ad 2 cap]) hmix Tryd.func100 ?_
  (repeat' ((conv => whnf); first | refine CallN.any _ iWhole_d ?_ | refine CallN.mk _ D ?_ | refine AdN.mk _ _ rfl ?_ | refine DrawN.a (Ob.mk (by decide +kernel) ?_) | refine DrawN.c (Ob.mk (by decide +kernel) ?_) | refine DrawN.b (Ob.mk (by decide +kernel) ?_) | refine Ob.mk (by kernel_rfl) ?_ | (refine Br.mk (fun h => ?_) (fun h => ?_) <;> (first | (exfalso; exact Bool.false_ne_true h) | (exfalso; exact Bool.false_ne_true h.symm) | skip)) | refine SeqN.go ?_)); all_goals (conv => whnf)
  all_goals rfl
end Go.Proofs.YtcemohoigdninaaDoor
