/- Contracts of package value, one for each function that is handed no slice: whatever the values, in the ranges of their kinds. -/
import Derived.Test.YtljhbdgoknfkcaaGreatDoorI1
import Derived.Test.YtljhbdgoknfkcaaGreatDoorC2
import Derived.Test.YtljhbdgoknfkcaaGreatDoorC3
import Derived.Test.YtljhbdgoknfkcaaGreatDoorM4
namespace Go.Proofs.YtljhbdgoknfkcaaGreatDoor
open Go Go.RowKit Go.Sort
set_option linter.unusedVariables false
set_option linter.unusedSimpArgs false
set_option maxRecDepth 100000

structure VV where
  lo : Int
  hi : Int
  m : Int
  r : Int
deriving DecidableEq
abbrev VVal (x : VV) : Value := .agg #[.int .i64 x.lo, .int .i64 x.hi, .int .u64 x.m, .int .u64 x.r]
abbrev IS (n : Int) : Prop := -9223372036854775808 ≤ n ∧ n ≤ 9223372036854775807
abbrev IU (n : Int) : Prop := 0 ≤ n ∧ n ≤ 18446744073709551615
structure InV (x : VV) : Prop where
  lo : IS x.lo
  hi : IS x.hi
  m : IU x.m
  r : IU x.r

def vone (n : Int) : VV := ⟨n, n, 0, us n⟩
def vbot : VV := ⟨1, 0, 1, 0⟩
def vtop : VV := ⟨-9223372036854775808, 9223372036854775807, 1, 0⟩
def vr (m r : Int) : Int := if cright m r then r else r.tmod m
def vmake (x : VV) : VV :=
  if x.lo > x.hi then vbot
  else if (cleast x.m (vr x.m x.r) x.lo).2 = false ∨ (cgreat x.m (vr x.m x.r) x.hi).2 = false ∨ (cleast x.m (vr x.m x.r) x.lo).1 > (cgreat x.m (vr x.m x.r) x.hi).1 then vbot
  else if (cleast x.m (vr x.m x.r) x.lo).1 = (cgreat x.m (vr x.m x.r) x.hi).1 then vone (cleast x.m (vr x.m x.r) x.lo).1
  else ⟨(cleast x.m (vr x.m x.r) x.lo).1, (cgreat x.m (vr x.m x.r) x.hi).1, x.m, vr x.m x.r⟩
theorem vr_in {m r : Int} (hm : IU m) (hr : IU r) : IU (vr m r) := by
  unfold vr
  split
  · exact hr
  · rename_i h
    have h0 : m ≠ 0 := by rintro rfl; exact h (by simp [cright])
    have := Int.tmod_nonneg m hr.1
    have := Int.tmod_lt_of_pos r (show 0 < m by omega)
    exact ⟨by omega, by omega⟩
theorem vr_right {m r : Int} (hm : IU m) (hr : IU r) : m = 0 ∨ vr m r < m := by
  unfold vr
  split
  · rename_i h; exact cright_of m r h
  · rename_i h
    have h0 : m ≠ 0 := by rintro rfl; exact h (by simp [cright])
    exact .inr (Int.tmod_lt_of_pos r (show 0 < m by omega))
theorem vone_in {n : Int} (h : IS n) : InV (vone n) := ⟨h, h, ⟨Int.le_refl 0, show (0 : Int) ≤ 18446744073709551615 by decide⟩, us_rng n⟩
theorem vbot_in : InV vbot := ⟨by decide, by decide, by decide, by decide⟩
theorem vtop_in : InV vtop := ⟨by decide, by decide, by decide, by decide⟩
theorem vmake_in {x : VV} (h : InV x) : InV (vmake x) := by
  unfold vmake
  have h1 := cleast_rng x.m (vr x.m x.r) x.lo h.m.1 h.lo.1 h.lo.2
  have h2 := cgreat_rng x.m (vr x.m x.r) x.hi h.m.1 h.hi.1 h.hi.2
  split
  · exact vbot_in
  · split
    · exact vbot_in
    · split
      · exact vone_in h1
      · exact ⟨h1, h2, h.m, vr_in h.m h.r⟩

theorem vmake_right {x : VV} (h : InV x) : (vmake x).m = 0 ∨ (vmake x).r < (vmake x).m := by
  unfold vmake
  split
  · exact .inr (by decide)
  · split
    · exact .inr (by decide)
    · split
      · exact .inl rfl
      · exact vr_right h.m h.r
theorem vOne_d (n : Int) : Den Tryz.prog 15 #[.int .i64 n] noFacts (VVal (vone n)) := by
  refine den_of_body (args := [.int .i64 n]) hmix Tryz.func15 ?_
  have C := den_of (F := noFacts) (const_c n)
  (repeat' ((conv => whnf); first | refine CallN.any _ (iOne_d n) ?_ | refine CallN.any _ C ?_ | refine AdN.mk _ _ rfl ?_ | refine DrawN.a (Ob.mk (by decide +kernel) ?_) | refine DrawN.c (Ob.mk (by decide +kernel) ?_) | refine DrawN.b (Ob.mk (by decide +kernel) ?_) | refine Ob.mk (by kernel_rfl) ?_ | (refine Br.mk (fun h => ?_) (fun h => ?_) <;> (first | (exfalso; exact Bool.false_ne_true h) | (exfalso; exact Bool.false_ne_true h.symm) | skip)) | refine SeqN.go ?_)); all_goals (conv => whnf)
  all_goals rfl
theorem vTop_d : Den Tryz.prog 28 #[] noFacts (VVal vtop) := by
  refine den_of_body (args := []) hmix Tryz.func28 ?_
  have C := den_of (F := noFacts) top_c
  (repeat' ((conv => whnf); first | refine CallN.any _ iWhole_d ?_ | refine CallN.any _ C ?_ | refine AdN.mk _ _ rfl ?_ | refine DrawN.a (Ob.mk (by decide +kernel) ?_) | refine DrawN.c (Ob.mk (by decide +kernel) ?_) | refine DrawN.b (Ob.mk (by decide +kernel) ?_) | refine Ob.mk (by kernel_rfl) ?_ | (refine Br.mk (fun h => ?_) (fun h => ?_) <;> (first | (exfalso; exact Bool.false_ne_true h) | (exfalso; exact Bool.false_ne_true h.symm) | skip)) | refine SeqN.go ?_)); all_goals (conv => whnf)
  all_goals rfl
theorem vBottom_d : Den Tryz.prog 29 #[] noFacts (VVal vbot) := by
  refine den_of_body (args := []) hmix Tryz.func29 ?_
  have C := den_of (F := noFacts) top_c
  (repeat' ((conv => whnf); first | refine CallN.any _ iEmpty_d ?_ | refine CallN.any _ C ?_ | refine AdN.mk _ _ rfl ?_ | refine DrawN.a (Ob.mk (by decide +kernel) ?_) | refine DrawN.c (Ob.mk (by decide +kernel) ?_) | refine DrawN.b (Ob.mk (by decide +kernel) ?_) | refine Ob.mk (by kernel_rfl) ?_ | (refine Br.mk (fun h => ?_) (fun h => ?_) <;> (first | (exfalso; exact Bool.false_ne_true h) | (exfalso; exact Bool.false_ne_true h.symm) | skip)) | refine SeqN.go ?_)); all_goals (conv => whnf)
  all_goals rfl
theorem vMake_d (x : VV) (h : InV x) : Den Tryz.prog 43 #[.agg #[.int .i64 x.lo, .int .i64 x.hi], .agg #[.int .u64 x.m, .int .u64 x.r]] noFacts (VVal (vmake x)) := by
  refine den_of_body (args := [.agg #[.int .i64 x.lo, .int .i64 x.hi], .agg #[.int .u64 x.m, .int .u64 x.r]]) hmix Tryz.func43 ?_
  have hr := vr_in h.m h.r
  have R := den_of (F := noFacts) (right_c x.m x.r)
  have L := den_of (F := noFacts) fun W => least_c x.m (vr x.m x.r) x.lo W h.m.1 h.m.2 hr.1 hr.2 h.lo.1 h.lo.2
  have G := den_of (F := noFacts) fun W => great_c x.m (vr x.m x.r) x.hi W h.m.1 h.m.2 hr.1 hr.2 h.hi.1 h.hi.2
  have E := iIsEmpty_d x.lo x.hi
  cases hc : cright x.m x.r with
  | true =>
    have e : vr x.m x.r = x.r := by unfold vr; rw [hc]; rfl
    rw [e] at L G
    rw [hc] at R
    (repeat' ((conv => whnf); first | refine CallN.any _ R ?_ | refine CallN.any _ L ?_ | refine CallN.any _ G ?_ | refine CallN.any _ E ?_ | refine CallN.any _ vBottom_d ?_ | refine CallN.any _ (vOne_d _) ?_ | refine CallN.any _ (iOf_d _ _) ?_ | refine AdN.mk _ _ rfl ?_ | refine DrawN.a (Ob.mk (by decide +kernel) ?_) | refine DrawN.c (Ob.mk (by decide +kernel) ?_) | refine DrawN.b (Ob.mk (by decide +kernel) ?_) | refine Ob.mk (by kernel_rfl) ?_ | (refine Br.mk (fun h => ?_) (fun h => ?_) <;> (first | (exfalso; exact Bool.false_ne_true h) | (exfalso; exact Bool.false_ne_true h.symm) | skip)) | refine SeqN.go ?_)); all_goals (conv => whnf)
    all_goals (clear L G E R; grind [retV, vmake, iof])
  | false =>
    have e : vr x.m x.r = x.r.tmod x.m := by unfold vr; rw [hc]; rfl
    have h0 : x.m ≠ 0 := by intro h0; rw [h0] at hc; simp [cright] at hc
    rw [e] at L G
    rw [hc] at R
    (repeat' ((conv => whnf); first | refine CallN.any _ R ?_ | refine CallN.any _ L ?_ | refine CallN.any _ G ?_ | refine CallN.any _ E ?_ | refine CallN.any _ vBottom_d ?_ | refine CallN.any _ (vOne_d _) ?_ | refine CallN.any _ (iOf_d _ _) ?_ | refine Ob.mk h0 ?_ | refine AdN.mk _ _ rfl ?_ | refine DrawN.a (Ob.mk (by decide +kernel) ?_) | refine DrawN.c (Ob.mk (by decide +kernel) ?_) | refine DrawN.b (Ob.mk (by decide +kernel) ?_) | refine Ob.mk (by kernel_rfl) ?_ | (refine Br.mk (fun h => ?_) (fun h => ?_) <;> (first | (exfalso; exact Bool.false_ne_true h) | (exfalso; exact Bool.false_ne_true h.symm) | skip)) | refine SeqN.go ?_)); all_goals (conv => whnf)
    all_goals (clear L G E R; grind [retV, vmake, iof])
theorem vReduced_d (x : VV) (h : InV x) : Den Tryz.prog 99 #[VVal x] noFacts (VVal (vmake x)) := by
  refine den_of_body (args := [VVal x]) hmix Tryz.func99 ?_
  (repeat' ((conv => whnf); first | refine CallN.any _ (vMake_d x h) ?_ | refine AdN.mk _ _ rfl ?_ | refine DrawN.a (Ob.mk (by decide +kernel) ?_) | refine DrawN.c (Ob.mk (by decide +kernel) ?_) | refine DrawN.b (Ob.mk (by decide +kernel) ?_) | refine Ob.mk (by kernel_rfl) ?_ | (refine Br.mk (fun h => ?_) (fun h => ?_) <;> (first | (exfalso; exact Bool.false_ne_true h) | (exfalso; exact Bool.false_ne_true h.symm) | skip)) | refine SeqN.go ?_)); all_goals (conv => whnf)
  all_goals rfl
theorem vRange_d (lo hi : Int) (h1 : IS lo) (h2 : IS hi) : Den Tryz.prog 16 #[.int .i64 lo, .int .i64 hi] noFacts (VVal (vmake ⟨(iof lo hi).1, (iof lo hi).2, 1, 0⟩)) := by
  refine den_of_body (args := [.int .i64 lo, .int .i64 hi]) hmix Tryz.func16 ?_
  have C := den_of (F := noFacts) top_c
  have M := vMake_d ⟨(iof lo hi).1, (iof lo hi).2, 1, 0⟩ ⟨by unfold iof; split <;> first | exact h1 | exact ⟨by decide, by decide⟩, by unfold iof; split <;> first | exact h2 | exact ⟨by decide, by decide⟩, ⟨show (0:Int) ≤ 1 by decide, show (1:Int) ≤ 18446744073709551615 by decide⟩, ⟨show (0:Int) ≤ 0 by decide, show (0:Int) ≤ 18446744073709551615 by decide⟩⟩
  (repeat' ((conv => whnf); first | refine CallN.any _ (iOf_d _ _) ?_ | refine CallN.any _ C ?_ | refine CallN.any _ M ?_ | refine AdN.mk _ _ rfl ?_ | refine DrawN.a (Ob.mk (by decide +kernel) ?_) | refine DrawN.c (Ob.mk (by decide +kernel) ?_) | refine DrawN.b (Ob.mk (by decide +kernel) ?_) | refine Ob.mk (by kernel_rfl) ?_ | (refine Br.mk (fun h => ?_) (fun h => ?_) <;> (first | (exfalso; exact Bool.false_ne_true h) | (exfalso; exact Bool.false_ne_true h.symm) | skip)) | refine SeqN.go ?_)); all_goals (conv => whnf)
  all_goals rfl
/-- Are two the same? -/
def veq (x y : VV) : Bool := (x.lo == y.lo && x.hi == y.hi) && (x.m == y.m && x.r == y.r)
theorem veq_iff {x y : VV} : veq x y = true ↔ x = y := by
  cases x; cases y; simp [veq, and_assoc]
theorem vIsBottom_d (x : VV) (h : InV x) : Den Tryz.prog 33 #[VVal x] noFacts (.bool (veq (vmake x) vbot)) := by
  refine den_of_body (args := [VVal x]) hmix Tryz.func33 ?_
  (repeat' ((conv => whnf); first | refine CallN.any _ (vReduced_d x h) ?_ | refine CallN.any _ vBottom_d ?_ | refine AdN.mk _ _ rfl ?_ | refine DrawN.a (Ob.mk (by decide +kernel) ?_) | refine DrawN.c (Ob.mk (by decide +kernel) ?_) | refine DrawN.b (Ob.mk (by decide +kernel) ?_) | refine Ob.mk (by kernel_rfl) ?_ | (refine Br.mk (fun h => ?_) (fun h => ?_) <;> (first | (exfalso; exact Bool.false_ne_true h) | (exfalso; exact Bool.false_ne_true h.symm) | skip)) | refine SeqN.go ?_)); all_goals (conv => whnf)
  all_goals rfl
def vhas (x : VV) (n : Int) : Bool := (decide (x.lo ≤ n) && decide (n ≤ x.hi)) && chas x.m x.r n
theorem vHas_d (x : VV) (n : Int) (h : InV x) (hn : IS n) : Den Tryz.prog 41 #[VVal x, .int .i64 n] noFacts (.bool (vhas (vmake x) n)) := by
  refine den_of_body (args := [VVal x, .int .i64 n]) hmix Tryz.func41 ?_
  have hm := vmake_in h
  have C := den_of (F := noFacts) fun W => has_c (vmake x).m (vmake x).r n W hm.m.1 hm.m.2 hn.1 hn.2
  (repeat' ((conv => whnf); first | refine CallN.any _ (vReduced_d x h) ?_ | refine CallN.any _ (iHas_d _ _ _) ?_ | refine CallN.any _ C ?_ | refine AdN.mk _ _ rfl ?_ | refine DrawN.a (Ob.mk (by decide +kernel) ?_) | refine DrawN.c (Ob.mk (by decide +kernel) ?_) | refine DrawN.b (Ob.mk (by decide +kernel) ?_) | refine Ob.mk (by kernel_rfl) ?_ | (refine Br.mk (fun h => ?_) (fun h => ?_) <;> (first | (exfalso; exact Bool.false_ne_true h) | (exfalso; exact Bool.false_ne_true h.symm) | skip)) | refine SeqN.go ?_)); all_goals (conv => whnf)
  all_goals grind [retV, vhas]
theorem vSingle_d (x : VV) (h : InV x) : Den Tryz.prog 32 #[VVal x] noFacts (.tuple #[.int .i64 (if (vmake x).lo = (vmake x).hi then (vmake x).lo else 0), .bool ((vmake x).lo == (vmake x).hi)]) := by
  refine den_of_body (args := [VVal x]) hmix Tryz.func32 ?_
  (repeat' ((conv => whnf); first | refine CallN.any _ (vReduced_d x h) ?_ | refine CallN.any _ (iSingle_d _ _) ?_ | refine AdN.mk _ _ rfl ?_ | refine DrawN.a (Ob.mk (by decide +kernel) ?_) | refine DrawN.c (Ob.mk (by decide +kernel) ?_) | refine DrawN.b (Ob.mk (by decide +kernel) ?_) | refine Ob.mk (by kernel_rfl) ?_ | (refine Br.mk (fun h => ?_) (fun h => ?_) <;> (first | (exfalso; exact Bool.false_ne_true h) | (exfalso; exact Bool.false_ne_true h.symm) | skip)) | refine SeqN.go ?_)); all_goals (conv => whnf)
  all_goals rfl
def vcard (x : VV) : Int × Bool := cmany x.m x.r x.lo x.hi
theorem vCard_d (x : VV) (h : InV x) : Den Tryz.prog 47 #[VVal x] noFacts (.tuple #[.int .u64 (vcard (vmake x)).1, .bool (vcard (vmake x)).2]) := by
  refine den_of_body (args := [VVal x]) hmix Tryz.func47 ?_
  have hm := vmake_in h
  have C := den_of (F := noFacts) fun W => many_c (vmake x).m (vmake x).r (vmake x).lo (vmake x).hi W hm.m.1 hm.m.2 hm.r.1 hm.r.2 hm.lo.1 hm.lo.2 hm.hi.1 hm.hi.2 (fun a b => (least_great hm.m.1 hm.r.1 hm.r.2 (vmake_right h) hm.lo.1 a b).2)
  (repeat' ((conv => whnf); first | refine CallN.any _ (vReduced_d x h) ?_ | refine CallN.any _ C ?_ | refine AdN.mk _ _ rfl ?_ | refine DrawN.a (Ob.mk (by decide +kernel) ?_) | refine DrawN.c (Ob.mk (by decide +kernel) ?_) | refine DrawN.b (Ob.mk (by decide +kernel) ?_) | refine Ob.mk (by kernel_rfl) ?_ | (refine Br.mk (fun h => ?_) (fun h => ?_) <;> (first | (exfalso; exact Bool.false_ne_true h) | (exfalso; exact Bool.false_ne_true h.symm) | skip)) | refine SeqN.go ?_)); all_goals (conv => whnf)
  all_goals rfl
def vwithin (a b : VV) : Bool := veq a vbot || (iwithin a.lo a.hi b.lo b.hi && cwithin a.m a.r b.m b.r)
theorem vWithin_d (x y : VV) (h : InV x) (k : InV y) : Den Tryz.prog 68 #[VVal x, VVal y] noFacts (.bool (vwithin (vmake x) (vmake y))) := by
  refine den_of_body (args := [VVal x, VVal y]) hmix Tryz.func68 ?_
  have hm := vmake_in h
  have km := vmake_in k
  have C := den_of (F := noFacts) fun W => within_c (vmake x).m (vmake x).r (vmake y).m (vmake y).r W hm.m.1 hm.m.2 hm.r.1 hm.r.2 km.m.1 km.m.2
  (repeat' ((conv => whnf); first | refine CallN.any _ (vReduced_d x h) ?_ | refine CallN.any _ (vReduced_d y k) ?_ | refine CallN.any _ vBottom_d ?_ | refine CallN.any _ (iWithin_d _ _ _ _) ?_ | refine CallN.any _ C ?_ | refine AdN.mk _ _ rfl ?_ | refine DrawN.a (Ob.mk (by decide +kernel) ?_) | refine DrawN.c (Ob.mk (by decide +kernel) ?_) | refine DrawN.b (Ob.mk (by decide +kernel) ?_) | refine Ob.mk (by kernel_rfl) ?_ | (refine Br.mk (fun h => ?_) (fun h => ?_) <;> (first | (exfalso; exact Bool.false_ne_true h) | (exfalso; exact Bool.false_ne_true h.symm) | skip)) | refine SeqN.go ?_)); all_goals (conv => whnf)
  all_goals grind [retV, vwithin, veq, vbot]
theorem vSame_d (x y : VV) (h : InV x) (k : InV y) : Den Tryz.prog 70 #[VVal x, VVal y] noFacts (.bool (veq (vmake x) (vmake y))) := by
  refine den_of_body (args := [VVal x, VVal y]) hmix Tryz.func70 ?_
  (repeat' ((conv => whnf); first | refine CallN.any _ (vReduced_d x h) ?_ | refine CallN.any _ (vReduced_d y k) ?_ | refine AdN.mk _ _ rfl ?_ | refine DrawN.a (Ob.mk (by decide +kernel) ?_) | refine DrawN.c (Ob.mk (by decide +kernel) ?_) | refine DrawN.b (Ob.mk (by decide +kernel) ?_) | refine Ob.mk (by kernel_rfl) ?_ | (refine Br.mk (fun h => ?_) (fun h => ?_) <;> (first | (exfalso; exact Bool.false_ne_true h) | (exfalso; exact Bool.false_ne_true h.symm) | skip)) | refine SeqN.go ?_)); all_goals (conv => whnf)
  all_goals rfl
/-- An interval and a congruence, made a value. -/
def vmk (i c : Int × Int) : VV := vmake ⟨i.1, i.2, c.1, c.2⟩
def vjoin (a b : VV) : VV := if veq a vbot then b else if veq b vbot then a else vmk (ijoin (ijoin 1 0 a.lo a.hi).1 (ijoin 1 0 a.lo a.hi).2 b.lo b.hi) (cjoin a.m a.r b.m b.r)
def vmeet (a b : VV) : VV := if (cmeet a.m a.r b.m b.r).2 = false then vbot else vmk (imeet (imeet (-9223372036854775808) 9223372036854775807 a.lo a.hi).1 (imeet (-9223372036854775808) 9223372036854775807 a.lo a.hi).2 b.lo b.hi) (cmeet a.m a.r b.m b.r).1
def vwiden (a b : VV) : VV := if veq a vbot then b else if veq b vbot then a else vmk (iwiden a.lo a.hi b.lo b.hi) (cjoin a.m a.r b.m b.r)
def vnarrow (a b : VV) : VV := if (cmeet a.m a.r b.m b.r).2 = false ∨ veq a vbot = true ∨ veq b vbot = true then vbot else vmk (inarrow a.lo a.hi b.lo b.hi) (cmeet a.m a.r b.m b.r).1
theorem iof_in {a b : Int} (ha : IS a) (hb : IS b) : IS (iof a b).1 ∧ IS (iof a b).2 := by
  unfold iof; split <;> constructor <;> first | assumption | exact ⟨by decide, by decide⟩
theorem ijoin_in {a b c d : Int} (ha : IS a) (hb : IS b) (hc : IS c) (hd : IS d) : IS (ijoin a b c d).1 ∧ IS (ijoin a b c d).2 := by
  unfold ijoin; repeat' split
  all_goals constructor <;> assumption
theorem imeet_in {a b c d : Int} (ha : IS a) (hb : IS b) (hc : IS c) (hd : IS d) : IS (imeet a b c d).1 ∧ IS (imeet a b c d).2 := by
  unfold imeet
  refine iof_in ?_ ?_ <;> split <;> assumption
theorem iwiden_in {a b c d : Int} (ha : IS a) (hb : IS b) (hc : IS c) (hd : IS d) : IS (iwiden a b c d).1 ∧ IS (iwiden a b c d).2 := by
  unfold iwiden
  split
  · exact iof_in hc hd
  · split
    · exact ⟨ha, hb⟩
    · constructor <;> (dsimp only; split) <;> first | assumption | exact ⟨by decide, by decide⟩
theorem inarrow_in {a b c d : Int} (ha : IS a) (hb : IS b) (hc : IS c) (hd : IS d) : IS (inarrow a b c d).1 ∧ IS (inarrow a b c d).2 := by
  unfold inarrow
  split
  · exact ⟨⟨by decide, by decide⟩, ⟨by decide, by decide⟩⟩
  · refine iof_in ?_ ?_ <;> split <;> assumption
theorem vmk_in {i c : Int × Int} (hi : IS i.1 ∧ IS i.2) (hc : IU c.1 ∧ IU c.2) : InV (vmk i c) := vmake_in ⟨hi.1, hi.2, hc.1, hc.2⟩
/-! Contracts of package value: joins, meets, what is widened and narrowed. -/
theorem cj_in {x y : VV} (h : InV x) (k : InV y) : In2 (cjoin x.m x.r y.m y.r) := cjoin_in h.m.1 h.m.2 h.r.1 h.r.2 k.m.1 k.m.2 k.r.1 k.r.2
theorem cm_in {x y : VV} (h : InV x) (k : InV y) : In2 (cmeet x.m x.r y.m y.r).1 := cmeet_in h.m.1 h.m.2 h.r.1 h.r.2 k.m.1 k.m.2 k.r.1 k.r.2
theorem cjoin_d {x y : VV} (h : InV x) (k : InV y) : Den Tryz.prog 143 #[.agg #[.int .u64 x.m, .int .u64 x.r], .agg #[.int .u64 y.m, .int .u64 y.r]] noFacts (.agg #[.int .u64 (cjoin x.m x.r y.m y.r).1, .int .u64 (cjoin x.m x.r y.m y.r).2]) :=
  den_of fun W => join_c x.m x.r y.m y.r W h.m.1 h.m.2 h.r.1 h.r.2 k.m.1 k.m.2 k.r.1 k.r.2
theorem cmeet_d {x y : VV} (h : InV x) (k : InV y) : Den Tryz.prog 145 #[.agg #[.int .u64 x.m, .int .u64 x.r], .agg #[.int .u64 y.m, .int .u64 y.r]] noFacts (.tuple #[.agg #[.int .u64 (cmeet x.m x.r y.m y.r).1.1, .int .u64 (cmeet x.m x.r y.m y.r).1.2], .bool (cmeet x.m x.r y.m y.r).2]) :=
  den_of fun W => meet_c x.m x.r y.m y.r W h.m.1 h.m.2 h.r.1 h.r.2 k.m.1 k.m.2 k.r.1 k.r.2
theorem vWiden_d (x y : VV) (h : InV x) (k : InV y) : Den Tryz.prog 64 #[VVal x, VVal y] noFacts (VVal (vwiden (vmake x) (vmake y))) := by
  refine den_of_body (args := [VVal x, VVal y]) hmix Tryz.func64 ?_
  have hm := vmake_in h
  have km := vmake_in k
  have C := cjoin_d hm km
  have M := vMake_d ⟨_, _, _, _⟩ (show InV ⟨(iwiden (vmake x).lo (vmake x).hi (vmake y).lo (vmake y).hi).1, (iwiden (vmake x).lo (vmake x).hi (vmake y).lo (vmake y).hi).2, _, _⟩ from ⟨(iwiden_in hm.lo hm.hi km.lo km.hi).1, (iwiden_in hm.lo hm.hi km.lo km.hi).2, (cj_in hm km).1, (cj_in hm km).2⟩)
  (repeat' ((conv => whnf); first | refine CallN.any _ (vReduced_d x h) ?_ | refine CallN.any _ (vReduced_d y k) ?_ | refine CallN.any _ vBottom_d ?_ | refine CallN.any _ (iWiden_d _ _ _ _) ?_ | refine CallN.any _ C ?_ | refine CallN.any _ M ?_ | refine AdN.mk _ _ rfl ?_ | refine DrawN.a (Ob.mk (by decide +kernel) ?_) | refine DrawN.c (Ob.mk (by decide +kernel) ?_) | refine DrawN.b (Ob.mk (by decide +kernel) ?_) | refine Ob.mk (by kernel_rfl) ?_ | (refine Br.mk (fun h => ?_) (fun h => ?_) <;> (first | (exfalso; exact Bool.false_ne_true h) | (exfalso; exact Bool.false_ne_true h.symm) | skip)) | refine SeqN.go ?_)); all_goals (conv => whnf)
  all_goals (clear C M; grind [retV, vwiden, veq, vbot, vmk])
theorem vNarrow_d (x y : VV) (h : InV x) (k : InV y) : Den Tryz.prog 66 #[VVal x, VVal y] noFacts (VVal (vnarrow (vmake x) (vmake y))) := by
  refine den_of_body (args := [VVal x, VVal y]) hmix Tryz.func66 ?_
  have hm := vmake_in h
  have km := vmake_in k
  have C := cmeet_d hm km
  have M := vMake_d ⟨_, _, _, _⟩ (show InV ⟨(inarrow (vmake x).lo (vmake x).hi (vmake y).lo (vmake y).hi).1, (inarrow (vmake x).lo (vmake x).hi (vmake y).lo (vmake y).hi).2, _, _⟩ from ⟨(inarrow_in hm.lo hm.hi km.lo km.hi).1, (inarrow_in hm.lo hm.hi km.lo km.hi).2, (cm_in hm km).1, (cm_in hm km).2⟩)
  (repeat' ((conv => whnf); first | refine CallN.any _ (vReduced_d x h) ?_ | refine CallN.any _ (vReduced_d y k) ?_ | refine CallN.any _ vBottom_d ?_ | refine CallN.any _ (iNarrow_d _ _ _ _) ?_ | refine CallN.any _ C ?_ | refine CallN.any _ M ?_ | refine AdN.mk _ _ rfl ?_ | refine DrawN.a (Ob.mk (by decide +kernel) ?_) | refine DrawN.c (Ob.mk (by decide +kernel) ?_) | refine DrawN.b (Ob.mk (by decide +kernel) ?_) | refine Ob.mk (by kernel_rfl) ?_ | (refine Br.mk (fun h => ?_) (fun h => ?_) <;> (first | (exfalso; exact Bool.false_ne_true h) | (exfalso; exact Bool.false_ne_true h.symm) | skip)) | refine SeqN.go ?_)); all_goals (conv => whnf)
  all_goals (clear C M; grind [retV, vnarrow, veq, vbot, vmk])
theorem vJoin1_d (x y : VV) (hm : InV x) (km : InV y) : Den Tryz.prog 141 #[VVal x, VVal y] noFacts (VVal (vjoin x y)) := by
  refine den_of_body (args := [VVal x, VVal y]) hmix Tryz.func141 ?_
  have C := cjoin_d hm km
  have b1 := ijoin_in (a := 1) (b := 0) ⟨by decide, by decide⟩ ⟨by decide, by decide⟩ hm.lo hm.hi
  have b2 := ijoin_in b1.1 b1.2 km.lo km.hi
  have M := vMake_d ⟨_, _, _, _⟩ (show InV ⟨(ijoin (ijoin 1 0 x.lo x.hi).1 (ijoin 1 0 x.lo x.hi).2 y.lo y.hi).1, (ijoin (ijoin 1 0 x.lo x.hi).1 (ijoin 1 0 x.lo x.hi).2 y.lo y.hi).2, _, _⟩ from ⟨b2.1, b2.2, (cj_in hm km).1, (cj_in hm km).2⟩)
  (repeat' ((conv => whnf); first | refine CallN.any _ vBottom_d ?_ | refine CallA.any _ (iJoin_d _ _ _ _) ?_ | refine CallN.any _ C ?_ | refine CallN.any _ M ?_ | refine AdN.mk _ _ rfl ?_ | refine DrawN.a (Ob.mk (by decide +kernel) ?_) | refine DrawN.c (Ob.mk (by decide +kernel) ?_) | refine DrawN.b (Ob.mk (by decide +kernel) ?_) | refine Ob.mk (by kernel_rfl) ?_ | (refine Br.mk (fun h => ?_) (fun h => ?_) <;> (first | (exfalso; exact Bool.false_ne_true h) | (exfalso; exact Bool.false_ne_true h.symm) | skip)) | refine SeqN.go ?_)); all_goals (conv => whnf)
  all_goals (clear C M; grind [retV, vjoin, veq, vbot, vmk])
theorem vMeet1_d (x y : VV) (hm : InV x) (km : InV y) : Den Tryz.prog 144 #[VVal x, VVal y] noFacts (VVal (vmeet x y)) := by
  refine den_of_body (args := [VVal x, VVal y]) hmix Tryz.func144 ?_
  have C := cmeet_d hm km
  have b1 := imeet_in (a := -9223372036854775808) (b := 9223372036854775807) ⟨by decide, by decide⟩ ⟨by decide, by decide⟩ hm.lo hm.hi
  have b2 := imeet_in b1.1 b1.2 km.lo km.hi
  have M := vMake_d ⟨_, _, _, _⟩ (show InV ⟨(imeet (imeet (-9223372036854775808) 9223372036854775807 x.lo x.hi).1 (imeet (-9223372036854775808) 9223372036854775807 x.lo x.hi).2 y.lo y.hi).1, (imeet (imeet (-9223372036854775808) 9223372036854775807 x.lo x.hi).1 (imeet (-9223372036854775808) 9223372036854775807 x.lo x.hi).2 y.lo y.hi).2, _, _⟩ from ⟨b2.1, b2.2, (cm_in hm km).1, (cm_in hm km).2⟩)
  (repeat' ((conv => whnf); first | refine CallN.any _ vBottom_d ?_ | refine CallA.any _ (iMeet_d _ _ _ _) ?_ | refine CallN.any _ C ?_ | refine CallN.any _ M ?_ | refine AdN.mk _ _ rfl ?_ | refine DrawN.a (Ob.mk (by decide +kernel) ?_) | refine DrawN.c (Ob.mk (by decide +kernel) ?_) | refine DrawN.b (Ob.mk (by decide +kernel) ?_) | refine Ob.mk (by kernel_rfl) ?_ | (refine Br.mk (fun h => ?_) (fun h => ?_) <;> (first | (exfalso; exact Bool.false_ne_true h) | (exfalso; exact Bool.false_ne_true h.symm) | skip)) | refine SeqN.go ?_)); all_goals (conv => whnf)
  all_goals (clear C M; grind [retV, vmeet, veq, vbot, vmk])
/-- The cells of values. -/
def VC (x : VV) : List Value := [.int .i64 x.lo, .int .i64 x.hi, .int .u64 x.m, .int .u64 x.r]
def VCs (l : List VV) : List Value := l.flatMap VC
theorem VCs_len (l : List VV) : (VCs l).length = l.length * 4 := by
  induction l with
  | nil => rfl
  | cons p l ih => simp only [VCs, List.flatMap_cons, List.length_append, List.length_cons] at ih ⊢; rw [ih]; simp [VC]; omega
theorem VCs_drop : ∀ (l : List VV) (j : Nat), j < l.length → ((VCs l).drop (j * 4)).take 4 = VC (l.getD j vbot)
  | p :: l, 0, _ => by simp [VCs, VC]
  | p :: l, j + 1, h => by
    have ih := VCs_drop l j (by simpa using h)
    rw [show (j + 1) * 4 = 4 + j * 4 by omega, ← List.drop_drop]
    simpa [VCs, VC] using ih
theorem cellsV {l : List VV} {b off : Nat} {K : List Value → Prop} (n : Int) (h0 : 0 ≤ n) (h : n < (l.length : Int)) (k : K (VC (l.getD n.toNat vbot))) : CellsN (rowF b off (VCs l)) b (off + n.toNat * 4) 4 K :=
  cellsN_row _ (VCs_drop l n.toNat (by omega)) rfl k
theorem rowV {l : List VV} {K : List Value → Prop} (n : Int) (h0 : 0 ≤ n) (h : n < (l.length : Int)) (k : K (VC (l.getD n.toNat vbot))) : RowN (VCs l) (n.toNat * 4) 4 K :=
  .mk _ (VCs_drop l n.toNat (by omega)) rfl k
theorem getD_in {l : List VV} (h : ∀ p ∈ l, InV p) (j : Nat) : InV (l.getD j vbot) := by
  by_cases hj : j < l.length
  · have : l.getD j vbot = l[j] := by simp [List.getD, hj]
    rw [this]; exact h _ (List.getElem_mem hj)
  · have : l.getD j vbot = vbot := by simp [List.getD, List.getElem?_eq_none (Nat.le_of_not_lt hj)]
    rw [this]; exact vbot_in
theorem take_fold {α : Type} (f : α → VV → α) (a : α) (l : List VV) (i : Nat) (h : i < l.length) : (l.take (i + 1)).foldl f a = f ((l.take i).foldl f a) (l.getD i vbot) := by
  rw [List.take_add_one, List.foldl_append]
  have : l[i]? = some (l.getD i vbot) := by simp [List.getD, h]
  rw [this]
  rfl
def vjoins (l : List VV) : VV := l.foldl (fun a x => vjoin a (vmake x)) vbot
def vmeets (l : List VV) : VV := l.foldl (fun a x => vmeet a (vmake x)) vtop
theorem vjoin_in {x y : VV} (hm : InV x) (km : InV y) : InV (vjoin x y) := by
  unfold vjoin
  have b1 := ijoin_in (a := 1) (b := 0) ⟨by decide, by decide⟩ ⟨by decide, by decide⟩ hm.lo hm.hi
  split
  · exact km
  · split
    · exact hm
    · exact vmk_in (ijoin_in b1.1 b1.2 km.lo km.hi) ⟨(cj_in hm km).1, (cj_in hm km).2⟩
theorem vmeet_in {x y : VV} (hm : InV x) (km : InV y) : InV (vmeet x y) := by
  unfold vmeet
  have b1 := imeet_in (a := -9223372036854775808) (b := 9223372036854775807) ⟨by decide, by decide⟩ ⟨by decide, by decide⟩ hm.lo hm.hi
  split
  · exact vbot_in
  · exact vmk_in (imeet_in b1.1 b1.2 km.lo km.hi) ⟨(cm_in hm km).1, (cm_in hm km).2⟩
theorem fold_in {f : VV → VV → VV} (hf : ∀ a x, InV a → InV x → InV (f a x)) : ∀ (l : List VV) (a : VV), InV a → (∀ p ∈ l, InV p) → InV (l.foldl f a)
  | [], a, ha, _ => ha
  | x :: l, a, ha, h => fold_in hf l _ (hf a x ha (h x (by simp))) fun p hp => h p (by simp [hp])
theorem vjoins_in {l : List VV} (h : ∀ p ∈ l, InV p) : InV (vjoins l) := fold_in (fun a x ha hx => vjoin_in ha (vmake_in hx)) l _ vbot_in h
theorem vmeets_in {l : List VV} (h : ∀ p ∈ l, InV p) : InV (vmeets l) := fold_in (fun a x ha hx => vmeet_in ha (vmake_in hx)) l _ vtop_in h
theorem i64_in {n : Int} (h0 : -9223372036854775808 ≤ n) (h1 : n ≤ 9223372036854775807) : IntKind.i64.wrap n = n := by rw [sg_eq]; exact sg_in n h0 h1
theorem u64_in {n : Int} (h0 : 0 ≤ n) (h1 : n ≤ 18446744073709551615) : IntKind.u64.wrap n = n := by rw [us_eq]; exact us_in n h0 h1
set_option maxHeartbeats 1000000 in
theorem vFold_d (g : FuncId) (f : VV → VV → VV) (hg : g = 141 ∨ g = 144) (fin : ∀ a x, InV a → InV x → InV (f a x)) (fd : ∀ x y, InV x → InV y → Den Tryz.prog g #[VVal x, VVal y] noFacts (VVal (f x y))) (z : VV) (hz : InV z)
    (l : List VV) (hl : ∀ p ∈ l, InV p) (hlen : l.length ≤ 9223372036854775807) (ad : Option Addr) (b off cap : Nat) (hs : 0 < l.length → ad = some ⟨b, off, none⟩) : Den Tryz.prog 140 #[VVal z, .slice ad l.length cap, .func (.func g) #[] #[]] (rowF b off (VCs l)) (VVal (l.foldl (fun a x => f a (vmake x)) z)) := by
  have hp : ∀ i : Nat, InV ((l.take i).foldl (fun a x => f a (vmake x)) z) := fun i => fold_in (fun a x ha hx => fin _ _ ha (vmake_in hx)) _ _ hz fun p hp => hl p (List.mem_of_mem_take hp)
  rcases hg with rfl | rfl
  all_goals
    refine den_of_body (args := [VVal z, .slice ad l.length cap, .func (.func _) #[] #[]]) hmix Tryz.func140 ?_
    (repeat' ((conv => whnf); first | refine AdN.mk _ _ rfl ?_ | refine DrawN.a (Ob.mk (by decide +kernel) ?_) | refine DrawN.c (Ob.mk (by decide +kernel) ?_) | refine DrawN.b (Ob.mk (by decide +kernel) ?_) | refine Ob.mk (by kernel_rfl) ?_ | (refine Br.mk (fun h => ?_) (fun h => ?_) <;> (first | (exfalso; exact Bool.false_ne_true h) | (exfalso; exact Bool.false_ne_true h.symm) | skip)) | refine SeqN.go ?_)); all_goals (conv => whnf)
    refine LoopN.mk {i : Nat // i ≤ l.length} (fun i => [(11, .v (.int .i64 i.1))]) (fun i => [.cells ((VC ((l.take i.1).foldl (fun a x => f a (vmake x)) z)).map .v), .cells [.junk, .junk, .junk, .junk]]) (fun i => l.length - i.1) ⟨0, Nat.zero_le _⟩ ?_ ?_
    · (conv => whnf); (repeat' (first | exact True.intro | exact rfl | refine And.intro ?_ ?_ | decide))
    (conv => whnf)
    rintro ⟨i, hi⟩
    have D := fd _ _ (hp i) (vmake_in (getD_in hl i))
    (repeat' ((conv => whnf); first | refine CallN.any _ (vReduced_d _ (getD_in hl _)) ?_ | refine CallN.any _ D ?_ | refine Ob.mk ⟨Int.natCast_nonneg _, of_decide_eq_true (by assumption)⟩ ?_ | refine AdN.mk b off (hs (by have := of_decide_eq_true ‹decide ((i : Int) < l.length) = true›; omega)) ?_ | refine cellsV _ (Int.natCast_nonneg _) (of_decide_eq_true (by assumption)) ?_ | refine AdN.mk _ _ rfl ?_ | refine DrawN.a (Ob.mk (by decide +kernel) ?_) | refine DrawN.c (Ob.mk (by decide +kernel) ?_) | refine DrawN.b (Ob.mk (by decide +kernel) ?_) | refine Ob.mk (by kernel_rfl) ?_ | (refine Br.mk (fun h => ?_) (fun h => ?_) <;> (first | (exfalso; exact Bool.false_ne_true h) | (exfalso; exact Bool.false_ne_true h.symm) | skip)) | refine SeqN.go ?_)); all_goals (conv => whnf)
    · have h' : (i : Int) < (l.length : Int) := of_decide_eq_true ‹_›
      refine RoundN.mk ⟨i + 1, by omega⟩ (by show l.length - (i + 1) < l.length - i; omega) ?_
      (conv => whnf); (repeat' (first | exact True.intro | exact rfl | refine And.intro ?_ ?_ | decide))
      all_goals first | (refine congrArg (Value.int _) ?_; dsimp only; rw [i64_in (by omega) (by omega)]; omega) | (dsimp only; rw [take_fold _ _ _ _ (by omega)]; exact rfl)
    · have h' : ¬ (i : Int) < (l.length : Int) := of_decide_eq_false ‹_›
      have e : i = l.length := by omega
      subst e
      simp [retV]
theorem DenF.mono {P : Program} {f : FuncId} {args : Array Value} {F F' : Facts} {v : Value} (h : Den P f args F v) (hF : FLe F F') : Den P f args F' v := ⟨fun W hs => h.out W (hs.le hF)⟩
theorem vJoin_m (l : List VV) (hl : ∀ p ∈ l, InV p) (hlen : l.length ≤ 9223372036854775807) (ad : Option Addr) (b off cap : Nat) (hs : 0 < l.length → ad = some ⟨b, off, none⟩) : Den Tryz.prog 62 #[.slice ad l.length cap] (rowF b off (VCs l)) (VVal (vjoins l)) := by
  refine den_of_body (args := [.slice ad l.length cap]) hmix Tryz.func62 ?_
  have D := vFold_d 141 vjoin (Or.inl rfl) (fun _ _ => vjoin_in) vJoin1_d vbot vbot_in l hl hlen ad b off cap hs
  (repeat' ((conv => whnf); first | refine CallN.any _ vBottom_d ?_ | refine CallN.mk _ D ?_ | refine AdN.mk _ _ rfl ?_ | refine DrawN.a (Ob.mk (by decide +kernel) ?_) | refine DrawN.c (Ob.mk (by decide +kernel) ?_) | refine DrawN.b (Ob.mk (by decide +kernel) ?_) | refine Ob.mk (by kernel_rfl) ?_ | (refine Br.mk (fun h => ?_) (fun h => ?_) <;> (first | (exfalso; exact Bool.false_ne_true h) | (exfalso; exact Bool.false_ne_true h.symm) | skip)) | refine SeqN.go ?_)); all_goals (conv => whnf)
  all_goals rfl
theorem vMeet_m (l : List VV) (hl : ∀ p ∈ l, InV p) (hlen : l.length ≤ 9223372036854775807) (ad : Option Addr) (b off cap : Nat) (hs : 0 < l.length → ad = some ⟨b, off, none⟩) : Den Tryz.prog 63 #[.slice ad l.length cap] (rowF b off (VCs l)) (VVal (vmeets l)) := by
  refine den_of_body (args := [.slice ad l.length cap]) hmix Tryz.func63 ?_
  have D := vFold_d 144 vmeet (Or.inr rfl) (fun _ _ => vmeet_in) vMeet1_d vtop vtop_in l hl hlen ad b off cap hs
  (repeat' ((conv => whnf); first | refine CallN.any _ vTop_d ?_ | refine CallN.mk _ D ?_ | refine AdN.mk _ _ rfl ?_ | refine DrawN.a (Ob.mk (by decide +kernel) ?_) | refine DrawN.c (Ob.mk (by decide +kernel) ?_) | refine DrawN.b (Ob.mk (by decide +kernel) ?_) | refine Ob.mk (by kernel_rfl) ?_ | (refine Br.mk (fun h => ?_) (fun h => ?_) <;> (first | (exfalso; exact Bool.false_ne_true h) | (exfalso; exact Bool.false_ne_true h.symm) | skip)) | refine SeqN.go ?_)); all_goals (conv => whnf)
  all_goals rfl
theorem vJoin_d (l : List VV) (hl : ∀ p ∈ l, InV p) (hlen : l.length ≤ 9223372036854775807) : DenA Tryz.prog 62 noFacts [.r 4 l.length (VCs l)] (VVal (vjoins l)) := by
  refine DenA.fam ?_
  intro ad b off cap hs _
  rw [orF_no]
  exact vJoin_m l hl hlen ad b off cap hs
theorem vMeet_d (l : List VV) (hl : ∀ p ∈ l, InV p) (hlen : l.length ≤ 9223372036854775807) : DenA Tryz.prog 63 noFacts [.r 4 l.length (VCs l)] (VVal (vmeets l)) := by
  refine DenA.fam ?_
  intro ad b off cap hs _
  rw [orF_no]
  exact vMeet_m l hl hlen ad b off cap hs
theorem vJoin2_d (x y : VV) (h : InV x) (k : InV y) : DenA Tryz.prog 62 noFacts [.r 4 2 [.int .i64 x.lo, .int .i64 x.hi, .int .u64 x.m, .int .u64 x.r, .int .i64 y.lo, .int .i64 y.hi, .int .u64 y.m, .int .u64 y.r]] (VVal (vjoins [x, y])) :=
  vJoin_d [x, y] (by intro p hp; simp at hp; rcases hp with rfl | rfl <;> assumption) (by simp)
theorem vMeet2_d (x y : VV) (h : InV x) (k : InV y) : DenA Tryz.prog 63 noFacts [.r 4 2 [.int .i64 x.lo, .int .i64 x.hi, .int .u64 x.m, .int .u64 x.r, .int .i64 y.lo, .int .i64 y.hi, .int .u64 y.m, .int .u64 y.r]] (VVal (vmeets [x, y])) :=
  vMeet_d [x, y] (by intro p hp; simp at hp; rcases hp with rfl | rfl <;> assumption) (by simp)
end Go.Proofs.YtljhbdgoknfkcaaGreatDoor
