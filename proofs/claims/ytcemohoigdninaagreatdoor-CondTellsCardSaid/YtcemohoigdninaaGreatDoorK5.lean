/- Contracts of the reference of values, over what it makes: whatever the values, in the ranges of their kinds. -/
import Derived.Test.YtcemohoigdninaaGreatDoorK4
namespace Go.Proofs.YtcemohoigdninaaGreatDoor
open Go Go.RowKit Go.Sort
set_option linter.unusedVariables false
set_option linter.unusedSimpArgs false
set_option maxRecDepth 100000

theorem docValue_d (x : VV) : Den Tryz.prog 16 #[VVal x] noFacts (VVal x) := by
  refine den_of_body (args := [VVal x]) hmix Tryz.func16 ?_
  (repeat' ((conv => whnf); first | refine AdN.mk _ _ rfl ?_ | refine DrawN.a (Ob.mk (by decide +kernel) ?_) | refine DrawN.c (Ob.mk (by decide +kernel) ?_) | refine DrawN.b (Ob.mk (by decide +kernel) ?_) | refine Ob.mk (by kernel_rfl) ?_ | (refine Br.mk (fun h => ?_) (fun h => ?_) <;> (first | (exfalso; exact Bool.false_ne_true h) | (exfalso; exact Bool.false_ne_true h.symm) | skip)) | refine SeqN.go ?_)); all_goals (conv => whnf)
  all_goals rfl
theorem rVPlain_d (x : VV) (h : InV x) : Den Tryz.prog 21 #[VVal x] noFacts (VVal (vmake x)) := by
  refine den_of_body (args := [VVal x]) hmix Tryz.func21 ?_
  (repeat' ((conv => whnf); first | refine CallN.any _ (rMake_d x h) ?_ | refine AdN.mk _ _ rfl ?_ | refine DrawN.a (Ob.mk (by decide +kernel) ?_) | refine DrawN.c (Ob.mk (by decide +kernel) ?_) | refine DrawN.b (Ob.mk (by decide +kernel) ?_) | refine Ob.mk (by kernel_rfl) ?_ | (refine Br.mk (fun h => ?_) (fun h => ?_) <;> (first | (exfalso; exact Bool.false_ne_true h) | (exfalso; exact Bool.false_ne_true h.symm) | skip)) | refine SeqN.go ?_)); all_goals (conv => whnf)
  all_goals rfl
theorem lplain_d (x : VV) (h : InV x) : Den Tryz.prog 44 #[VVal x] noFacts (VVal (vmake x)) := by
  refine den_of_body (args := [VVal x]) hmix Tryz.func44 ?_
  (repeat' ((conv => whnf); first | refine CallN.any _ (docValue_d x) ?_ | refine CallN.any _ (rVPlain_d x h) ?_ | refine AdN.mk _ _ rfl ?_ | refine DrawN.a (Ob.mk (by decide +kernel) ?_) | refine DrawN.c (Ob.mk (by decide +kernel) ?_) | refine DrawN.b (Ob.mk (by decide +kernel) ?_) | refine Ob.mk (by kernel_rfl) ?_ | (refine Br.mk (fun h => ?_) (fun h => ?_) <;> (first | (exfalso; exact Bool.false_ne_true h) | (exfalso; exact Bool.false_ne_true h.symm) | skip)) | refine SeqN.go ?_)); all_goals (conv => whnf)
  all_goals rfl
/-- A value that is right: as it is made. -/
def Red (x : VV) : Prop := InV x ∧ (x.m = 0 ∨ x.r < x.m)
theorem red_make {x : VV} (h : InV x) : Red (vmake x) := ⟨vmake_in h, vmake_right h⟩
theorem rVHas_d (x : VV) (n : Int) (h : Red x) (hn : IS n) : Den Tryz.prog 53 #[VVal x, .int .i64 n] noFacts (.bool (vhas x n)) := by
  obtain ⟨lo, hi, m, r⟩ := x
  refine den_of_body (args := [VVal ⟨lo, hi, m, r⟩, .int .i64 n]) hmix Tryz.func53 ?_
  obtain ⟨⟨h1, h2, h3, h4⟩, h5⟩ := h
  dsimp only at h1 h2 h3 h4 h5
  by_cases hm : m = 0
  · subst hm
    have C := den_of (F := noFacts) fun W => rhas_c 0 r n W h3.1 h3.2 hn.1 hn.2
    (repeat' ((conv => whnf); first | refine CallN.any _ (rIHas_d _ _ _) ?_ | refine CallN.any _ C ?_ | refine AdN.mk _ _ rfl ?_ | refine DrawN.a (Ob.mk (by decide +kernel) ?_) | refine DrawN.c (Ob.mk (by decide +kernel) ?_) | refine DrawN.b (Ob.mk (by decide +kernel) ?_) | refine Ob.mk (by kernel_rfl) ?_ | (refine Br.mk (fun h => ?_) (fun h => ?_) <;> (first | (exfalso; exact Bool.false_ne_true h) | (exfalso; exact Bool.false_ne_true h.symm) | skip)) | refine SeqN.go ?_)); all_goals (conv => whnf)
    all_goals (clear C; first | (exfalso; simp_all; done) | grind [retV, vhas])
  · have e : r.tmod m = r := Int.tmod_eq_of_lt h4.1 (by omega)
    have C := den_of (F := noFacts) fun W => rhas_c m r n W h3.1 h3.2 hn.1 hn.2
    rw [show ((Value.int .u64 r : Value)) = .int .u64 (r.tmod m) by rw [e]] at C
    (repeat' ((conv => whnf); first | refine CallN.any _ (rIHas_d _ _ _) ?_ | refine CallN.any _ C ?_ | refine Ob.mk hm ?_ | refine AdN.mk _ _ rfl ?_ | refine DrawN.a (Ob.mk (by decide +kernel) ?_) | refine DrawN.c (Ob.mk (by decide +kernel) ?_) | refine DrawN.b (Ob.mk (by decide +kernel) ?_) | refine Ob.mk (by kernel_rfl) ?_ | (refine Br.mk (fun h => ?_) (fun h => ?_) <;> (first | (exfalso; exact Bool.false_ne_true h) | (exfalso; exact Bool.false_ne_true h.symm) | skip)) | refine SeqN.go ?_)); all_goals (conv => whnf)
    all_goals (clear C; first | (exfalso; simp_all; omega) | grind [retV, vhas])
def rwithin (x y : VV) : Bool := veq x vbot || (if x.lo = x.hi then vhas y x.lo else vhas y x.lo && vhas y x.hi && decide (y.m > 0) && (x.m % y.m == 0))
theorem rWithin_d (x y : VV) (h : Red x) (k : Red y) : Den Tryz.prog 72 #[VVal x, VVal y] noFacts (.bool (rwithin x y)) := by
  refine den_of_body (args := [VVal x, VVal y]) hmix Tryz.func72 ?_
  have H1 := rVHas_d y x.lo k h.1.lo
  have H2 := rVHas_d y x.hi k h.1.hi
  have e : x.m.tmod y.m = x.m % y.m := Int.tmod_eq_emod_of_nonneg h.1.m.1
  (repeat' ((conv => whnf); first | refine CallN.any _ rBottom_d ?_ | refine CallN.any _ H1 ?_ | refine CallN.any _ H2 ?_ | refine Ob.mk (fun e => (by simp [e] at *)) ?_ | refine AdN.mk _ _ rfl ?_ | refine DrawN.a (Ob.mk (by decide +kernel) ?_) | refine DrawN.c (Ob.mk (by decide +kernel) ?_) | refine DrawN.b (Ob.mk (by decide +kernel) ?_) | refine Ob.mk (by kernel_rfl) ?_ | (refine Br.mk (fun h => ?_) (fun h => ?_) <;> (first | (exfalso; exact Bool.false_ne_true h) | (exfalso; exact Bool.false_ne_true h.symm) | skip)) | refine SeqN.go ?_)); all_goals (conv => whnf)
  all_goals (clear H1 H2; grind [retV, rwithin, veq, vbot])
theorem rCong_d {x y : VV} (h : Red x) (k : Red y) : Den Tryz.prog 129 #[.agg #[.int .u64 x.m, .int .u64 x.r], .agg #[.int .u64 y.m, .int .u64 y.r]] noFacts (.agg #[.int .u64 (cjoin x.m x.r y.m y.r).1, .int .u64 (cjoin x.m x.r y.m y.r).2]) :=
  den_of fun W => rjoin_c x.m x.r y.m y.r W h.1.m.1 h.1.m.2 h.1.r.1 h.1.r.2 k.1.m.1 k.1.m.2 k.1.r.1 k.1.r.2 h.2
theorem rCMeet_d {x y : VV} (h : Red x) (k : Red y) : Den Tryz.prog 130 #[.agg #[.int .u64 x.m, .int .u64 x.r], .agg #[.int .u64 y.m, .int .u64 y.r]] noFacts (.tuple #[.agg #[.int .u64 (cmeet x.m x.r y.m y.r).1.1, .int .u64 (cmeet x.m x.r y.m y.r).1.2], .bool (cmeet x.m x.r y.m y.r).2]) :=
  den_of fun W => rmeet_c x.m x.r y.m y.r W h.1.m.1 h.1.m.2 h.1.r.1 h.1.r.2 k.1.m.1 k.1.m.2 k.1.r.1 k.1.r.2
theorem rijoin_in {a b c d : Int} (ha : IS a) (hb : IS b) (hc : IS c) (hd : IS d) : IS (rijoin a b c d).1 ∧ IS (rijoin a b c d).2 := by
  unfold rijoin
  split
  · exact iof_in hc hd
  · split
    · exact ⟨ha, hb⟩
    · constructor <;> (dsimp only; split) <;> assumption
def rvjoin (a b : VV) : VV := if veq a vbot then b else if veq b vbot then a else vmk (rijoin a.lo a.hi b.lo b.hi) (cjoin a.m a.r b.m b.r)
def rvmeet (a b : VV) : VV := if (cmeet a.m a.r b.m b.r).2 = false then vbot else vmk (imeet a.lo a.hi b.lo b.hi) (cmeet a.m a.r b.m b.r).1
def rvwiden (a b : VV) : VV := if veq a vbot = true ∨ veq b vbot = true then rvjoin a b else vmk (iwiden a.lo a.hi b.lo b.hi) (cjoin a.m a.r b.m b.r)
theorem rJoin_d (x y : VV) (hm : Red x) (km : Red y) : Den Tryz.prog 63 #[VVal x, VVal y] noFacts (VVal (rvjoin x y)) := by
  refine den_of_body (args := [VVal x, VVal y]) hmix Tryz.func63 ?_
  have C := rCong_d hm km
  have b2 := rijoin_in hm.1.lo hm.1.hi km.1.lo km.1.hi
  have M := rMake_d ⟨_, _, _, _⟩ (show InV ⟨(rijoin x.lo x.hi y.lo y.hi).1, (rijoin x.lo x.hi y.lo y.hi).2, _, _⟩ from ⟨b2.1, b2.2, (cj_in hm.1 km.1).1, (cj_in hm.1 km.1).2⟩)
  (repeat' ((conv => whnf); first | refine CallN.any _ rBottom_d ?_ | refine CallN.any _ (rIJoin_d _ _ _ _) ?_ | refine CallN.any _ C ?_ | refine CallN.any _ M ?_ | refine AdN.mk _ _ rfl ?_ | refine DrawN.a (Ob.mk (by decide +kernel) ?_) | refine DrawN.c (Ob.mk (by decide +kernel) ?_) | refine DrawN.b (Ob.mk (by decide +kernel) ?_) | refine Ob.mk (by kernel_rfl) ?_ | (refine Br.mk (fun h => ?_) (fun h => ?_) <;> (first | (exfalso; exact Bool.false_ne_true h) | (exfalso; exact Bool.false_ne_true h.symm) | skip)) | refine SeqN.go ?_)); all_goals (conv => whnf)
  all_goals (clear C M; grind [retV, rvjoin, veq, vbot, vmk])
theorem rMeet_d (x y : VV) (hm : Red x) (km : Red y) : Den Tryz.prog 64 #[VVal x, VVal y] noFacts (VVal (rvmeet x y)) := by
  refine den_of_body (args := [VVal x, VVal y]) hmix Tryz.func64 ?_
  have C := rCMeet_d hm km
  have b2 := imeet_in hm.1.lo hm.1.hi km.1.lo km.1.hi
  have M := rMake_d ⟨_, _, _, _⟩ (show InV ⟨(imeet x.lo x.hi y.lo y.hi).1, (imeet x.lo x.hi y.lo y.hi).2, _, _⟩ from ⟨b2.1, b2.2, (cm_in hm.1 km.1).1, (cm_in hm.1 km.1).2⟩)
  (repeat' ((conv => whnf); first | refine CallN.any _ rBottom_d ?_ | refine CallN.any _ (rIMeet_d _ _ _ _) ?_ | refine CallN.any _ C ?_ | refine CallN.any _ M ?_ | refine AdN.mk _ _ rfl ?_ | refine DrawN.a (Ob.mk (by decide +kernel) ?_) | refine DrawN.c (Ob.mk (by decide +kernel) ?_) | refine DrawN.b (Ob.mk (by decide +kernel) ?_) | refine Ob.mk (by kernel_rfl) ?_ | (refine Br.mk (fun h => ?_) (fun h => ?_) <;> (first | (exfalso; exact Bool.false_ne_true h) | (exfalso; exact Bool.false_ne_true h.symm) | skip)) | refine SeqN.go ?_)); all_goals (conv => whnf)
  all_goals (clear C M; grind [retV, rvmeet, veq, vbot, vmk])
theorem rWiden_d (x y : VV) (hm : Red x) (km : Red y) : Den Tryz.prog 68 #[VVal x, VVal y] noFacts (VVal (rvwiden x y)) := by
  refine den_of_body (args := [VVal x, VVal y]) hmix Tryz.func68 ?_
  have C := rCong_d hm km
  have J := rJoin_d x y hm km
  have b2 := iwiden_in hm.1.lo hm.1.hi km.1.lo km.1.hi
  have M := rMake_d ⟨_, _, _, _⟩ (show InV ⟨(iwiden x.lo x.hi y.lo y.hi).1, (iwiden x.lo x.hi y.lo y.hi).2, _, _⟩ from ⟨b2.1, b2.2, (cj_in hm.1 km.1).1, (cj_in hm.1 km.1).2⟩)
  (repeat' ((conv => whnf); first | refine CallN.any _ rBottom_d ?_ | refine CallN.any _ (rIWiden_d _ _ _ _) ?_ | refine CallN.any _ C ?_ | refine CallN.any _ M ?_ | refine CallN.any _ J ?_ | refine AdN.mk _ _ rfl ?_ | refine DrawN.a (Ob.mk (by decide +kernel) ?_) | refine DrawN.c (Ob.mk (by decide +kernel) ?_) | refine DrawN.b (Ob.mk (by decide +kernel) ?_) | refine Ob.mk (by kernel_rfl) ?_ | (refine Br.mk (fun h => ?_) (fun h => ?_) <;> (first | (exfalso; exact Bool.false_ne_true h) | (exfalso; exact Bool.false_ne_true h.symm) | skip)) | refine SeqN.go ?_)); all_goals (conv => whnf)
  all_goals (clear C M J; grind [retV, rvwiden, veq, vbot, vmk])
theorem rNarrow_d (x y : VV) (hm : Red x) (km : Red y) : Den Tryz.prog 70 #[VVal x, VVal y] noFacts (VVal (vnarrow x y)) := by
  refine den_of_body (args := [VVal x, VVal y]) hmix Tryz.func70 ?_
  have C := rCMeet_d hm km
  have b2 := inarrow_in hm.1.lo hm.1.hi km.1.lo km.1.hi
  have M := rMake_d ⟨_, _, _, _⟩ (show InV ⟨(inarrow x.lo x.hi y.lo y.hi).1, (inarrow x.lo x.hi y.lo y.hi).2, _, _⟩ from ⟨b2.1, b2.2, (cm_in hm.1 km.1).1, (cm_in hm.1 km.1).2⟩)
  (repeat' ((conv => whnf); first | refine CallN.any _ rBottom_d ?_ | refine CallN.any _ (rINarrow_d _ _ _ _) ?_ | refine CallN.any _ C ?_ | refine CallN.any _ M ?_ | refine AdN.mk _ _ rfl ?_ | refine DrawN.a (Ob.mk (by decide +kernel) ?_) | refine DrawN.c (Ob.mk (by decide +kernel) ?_) | refine DrawN.b (Ob.mk (by decide +kernel) ?_) | refine Ob.mk (by kernel_rfl) ?_ | (refine Br.mk (fun h => ?_) (fun h => ?_) <;> (first | (exfalso; exact Bool.false_ne_true h) | (exfalso; exact Bool.false_ne_true h.symm) | skip)) | refine SeqN.go ?_)); all_goals (conv => whnf)
  all_goals (clear C M; grind [retV, vnarrow, veq, vbot, vmk])
end Go.Proofs.YtcemohoigdninaaGreatDoor
