/- Contract of value.Of: whatever the numbers. -/
import Derived.Test.YtcemohoigdninaaGreatDoorPV
namespace Go.Proofs.YtcemohoigdninaaGreatDoor
open Go Go.RowKit Go.Sort
set_option linter.unusedVariables false
set_option linter.unusedSimpArgs false
set_option maxRecDepth 100000

theorem vjoin_rv {x y : VV} (h : RV x) (k : RV y) : RV (vjoin x y) := by
  unfold vjoin
  have b1 := ijoin_in (a := 1) (b := 0) ⟨by decide, by decide⟩ ⟨by decide, by decide⟩ h.inn.lo h.inn.hi
  split
  · exact k
  · split
    · exact h
    · exact vmake_rv ⟨(ijoin_in b1.1 b1.2 k.inn.lo k.inn.hi).1, (ijoin_in b1.1 b1.2 k.inn.lo k.inn.hi).2, (cj_in h.inn k.inn).1, (cj_in h.inn k.inn).2⟩
theorem vmeet_rv {x y : VV} (h : RV x) (k : RV y) : RV (vmeet x y) := by
  unfold vmeet
  have b1 := imeet_in (a := -9223372036854775808) (b := 9223372036854775807) ⟨by decide, by decide⟩ ⟨by decide, by decide⟩ h.inn.lo h.inn.hi
  split
  · exact rv_bot
  · exact vmake_rv ⟨(imeet_in b1.1 b1.2 k.inn.lo k.inn.hi).1, (imeet_in b1.1 b1.2 k.inn.lo k.inn.hi).2, (cm_in h.inn k.inn).1, (cm_in h.inn k.inn).2⟩
theorem vwiden_rv {x y : VV} (h : RV x) (k : RV y) : RV (vwiden x y) := by
  unfold vwiden
  have b1 := iwiden_in h.inn.lo h.inn.hi k.inn.lo k.inn.hi
  split
  · exact k
  · split
    · exact h
    · exact vmake_rv ⟨b1.1, b1.2, (cj_in h.inn k.inn).1, (cj_in h.inn k.inn).2⟩
theorem vnarrow_rv {x y : VV} (h : RV x) (k : RV y) : RV (vnarrow x y) := by
  unfold vnarrow
  have b1 := inarrow_in h.inn.lo h.inn.hi k.inn.lo k.inn.hi
  split
  · exact rv_bot
  · exact vmake_rv ⟨b1.1, b1.2, (cm_in h.inn k.inn).1, (cm_in h.inn k.inn).2⟩
theorem vjoin_bot (x : VV) : vjoin vbot x = x := by unfold vjoin; rw [veq_iff.2 rfl]; rfl
theorem vjoins_two {x y : VV} (h : RV x) (k : RV y) : vjoins [x, y] = vjoin x y := by
  unfold vjoins
  simp only [List.foldl_cons, List.foldl_nil]
  rw [h.fix, k.fix, vjoin_bot]
theorem fold_rv {α : Type} {f : VV → α → VV} {p : α → Prop} (hf : ∀ a x, RV a → p x → RV (f a x)) : ∀ (l : List α) (a : VV), RV a → (∀ x ∈ l, p x) → RV (l.foldl f a)
  | [], a, ha, _ => ha
  | x :: l, a, ha, h => fold_rv hf l _ (hf a x ha (h x (by simp))) fun p hp => h p (by simp [hp])
/-- The cells of numbers. -/
def ICs (l : List Int) : List Value := l.map (Value.int .i64)
theorem ICs_drop : ∀ (M : List Int) (j : Nat), j < M.length → ((ICs M).drop j).take 1 = [.int .i64 (M.getD j 0)]
  | p :: M, 0, _ => by simp [ICs]
  | p :: M, j + 1, h => by
    have ih := ICs_drop M j (by simpa using h)
    simpa [ICs] using ih
theorem cellsI {l : List Int} {b off : Nat} {K : List Value → Prop} (n : Int) (h0 : 0 ≤ n) (h : n < (l.length : Int)) (k : K [.int .i64 (l.getD n.toNat 0)]) : CellsN (rowF b off (ICs l)) b (off + n.toNat * 1) 1 K :=
  cellsN_row _ (by rw [Nat.mul_one]; exact ICs_drop l n.toNat (by omega)) rfl k
theorem getD_is {l : List Int} (h : ∀ p ∈ l, IS p) (j : Nat) : IS (l.getD j 0) := by
  by_cases hj : j < l.length
  · have : l.getD j 0 = l[j] := by simp [List.getD, hj]
    rw [this]; exact h _ (List.getElem_mem hj)
  · have : l.getD j 0 = 0 := by simp [List.getD, List.getElem?_eq_none (Nat.le_of_not_lt hj)]
    rw [this]; exact ⟨by decide, by decide⟩
theorem take_foldI {α : Type} (f : α → Int → α) (a : α) (l : List Int) (i : Nat) (h : i < l.length) : (l.take (i + 1)).foldl f a = f ((l.take i).foldl f a) (l.getD i 0) := by
  rw [List.take_add_one, List.foldl_append]
  have : l[i]? = some (l.getD i 0) := by simp [List.getD, h]
  rw [this]
  rfl
def vofs (l : List Int) : VV := l.foldl (fun a n => vjoin a (vone n)) vbot
theorem vofs_rv {l : List Int} (h : ∀ p ∈ l, IS p) : RV (vofs l) := fold_rv (p := IS) (fun a x ha hx => vjoin_rv ha (rv_one hx)) l _ rv_bot h
theorem vOf_m (l : List Int) (hl : ∀ p ∈ l, IS p) (hlen : l.length ≤ 9223372036854775807) (ad : Option Addr) (b off cap : Nat) (hs : 0 < l.length → ad = some ⟨b, off, none⟩) : Den Tryz.prog 12 #[.slice ad l.length cap] (rowF b off (ICs l)) (VVal (vofs l)) := by
  have hp : ∀ i : Nat, RV (vofs (l.take i)) := fun i => vofs_rv fun p hp => hl p (List.mem_of_mem_take hp)
  refine den_of_body (args := [.slice ad l.length cap]) hmix Tryz.func12 ?_
  (repeat' ((conv => whnf); first | refine CallN.any _ vBottom_d ?_ | refine AdN.mk _ _ rfl ?_ | refine DrawN.a (Ob.mk (by decide +kernel) ?_) | refine DrawN.c (Ob.mk (by decide +kernel) ?_) | refine DrawN.b (Ob.mk (by decide +kernel) ?_) | refine Ob.mk (by kernel_rfl) ?_ | (refine Br.mk (fun h => ?_) (fun h => ?_) <;> (first | (exfalso; exact Bool.false_ne_true h) | (exfalso; exact Bool.false_ne_true h.symm) | skip)) | refine SeqN.go ?_)); all_goals (conv => whnf)
  refine LoopN.mk {i : Nat // i ≤ l.length} (fun i => [(9, .v (.int .i64 i.1))]) (fun i => [.cells [.junk, .junk, .junk, .junk], .cells ((VC (vofs (l.take i.1))).map .v)]) (fun i => l.length - i.1) ⟨0, Nat.zero_le _⟩ ?_ ?_
  · (conv => whnf); (repeat' (first | exact True.intro | exact rfl | refine And.intro ?_ ?_ | decide))
  (conv => whnf)
  rintro ⟨i, hi⟩
  have ho := getD_is hl i
  have D := vJoin2_d (vofs (l.take i)) (vone (l.getD i 0)) (hp i).inn (vone_in ho)
  rw [vjoins_two (hp i) (rv_one ho)] at D
  (repeat' ((conv => whnf); first | refine CallN.any _ (vOne_d _) ?_ | refine CallA.any _ D ?_ | refine Ob.mk ⟨Int.natCast_nonneg _, of_decide_eq_true (by assumption)⟩ ?_ | refine AdN.mk b off (hs (by have := of_decide_eq_true ‹decide ((i : Int) < l.length) = true›; omega)) ?_ | refine cellsI _ (Int.natCast_nonneg _) (of_decide_eq_true (by assumption)) ?_ | refine AdN.mk _ _ rfl ?_ | refine DrawN.a (Ob.mk (by decide +kernel) ?_) | refine DrawN.c (Ob.mk (by decide +kernel) ?_) | refine DrawN.b (Ob.mk (by decide +kernel) ?_) | refine Ob.mk (by kernel_rfl) ?_ | (refine Br.mk (fun h => ?_) (fun h => ?_) <;> (first | (exfalso; exact Bool.false_ne_true h) | (exfalso; exact Bool.false_ne_true h.symm) | skip)) | refine SeqN.go ?_)); all_goals (conv => whnf)
  · have h' : (i : Int) < (l.length : Int) := of_decide_eq_true ‹_›
    refine RoundN.mk ⟨i + 1, by omega⟩ (by show l.length - (i + 1) < l.length - i; omega) ?_
    (conv => whnf); (repeat' (first | exact True.intro | exact rfl | refine And.intro ?_ ?_ | decide))
    all_goals first | (refine congrArg (Value.int _) ?_; dsimp only; rw [i64_in (by omega) (by omega)]; omega) | (dsimp only [vofs]; rw [take_foldI _ _ _ _ (by omega)]; exact rfl)
  · have h' : ¬ (i : Int) < (l.length : Int) := of_decide_eq_false ‹_›
    have e : i = l.length := by omega
    subst e
    simp [retV]
end Go.Proofs.YtcemohoigdninaaGreatDoor
