/- CondExact as a call. -/
import Derived.Test.YtcemohoigdninaaGreatDoorJ2
namespace Go.Proofs.YtcemohoigdninaaGreatDoor
open Go Go.RowKit Go.Sort
set_option linter.unusedVariables false
set_option linter.unusedSimpArgs false
set_option maxRecDepth 100000

def I4 (a b c d : Int) : List Int := [a, b, c, d]
def IVs (l : List Int) : List Value := l.map fun n => .int .i64 n
theorem rowI {l : List Int} {K : List Value → Prop} (n : Int) (h0 : 0 ≤ n) (h : n < (l.length : Int)) (k : K [.int .i64 (l.getD n.toNat 0)]) : RowN (IVs l) (n.toNat * 1) 1 K := by
  refine .mk _ ?_ rfl k
  have h2 : n.toNat < l.length := by omega
  rw [Nat.mul_one]
  unfold IVs
  have h3 : l.getD n.toNat 0 = l[n.toNat] := by simp [List.getD, h2]
  rw [h3, ← List.map_drop, ← List.map_take, List.drop_eq_getElem_cons h2]
  rfl
theorem comes_d (o : Int) (a b : VV) (n : Int) (ha : RV a) (hb : RV b) (h1 : 0 ≤ o) (h2 : o ≤ 7) (k : Nat) (hk : k < 16)
    (hp : wdo o ((I4 a.lo a.hi 0 0).getD (k / 4) 0) ((I4 b.lo b.hi 0 0).getD (k % 4) 0) = n) (hx : vin a ((I4 a.lo a.hi 0 0).getD (k / 4) 0)) (hy : vin b ((I4 b.lo b.hi 0 0).getD (k % 4) 0)) :
    Den Tryz.prog 101 #[.int .i64 o, VVal a, VVal b, .int .i64 n] noFacts (.bool true) := by
  refine den_of_body (args := [.int .i64 o, VVal a, VVal b, .int .i64 n]) hmix Tryz.func101 ?_
  (repeat' ((conv => whnf); first | refine AdN.mk _ _ rfl ?_ | refine DrawN.a (Ob.mk (by decide +kernel) ?_) | refine DrawN.c (Ob.mk (by decide +kernel) ?_) | refine DrawN.b (Ob.mk (by decide +kernel) ?_) | refine Ob.mk (by kernel_rfl) ?_ | (refine Br.mk (fun h => ?_) (fun h => ?_) <;> (first | (exfalso; exact Bool.false_ne_true h) | (exfalso; exact Bool.false_ne_true h.symm) | skip)) | refine SeqN.go ?_)); all_goals (conv => whnf)
  refine LoopN.mk {i : Nat // i ≤ k} (fun i => [(11, .v (.int .i64 i.1))]) (fun i => [.cells ((VC a).map .v), .cells ((VC b).map .v), .row 2 1 4 (IVs (I4 a.lo a.hi 0 0)), .row 2 1 4 (IVs (I4 b.lo b.hi 0 0))]) (fun i => 16 - i.1) ⟨0, Nat.zero_le _⟩ ?_ ?_
  · (conv => whnf); (repeat' (first | exact True.intro | exact rfl | refine And.intro ?_ ?_ | decide))
  (conv => whnf)
  rintro ⟨i, hi⟩
  have e4 : IntKind.i64.wrap ((i : Int).tdiv 4) = ((i / 4 : Nat) : Int) := by
    rw [show (i : Int).tdiv 4 = ((i / 4 : Nat) : Int) from rfl, wrap_id ⟨by omega, by omega⟩]
  have e5 : (i : Int).tmod 4 = ((i % 4 : Nat) : Int) := rfl
  (repeat' ((conv => whnf); first | refine Ob.mk (by decide) ?_ | refine AdN.mk _ _ rfl ?_ | refine DrawN.a (Ob.mk (by decide +kernel) ?_) | refine DrawN.c (Ob.mk (by decide +kernel) ?_) | refine DrawN.b (Ob.mk (by decide +kernel) ?_) | refine Ob.mk (by kernel_rfl) ?_ | (refine Br.mk (fun h => ?_) (fun h => ?_) <;> (first | (exfalso; exact Bool.false_ne_true h) | (exfalso; exact Bool.false_ne_true h.symm) | skip)) | refine SeqN.go ?_)); all_goals (conv => whnf)
  · dsimp only
    rw [e4]
    have hp' : i = k → wdo o ((I4 a.lo a.hi 0 0).getD (i / 4) 0) ((I4 b.lo b.hi 0 0).getD (i % 4) 0) = n := fun e => by rw [e]; exact hp
    have is : ∀ (v : VV), RV v → ∀ j, IS ((I4 v.lo v.hi 0 0).getD j 0) := fun v hv j => by
      have z : IS 0 := ⟨by decide, by decide⟩
      rcases j with _ | _ | _ | _ | j
      · exact hv.inn.lo
      · exact hv.inn.hi
      · exact z
      · exact z
      · exact z
    have W := wDo_d o ((I4 a.lo a.hi 0 0).getD (i / 4) 0) ((I4 b.lo b.hi 0 0).getD (i % 4) 0) h1 h2
    have H1 := has_r _ ha (is a ha (i / 4))
    have H2 := has_r _ hb (is b hb (i % 4))
    have t1 : i = k → vhas a ((I4 a.lo a.hi 0 0).getD (i / 4) 0) = true := fun e => by rw [e]; exact vhas_iff.2 hx
    have t2 : i = k → vhas b ((I4 b.lo b.hi 0 0).getD (i % 4) 0) = true := fun e => by rw [e]; exact vhas_iff.2 hy
    (repeat' ((conv => whnf); first | refine CallN.any _ W ?_ | refine CallN.any _ H1 ?_ | refine CallN.any _ H2 ?_ | refine Ob.mk (show 0 ≤ ((i / 4 : Nat) : Int) ∧ ((i / 4 : Nat) : Int) < 4 from ⟨by omega, by omega⟩) ?_ | refine Ob.mk (show 0 ≤ ((i % 4 : Nat) : Int) ∧ ((i % 4 : Nat) : Int) < 4 from ⟨by omega, by omega⟩) ?_ | refine Ob.mk (by decide) ?_ | refine rowI (l := I4 a.lo a.hi 0 0) ((i / 4 : Nat) : Int) (Int.natCast_nonneg _) (by show ((i / 4 : Nat) : Int) < 4; omega) ?_ | refine rowI (l := I4 b.lo b.hi 0 0) ((i % 4 : Nat) : Int) (Int.natCast_nonneg _) (by show ((i % 4 : Nat) : Int) < 4; omega) ?_ | refine AdN.mk _ _ rfl ?_ | refine DrawN.a (Ob.mk (by decide +kernel) ?_) | refine DrawN.c (Ob.mk (by decide +kernel) ?_) | refine DrawN.b (Ob.mk (by decide +kernel) ?_) | refine Ob.mk (by kernel_rfl) ?_ | (refine Br.mk (fun h => ?_) (fun h => ?_) <;> (first | (exfalso; exact Bool.false_ne_true h) | (exfalso; exact Bool.false_ne_true h.symm) | skip)) | refine SeqN.go ?_)); all_goals (conv => whnf)
    all_goals first
      | rfl
      | (have hne : i ≠ k := fun e => by
           have q1 := hp' e; have q2 := t1 e; have q3 := t2 e
           clear W H1 H2 is
           grind
         refine RoundN.mk ⟨i + 1, by omega⟩ (by show 16 - (i + 1) < 16 - i; omega) ?_
         (conv => whnf); (repeat' (first | exact True.intro | exact rfl | refine And.intro ?_ ?_ | decide))
         all_goals (refine congrArg (Value.int _) ?_; dsimp only; first | (rw [i64_in (by omega) (by omega)]; omega) | (rw [u64_in (by omega) (by omega)]; omega) | omega))
  · exfalso
    have := of_decide_eq_false ‹_›
    dsimp only at this
    omega
theorem ctold_is (y n : Bool) : vhas (ctold y n) 1 = y ∧ vhas (ctold y n) 0 = n := by
  cases y <;> cases n <;> decide +kernel
abbrev gx (a : VV) (k : Nat) : Int := (I4 a.lo a.hi 0 0).getD (k / 4) 0
abbrev gy (b : VV) (k : Nat) : Int := (I4 b.lo b.hi 0 0).getD (k % 4) 0
/-- What is told comes of some bounds. -/
theorem exact_pick {o : Int} {a b : VV} (ha : RV a) (hb : RV b) (na : a ≠ vbot) (nb : b ≠ vbot) (ho : o = 0 ∨ o = 1 ∨ o = 4 ∨ o = 5 ∨ o = 6 ∨ o = 7) {n : Int} (hn : n = 0 ∨ n = 1) (h : vhas (cdo o a b) n = true) :
    ∃ k, k < 16 ∧ wdo o (gx a k) (gy b k) = n ∧ vin a (gx a k) ∧ vin b (gy b k) := by
  have e : cdo o a b = ctold (cmay o a b).1 (cmay o a b).2 := by
    unfold cdo
    rw [if_neg (by rw [veq_iff, veq_iff]; exact fun q => q.elim na nb), if_neg (by omega)]
  rw [e] at h
  have al := ha.lo_in na
  have ah := ha.hi_in na
  have bl := hb.lo_in nb
  have bh := hb.hi_in nb
  have c := ctold_is (cmay o a b).1 (cmay o a b).2
  have g1 : n = 1 → (cmay o a b).1 = true := fun e => by rw [e, c.1] at h; exact h
  have g0 : n = 0 → (cmay o a b).2 = true := fun e => by rw [e, c.2] at h; exact h
  rcases ho with rfl | rfl | rfl | rfl | rfl | rfl <;> rcases hn with rfl | rfl
  · have q : (tN a && tN b) = true := g0 rfl
    rw [Bool.and_eq_true, tN_iff, tN_iff] at q
    exact ⟨10, by decide, rfl, q.1, q.2⟩
  · have q : (tY a || tY b) = true := g1 rfl
    have wr : ∀ x y, (x ≠ 0 ∨ y ≠ 0) → wdo 0 x y = 1 := fun x y z => by
      show (if (!(x == 0) || !(y == 0)) then 1 else 0) = 1
      rw [if_pos]
      simpa using z
    rw [Bool.or_eq_true, tY_iff ha, tY_iff hb] at q
    rcases q with ⟨z, iz, vz, z0⟩ | ⟨z, iz, vz, z0⟩
    · by_cases l : a.lo = 0
      · exact ⟨4, by decide, wr _ _ (.inl (show a.hi ≠ 0 from fun e => by have := vz.1; have := vz.2.1; omega)), ah, bl⟩
      · exact ⟨0, by decide, wr _ _ (.inl l), al, bl⟩
    · by_cases l : b.lo = 0
      · exact ⟨1, by decide, wr _ _ (.inr (show b.hi ≠ 0 from fun e => by have := vz.1; have := vz.2.1; omega)), al, bh⟩
      · exact ⟨0, by decide, wr _ _ (.inr l), al, bl⟩
  · have q : (tN a || tN b) = true := g0 rfl
    rw [Bool.or_eq_true, tN_iff, tN_iff] at q
    rcases q with q | q
    · exact ⟨8, by decide, rfl, q, bl⟩
    · refine ⟨2, by decide, ?_, al, q⟩
      show (if (!(a.lo == 0) && !((0 : Int) == 0)) then (1 : Int) else 0) = 0
      simp
  · have q : (tY a && tY b) = true := g1 rfl
    have wr : ∀ x y, x ≠ 0 → y ≠ 0 → wdo 1 x y = 1 := fun x y z z' => by
      show (if (!(x == 0) && !(y == 0)) then 1 else 0) = 1
      rw [if_pos]
      simp [z, z']
    rw [Bool.and_eq_true, tY_iff ha, tY_iff hb] at q
    obtain ⟨⟨z, iz, vz, z0⟩, ⟨u, iu, vu, u0⟩⟩ := q
    have p1 : a.lo = 0 → a.hi ≠ 0 := fun e e' => by have := vz.1; have := vz.2.1; omega
    have p2 : b.lo = 0 → b.hi ≠ 0 := fun e e' => by have := vu.1; have := vu.2.1; omega
    by_cases l : a.lo = 0 <;> by_cases m : b.lo = 0
    · exact ⟨5, by decide, wr _ _ (p1 l) (p2 m), ah, bh⟩
    · exact ⟨4, by decide, wr _ _ (p1 l) m, ah, bl⟩
    · exact ⟨1, by decide, wr _ _ l (p2 m), al, bh⟩
    · exact ⟨0, by decide, wr _ _ l m, al, bl⟩
  · have q := of_decide_eq_true (g0 rfl : decide (a.hi ≥ b.lo) = true)
    exact ⟨4, by decide, by show (if decide (a.hi < b.lo) = true then (1 : Int) else 0) = 0; rw [if_neg (by simpa using q)], ah, bl⟩
  · have q := of_decide_eq_true (g1 rfl : decide (a.lo < b.hi) = true)
    exact ⟨1, by decide, by show (if decide (a.lo < b.hi) = true then (1 : Int) else 0) = 1; rw [if_pos (by simpa using q)], al, bh⟩
  · have q := of_decide_eq_true (g0 rfl : decide (a.hi > b.lo) = true)
    exact ⟨4, by decide, by show (if decide (a.hi ≤ b.lo) = true then (1 : Int) else 0) = 0; rw [if_neg (by simpa using q)], ah, bl⟩
  · have q := of_decide_eq_true (g1 rfl : decide (a.lo ≤ b.hi) = true)
    exact ⟨1, by decide, by show (if decide (a.lo ≤ b.hi) = true then (1 : Int) else 0) = 1; rw [if_pos (by simpa using q)], al, bh⟩
  · have q := of_decide_eq_true (g0 rfl : decide (b.hi ≥ a.lo) = true)
    exact ⟨1, by decide, by show (if decide (b.hi < a.lo) = true then (1 : Int) else 0) = 0; rw [if_neg (by simpa using q)], al, bh⟩
  · have q := of_decide_eq_true (g1 rfl : decide (b.lo < a.hi) = true)
    exact ⟨4, by decide, by show (if decide (b.lo < a.hi) = true then (1 : Int) else 0) = 1; rw [if_pos (by simpa using q)], ah, bl⟩
  · have q := of_decide_eq_true (g0 rfl : decide (b.hi > a.lo) = true)
    exact ⟨1, by decide, by show (if decide (b.hi ≤ a.lo) = true then (1 : Int) else 0) = 0; rw [if_neg (by simpa using q)], al, bh⟩
  · have q := of_decide_eq_true (g1 rfl : decide (b.lo ≤ a.hi) = true)
    exact ⟨4, by decide, by show (if decide (b.lo ≤ a.hi) = true then (1 : Int) else 0) = 1; rw [if_pos (by simpa using q)], ah, bl⟩
theorem mod6 (op : Int) : 0 ≤ (IntKind.i64.wrap (op.tmod 6 + 6)).tmod 6 ∧ (IntKind.i64.wrap (op.tmod 6 + 6)).tmod 6 < 6 := by
  have h1 := Int.tmod_lt_of_pos op (show (0 : Int) < 6 by decide)
  have h2 : -6 < op.tmod 6 := Int.lt_tmod_of_pos op (by decide)
  rw [wrap_id ⟨by omega, by omega⟩]
  have h3 := Int.tmod_nonneg 6 (show 0 ≤ op.tmod 6 + 6 by omega)
  have h4 := Int.tmod_lt_of_pos (op.tmod 6 + 6) (show (0 : Int) < 6 by decide)
  omega
def L6 : List Int := [4, 5, 6, 7, 0, 1]
theorem L6_is (k : Nat) (h : k < 6) : L6.getD k 0 = 0 ∨ L6.getD k 0 = 1 ∨ L6.getD k 0 = 4 ∨ L6.getD k 0 = 5 ∨ L6.getD k 0 = 6 ∨ L6.getD k 0 = 7 := by
  rcases k with _ | _ | _ | _ | _ | _ | k
  · decide
  · decide
  · decide
  · decide
  · decide
  · decide
  · omega
theorem condExact_d (op : Int) (x y : VV) (hx : InV x) (hy : InV y) : Den Tryz.prog 40 #[.int .i64 op, VVal x, VVal y] tabF (.bool true) := by
  refine den_of_body (args := [.int .i64 op, VVal x, VVal y]) hmix Tryz.func40 ?_
  have g := mod6 op
  (repeat' ((conv => whnf); first | refine Ob.mk (by decide) ?_ | refine Ob.mk g ?_ | refine rowI (l := L6) _ g.1 g.2 ?_ | refine AdN.mk _ _ rfl ?_ | refine DrawN.a (Ob.mk (by decide +kernel) ?_) | refine DrawN.c (Ob.mk (by decide +kernel) ?_) | refine DrawN.b (Ob.mk (by decide +kernel) ?_) | refine Ob.mk (by kernel_rfl) ?_ | (refine Br.mk (fun h => ?_) (fun h => ?_) <;> (first | (exfalso; exact Bool.false_ne_true h) | (exfalso; exact Bool.false_ne_true h.symm) | skip)) | refine SeqN.go ?_)); all_goals (conv => whnf)
  have ho := L6_is ((IntKind.i64.wrap (op.tmod 6 + 6)).tmod 6).toNat (by omega)
  generalize L6.getD ((IntKind.i64.wrap (op.tmod 6 + 6)).tmod 6).toNat 0 = o at *
  clear g
  have D := cDo_d o x y hx hy
  have Mx := vMake_d x hx
  have My := vMake_d y hy
  have ha := vmake_rv hx
  have hb := vmake_rv hy
  have DL := do_law ha hb (show 0 ≤ o by omega) (show o ≤ 7 by omega)
  have H0 := has_r 0 DL.rv ⟨by decide, by decide⟩
  have H1 := has_r 1 DL.rv ⟨by decide, by decide⟩
  have ne : ∀ n, vhas (cdo o (vmake x) (vmake y)) n = true → vmake x ≠ vbot ∧ vmake y ≠ vbot := fun n q => by
    have := RV.ne (vhas_iff.1 q)
    rw [ne_eq, DL.bot] at this
    exact ⟨fun e => this (.inl e), fun e => this (.inr e)⟩
  have CM : ∀ n, (n = 0 ∨ n = 1) → vhas (cdo o (vmake x) (vmake y)) n = true → Den Tryz.prog 101 #[.int .i64 o, VVal (vmake x), VVal (vmake y), .int .i64 n] noFacts (.bool true) := fun n hn q => by
    obtain ⟨k, k1, k2, k3, k4⟩ := exact_pick ha hb (ne n q).1 (ne n q).2 ho hn q
    exact comes_d o _ _ n ha hb (by omega) (by omega) k k1 k2 k3 k4
  have C0 := CM 0 (.inl rfl)
  have C1 := CM 1 (.inr rfl)
  clear CM DL
  (repeat' ((conv => whnf); first | refine CallN.any _ D ?_ | refine CallN.any _ Mx ?_ | refine CallN.any _ My ?_ | refine CallN.any _ H0 ?_ | refine CallN.any _ H1 ?_ | refine CallN.any _ (C0 ‹_›) ?_ | refine CallN.any _ (C1 ‹_›) ?_ | refine CallN.mk _ works24_d ?_ | refine LoopN.roll 3 ?_ | refine Ob.mk (by decide) ?_ | refine AdN.mk _ _ rfl ?_ | refine DrawN.a (Ob.mk (by decide +kernel) ?_) | refine DrawN.c (Ob.mk (by decide +kernel) ?_) | refine DrawN.b (Ob.mk (by decide +kernel) ?_) | refine Ob.mk (by kernel_rfl) ?_ | (refine Br.mk (fun h => ?_) (fun h => ?_) <;> (first | (exfalso; exact Bool.false_ne_true h) | (exfalso; exact Bool.false_ne_true h.symm) | skip)) | refine SeqN.go ?_)); all_goals (conv => whnf)
  all_goals first | rfl | (exfalso; simp at *; done)
end Go.Proofs.YtcemohoigdninaaGreatDoor
