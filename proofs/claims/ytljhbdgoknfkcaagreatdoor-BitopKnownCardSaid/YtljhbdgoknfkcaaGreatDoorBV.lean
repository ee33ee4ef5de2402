/- BitopSound as a call. -/
import Derived.Test.YtljhbdgoknfkcaaGreatDoorBU
import Derived.Test.YtljhbdgoknfkcaaGreatDoorK8
namespace Go.Proofs.YtljhbdgoknfkcaaGreatDoor
open Go Go.RowKit Go.Sort
set_option linter.unusedVariables false
set_option linter.unusedSimpArgs false
set_option maxRecDepth 100000

def OPS : List Int := [16, 17, 8, 9, 10, 11, 12]
theorem ops_bop (n : Nat) (h : n < 7) : bop (OPS.getD n 0) := by
  have : ∀ j, j < 7 → bop (OPS.getD j 0) := by decide
  exact this n h
theorem rowOPS {z : Int} {K : List Value → Prop} (n : Nat) (e : z = (n : Int)) (h : n < 7) (k : K [.int .i64 (OPS.getD n 0)]) : RowN [.int .i64 16, .int .i64 17, .int .i64 8, .int .i64 9, .int .i64 10, .int .i64 11, .int .i64 12] (z.toNat * 1) 1 K := rowIL (l := OPS) n e h k
theorem op7 (op : Int) : (IntKind.u64.wrap op).tmod 7 = (((us op % 7).toNat : Nat) : Int) ∧ (us op % 7).toNat < 7 := by
  have h := us_rng op
  rw [us_eq, Int.tmod_eq_emod_of_nonneg h.1]
  omega
theorem idxN {z : Int} {n N : Nat} (e : z = (n : Int)) (h : n < N) : 0 ≤ z ∧ z < (N : Int) := by omega
set_option maxHeartbeats 4000000 in
theorem bitopSingle_d (op x y : Int) (hx : IS x) (hy : IS y) : Den Tryz.prog 6 #[.int .i64 op, .int .i64 x, .int .i64 y] tabF (.bool true) := by
  refine den_of_body (args := [.int .i64 op, .int .i64 x, .int .i64 y]) hmix Tryz.func6 ?_
  obtain ⟨e7, l7⟩ := op7 op
  have hb := ops_bop _ l7
  generalize (us op % 7).toNat = n at *
  have D := bDo_d (OPS.getD n 0) (vone x) (vone y) (vone_in hx) (vone_in hy)
  rw [(rv_one hx).fix, (rv_one hy).fix, bdo_one hb hx hy] at D
  have W := wAll_d (OPS.getD n 0) x y (bop_rng hb)
  have iw := wopV_is (y := y) (bop_rng hb) hx
  cases hw : wopB (OPS.getD n 0) y with
  | true =>
    rw [hw, if_pos rfl] at D
    rw [hw] at W
    have S := single_r (rv_one iw)
    have B := bottom_r (rv_one iw)
    rw [veq_false (vone_nb _)] at B
    rw [if_pos (show (vone (wopV (OPS.getD n 0) x y)).lo = (vone (wopV (OPS.getD n 0) x y)).hi from rfl), show ((vone (wopV (OPS.getD n 0) x y)).lo == (vone (wopV (OPS.getD n 0) x y)).hi) = true from beq_self_eq_true _] at S
    (repeat' ((conv => whnf); first | refine CallN.any _ (vOne_d _) ?_ | refine CallN.any _ D ?_ | refine CallN.any _ W ?_ | refine CallN.any _ S ?_ | refine CallN.any _ B ?_ | refine CallN.mk _ works23_d ?_ | refine Ob.mk (idxN e7 l7) ?_ | refine rowOPS n e7 l7 ?_ | refine Ob.mk (by decide) ?_ | refine AdN.mk _ _ rfl ?_ | refine DrawN.a (Ob.mk (by decide +kernel) ?_) | refine DrawN.c (Ob.mk (by decide +kernel) ?_) | refine DrawN.b (Ob.mk (by decide +kernel) ?_) | refine Ob.mk (by kernel_rfl) ?_ | (refine Br.mk (fun h => ?_) (fun h => ?_) <;> (first | (exfalso; exact Bool.false_ne_true h) | (exfalso; exact Bool.false_ne_true h.symm) | skip)) | refine SeqN.go ?_)); all_goals (conv => whnf)
    all_goals first | rfl | (exfalso; exact Bool.false_ne_true ((‹((vone (wopV (OPS.getD n 0) x y)).lo == wopV (OPS.getD n 0) x y) = false›).symm.trans (beq_self_eq_true _))) | (exfalso; simp at *; done) | trace_state
  | false =>
    rw [hw, if_neg (by decide)] at D
    rw [hw] at W
    have S := single_r rv_bot
    have B := bottom_r rv_bot
    rw [veq_iff.2 rfl] at B
    (repeat' ((conv => whnf); first | refine CallN.any _ (vOne_d _) ?_ | refine CallN.any _ D ?_ | refine CallN.any _ W ?_ | refine CallN.any _ S ?_ | refine CallN.any _ B ?_ | refine CallN.mk _ works23_d ?_ | refine Ob.mk (idxN e7 l7) ?_ | refine rowOPS n e7 l7 ?_ | refine Ob.mk (by decide) ?_ | refine AdN.mk _ _ rfl ?_ | refine DrawN.a (Ob.mk (by decide +kernel) ?_) | refine DrawN.c (Ob.mk (by decide +kernel) ?_) | refine DrawN.b (Ob.mk (by decide +kernel) ?_) | refine Ob.mk (by kernel_rfl) ?_ | (refine Br.mk (fun h => ?_) (fun h => ?_) <;> (first | (exfalso; exact Bool.false_ne_true h) | (exfalso; exact Bool.false_ne_true h.symm) | skip)) | refine SeqN.go ?_)); all_goals (conv => whnf)
    all_goals first | rfl | (exfalso; simp at *; done) | trace_state
/-- The number of a value that a number picks. -/
def pickN (v : VV) (i : Int) : Int := if (vcard v).2 then i % (vcard v).1 else i
def pickV (v : VV) (i : Int) : Int := sg (us v.lo + us (pickN v i * v.m))
theorem pick_in {v : VV} (h : RV v) (nb : v ≠ vbot) {i : Int} (hi : IU i) : vin v (pickV v i) ∧ IS (pickV v i) := by
  have le := h.le nb
  have hl := h.inn.lo
  have hh := h.inn.hi
  have hs : IS (pickV v i) := sg_rng _
  refine ⟨?_, hs⟩
  unfold pickV pickN
  rw [vcard_eq h nb]
  by_cases h0 : v.m = 0
  · rw [if_pos h0, if_pos rfl, h0, Int.mul_zero]
    have : sg (us v.lo + us 0) = v.lo := by unfold sg us; omega
    rw [this]
    exact h.lo_in nb
  · rw [if_neg h0]
    have pm : 0 < v.m := by have := h.inn.m.1; omega
    by_cases hq : (v.hi - v.lo) / v.m = 18446744073709551615
    · rw [top_of h nb h0 hq]
      exact top_has (sg_rng _)
    · rw [if_neg hq, if_pos rfl]
      have e3 := Int.ediv_nonneg (show 0 ≤ v.hi - v.lo by omega) h.inn.m.1
      have e1 := Int.mul_ediv_add_emod (v.hi - v.lo) v.m
      have e2 := emod_rng (v.hi - v.lo) v.m pm
      have r := emod_rng i ((v.hi - v.lo) / v.m + 1) (by omega)
      dsimp only
      generalize i % ((v.hi - v.lo) / v.m + 1) = k at *
      obtain ⟨n, rfl⟩ := Int.eq_ofNat_of_zero_le r.1
      have hk : n < vcnt v := by
        unfold vcnt
        rw [veq_false nb, if_neg (by decide), if_neg h0]
        omega
      have vi := vnum_in h hk
      have e : sg (us v.lo + us ((n : Int) * v.m)) = vnum v n := by
        have b := vin_is' h vi
        have b1 := b.1; have b2 := b.2
        unfold vnum at *
        generalize (n : Int) * v.m = z at *
        unfold sg us
        omega
      rw [e]
      exact vi
theorem card_pos {v : VV} (h : RV v) (nb : v ≠ vbot) (hc : (vcard v).2 = true) : (vcard v).1 ≠ 0 := by
  rw [vcard_eq h nb] at hc ⊢
  have e3 := Int.ediv_nonneg (show 0 ≤ v.hi - v.lo by have := h.le nb; omega) h.inn.m.1
  split at hc
  · rename_i q; rw [if_pos q]; decide
  · split at hc
    · cases hc
    · rename_i q1 q2; rw [if_neg q1, if_neg q2]; show (v.hi - v.lo) / v.m + 1 ≠ 0; omega
set_option maxHeartbeats 4000000 in
theorem pick_d (v : VV) (hv : InV v) (nb : vmake v ≠ vbot) (i : Int) (hi : IU i) : Den Tryz.prog 40 #[VVal v, .int .u64 i] noFacts (.tuple #[.int .i64 (pickV (vmake v) i), .bool true]) := by
  refine den_of_body (args := [VVal v, .int .u64 i]) hmix Tryz.func40 ?_
  have rv := vmake_rv hv
  have P := rVPlain_d v hv
  have C := rCard_d _ rv
  have hc := vcard_in rv
  have cp := card_pos rv nb
  unfold pickV pickN
  generalize vmake v = r at *
  have es : ∀ z, IntKind.i64.wrap (IntKind.u64.wrap (IntKind.u64.wrap r.lo + IntKind.u64.wrap z)) = sg (us r.lo + us z) := by intro z; simp only [us_eq, sg_eq]; unfold sg us; omega
  cases h2 : (vcard r).2 with
  | true =>
    rw [h2] at C
    have cp := cp h2
    have ep : i.tmod (vcard r).1 = i % (vcard r).1 := Int.tmod_eq_emod_of_nonneg hi.1
    generalize hcc : (vcard r).1 = c at *
    (repeat' ((conv => whnf); first | refine CallN.any _ (docValue_d _) ?_ | refine CallN.any _ P ?_ | refine CallN.any _ C ?_ | refine Ob.mk cp ?_ | refine AdN.mk _ _ rfl ?_ | refine DrawN.a (Ob.mk (by decide +kernel) ?_) | refine DrawN.c (Ob.mk (by decide +kernel) ?_) | refine DrawN.b (Ob.mk (by decide +kernel) ?_) | refine Ob.mk (by kernel_rfl) ?_ | (refine Br.mk (fun h => ?_) (fun h => ?_) <;> (first | (exfalso; exact Bool.false_ne_true h) | (exfalso; exact Bool.false_ne_true h.symm) | skip)) | refine SeqN.go ?_)); all_goals (conv => whnf)
    all_goals first | (exfalso; simp_all; done) | (simp only [retV, ep, es, if_true]; done) | trace_state
  | false =>
    rw [h2] at C
    (repeat' ((conv => whnf); first | refine CallN.any _ (docValue_d _) ?_ | refine CallN.any _ P ?_ | refine CallN.any _ C ?_ | refine Ob.mk cp ?_ | refine AdN.mk _ _ rfl ?_ | refine DrawN.a (Ob.mk (by decide +kernel) ?_) | refine DrawN.c (Ob.mk (by decide +kernel) ?_) | refine DrawN.b (Ob.mk (by decide +kernel) ?_) | refine Ob.mk (by kernel_rfl) ?_ | (refine Br.mk (fun h => ?_) (fun h => ?_) <;> (first | (exfalso; exact Bool.false_ne_true h) | (exfalso; exact Bool.false_ne_true h.symm) | skip)) | refine SeqN.go ?_)); all_goals (conv => whnf)
    all_goals first | (exfalso; simp_all; done) | (simp only [retV, es, Bool.false_eq_true, if_false]) | trace_state
theorem pickN_d (v : VV) (hv : InV v) (nb : vmake v = vbot) (i : Int) : Den Tryz.prog 40 #[VVal v, .int .u64 i] noFacts (.tuple #[.int .i64 0, .bool false]) := by
  refine den_of_body (args := [VVal v, .int .u64 i]) hmix Tryz.func40 ?_
  have P := rVPlain_d v hv
  have C := rCard_d _ rv_bot
  rw [nb] at P
  rw [vcard_bot] at C
  (repeat' ((conv => whnf); first | refine CallN.any _ (docValue_d _) ?_ | refine CallN.any _ P ?_ | refine CallN.any _ C ?_ | refine AdN.mk _ _ rfl ?_ | refine DrawN.a (Ob.mk (by decide +kernel) ?_) | refine DrawN.c (Ob.mk (by decide +kernel) ?_) | refine DrawN.b (Ob.mk (by decide +kernel) ?_) | refine Ob.mk (by kernel_rfl) ?_ | (refine Br.mk (fun h => ?_) (fun h => ?_) <;> (first | (exfalso; exact Bool.false_ne_true h) | (exfalso; exact Bool.false_ne_true h.symm) | (exfalso; simp at *; done) | skip)) | refine SeqN.go ?_)); all_goals (conv => whnf)
  all_goals first | rfl | (exfalso; simp at *; done) | trace_state
/-! What word.One makes, at Inv and Not. -/
theorem wOne3_d (b : Nat) (n : Int) (F : Facts) (h : F b 0 (.int .i64 n)) : Den Tryz.prog 122 #[.pointer (some ⟨b, 0, none⟩)] F (.int .i64 (IntKind.i64.wrap (-1 - n))) := by
  refine den_of_body (args := [.pointer (some ⟨b, 0, none⟩)]) hmix Tryz.func122 ?_
  (repeat' ((conv => whnf); first | refine CellsN.mk [.int .i64 n] (fun j v hj => by rcases j with _ | j; simp at hj; subst hj; exact h; simp at hj) rfl ?_ | refine AdN.mk _ _ rfl ?_ | refine DrawN.a (Ob.mk (by decide +kernel) ?_) | refine DrawN.c (Ob.mk (by decide +kernel) ?_) | refine DrawN.b (Ob.mk (by decide +kernel) ?_) | refine Ob.mk (by kernel_rfl) ?_ | (refine Br.mk (fun h => ?_) (fun h => ?_) <;> (first | (exfalso; exact Bool.false_ne_true h) | (exfalso; exact Bool.false_ne_true h.symm) | skip)) | refine SeqN.go ?_)); all_goals (conv => whnf)
  all_goals rfl
theorem wOne2_d (b : Nat) (n : Int) (F : Facts) (h : F b 0 (.int .i64 n)) : Den Tryz.prog 120 #[.pointer (some ⟨b, 0, none⟩)] F (.int .i64 (if n = 0 then 1 else 0)) := by
  refine den_of_body (args := [.pointer (some ⟨b, 0, none⟩)]) hmix Tryz.func120 ?_
  have T := wTruth_d n
  have B := wBit_d
  (repeat' ((conv => whnf); first | refine CallN.any _ T ?_ | refine CallN.any _ (B _) ?_ | refine CellsN.mk [.int .i64 n] (fun j v hj => by rcases j with _ | j; simp at hj; subst hj; exact h; simp at hj) rfl ?_ | refine AdN.mk _ _ rfl ?_ | refine DrawN.a (Ob.mk (by decide +kernel) ?_) | refine DrawN.c (Ob.mk (by decide +kernel) ?_) | refine DrawN.b (Ob.mk (by decide +kernel) ?_) | refine Ob.mk (by kernel_rfl) ?_ | (refine Br.mk (fun h => ?_) (fun h => ?_) <;> (first | (exfalso; exact Bool.false_ne_true h) | (exfalso; exact Bool.false_ne_true h.symm) | skip)) | refine SeqN.go ?_)); all_goals (conv => whnf)
  all_goals (refine congrArg (Value.int _) ?_; by_cases c : n = 0 <;> simp [c])
theorem wInv_d (n : Int) (hn : IS n) : Den Tryz.prog 42 #[.int .i64 20, .int .i64 n] noFacts (.tuple #[.int .i64 (-1 - n), .bool true]) := by
  have e : IntKind.i64.wrap (-1 - n) = -1 - n := by have h := inv_is hn; rw [sg_eq, sg_in _ h.1 h.2]
  rw [← e]
  refine den_of_box (args := [.int .i64 20, .int .i64 n]) hmix Tryz.func42 ?_
  (repeat' ((conv => whnf); first | refine AdN.mk _ _ rfl ?_ | refine DrawN.a (Ob.mk (by decide +kernel) ?_) | refine DrawN.c (Ob.mk (by decide +kernel) ?_) | refine DrawN.b (Ob.mk (by decide +kernel) ?_) | refine Ob.mk (by kernel_rfl) ?_ | (refine Br.mk (fun h => ?_) (fun h => ?_) <;> (first | (exfalso; exact Bool.false_ne_true h) | (exfalso; exact Bool.false_ne_true h.symm) | skip)) | refine SeqN.go ?_)); all_goals (conv => whnf)
  intro β
  (repeat' ((conv => whnf); first | refine CallN.mk _ (wOne3_d _ n _ ?_) ?_ | refine AdN.mk _ _ rfl ?_ | refine DrawN.a (Ob.mk (by decide +kernel) ?_) | refine DrawN.c (Ob.mk (by decide +kernel) ?_) | refine DrawN.b (Ob.mk (by decide +kernel) ?_) | refine Ob.mk (by kernel_rfl) ?_ | (refine Br.mk (fun h => ?_) (fun h => ?_) <;> (first | (exfalso; exact Bool.false_ne_true h) | (exfalso; exact Bool.false_ne_true h.symm) | skip)) | refine SeqN.go ?_)); all_goals (conv => whnf)
  all_goals first | rfl | exact Or.inr ⟨0, _, List.Mem.head _, rfl, rfl, rfl⟩ | (exfalso; simp at *; done)
theorem wNot_d (n : Int) : Den Tryz.prog 42 #[.int .i64 19, .int .i64 n] noFacts (.tuple #[.int .i64 (if n = 0 then 1 else 0), .bool true]) := by
  refine den_of_box (args := [.int .i64 19, .int .i64 n]) hmix Tryz.func42 ?_
  (repeat' ((conv => whnf); first | refine AdN.mk _ _ rfl ?_ | refine DrawN.a (Ob.mk (by decide +kernel) ?_) | refine DrawN.c (Ob.mk (by decide +kernel) ?_) | refine DrawN.b (Ob.mk (by decide +kernel) ?_) | refine Ob.mk (by kernel_rfl) ?_ | (refine Br.mk (fun h => ?_) (fun h => ?_) <;> (first | (exfalso; exact Bool.false_ne_true h) | (exfalso; exact Bool.false_ne_true h.symm) | skip)) | refine SeqN.go ?_)); all_goals (conv => whnf)
  intro β
  (repeat' ((conv => whnf); first | refine CallN.mk _ (wOne2_d _ n _ ?_) ?_ | refine AdN.mk _ _ rfl ?_ | refine DrawN.a (Ob.mk (by decide +kernel) ?_) | refine DrawN.c (Ob.mk (by decide +kernel) ?_) | refine DrawN.b (Ob.mk (by decide +kernel) ?_) | refine Ob.mk (by kernel_rfl) ?_ | (refine Br.mk (fun h => ?_) (fun h => ?_) <;> (first | (exfalso; exact Bool.false_ne_true h) | (exfalso; exact Bool.false_ne_true h.symm) | skip)) | refine SeqN.go ?_)); all_goals (conv => whnf)
  all_goals first | rfl | exact Or.inr ⟨0, _, List.Mem.head _, rfl, rfl, rfl⟩ | (exfalso; simp at *; done)
theorem bone_rv {op : Int} {a : VV} (ra : RV a) : RV (boneV op a) := by
  unfold boneV
  have o1 : IS 1 := ⟨by decide, by decide⟩
  have o0 : IS 0 := ⟨by decide, by decide⟩
  split
  · exact rv_bot
  split
  · exact binvert_rv ra.inn
  split
  · split
    · exact rv_one o1
    split
    · exact vmake_rv (x := ⟨0, 1, 1, 0⟩) ⟨o0, o1, ⟨by show (0 : Int) ≤ 1; decide, by show (1 : Int) ≤ 18446744073709551615; decide⟩, ⟨by show (0 : Int) ≤ 0; decide, by show (0 : Int) ≤ 18446744073709551615; decide⟩⟩
    · exact rv_one o0
  · exact rv_top
theorem has_of {v : VV} (rv : RV v) {n : Int} (hn : IS n) (h : vin v n) : Den Tryz.prog 41 #[VVal v, .int .i64 n] noFacts (.bool true) := by
  have := has_r n rv hn
  rwa [vhas_iff.2 h] at this
set_option maxHeartbeats 4000000 in
theorem bitopSound_d (op : Int) (x y : VV) (i k : Int) (hx : InV x) (hy : InV y) (hi : IU i) (hk : IU k) : Den Tryz.prog 8 #[.int .i64 op, VVal x, VVal y, .int .u64 i, .int .u64 k] tabF (.bool true) := by
  refine den_of_body (args := [.int .i64 op, VVal x, VVal y, .int .u64 i, .int .u64 k]) hmix Tryz.func8 ?_
  obtain ⟨e7, l7⟩ := op7 op
  have hb := ops_bop _ l7
  generalize (us op % 7).toNat = n at *
  generalize hoo : OPS.getD n 0 = o at *
  have rx := vmake_rv hx
  have ry := vmake_rv hy
  have D := bDo_d o x y hx hy
  have row : ∀ {K : List Value → Prop}, K [.int .i64 o] → RowN [.int .i64 16, .int .i64 17, .int .i64 8, .int .i64 9, .int .i64 10, .int .i64 11, .int .i64 12] (((IntKind.u64.wrap op).tmod 7).toNat * 1) 1 K := fun hK => rowOPS n e7 l7 (by rw [hoo]; exact hK)
  have B0 := bottom_r rv_bot
  rw [veq_iff.2 rfl] at B0
  by_cases nx : vmake x = vbot
  · have P := pickN_d x hx nx i
    by_cases ny : vmake y = vbot
    · have Q := pickN_d y hy ny k
      rw [bot_bdo hb (.inl nx)] at D
      (repeat' ((conv => whnf); first | refine CallN.any _ P ?_ | refine CallN.any _ Q ?_ | refine CallN.any _ D ?_ | refine CallN.any _ B0 ?_ | refine CallN.mk _ works23_d ?_ | refine Ob.mk (idxN e7 l7) ?_ | refine row ?_ | refine Ob.mk (by decide) ?_ | refine AdN.mk _ _ rfl ?_ | refine DrawN.a (Ob.mk (by decide +kernel) ?_) | refine DrawN.c (Ob.mk (by decide +kernel) ?_) | refine DrawN.b (Ob.mk (by decide +kernel) ?_) | refine Ob.mk (by kernel_rfl) ?_ | (refine Br.mk (fun h => ?_) (fun h => ?_) <;> (first | (exfalso; exact Bool.false_ne_true h) | (exfalso; exact Bool.false_ne_true h.symm) | skip)) | refine SeqN.go ?_)); all_goals (conv => whnf)
      all_goals first | rfl | (exfalso; simp at *; done) | trace_state
    · have Q := pick_d y hy ny k hk
      rw [bot_bdo hb (.inl nx)] at D
      (repeat' ((conv => whnf); first | refine CallN.any _ P ?_ | refine CallN.any _ Q ?_ | refine CallN.any _ D ?_ | refine CallN.any _ B0 ?_ | refine CallN.mk _ works23_d ?_ | refine Ob.mk (idxN e7 l7) ?_ | refine row ?_ | refine Ob.mk (by decide) ?_ | refine AdN.mk _ _ rfl ?_ | refine DrawN.a (Ob.mk (by decide +kernel) ?_) | refine DrawN.c (Ob.mk (by decide +kernel) ?_) | refine DrawN.b (Ob.mk (by decide +kernel) ?_) | refine Ob.mk (by kernel_rfl) ?_ | (refine Br.mk (fun h => ?_) (fun h => ?_) <;> (first | (exfalso; exact Bool.false_ne_true h) | (exfalso; exact Bool.false_ne_true h.symm) | skip)) | refine SeqN.go ?_)); all_goals (conv => whnf)
      all_goals first | rfl | (exfalso; simp at *; done) | trace_state
  · have P := pick_d x hx nx i hi
    by_cases ny : vmake y = vbot
    · have Q := pickN_d y hy ny k
      rw [bot_bdo hb (.inr ny)] at D
      (repeat' ((conv => whnf); first | refine CallN.any _ P ?_ | refine CallN.any _ Q ?_ | refine CallN.any _ D ?_ | refine CallN.any _ B0 ?_ | refine CallN.mk _ works23_d ?_ | refine Ob.mk (idxN e7 l7) ?_ | refine row ?_ | refine Ob.mk (by decide) ?_ | refine AdN.mk _ _ rfl ?_ | refine DrawN.a (Ob.mk (by decide +kernel) ?_) | refine DrawN.c (Ob.mk (by decide +kernel) ?_) | refine DrawN.b (Ob.mk (by decide +kernel) ?_) | refine Ob.mk (by kernel_rfl) ?_ | (refine Br.mk (fun h => ?_) (fun h => ?_) <;> (first | (exfalso; exact Bool.false_ne_true h) | (exfalso; exact Bool.false_ne_true h.symm) | skip)) | refine SeqN.go ?_)); all_goals (conv => whnf)
      all_goals first | rfl | (exfalso; simp at *; done) | trace_state
    · have Q := pick_d y hy ny k hk
      obtain ⟨vp, ip⟩ := pick_in rx nx hi
      obtain ⟨vq, iq⟩ := pick_in ry ny hk
      generalize pickV (vmake x) i = p at *
      generalize pickV (vmake y) k = q at *
      have W := wAll_d o p q (bop_rng hb)
      have I := wInv_d p ip
      have N := wNot_d p
      have O1 := bOne_d 20 x hx
      have O2 := bOne_d 19 x hx
      have H1 := has_of (bone_rv rx) (inv_is ip) (binv_one _ rx ip vp)
      have H2 := has_of (bone_rv rx) (n := if p = 0 then 1 else 0) (by split <;> exact ⟨by decide, by decide⟩) (bnot_one _ rx ip vp)
      generalize boneV 20 (vmake x) = b20 at *
      generalize boneV 19 (vmake x) = b19 at *
      cases hw : wopB o q with
      | true =>
        rw [hw] at W
        have H := has_of (bdo_rv rx ry) (wopV_is (bop_rng hb) ip) (bdo_sound hb rx ry ip iq vp vq hw)
        generalize bdo o (vmake x) (vmake y) = d at *
        (repeat' ((conv => whnf); first | refine CallN.any _ P ?_ | refine CallN.any _ Q ?_ | refine CallN.any _ D ?_ | refine CallN.any _ W ?_ | refine CallN.any _ H ?_ | refine CallN.any _ I ?_ | refine CallN.any _ N ?_ | refine CallN.any _ O1 ?_ | refine CallN.any _ O2 ?_ | refine CallN.any _ H1 ?_ | refine CallN.any _ H2 ?_ | refine CallN.mk _ works23_d ?_ | refine Ob.mk (idxN e7 l7) ?_ | refine row ?_ | refine Ob.mk (by decide) ?_ | refine AdN.mk _ _ rfl ?_ | refine DrawN.a (Ob.mk (by decide +kernel) ?_) | refine DrawN.c (Ob.mk (by decide +kernel) ?_) | refine DrawN.b (Ob.mk (by decide +kernel) ?_) | refine Ob.mk (by kernel_rfl) ?_ | (refine Br.mk (fun h => ?_) (fun h => ?_) <;> (first | (exfalso; exact Bool.false_ne_true h) | (exfalso; exact Bool.false_ne_true h.symm) | skip)) | refine SeqN.go ?_)); all_goals (conv => whnf)
        all_goals first | rfl | (exfalso; simp at *; done) | trace_state
      | false =>
        rw [hw] at W
        have e0 : (o == 16 || o == 17) = true ∧ q = 0 := by
          have r := bop_rng hb
          unfold wopB at hw
          rw [decide_eq_true r.1, decide_eq_true r.2, Bool.true_and, Bool.true_and, Bool.not_eq_false', Bool.and_eq_true] at hw
          exact ⟨hw.1, beq_iff_eq.1 hw.2⟩
        have Y := mayx_d o y hy
        rw [e0.1, Bool.true_and, vhas_iff.2 (by rw [← e0.2]; exact vq)] at Y
        generalize bdo o (vmake x) (vmake y) = d at *
        (repeat' ((conv => whnf); first | refine CallN.any _ P ?_ | refine CallN.any _ Q ?_ | refine CallN.any _ D ?_ | refine CallN.any _ W ?_ | refine CallN.any _ Y ?_ | refine CallN.any _ I ?_ | refine CallN.any _ N ?_ | refine CallN.any _ O1 ?_ | refine CallN.any _ O2 ?_ | refine CallN.any _ H1 ?_ | refine CallN.any _ H2 ?_ | refine CallN.mk _ works23_d ?_ | refine Ob.mk (idxN e7 l7) ?_ | refine row ?_ | refine Ob.mk (by decide) ?_ | refine AdN.mk _ _ rfl ?_ | refine DrawN.a (Ob.mk (by decide +kernel) ?_) | refine DrawN.c (Ob.mk (by decide +kernel) ?_) | refine DrawN.b (Ob.mk (by decide +kernel) ?_) | refine Ob.mk (by kernel_rfl) ?_ | (refine Br.mk (fun h => ?_) (fun h => ?_) <;> (first | (exfalso; exact Bool.false_ne_true h) | (exfalso; exact Bool.false_ne_true h.symm) | skip)) | refine SeqN.go ?_)); all_goals (conv => whnf)
        all_goals first | rfl | (exfalso; simp at *; done) | trace_state
end Go.Proofs.YtljhbdgoknfkcaaGreatDoor
