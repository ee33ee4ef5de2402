/- The reference of bitop: Do. -/
import Derived.Test.YtljhbdgoknfkcaaGreatDoorBY
namespace Go.Proofs.YtljhbdgoknfkcaaGreatDoor
open Go Go.RowKit Go.Sort
set_option linter.unusedVariables false
set_option linter.unusedSimpArgs false
set_option maxRecDepth 100000

theorem bdoV_bot {op : Int} {p r a b : VV} (h : a = vbot ∨ b = vbot) : bdoV op p r a b = vbot := by
  unfold bdoV
  rcases h with rfl | rfl
  · rw [veq_iff.2 rfl, Bool.true_or, if_pos rfl]
  · rw [veq_iff.2 (rfl : vbot = vbot), Bool.or_true, if_pos rfl]
theorem bdoV_zero {op : Int} {p r a b : VV} (na : a ≠ vbot) (nb : b ≠ vbot) (ho : op = 16 ∨ op = 17) (h : b = vone 0) : bdoV op p r a b = vbot := by
  unfold bdoV
  rw [veq_false na, veq_false nb, Bool.or_false, if_neg (by decide), if_pos ⟨by rw [h]; rfl, by rw [h]; rfl, ho⟩]
theorem rv_single {b : VV} (rb : RV b) (nb : b ≠ vbot) (h : b.lo = b.hi) : b = vone b.lo := by
  rcases rb.way with c | c | c
  · exact absurd c nb
  · obtain ⟨lo, hi, m, r⟩ := b
    obtain ⟨_, h2, h3⟩ := c
    dsimp only at h h2 h3
    subst h h2 h3
    rfl
  · omega
theorem bdoV_else {op : Int} {p r a b : VV} (na : a ≠ vbot) (nb : b ≠ vbot) (rb : RV b) (h : (op = 16 ∨ op = 17) → b ≠ vone 0) : bdoV op p r a b = if bsmall a && bsmall b then p else r := by
  unfold bdoV
  rw [veq_false na, veq_false nb, Bool.or_false, if_neg (by decide), if_neg (fun q => h q.2.2 (by have := rv_single rb nb q.1; rw [q.2.1] at this; exact this))]
theorem bothI_is {a b : VV} (ha : InV a) (hb : InV b) : IS (bothI a b).1 ∧ IS (bothI a b).2 := by
  have z : IS 0 := ⟨by decide, by decide⟩
  constructor
  · unfold bothI; dsimp only; split; exact wrap_is _; exact z
  · unfold bothI; dsimp only
    have := imin_is ha.hi hb.hi
    have := imax_is ha.hi hb.hi
    split
    · assumption
    split
    · exact ha.hi
    split
    · exact hb.hi
    split <;> assumption
theorem oneI_is {a b : VV} : IS (oneI a b).1 ∧ IS (oneI a b).2 := by
  have z : IS 0 := ⟨by decide, by decide⟩
  constructor
  · unfold oneI; dsimp only; split; exact z; exact wrap_is _
  · unfold oneI; dsimp only
    split
    · exact wrap_is _
    split
    · exact ⟨by decide, by decide⟩
    · exact wrap_is _
def iv (a : VV) : VV := ⟨-1 - a.hi, -1 - a.lo, 1, 0⟩
theorem iv_in {a : VV} (ha : InV a) : InV (iv a) := ⟨inv_is ha.hi, inv_is ha.lo, ⟨by show (0 : Int) ≤ 1; decide, by show (1 : Int) ≤ 18446744073709551615; decide⟩, ⟨by show (0 : Int) ≤ 0; decide, by show (0 : Int) ≤ 18446744073709551615; decide⟩⟩
def rand (a b : VV) : VV := vmk ((bothI a b).1, (bothI a b).2) (rdg 10 a b)
def ror (a b : VV) : VV := vmk (-1 - (bothI (iv a) (iv b)).2, -1 - (bothI (iv a) (iv b)).1) (rdg 8 a b)
def rxor (a b : VV) : VV := vmk ((oneI a b).1, (oneI a b).2) (rdg 9 a b)
set_option maxHeartbeats 8000000 in
theorem rDo16_d (x y : VV) (hx : InV x) (hy : InV y) : Den Tryz.prog 36 #[.int .i64 16, VVal x, VVal y] noFacts (VVal (bdoV 16 (vofs (mpairs 16 (bs8 (vmake x)) (bs8 (vmake y)))) (rdiv (vmake x) (vmake y)) (vmake x) (vmake y))) := by
  refine den_of_body (args := [.int .i64 16, VVal x, VVal y]) hmix Tryz.func36 ?_
  have ra := vmake_rv hx
  have rb := vmake_rv hy
  have P1 := rVPlain_d x hx
  have P2 := rVPlain_d y hy
  have O := rOne_d 0 ⟨by decide, by decide⟩
  generalize vmake x = a at *
  generalize vmake y = b at *
  have C1 := r23small_d ra
  have C2 := r23small_d rb
  by_cases na : a = vbot
  · rw [bdoV_bot (.inl na)]
    (repeat' ((conv => whnf); first | refine CallN.any _ P1 ?_ | refine CallN.any _ P2 ?_ | refine CallN.any _ O ?_ | refine CallN.any _ rBottom_d ?_ | (exfalso; exact Bool.false_ne_true ((‹veq a vbot = false›).symm.trans (veq_iff.2 na))) | refine AdN.mk _ _ rfl ?_ | refine DrawN.a (Ob.mk (by decide +kernel) ?_) | refine DrawN.c (Ob.mk (by decide +kernel) ?_) | refine DrawN.b (Ob.mk (by decide +kernel) ?_) | refine Ob.mk (by kernel_rfl) ?_ | (refine Br.mk (fun h => ?_) (fun h => ?_) <;> (first | (exfalso; exact Bool.false_ne_true h) | (exfalso; exact Bool.false_ne_true h.symm) | skip)) | refine SeqN.go ?_)); all_goals (conv => whnf)
    all_goals rfl
  by_cases nb : b = vbot
  · rw [bdoV_bot (.inr nb)]
    (repeat' ((conv => whnf); first | refine CallN.any _ P1 ?_ | refine CallN.any _ P2 ?_ | refine CallN.any _ O ?_ | refine CallN.any _ rBottom_d ?_ | (exfalso; exact Bool.false_ne_true ((‹veq b vbot = false›).symm.trans (veq_iff.2 nb))) | refine AdN.mk _ _ rfl ?_ | refine DrawN.a (Ob.mk (by decide +kernel) ?_) | refine DrawN.c (Ob.mk (by decide +kernel) ?_) | refine DrawN.b (Ob.mk (by decide +kernel) ?_) | refine Ob.mk (by kernel_rfl) ?_ | (refine Br.mk (fun h => ?_) (fun h => ?_) <;> (first | (exfalso; exact Bool.false_ne_true h) | (exfalso; exact Bool.false_ne_true h.symm) | skip)) | refine SeqN.go ?_)); all_goals (conv => whnf)
    all_goals rfl
  have Q := r23all_d 16 (by decide) a b ra rb na nb
  generalize vofs (mpairs 16 (bs8 a) (bs8 b)) = p at *
  have R := r23div_d a b ra.inn rb.inn
  generalize rdiv a b = r at *
  (repeat' ((conv => whnf); first | refine CallN.any _ P1 ?_ | refine CallN.any _ P2 ?_ | refine CallN.any _ O ?_ | refine CallN.any _ rBottom_d ?_ | refine CallN.any _ C1 ?_ | refine CallN.any _ C2 ?_ | refine CallN.any _ Q ?_ | refine CallN.any _ R ?_ | (exfalso; exact na (veq_iff.1 ‹veq a vbot = true›)) | (exfalso; exact nb (veq_iff.1 ‹veq b vbot = true›)) | refine AdN.mk _ _ rfl ?_ | refine DrawN.a (Ob.mk (by decide +kernel) ?_) | refine DrawN.c (Ob.mk (by decide +kernel) ?_) | refine DrawN.b (Ob.mk (by decide +kernel) ?_) | refine Ob.mk (by kernel_rfl) ?_ | (refine Br.mk (fun h => ?_) (fun h => ?_) <;> (first | (exfalso; exact Bool.false_ne_true h) | (exfalso; exact Bool.false_ne_true h.symm) | skip)) | refine SeqN.go ?_)); all_goals (conv => whnf)
  all_goals (clear P1 P2 O C1 C2 Q; first | rfl | (exact congrArg VVal (bdoV_zero na nb (by decide) (veq_iff.1 ‹veq b (vone 0) = true›)).symm) | (refine congrArg VVal (?_ : _ = bdoV _ p r a b); rw [bdoV_else na nb rb (by first | (intro h; omega) | (intro _ h; exact Bool.false_ne_true ((‹veq b (vone 0) = false›).symm.trans (veq_iff.2 h))))]; simp_all; done) | trace_state)
set_option maxHeartbeats 8000000 in
theorem rDo17_d (x y : VV) (hx : InV x) (hy : InV y) : Den Tryz.prog 36 #[.int .i64 17, VVal x, VVal y] noFacts (VVal (bdoV 17 (vofs (mpairs 17 (bs8 (vmake x)) (bs8 (vmake y)))) (brest (vmake x) (vmake y)) (vmake x) (vmake y))) := by
  refine den_of_body (args := [.int .i64 17, VVal x, VVal y]) hmix Tryz.func36 ?_
  have ra := vmake_rv hx
  have rb := vmake_rv hy
  have P1 := rVPlain_d x hx
  have P2 := rVPlain_d y hy
  have O := rOne_d 0 ⟨by decide, by decide⟩
  generalize vmake x = a at *
  generalize vmake y = b at *
  have C1 := r23small_d ra
  have C2 := r23small_d rb
  by_cases na : a = vbot
  · rw [bdoV_bot (.inl na)]
    (repeat' ((conv => whnf); first | refine CallN.any _ P1 ?_ | refine CallN.any _ P2 ?_ | refine CallN.any _ O ?_ | refine CallN.any _ rBottom_d ?_ | (exfalso; exact Bool.false_ne_true ((‹veq a vbot = false›).symm.trans (veq_iff.2 na))) | refine AdN.mk _ _ rfl ?_ | refine DrawN.a (Ob.mk (by decide +kernel) ?_) | refine DrawN.c (Ob.mk (by decide +kernel) ?_) | refine DrawN.b (Ob.mk (by decide +kernel) ?_) | refine Ob.mk (by kernel_rfl) ?_ | (refine Br.mk (fun h => ?_) (fun h => ?_) <;> (first | (exfalso; exact Bool.false_ne_true h) | (exfalso; exact Bool.false_ne_true h.symm) | skip)) | refine SeqN.go ?_)); all_goals (conv => whnf)
    all_goals rfl
  by_cases nb : b = vbot
  · rw [bdoV_bot (.inr nb)]
    (repeat' ((conv => whnf); first | refine CallN.any _ P1 ?_ | refine CallN.any _ P2 ?_ | refine CallN.any _ O ?_ | refine CallN.any _ rBottom_d ?_ | (exfalso; exact Bool.false_ne_true ((‹veq b vbot = false›).symm.trans (veq_iff.2 nb))) | refine AdN.mk _ _ rfl ?_ | refine DrawN.a (Ob.mk (by decide +kernel) ?_) | refine DrawN.c (Ob.mk (by decide +kernel) ?_) | refine DrawN.b (Ob.mk (by decide +kernel) ?_) | refine Ob.mk (by kernel_rfl) ?_ | (refine Br.mk (fun h => ?_) (fun h => ?_) <;> (first | (exfalso; exact Bool.false_ne_true h) | (exfalso; exact Bool.false_ne_true h.symm) | skip)) | refine SeqN.go ?_)); all_goals (conv => whnf)
    all_goals rfl
  have Q := r23all_d 17 (by decide) a b ra rb na nb
  generalize vofs (mpairs 17 (bs8 a) (bs8 b)) = p at *
  by_cases z0 : b = vone 0
  · rw [bdoV_zero na nb (by decide) z0]
    (repeat' ((conv => whnf); first | refine CallN.any _ P1 ?_ | refine CallN.any _ P2 ?_ | refine CallN.any _ O ?_ | refine CallN.any _ rBottom_d ?_ | (exfalso; exact na (veq_iff.1 ‹veq a vbot = true›)) | (exfalso; exact nb (veq_iff.1 ‹veq b vbot = true›)) | refine AdN.mk _ _ rfl ?_ | refine DrawN.a (Ob.mk (by decide +kernel) ?_) | refine DrawN.c (Ob.mk (by decide +kernel) ?_) | refine DrawN.b (Ob.mk (by decide +kernel) ?_) | refine Ob.mk (by kernel_rfl) ?_ | (refine Br.mk (fun h => ?_) (fun h => ?_) <;> (first | (exfalso; exact Bool.false_ne_true h) | (exfalso; exact Bool.false_ne_true h.symm) | (exfalso; exact Bool.false_ne_true ((‹veq b (vone 0) = false›).symm.trans (veq_iff.2 z0))) | skip)) | refine SeqN.go ?_)); all_goals (conv => whnf)
    all_goals rfl
  have h0 : b.lo < 0 ∨ 0 < b.hi := by
    have le := rb.le nb
    by_cases c : b.lo = b.hi
    · have := rv_single rb nb c
      have q : b.lo ≠ 0 := fun e => z0 (by rw [e] at this; exact this)
      omega
    · omega
  have R := r23rem_d a b ra.inn rb h0 nb
  generalize brest a b = r at *
  (repeat' ((conv => whnf); first | refine CallN.any _ P1 ?_ | refine CallN.any _ P2 ?_ | refine CallN.any _ O ?_ | refine CallN.any _ rBottom_d ?_ | refine CallN.any _ C1 ?_ | refine CallN.any _ C2 ?_ | refine CallN.any _ Q ?_ | refine CallN.any _ R ?_ | (exfalso; exact na (veq_iff.1 ‹veq a vbot = true›)) | (exfalso; exact nb (veq_iff.1 ‹veq b vbot = true›)) | refine AdN.mk _ _ rfl ?_ | refine DrawN.a (Ob.mk (by decide +kernel) ?_) | refine DrawN.c (Ob.mk (by decide +kernel) ?_) | refine DrawN.b (Ob.mk (by decide +kernel) ?_) | refine Ob.mk (by kernel_rfl) ?_ | (refine Br.mk (fun h => ?_) (fun h => ?_) <;> (first | (exfalso; exact Bool.false_ne_true h) | (exfalso; exact Bool.false_ne_true h.symm) | skip)) | refine SeqN.go ?_)); all_goals (conv => whnf)
  all_goals (clear P1 P2 O C1 C2 Q; first | rfl | (exact congrArg VVal (bdoV_zero na nb (by decide) (veq_iff.1 ‹veq b (vone 0) = true›)).symm) | (refine congrArg VVal (?_ : _ = bdoV _ p r a b); rw [bdoV_else na nb rb (by first | (intro h; omega) | (intro _ h; exact Bool.false_ne_true ((‹veq b (vone 0) = false›).symm.trans (veq_iff.2 h))))]; simp_all; done) | trace_state)
set_option maxHeartbeats 8000000 in
theorem rDo10_d (x y : VV) (hx : InV x) (hy : InV y) : Den Tryz.prog 36 #[.int .i64 10, VVal x, VVal y] noFacts (VVal (bdoV 10 (vofs (mpairs 10 (bs8 (vmake x)) (bs8 (vmake y)))) (rand (vmake x) (vmake y)) (vmake x) (vmake y))) := by
  refine den_of_body (args := [.int .i64 10, VVal x, VVal y]) hmix Tryz.func36 ?_
  have ra := vmake_rv hx
  have rb := vmake_rv hy
  have P1 := rVPlain_d x hx
  have P2 := rVPlain_d y hy
  have O := rOne_d 0 ⟨by decide, by decide⟩
  generalize vmake x = a at *
  generalize vmake y = b at *
  have C1 := r23small_d ra
  have C2 := r23small_d rb
  by_cases na : a = vbot
  · rw [bdoV_bot (.inl na)]
    (repeat' ((conv => whnf); first | refine CallN.any _ P1 ?_ | refine CallN.any _ P2 ?_ | refine CallN.any _ O ?_ | refine CallN.any _ rBottom_d ?_ | (exfalso; exact Bool.false_ne_true ((‹veq a vbot = false›).symm.trans (veq_iff.2 na))) | refine AdN.mk _ _ rfl ?_ | refine DrawN.a (Ob.mk (by decide +kernel) ?_) | refine DrawN.c (Ob.mk (by decide +kernel) ?_) | refine DrawN.b (Ob.mk (by decide +kernel) ?_) | refine Ob.mk (by kernel_rfl) ?_ | (refine Br.mk (fun h => ?_) (fun h => ?_) <;> (first | (exfalso; exact Bool.false_ne_true h) | (exfalso; exact Bool.false_ne_true h.symm) | skip)) | refine SeqN.go ?_)); all_goals (conv => whnf)
    all_goals rfl
  by_cases nb : b = vbot
  · rw [bdoV_bot (.inr nb)]
    (repeat' ((conv => whnf); first | refine CallN.any _ P1 ?_ | refine CallN.any _ P2 ?_ | refine CallN.any _ O ?_ | refine CallN.any _ rBottom_d ?_ | (exfalso; exact Bool.false_ne_true ((‹veq b vbot = false›).symm.trans (veq_iff.2 nb))) | refine AdN.mk _ _ rfl ?_ | refine DrawN.a (Ob.mk (by decide +kernel) ?_) | refine DrawN.c (Ob.mk (by decide +kernel) ?_) | refine DrawN.b (Ob.mk (by decide +kernel) ?_) | refine Ob.mk (by kernel_rfl) ?_ | (refine Br.mk (fun h => ?_) (fun h => ?_) <;> (first | (exfalso; exact Bool.false_ne_true h) | (exfalso; exact Bool.false_ne_true h.symm) | skip)) | refine SeqN.go ?_)); all_goals (conv => whnf)
    all_goals rfl
  have Q := r23all_d 10 (by decide) a b ra rb na nb
  generalize vofs (mpairs 10 (bs8 a) (bs8 b)) = p at *
  have bi := bothI_is ra.inn rb.inn
  have A := r23and_d a b ra.inn rb.inn
  have G := r23digital_d 10 (by decide) a b ra.inn rb.inn _ _ bi.1 bi.2
  change Den _ _ _ _ (VVal (rand a b)) at G
  generalize rand a b = r at *
  generalize bothI a b = bb at *
  (repeat' ((conv => whnf); first | refine CallN.any _ P1 ?_ | refine CallN.any _ P2 ?_ | refine CallN.any _ O ?_ | refine CallN.any _ rBottom_d ?_ | refine CallN.any _ C1 ?_ | refine CallN.any _ C2 ?_ | refine CallN.any _ Q ?_ | refine CallN.any _ A ?_ | refine CallN.any _ G ?_ | (exfalso; exact na (veq_iff.1 ‹veq a vbot = true›)) | (exfalso; exact nb (veq_iff.1 ‹veq b vbot = true›)) | refine AdN.mk _ _ rfl ?_ | refine DrawN.a (Ob.mk (by decide +kernel) ?_) | refine DrawN.c (Ob.mk (by decide +kernel) ?_) | refine DrawN.b (Ob.mk (by decide +kernel) ?_) | refine Ob.mk (by kernel_rfl) ?_ | (refine Br.mk (fun h => ?_) (fun h => ?_) <;> (first | (exfalso; exact Bool.false_ne_true h) | (exfalso; exact Bool.false_ne_true h.symm) | skip)) | refine SeqN.go ?_)); all_goals (conv => whnf)
  all_goals (clear P1 P2 O C1 C2 Q; first | rfl | (exact congrArg VVal (bdoV_zero na nb (by decide) (veq_iff.1 ‹veq b (vone 0) = true›)).symm) | (refine congrArg VVal (?_ : _ = bdoV _ p r a b); rw [bdoV_else na nb rb (by first | (intro h; omega) | (intro _ h; exact Bool.false_ne_true ((‹veq b (vone 0) = false›).symm.trans (veq_iff.2 h))))]; simp_all; done) | trace_state)
set_option maxHeartbeats 8000000 in
theorem rDo8_d (x y : VV) (hx : InV x) (hy : InV y) : Den Tryz.prog 36 #[.int .i64 8, VVal x, VVal y] noFacts (VVal (bdoV 8 (vofs (mpairs 8 (bs8 (vmake x)) (bs8 (vmake y)))) (ror (vmake x) (vmake y)) (vmake x) (vmake y))) := by
  refine den_of_body (args := [.int .i64 8, VVal x, VVal y]) hmix Tryz.func36 ?_
  have ra := vmake_rv hx
  have rb := vmake_rv hy
  have P1 := rVPlain_d x hx
  have P2 := rVPlain_d y hy
  have O := rOne_d 0 ⟨by decide, by decide⟩
  generalize vmake x = a at *
  generalize vmake y = b at *
  have C1 := r23small_d ra
  have C2 := r23small_d rb
  by_cases na : a = vbot
  · rw [bdoV_bot (.inl na)]
    (repeat' ((conv => whnf); first | refine CallN.any _ P1 ?_ | refine CallN.any _ P2 ?_ | refine CallN.any _ O ?_ | refine CallN.any _ rBottom_d ?_ | (exfalso; exact Bool.false_ne_true ((‹veq a vbot = false›).symm.trans (veq_iff.2 na))) | refine AdN.mk _ _ rfl ?_ | refine DrawN.a (Ob.mk (by decide +kernel) ?_) | refine DrawN.c (Ob.mk (by decide +kernel) ?_) | refine DrawN.b (Ob.mk (by decide +kernel) ?_) | refine Ob.mk (by kernel_rfl) ?_ | (refine Br.mk (fun h => ?_) (fun h => ?_) <;> (first | (exfalso; exact Bool.false_ne_true h) | (exfalso; exact Bool.false_ne_true h.symm) | skip)) | refine SeqN.go ?_)); all_goals (conv => whnf)
    all_goals rfl
  by_cases nb : b = vbot
  · rw [bdoV_bot (.inr nb)]
    (repeat' ((conv => whnf); first | refine CallN.any _ P1 ?_ | refine CallN.any _ P2 ?_ | refine CallN.any _ O ?_ | refine CallN.any _ rBottom_d ?_ | (exfalso; exact Bool.false_ne_true ((‹veq b vbot = false›).symm.trans (veq_iff.2 nb))) | refine AdN.mk _ _ rfl ?_ | refine DrawN.a (Ob.mk (by decide +kernel) ?_) | refine DrawN.c (Ob.mk (by decide +kernel) ?_) | refine DrawN.b (Ob.mk (by decide +kernel) ?_) | refine Ob.mk (by kernel_rfl) ?_ | (refine Br.mk (fun h => ?_) (fun h => ?_) <;> (first | (exfalso; exact Bool.false_ne_true h) | (exfalso; exact Bool.false_ne_true h.symm) | skip)) | refine SeqN.go ?_)); all_goals (conv => whnf)
    all_goals rfl
  have Q := r23all_d 8 (by decide) a b ra rb na nb
  generalize vofs (mpairs 8 (bs8 a) (bs8 b)) = p at *
  have bi := bothI_is (iv_in ra.inn) (iv_in rb.inn)
  have I1 := r23inv_d a.lo a.hi ra.inn.lo ra.inn.hi
  have I2 := r23inv_d b.lo b.hi rb.inn.lo rb.inn.hi
  have A := r23and_d (iv a) (iv b) (iv_in ra.inn) (iv_in rb.inn)
  change Den _ _ #[.agg #[.int .i64 (-1 - a.hi), .int .i64 (-1 - a.lo)], .agg #[.int .i64 (-1 - b.hi), .int .i64 (-1 - b.lo)]] _ _ at A
  have I3 := r23inv_d _ _ bi.1 bi.2
  have G := r23digital_d 8 (by decide) a b ra.inn rb.inn _ _ (inv_is bi.2) (inv_is bi.1)
  change Den _ _ _ _ (VVal (ror a b)) at G
  generalize ror a b = r at *
  generalize bothI (iv a) (iv b) = bb at *
  (repeat' ((conv => whnf); first | refine CallN.any _ P1 ?_ | refine CallN.any _ P2 ?_ | refine CallN.any _ O ?_ | refine CallN.any _ rBottom_d ?_ | refine CallN.any _ C1 ?_ | refine CallN.any _ C2 ?_ | refine CallN.any _ Q ?_ | refine CallN.any _ I1 ?_ | refine CallN.any _ I2 ?_ | refine CallN.any _ A ?_ | refine CallN.any _ I3 ?_ | refine CallN.any _ G ?_ | (exfalso; exact na (veq_iff.1 ‹veq a vbot = true›)) | (exfalso; exact nb (veq_iff.1 ‹veq b vbot = true›)) | refine AdN.mk _ _ rfl ?_ | refine DrawN.a (Ob.mk (by decide +kernel) ?_) | refine DrawN.c (Ob.mk (by decide +kernel) ?_) | refine DrawN.b (Ob.mk (by decide +kernel) ?_) | refine Ob.mk (by kernel_rfl) ?_ | (refine Br.mk (fun h => ?_) (fun h => ?_) <;> (first | (exfalso; exact Bool.false_ne_true h) | (exfalso; exact Bool.false_ne_true h.symm) | skip)) | refine SeqN.go ?_)); all_goals (conv => whnf)
  all_goals (clear P1 P2 O C1 C2 Q; first | rfl | (exact congrArg VVal (bdoV_zero na nb (by decide) (veq_iff.1 ‹veq b (vone 0) = true›)).symm) | (refine congrArg VVal (?_ : _ = bdoV _ p r a b); rw [bdoV_else na nb rb (by first | (intro h; omega) | (intro _ h; exact Bool.false_ne_true ((‹veq b (vone 0) = false›).symm.trans (veq_iff.2 h))))]; simp_all; done) | trace_state)
set_option maxHeartbeats 8000000 in
theorem rDo9_d (x y : VV) (hx : InV x) (hy : InV y) : Den Tryz.prog 36 #[.int .i64 9, VVal x, VVal y] noFacts (VVal (bdoV 9 (vofs (mpairs 9 (bs8 (vmake x)) (bs8 (vmake y)))) (rxor (vmake x) (vmake y)) (vmake x) (vmake y))) := by
  refine den_of_body (args := [.int .i64 9, VVal x, VVal y]) hmix Tryz.func36 ?_
  have ra := vmake_rv hx
  have rb := vmake_rv hy
  have P1 := rVPlain_d x hx
  have P2 := rVPlain_d y hy
  have O := rOne_d 0 ⟨by decide, by decide⟩
  generalize vmake x = a at *
  generalize vmake y = b at *
  have C1 := r23small_d ra
  have C2 := r23small_d rb
  by_cases na : a = vbot
  · rw [bdoV_bot (.inl na)]
    (repeat' ((conv => whnf); first | refine CallN.any _ P1 ?_ | refine CallN.any _ P2 ?_ | refine CallN.any _ O ?_ | refine CallN.any _ rBottom_d ?_ | (exfalso; exact Bool.false_ne_true ((‹veq a vbot = false›).symm.trans (veq_iff.2 na))) | refine AdN.mk _ _ rfl ?_ | refine DrawN.a (Ob.mk (by decide +kernel) ?_) | refine DrawN.c (Ob.mk (by decide +kernel) ?_) | refine DrawN.b (Ob.mk (by decide +kernel) ?_) | refine Ob.mk (by kernel_rfl) ?_ | (refine Br.mk (fun h => ?_) (fun h => ?_) <;> (first | (exfalso; exact Bool.false_ne_true h) | (exfalso; exact Bool.false_ne_true h.symm) | skip)) | refine SeqN.go ?_)); all_goals (conv => whnf)
    all_goals rfl
  by_cases nb : b = vbot
  · rw [bdoV_bot (.inr nb)]
    (repeat' ((conv => whnf); first | refine CallN.any _ P1 ?_ | refine CallN.any _ P2 ?_ | refine CallN.any _ O ?_ | refine CallN.any _ rBottom_d ?_ | (exfalso; exact Bool.false_ne_true ((‹veq b vbot = false›).symm.trans (veq_iff.2 nb))) | refine AdN.mk _ _ rfl ?_ | refine DrawN.a (Ob.mk (by decide +kernel) ?_) | refine DrawN.c (Ob.mk (by decide +kernel) ?_) | refine DrawN.b (Ob.mk (by decide +kernel) ?_) | refine Ob.mk (by kernel_rfl) ?_ | (refine Br.mk (fun h => ?_) (fun h => ?_) <;> (first | (exfalso; exact Bool.false_ne_true h) | (exfalso; exact Bool.false_ne_true h.symm) | skip)) | refine SeqN.go ?_)); all_goals (conv => whnf)
    all_goals rfl
  have Q := r23all_d 9 (by decide) a b ra rb na nb
  generalize vofs (mpairs 9 (bs8 a) (bs8 b)) = p at *
  have A := r23xor_d a b ra.inn rb.inn
  have G := r23digital_d 9 (by decide) a b ra.inn rb.inn _ _ (oneI_is (a := a) (b := b)).1 (oneI_is (a := a) (b := b)).2
  change Den _ _ _ _ (VVal (rxor a b)) at G
  generalize rxor a b = r at *
  generalize oneI a b = bb at *
  (repeat' ((conv => whnf); first | refine CallN.any _ P1 ?_ | refine CallN.any _ P2 ?_ | refine CallN.any _ O ?_ | refine CallN.any _ rBottom_d ?_ | refine CallN.any _ C1 ?_ | refine CallN.any _ C2 ?_ | refine CallN.any _ Q ?_ | refine CallN.any _ A ?_ | refine CallN.any _ G ?_ | (exfalso; exact na (veq_iff.1 ‹veq a vbot = true›)) | (exfalso; exact nb (veq_iff.1 ‹veq b vbot = true›)) | refine AdN.mk _ _ rfl ?_ | refine DrawN.a (Ob.mk (by decide +kernel) ?_) | refine DrawN.c (Ob.mk (by decide +kernel) ?_) | refine DrawN.b (Ob.mk (by decide +kernel) ?_) | refine Ob.mk (by kernel_rfl) ?_ | (refine Br.mk (fun h => ?_) (fun h => ?_) <;> (first | (exfalso; exact Bool.false_ne_true h) | (exfalso; exact Bool.false_ne_true h.symm) | skip)) | refine SeqN.go ?_)); all_goals (conv => whnf)
  all_goals (clear P1 P2 O C1 C2 Q; first | rfl | (exact congrArg VVal (bdoV_zero na nb (by decide) (veq_iff.1 ‹veq b (vone 0) = true›)).symm) | (refine congrArg VVal (?_ : _ = bdoV _ p r a b); rw [bdoV_else na nb rb (by first | (intro h; omega) | (intro _ h; exact Bool.false_ne_true ((‹veq b (vone 0) = false›).symm.trans (veq_iff.2 h))))]; simp_all; done) | trace_state)
/-! The reference of bitop: Do at shifts, One. -/
def rshl (a b : VV) : VV := vjoins ((cntI (rmet b) 64).map fun k => bup a k.val)
def rshr (a b : VV) : VV := vjoins ((cntI (rmet b) 64).map fun k => bdown a k.val)
theorem fin_at {l : List (Fin 64)} {i : Nat} (h : i < (l.map fun k => (k.val : Int)).length) : ∃ q : Fin 64, (l.map fun k => (k.val : Int)).getD i 0 = (q.val : Int) ∧ l.take (i + 1) = l.take i ++ [q] := by
  rw [List.length_map] at h
  refine ⟨l[i], ?_, ?_⟩
  · simp [List.getD, h]
  · rw [List.take_add_one, List.getElem?_eq_getElem h]; rfl
theorem vjoins_snoc (L : List VV) {v : VV} (h : RV v) : vjoins (L ++ [v]) = vjoin (vjoins L) v := by
  unfold vjoins
  rw [List.foldl_append]
  show vjoin _ (vmake v) = _
  rw [h.fix]
theorem joins_rv {l : List (Fin 64)} {f : Fin 64 → VV} (h : ∀ q, RV (f q)) : RV (vjoins (l.map f)) := vjoins_rv fun p hp => by obtain ⟨k, _, rfl⟩ := List.mem_map.1 hp; exact h k
set_option maxHeartbeats 8000000 in
theorem rDo11_d (x y : VV) (hx : InV x) (hy : InV y) : Den Tryz.prog 36 #[.int .i64 11, VVal x, VVal y] noFacts (VVal (bdoV 11 (vofs (mpairs 11 (bs8 (vmake x)) (bs8 (vmake y)))) (rshl (vmake x) (vmake y)) (vmake x) (vmake y))) := by
  refine den_of_body (args := [.int .i64 11, VVal x, VVal y]) hmix Tryz.func36 ?_
  have ra := vmake_rv hx
  have rb := vmake_rv hy
  have P1 := rVPlain_d x hx
  have P2 := rVPlain_d y hy
  have O := rOne_d 0 ⟨by decide, by decide⟩
  generalize vmake x = a at *
  generalize vmake y = b at *
  have C1 := r23small_d ra
  have C2 := r23small_d rb
  by_cases na : a = vbot
  · rw [bdoV_bot (.inl na)]
    (repeat' ((conv => whnf); first | refine CallN.any _ P1 ?_ | refine CallN.any _ P2 ?_ | refine CallN.any _ O ?_ | refine CallN.any _ rBottom_d ?_ | (exfalso; exact Bool.false_ne_true ((‹veq a vbot = false›).symm.trans (veq_iff.2 na))) | refine AdN.mk _ _ rfl ?_ | refine DrawN.a (Ob.mk (by decide +kernel) ?_) | refine DrawN.c (Ob.mk (by decide +kernel) ?_) | refine DrawN.b (Ob.mk (by decide +kernel) ?_) | refine Ob.mk (by kernel_rfl) ?_ | (refine Br.mk (fun h => ?_) (fun h => ?_) <;> (first | (exfalso; exact Bool.false_ne_true h) | (exfalso; exact Bool.false_ne_true h.symm) | skip)) | refine SeqN.go ?_)); all_goals (conv => whnf)
    all_goals rfl
  by_cases nb : b = vbot
  · rw [bdoV_bot (.inr nb)]
    (repeat' ((conv => whnf); first | refine CallN.any _ P1 ?_ | refine CallN.any _ P2 ?_ | refine CallN.any _ O ?_ | refine CallN.any _ rBottom_d ?_ | (exfalso; exact Bool.false_ne_true ((‹veq b vbot = false›).symm.trans (veq_iff.2 nb))) | refine AdN.mk _ _ rfl ?_ | refine DrawN.a (Ob.mk (by decide +kernel) ?_) | refine DrawN.c (Ob.mk (by decide +kernel) ?_) | refine DrawN.b (Ob.mk (by decide +kernel) ?_) | refine Ob.mk (by kernel_rfl) ?_ | (refine Br.mk (fun h => ?_) (fun h => ?_) <;> (first | (exfalso; exact Bool.false_ne_true h) | (exfalso; exact Bool.false_ne_true h.symm) | skip)) | refine SeqN.go ?_)); all_goals (conv => whnf)
    all_goals rfl
  have Q := r23all_d 11 (by decide) a b ra rb na nb
  generalize vofs (mpairs 11 (bs8 a) (bs8 b)) = p at *
  have CN := r23counts_f b rb nb
  rw [bdoV_else na nb rb (by intro h; omega)]
  have ll : (cntZ (rmet b) 64).length ≤ 64 := cntZ_len (Nat.le_refl _)
  by_cases sm : (bsmall a && bsmall b) = true
  · rw [if_pos sm]
    (repeat' ((conv => whnf); first | refine CallN.any _ P1 ?_ | refine CallN.any _ P2 ?_ | refine CallN.any _ O ?_ | refine CallN.any _ rBottom_d ?_ | refine CallN.any _ C1 ?_ | refine CallN.any _ C2 ?_ | refine CallN.any _ Q ?_ | (exfalso; exact na (veq_iff.1 ‹veq a vbot = true›)) | (exfalso; exact nb (veq_iff.1 ‹veq b vbot = true›)) | refine AdN.mk _ _ rfl ?_ | refine DrawN.a (Ob.mk (by decide +kernel) ?_) | refine DrawN.c (Ob.mk (by decide +kernel) ?_) | refine DrawN.b (Ob.mk (by decide +kernel) ?_) | refine Ob.mk (by kernel_rfl) ?_ | (refine Br.mk (fun h => ?_) (fun h => ?_) <;> (first | (exfalso; exact Bool.false_ne_true h) | (exfalso; exact Bool.false_ne_true h.symm) | (exfalso; simp_all; done) | skip)) | refine SeqN.go ?_)); all_goals (conv => whnf)
    all_goals rfl
  · rw [if_neg sm]
    unfold rshl
    unfold cntZ at CN ll
    generalize cntI (rmet b) 64 = l at *
    have fa := @fin_at l
    have RJ : ∀ i, RV (vjoins ((l.take i).map fun k => bup a k.val)) := fun i => joins_rv fun q => bup_rv ra q.val
    generalize hL : (l.map fun k => (k.val : Int)) = L at *
    (repeat' ((conv => whnf); first | refine CallN.any _ P1 ?_ | refine CallN.any _ P2 ?_ | refine CallN.any _ O ?_ | refine CallN.any _ rBottom_d ?_ | refine CallN.any _ C1 ?_ | refine CallN.any _ C2 ?_ | refine CallN.anyFresh _ _ CN ?_ | (exfalso; exact na (veq_iff.1 ‹veq a vbot = true›)) | (exfalso; exact nb (veq_iff.1 ‹veq b vbot = true›)) | refine SeqN.go ?_ | refine AdN.mk _ _ rfl ?_ | refine DrawN.a (Ob.mk (by decide +kernel) ?_) | refine DrawN.c (Ob.mk (by decide +kernel) ?_) | refine DrawN.b (Ob.mk (by decide +kernel) ?_) | refine Ob.mk (by kernel_rfl) ?_ | (refine Br.mk (fun h => ?_) (fun h => ?_) <;> (first | (exfalso; exact Bool.false_ne_true h) | (exfalso; exact Bool.false_ne_true h.symm) | (exfalso; simp_all; done) | skip)))); all_goals (conv => whnf)
    all_goals
      refine LoopN.mk {i : Nat // i ≤ L.length} (fun i => [(12, .v (.int .i64 i.1))]) (fun i => [.cells ((VC x).map .v), .cells ((VC y).map .v), .cells [.junk, .junk, .junk, .junk], .cells ((VC a).map .v), .cells ((VC b).map .v), .row 3 1 L.length (ICs L), .cells ((VC (vjoins ((l.take i.1).map fun k => bup a k.val))).map .v)]) (fun i => L.length - i.1) ⟨0, Nat.zero_le _⟩ ?_ ?_
      · (conv => whnf); (repeat' (first | exact True.intro | exact rfl | refine And.intro ?_ ?_ | decide))
      (conv => whnf)
      rintro ⟨i, hi⟩
      dsimp only at hi ⊢
      by_cases hil : i < L.length
      · have oi : 0 ≤ (i : Int) ∧ (i : Int) < (L.length : Int) := ⟨Int.natCast_nonneg _, Int.ofNat_lt.2 hil⟩
        obtain ⟨q, q1, q2⟩ := fa hil
        have U := r23up_d a ra q.val q.isLt
        rw [← q1] at U
        have ej : vjoins ((l.take (i + 1)).map fun k => bup a k.val) = vjoin (vjoins ((l.take i).map fun k => bup a k.val)) (bup a q.val) := by
          rw [q2, List.map_append]
          exact vjoins_snoc _ (bup_rv ra q.val)
        have J := rJoinV_d (RJ i) (bup_rv ra q.val)
        generalize bup a q.val = w at *
        (repeat' ((conv => whnf); first | refine CallN.any _ U ?_ | refine CallN.any _ J ?_ | refine Ob.mk oi ?_ | refine rowIL i rfl hil ?_ | refine AdN.mk _ _ rfl ?_ | refine DrawN.a (Ob.mk (by decide +kernel) ?_) | refine DrawN.c (Ob.mk (by decide +kernel) ?_) | refine DrawN.b (Ob.mk (by decide +kernel) ?_) | refine Ob.mk (by kernel_rfl) ?_ | (refine Br.mk (fun h => ?_) (fun h => ?_) <;> (first | (exfalso; exact Bool.false_ne_true h) | (exfalso; exact Bool.false_ne_true h.symm) | (exfalso; exact absurd (Int.ofNat_lt.2 hil) (of_decide_eq_false ‹_›)) | (exfalso; simp_all; done) | skip)) | refine SeqN.go ?_)); all_goals (conv => whnf)
        all_goals (refine RoundN.mk ⟨i + 1, hil⟩ (Nat.sub_succ_lt_self _ _ hil) ?_; (conv => whnf); (repeat' (first | exact True.intro | exact rfl | refine And.intro ?_ ?_ | decide)))
        all_goals first | exact congrArg (Value.int _) (wi8 hil (by omega)) | (dsimp only; rw [ej]; exact rfl) | trace_state
      · obtain rfl : i = L.length := by omega
        have lt : l.take L.length = l := by rw [← hL, List.length_map, List.take_length]
        rw [lt]
        (repeat' ((conv => whnf); first | refine AdN.mk _ _ rfl ?_ | refine DrawN.a (Ob.mk (by decide +kernel) ?_) | refine DrawN.c (Ob.mk (by decide +kernel) ?_) | refine DrawN.b (Ob.mk (by decide +kernel) ?_) | refine Ob.mk (by kernel_rfl) ?_ | (refine Br.mk (fun h => ?_) (fun h => ?_) <;> (first | (exfalso; exact Bool.false_ne_true h) | (exfalso; exact Bool.false_ne_true h.symm) | (exfalso; exact absurd (Int.ofNat_lt.1 (of_decide_eq_true ‹_›)) hil) | skip)) | refine SeqN.go ?_)); all_goals (conv => whnf)
        all_goals rfl
set_option maxHeartbeats 8000000 in
theorem rDo12_d (x y : VV) (hx : InV x) (hy : InV y) : Den Tryz.prog 36 #[.int .i64 12, VVal x, VVal y] noFacts (VVal (bdoV 12 (vofs (mpairs 12 (bs8 (vmake x)) (bs8 (vmake y)))) (rshr (vmake x) (vmake y)) (vmake x) (vmake y))) := by
  refine den_of_body (args := [.int .i64 12, VVal x, VVal y]) hmix Tryz.func36 ?_
  have ra := vmake_rv hx
  have rb := vmake_rv hy
  have P1 := rVPlain_d x hx
  have P2 := rVPlain_d y hy
  have O := rOne_d 0 ⟨by decide, by decide⟩
  generalize vmake x = a at *
  generalize vmake y = b at *
  have C1 := r23small_d ra
  have C2 := r23small_d rb
  by_cases na : a = vbot
  · rw [bdoV_bot (.inl na)]
    (repeat' ((conv => whnf); first | refine CallN.any _ P1 ?_ | refine CallN.any _ P2 ?_ | refine CallN.any _ O ?_ | refine CallN.any _ rBottom_d ?_ | (exfalso; exact Bool.false_ne_true ((‹veq a vbot = false›).symm.trans (veq_iff.2 na))) | refine AdN.mk _ _ rfl ?_ | refine DrawN.a (Ob.mk (by decide +kernel) ?_) | refine DrawN.c (Ob.mk (by decide +kernel) ?_) | refine DrawN.b (Ob.mk (by decide +kernel) ?_) | refine Ob.mk (by kernel_rfl) ?_ | (refine Br.mk (fun h => ?_) (fun h => ?_) <;> (first | (exfalso; exact Bool.false_ne_true h) | (exfalso; exact Bool.false_ne_true h.symm) | skip)) | refine SeqN.go ?_)); all_goals (conv => whnf)
    all_goals rfl
  by_cases nb : b = vbot
  · rw [bdoV_bot (.inr nb)]
    (repeat' ((conv => whnf); first | refine CallN.any _ P1 ?_ | refine CallN.any _ P2 ?_ | refine CallN.any _ O ?_ | refine CallN.any _ rBottom_d ?_ | (exfalso; exact Bool.false_ne_true ((‹veq b vbot = false›).symm.trans (veq_iff.2 nb))) | refine AdN.mk _ _ rfl ?_ | refine DrawN.a (Ob.mk (by decide +kernel) ?_) | refine DrawN.c (Ob.mk (by decide +kernel) ?_) | refine DrawN.b (Ob.mk (by decide +kernel) ?_) | refine Ob.mk (by kernel_rfl) ?_ | (refine Br.mk (fun h => ?_) (fun h => ?_) <;> (first | (exfalso; exact Bool.false_ne_true h) | (exfalso; exact Bool.false_ne_true h.symm) | skip)) | refine SeqN.go ?_)); all_goals (conv => whnf)
    all_goals rfl
  have Q := r23all_d 12 (by decide) a b ra rb na nb
  generalize vofs (mpairs 12 (bs8 a) (bs8 b)) = p at *
  have CN := r23counts_f b rb nb
  rw [bdoV_else na nb rb (by intro h; omega)]
  have ll : (cntZ (rmet b) 64).length ≤ 64 := cntZ_len (Nat.le_refl _)
  by_cases sm : (bsmall a && bsmall b) = true
  · rw [if_pos sm]
    (repeat' ((conv => whnf); first | refine CallN.any _ P1 ?_ | refine CallN.any _ P2 ?_ | refine CallN.any _ O ?_ | refine CallN.any _ rBottom_d ?_ | refine CallN.any _ C1 ?_ | refine CallN.any _ C2 ?_ | refine CallN.any _ Q ?_ | (exfalso; exact na (veq_iff.1 ‹veq a vbot = true›)) | (exfalso; exact nb (veq_iff.1 ‹veq b vbot = true›)) | refine AdN.mk _ _ rfl ?_ | refine DrawN.a (Ob.mk (by decide +kernel) ?_) | refine DrawN.c (Ob.mk (by decide +kernel) ?_) | refine DrawN.b (Ob.mk (by decide +kernel) ?_) | refine Ob.mk (by kernel_rfl) ?_ | (refine Br.mk (fun h => ?_) (fun h => ?_) <;> (first | (exfalso; exact Bool.false_ne_true h) | (exfalso; exact Bool.false_ne_true h.symm) | (exfalso; simp_all; done) | skip)) | refine SeqN.go ?_)); all_goals (conv => whnf)
    all_goals rfl
  · rw [if_neg sm]
    unfold rshr
    unfold cntZ at CN ll
    generalize cntI (rmet b) 64 = l at *
    have fa := @fin_at l
    have RJ : ∀ i, RV (vjoins ((l.take i).map fun k => bdown a k.val)) := fun i => joins_rv fun q => bdown_rv ra q.val
    generalize hL : (l.map fun k => (k.val : Int)) = L at *
    (repeat' ((conv => whnf); first | refine CallN.any _ P1 ?_ | refine CallN.any _ P2 ?_ | refine CallN.any _ O ?_ | refine CallN.any _ rBottom_d ?_ | refine CallN.any _ C1 ?_ | refine CallN.any _ C2 ?_ | refine CallN.anyFresh _ _ CN ?_ | (exfalso; exact na (veq_iff.1 ‹veq a vbot = true›)) | (exfalso; exact nb (veq_iff.1 ‹veq b vbot = true›)) | refine SeqN.go ?_ | refine AdN.mk _ _ rfl ?_ | refine DrawN.a (Ob.mk (by decide +kernel) ?_) | refine DrawN.c (Ob.mk (by decide +kernel) ?_) | refine DrawN.b (Ob.mk (by decide +kernel) ?_) | refine Ob.mk (by kernel_rfl) ?_ | (refine Br.mk (fun h => ?_) (fun h => ?_) <;> (first | (exfalso; exact Bool.false_ne_true h) | (exfalso; exact Bool.false_ne_true h.symm) | (exfalso; simp_all; done) | skip)))); all_goals (conv => whnf)
    all_goals
      refine LoopN.mk {i : Nat // i ≤ L.length} (fun i => [(12, .v (.int .i64 i.1))]) (fun i => [.cells ((VC x).map .v), .cells ((VC y).map .v), .cells [.junk, .junk, .junk, .junk], .cells ((VC a).map .v), .cells ((VC b).map .v), .row 3 1 L.length (ICs L), .cells ((VC (vjoins ((l.take i.1).map fun k => bdown a k.val))).map .v)]) (fun i => L.length - i.1) ⟨0, Nat.zero_le _⟩ ?_ ?_
      · (conv => whnf); (repeat' (first | exact True.intro | exact rfl | refine And.intro ?_ ?_ | decide))
      (conv => whnf)
      rintro ⟨i, hi⟩
      dsimp only at hi ⊢
      by_cases hil : i < L.length
      · have oi : 0 ≤ (i : Int) ∧ (i : Int) < (L.length : Int) := ⟨Int.natCast_nonneg _, Int.ofNat_lt.2 hil⟩
        obtain ⟨q, q1, q2⟩ := fa hil
        have U := r23down_d a ra q.val q.isLt
        rw [← q1] at U
        have ej : vjoins ((l.take (i + 1)).map fun k => bdown a k.val) = vjoin (vjoins ((l.take i).map fun k => bdown a k.val)) (bdown a q.val) := by
          rw [q2, List.map_append]
          exact vjoins_snoc _ (bdown_rv ra q.val)
        have J := rJoinV_d (RJ i) (bdown_rv ra q.val)
        generalize bdown a q.val = w at *
        (repeat' ((conv => whnf); first | refine CallN.any _ U ?_ | refine CallN.any _ J ?_ | refine Ob.mk oi ?_ | refine rowIL i rfl hil ?_ | refine AdN.mk _ _ rfl ?_ | refine DrawN.a (Ob.mk (by decide +kernel) ?_) | refine DrawN.c (Ob.mk (by decide +kernel) ?_) | refine DrawN.b (Ob.mk (by decide +kernel) ?_) | refine Ob.mk (by kernel_rfl) ?_ | (refine Br.mk (fun h => ?_) (fun h => ?_) <;> (first | (exfalso; exact Bool.false_ne_true h) | (exfalso; exact Bool.false_ne_true h.symm) | (exfalso; exact absurd (Int.ofNat_lt.2 hil) (of_decide_eq_false ‹_›)) | (exfalso; simp_all; done) | skip)) | refine SeqN.go ?_)); all_goals (conv => whnf)
        all_goals (refine RoundN.mk ⟨i + 1, hil⟩ (Nat.sub_succ_lt_self _ _ hil) ?_; (conv => whnf); (repeat' (first | exact True.intro | exact rfl | refine And.intro ?_ ?_ | decide)))
        all_goals first | exact congrArg (Value.int _) (wi8 hil (by omega)) | (dsimp only; rw [ej]; exact rfl) | trace_state
      · obtain rfl : i = L.length := by omega
        have lt : l.take L.length = l := by rw [← hL, List.length_map, List.take_length]
        rw [lt]
        (repeat' ((conv => whnf); first | refine AdN.mk _ _ rfl ?_ | refine DrawN.a (Ob.mk (by decide +kernel) ?_) | refine DrawN.c (Ob.mk (by decide +kernel) ?_) | refine DrawN.b (Ob.mk (by decide +kernel) ?_) | refine Ob.mk (by kernel_rfl) ?_ | (refine Br.mk (fun h => ?_) (fun h => ?_) <;> (first | (exfalso; exact Bool.false_ne_true h) | (exfalso; exact Bool.false_ne_true h.symm) | (exfalso; exact absurd (Int.ofNat_lt.1 (of_decide_eq_true ‹_›)) hil) | skip)) | refine SeqN.go ?_)); all_goals (conv => whnf)
        all_goals rfl
set_option maxHeartbeats 8000000 in
theorem rDoN_d (op : Int) (x y : VV) (hx : InV x) (hy : InV y) (h : ¬ bop op) : Den Tryz.prog 36 #[.int .i64 op, VVal x, VVal y] noFacts (VVal vtop) := by
  refine den_of_body (args := [.int .i64 op, VVal x, VVal y]) hmix Tryz.func36 ?_
  have P1 := rVPlain_d x hx
  have P2 := rVPlain_d y hy
  unfold bop at h
  (repeat' ((conv => whnf); first | refine CallN.any _ P1 ?_ | refine CallN.any _ P2 ?_ | refine CallN.any _ rTop_d ?_ | refine AdN.mk _ _ rfl ?_ | refine DrawN.a (Ob.mk (by decide +kernel) ?_) | refine DrawN.c (Ob.mk (by decide +kernel) ?_) | refine DrawN.b (Ob.mk (by decide +kernel) ?_) | refine Ob.mk (by kernel_rfl) ?_ | (refine Br.mk (fun h => ?_) (fun h => ?_) <;> (first | (exfalso; exact Bool.false_ne_true h) | (exfalso; exact Bool.false_ne_true h.symm) | (exfalso; have q : (!(op == 17)) = false := ‹_›; rw [Bool.not_eq_false'] at q; have q2 := beq_iff_eq.1 q; omega) | (exfalso; have q := beq_iff_eq.1 ‹(op == 16) = true›; omega) | (exfalso; have q1 := of_decide_eq_false ‹decide (op < 8) = false›; have q2 := of_decide_eq_false ‹decide (op > 12) = false›; omega) | skip)) | refine SeqN.go ?_)); all_goals (conv => whnf)
  all_goals first | rfl | trace_state
/-- One. -/
def rone (op : Int) (a : VV) : VV :=
  if a = vbot then vbot else if op = 20 then vmk (-1 - a.hi, -1 - a.lo) (csub 0 (us (-1)) a.m a.r)
  else if op = 19 then (if a = vone 0 then vone 1 else if vhas a 0 then ⟨0, 1, 1, 0⟩ else vone 0) else vtop
set_option maxHeartbeats 8000000 in
theorem r23One_d (op : Int) (x : VV) (hx : InV x) : Den Tryz.prog 38 #[.int .i64 op, VVal x] noFacts (VVal (rone op (vmake x))) := by
  refine den_of_body (args := [.int .i64 op, VVal x]) hmix Tryz.func38 ?_
  have ra := vmake_rv hx
  have P1 := rVPlain_d x hx
  have O := rOne_d 0 ⟨by decide, by decide⟩
  have O1 := rOne_d 1 ⟨by decide, by decide⟩
  generalize vmake x = a at *
  have ha := ra.inn
  have H := rVHas_d a 0 ra.red ⟨by decide, by decide⟩
  have I := r23inv_d a.lo a.hi ha.lo ha.hi
  have C := den_of (F := noFacts) fun w => rmake_c 0 (-1) w (by decide) (by decide) (by decide) (by decide)
  rw [show cmake 0 (-1) = us (-1) from rfl] at C
  have S := den_of (F := noFacts) fun W => rsub_c 0 (us (-1)) a.m a.r W (by decide) (by decide) (us_rng (-1)).1 (us_rng (-1)).2 ha.m.1 ha.m.2 ha.r.1 ha.r.2
  have ci := csub_in (am := 0) (ar := us (-1)) (by decide) (by decide) (us_rng (-1)).1 (us_rng (-1)).2 ha.m.1 ha.m.2 ha.r.1 ha.r.2
  have M := rMake_e _ _ _ _ (show InV ⟨-1 - a.hi, -1 - a.lo, (csub 0 (us (-1)) a.m a.r).1, (csub 0 (us (-1)) a.m a.r).2⟩ from ⟨inv_is ha.hi, inv_is ha.lo, ci.1, ci.2⟩)
  unfold rone vmk
  generalize csub 0 (us (-1)) a.m a.r = cc at *
  by_cases na : a = vbot
  · rw [if_pos na]
    (repeat' ((conv => whnf); first | refine CallN.any _ P1 ?_ | refine CallN.any _ O ?_ | refine CallN.any _ O1 ?_ | refine CallN.any _ rBottom_d ?_ | (exfalso; exact Bool.false_ne_true ((‹veq a vbot = false›).symm.trans (veq_iff.2 na))) | refine AdN.mk _ _ rfl ?_ | refine DrawN.a (Ob.mk (by decide +kernel) ?_) | refine DrawN.c (Ob.mk (by decide +kernel) ?_) | refine DrawN.b (Ob.mk (by decide +kernel) ?_) | refine Ob.mk (by kernel_rfl) ?_ | (refine Br.mk (fun h => ?_) (fun h => ?_) <;> (first | (exfalso; exact Bool.false_ne_true h) | (exfalso; exact Bool.false_ne_true h.symm) | skip)) | refine SeqN.go ?_)); all_goals (conv => whnf)
    all_goals first | rfl | (rw [na]; rfl) | trace_state
  · rw [if_neg na]
    by_cases z0 : a = vone 0
    · rw [if_pos z0]
      (repeat' ((conv => whnf); first | refine CallN.any _ P1 ?_ | refine CallN.any _ O ?_ | refine CallN.any _ O1 ?_ | refine CallN.any _ rBottom_d ?_ | refine CallN.any _ rTop_d ?_ | refine CallN.any _ C ?_ | refine CallN.any _ S ?_ | refine CallN.any _ I ?_ | refine CallN.any _ M ?_ | refine CallN.any _ H ?_ | refine AdN.mk _ _ rfl ?_ | refine DrawN.a (Ob.mk (by decide +kernel) ?_) | refine DrawN.c (Ob.mk (by decide +kernel) ?_) | refine DrawN.b (Ob.mk (by decide +kernel) ?_) | refine Ob.mk (by kernel_rfl) ?_ | (refine Br.mk (fun h => ?_) (fun h => ?_) <;> (first | (exfalso; exact Bool.false_ne_true h) | (exfalso; exact Bool.false_ne_true h.symm) | (exfalso; exact na (veq_iff.1 ‹veq a vbot = true›)) | (exfalso; exact Bool.false_ne_true ((‹veq a (vone 0) = false›).symm.trans (veq_iff.2 z0))) | skip)) | refine SeqN.go ?_)); all_goals (conv => whnf)
      all_goals (clear P1 O O1 H I C S M; (try simp only [decide_eq_true_eq, decide_eq_false_iff_not, beq_iff_eq, beq_eq_false_iff_ne] at *); first | (refine congrArg VVal (?_ : (⟨0, 1, 1, 0⟩ : VV) = _); grind) | (refine congrArg VVal ?_; grind) | trace_state)
    · rw [if_neg z0]
      (repeat' ((conv => whnf); first | refine CallN.any _ P1 ?_ | refine CallN.any _ O ?_ | refine CallN.any _ O1 ?_ | refine CallN.any _ rBottom_d ?_ | refine CallN.any _ rTop_d ?_ | refine CallN.any _ C ?_ | refine CallN.any _ S ?_ | refine CallN.any _ I ?_ | refine CallN.any _ M ?_ | refine CallN.any _ H ?_ | refine AdN.mk _ _ rfl ?_ | refine DrawN.a (Ob.mk (by decide +kernel) ?_) | refine DrawN.c (Ob.mk (by decide +kernel) ?_) | refine DrawN.b (Ob.mk (by decide +kernel) ?_) | refine Ob.mk (by kernel_rfl) ?_ | (refine Br.mk (fun h => ?_) (fun h => ?_) <;> (first | (exfalso; exact Bool.false_ne_true h) | (exfalso; exact Bool.false_ne_true h.symm) | (exfalso; exact na (veq_iff.1 ‹veq a vbot = true›)) | (exfalso; exact z0 (veq_iff.1 ‹veq a (vone 0) = true›)) | skip)) | refine SeqN.go ?_)); all_goals (conv => whnf)
      all_goals (clear P1 O O1 H I C S M; (try simp only [decide_eq_true_eq, decide_eq_false_iff_not, beq_iff_eq, beq_eq_false_iff_ne] at *); first | (refine congrArg VVal (?_ : (⟨0, 1, 1, 0⟩ : VV) = _); grind) | (refine congrArg VVal ?_; grind) | trace_state)
end Go.Proofs.YtljhbdgoknfkcaaGreatDoor
