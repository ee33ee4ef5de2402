/- The reference's bounds of exact results, and their rounds. -/
import Derived.Test.YtljhbdgoknfkcaaGreatDoorZ6
namespace Go.Proofs.YtljhbdgoknfkcaaGreatDoor
open Go Go.RowKit Go.Sort
set_option linter.unusedVariables false
set_option linter.unusedSimpArgs false
set_option maxRecDepth 100000

theorem bval_take {l : List Int} (h : BY l) (k : Nat) : bval (l.take k) = bval l % 256 ^ k := by
  have e := bval_app (l.take k) (l.drop k)
  rw [List.take_append_drop] at e
  have hb : BY (l.take k) := fun x hx => h x (List.mem_of_mem_take hx)
  have h1 := bval_lt hb
  by_cases c : k ≤ l.length
  · rw [List.length_take, Nat.min_eq_left c] at e h1
    rw [e, Nat.add_mul_mod_self_left, Nat.mod_eq_of_lt h1]
  · rw [List.take_of_length_le (by omega)]
    have h2 := bval_lt h
    rw [Nat.mod_eq_of_lt (Nat.lt_of_lt_of_le h2 (Nat.pow_le_pow_right (by decide) (by omega)))]
theorem bval_drop {l : List Int} (h : BY l) (k : Nat) : bval (l.drop k) = bval l / 256 ^ k := by
  have e := bval_app (l.take k) (l.drop k)
  rw [List.take_append_drop, bval_take h] at e
  have hp := Nat.pow_pos (n := k) (show 0 < 256 by decide)
  by_cases c : k ≤ l.length
  · rw [List.length_take, Nat.min_eq_left c] at e
    rw [e, Nat.add_mul_div_left _ _ hp, Nat.div_eq_of_lt (Nat.mod_lt _ hp), Nat.zero_add]
  · rw [List.drop_eq_nil_of_le (by omega)]
    have h2 := bval_lt h
    rw [Nat.div_eq_of_lt (Nat.lt_of_lt_of_le h2 (Nat.pow_le_pow_right (by decide) (by omega)))]
    rfl
theorem limb_byt (N i : Nat) : limb (byt N) i = ((N / 256 ^ (8 * i) % 256 ^ 8 : Nat) : Int) := by
  unfold limb
  have hb : BY ((byt N).drop (8 * i)) := fun x hx => byt_by N x (List.mem_of_mem_drop hx)
  rw [bval_take hb, bval_drop (byt_by N), bval_byt]
theorem limbs3 (N : Nat) : limbsL (byt N) 3 = [((N % 256 ^ 8 : Nat) : Int), ((N / 256 ^ 8 % 256 ^ 8 : Nat) : Int), ((N / 256 ^ 16 % 256 ^ 8 : Nat) : Int)] := by
  show [limb (byt N) 0, limb (byt N) 1, limb (byt N) 2] = _
  rw [limb_byt, limb_byt, limb_byt]
  simp
theorem b8_app : ∀ (k m : Nat) (x : Int), b8 (k + m) x = b8 k x ++ b8 m (x / 256 ^ k)
  | 0, m, x => by simp [b8]
  | k + 1, m, x => by
    rw [show k + 1 + m = k + m + 1 by omega]
    show x % 256 :: b8 (k + m) (x / 256) = x % 256 :: (b8 k (x / 256) ++ b8 m (x / 256 ^ (k + 1)))
    rw [b8_app k m (x / 256), Int.ediv_ediv_of_nonneg (by decide), Int.pow_succ, Int.mul_comm (256 ^ k) 256]
theorem b8_mod : ∀ (k : Nat) (x : Int), b8 k (x % 256 ^ k) = b8 k x
  | 0, x => rfl
  | k + 1, x => by
    show x % 256 ^ (k + 1) % 256 :: b8 k (x % 256 ^ (k + 1) / 256) = x % 256 :: b8 k (x / 256)
    have e1 : x % 256 ^ (k + 1) % 256 = x % 256 := Int.emod_emod_of_dvd x ⟨256 ^ k, by rw [Int.pow_succ, Int.mul_comm]⟩
    have e2 : x % 256 ^ (k + 1) / 256 = x / 256 % 256 ^ k := by
      have hp : (0 : Int) < 256 ^ k := Int.pow_pos (by decide)
      have h1 := Int.mul_ediv_add_emod x (256 ^ (k + 1))
      have h3 := Int.mul_ediv_add_emod (x / 256) (256 ^ k)
      have h4 : x / 256 / 256 ^ k = x / 256 ^ (k + 1) := by rw [Int.ediv_ediv_of_nonneg (by decide), Int.pow_succ, Int.mul_comm (256 ^ k) 256]
      rw [h4] at h3
      rw [Int.pow_succ, Int.mul_comm (256 ^ k) 256, Int.mul_assoc] at h1
      rw [Int.pow_succ, Int.mul_comm (256 ^ k) 256] at h3 ⊢
      generalize (256 : Int) ^ k * (x / (256 * 256 ^ k)) = y at *
      generalize x % (256 * 256 ^ k) = r at *
      omega
    rw [e1, e2, b8_mod k (x / 256)]
theorem flat_hi {N : Nat} (h : N < 256 ^ 24) : flat8 [((N / 256 ^ 8 % 256 ^ 8 : Nat) : Int), ((N / 256 ^ 16 % 256 ^ 8 : Nat) : Int)] = b8 16 ((N / 256 ^ 8 : Nat) : Int) := by
  show b8 8 _ ++ (b8 8 _ ++ []) = _
  rw [List.append_nil, b8_app 8 8]
  have e1 := b8_mod 8 ((N / 256 ^ 8 : Nat) : Int)
  have e2 := b8_mod 8 ((N / 256 ^ 16 : Nat) : Int)
  rw [← e1]
  have e3 : ((N / 256 ^ 8 : Nat) : Int) / 256 ^ 8 = ((N / 256 ^ 16 : Nat) : Int) := by
    have : N / 256 ^ 8 / 256 ^ 8 = N / 256 ^ 16 := Nat.div_div_eq_div_mul N _ _
    rw [← this]; rfl
  rw [e3, ← e2]
  rfl
theorem lval_hi {N : Nat} (h : N < 256 ^ 24) : lval [((N / 256 ^ 8 % 256 ^ 8 : Nat) : Int), ((N / 256 ^ 16 % 256 ^ 8 : Nat) : Int)] = N / 256 ^ 8 := by
  have e : N / 256 ^ 8 / 256 ^ 8 = N / 256 ^ 16 := Nat.div_div_eq_div_mul N _ _
  have h2 : N / 256 ^ 16 < 256 ^ 8 := Nat.div_lt_of_lt_mul (by rw [← Nat.pow_add]; exact h)
  show ((N / 256 ^ 8 % 256 ^ 8 : Nat) : Int).toNat + 18446744073709551616 * (((N / 256 ^ 16 % 256 ^ 8 : Nat) : Int).toNat + 18446744073709551616 * 0) = _
  rw [Int.toNat_natCast, Int.toNat_natCast, Nat.mod_eq_of_lt h2, ← e]
  have e8 : (256 : Nat) ^ 8 = 18446744073709551616 := by decide
  rw [e8]
  omega
/-- What it is, wrapped. -/
def rlow (N : Nat) : Int := IntKind.i64.wrap (IntKind.u64.wrap (((N % 256 ^ 8 : Nat) : Int) - 9223372036854775808))
theorem u8_lt (x : Nat) : (0 : Int) ≤ ((x % 256 ^ 8 : Nat) : Int) ∧ ((x % 256 ^ 8 : Nat) : Int) ≤ 18446744073709551615 := by
  have e8 : (256 : Nat) ^ 8 = 18446744073709551616 := by decide
  rw [e8]; omega
set_option maxHeartbeats 4000000 in
theorem Round_f {N : Nat} (h1 : 256 ^ 23 ≤ N) (h2 : N < 256 ^ 24) : DenF Tryz.prog 81 noFacts [argN 24 N] [.sub 0 0 (byt (N / 256 ^ 8)).length, .v (.int .i64 (rlow N))] [.row 5 1 16 (BVs (b8 16 ((N / 256 ^ 8 : Nat) : Int)))] := by
  refine DenF.fam rfl ?_
  intro ad b off c hs hl
  have lN : (byt N).length = 24 := byt_len_eq h1 h2
  have L := limbs_f (byt N) (byt_by N) (by rw [lN]; decide)
  rw [lN, limbs3] at L
  have L' : DenF Tryz.prog 171 noFacts [.r 1 24 (BVs (byt N))] [.s 0] [.row 23 1 3 [.int .u64 ((N % 256 ^ 8 : Nat) : Int), .int .u64 ((N / 256 ^ 8 % 256 ^ 8 : Nat) : Int), .int .u64 ((N / 256 ^ 16 % 256 ^ 8 : Nat) : Int)]] := L
  have O := of_v [((N / 256 ^ 8 % 256 ^ 8 : Nat) : Int), ((N / 256 ^ 16 % 256 ^ 8 : Nat) : Int)] (by intro x hx; simp only [List.mem_cons, List.not_mem_nil, or_false] at hx; rcases hx with rfl | rfl <;> exact u8_lt _) (by simp)
  rw [flat_hi h2, lval_hi h2] at O
  rw [part_b8 h2] at hl ⊢
  rw [lN] at hs hl ⊢
  have L2 := L'.here (F := orF noFacts (rowF b off (BVs (byt N)))) [.slice ad 24 c] rfl fun W hW => ⟨_, _, rfl, arIs_in hW le_orR hl hs, rfl⟩
  refine denV_of_body (args := [.slice ad 24 c]) hmix Tryz.func81 ?_
  clear L L'
  (repeat' ((conv => whnf); first | refine CallN.fresh _ _ L2 ?_ | refine CallA.anyFresh _ _ O ?_ | refine Ob.mk ⟨by decide, by decide, by decide⟩ ?_ | refine Ob.mk (by decide) ?_ | refine Ob.mk ⟨by decide, by decide⟩ ?_ | refine RowN.mk _ rfl rfl ?_ | refine AdN.mk _ _ rfl ?_ | refine DrawN.a (Ob.mk (by decide +kernel) ?_) | refine DrawN.c (Ob.mk (by decide +kernel) ?_) | refine DrawN.b (Ob.mk (by decide +kernel) ?_) | refine Ob.mk (by kernel_rfl) ?_ | (refine Br.mk (fun h => ?_) (fun h => ?_) <;> (first | (exfalso; exact Bool.false_ne_true h) | (exfalso; exact Bool.false_ne_true h.symm) | skip)) | refine SeqN.go ?_)); all_goals (conv => whnf)
  refine RetN.mk [1] (by decide) rfl ?_ ?_ <;> (conv => whnf); (repeat' (first | exact True.intro | exact rfl | refine And.intro ?_ ?_ | decide))
theorem zero_f : DenF Tryz.prog 86 noFacts [] [.sub 0 0 (byt (B190 / 256 ^ 8)).length] [.row 5 1 16 (BVs (b8 16 ((B190 / 256 ^ 8 : Nat) : Int)))] := by
  refine DenF.fam rfl ?_
  refine denV_of_body (args := []) hmix Tryz.func86 ?_
  have R := Round_f (N := B190) (by decide) (by decide)
  have o1 : 0 + (byt B190).length * 1 ≤ 24 * 1 := part_ok (by decide)
  (repeat' ((conv => whnf); first | refine CallN.anyFresh _ _ base_f ?_ | refine CallA.anyFresh _ _ R ?_ | refine Ob.mk o1 ?_ | refine AdN.mk _ _ rfl ?_ | refine DrawN.a (Ob.mk (by decide +kernel) ?_) | refine DrawN.c (Ob.mk (by decide +kernel) ?_) | refine DrawN.b (Ob.mk (by decide +kernel) ?_) | refine Ob.mk (by kernel_rfl) ?_ | (refine Br.mk (fun h => ?_) (fun h => ?_) <;> (first | (exfalso; exact Bool.false_ne_true h) | (exfalso; exact Bool.false_ne_true h.symm) | skip)) | refine SeqN.go ?_)); all_goals (conv => whnf)
  refine RetN.mk [1] (by decide) rfl ?_ ?_ <;> (conv => whnf); (repeat' (first | exact True.intro | exact rfl | refine And.intro ?_ ?_ | decide))
/-- The least and the greatest, one after the other. -/
def sel4 (a b c d : Int) (i : Nat) : Int := if i = 0 then a else if i = 1 then b else if i = 2 then c else d
theorem row4 {a b c d z : Int} {K : List Value → Prop} (i : Nat) (e : z = (i : Int)) (h : i < 4) (k : K [.int .i64 (sel4 a b c d i)]) : RowN [.int .i64 a, .int .i64 b, .int .i64 c, .int .i64 d] (z.toNat * 1) 1 K := by
  subst e
  rcases i with _ | _ | _ | _ | i
  · exact .mk _ rfl rfl k
  · exact .mk _ rfl rfl k
  · exact .mk _ rfl rfl k
  · exact .mk _ rfl rfl k
  · omega
def mnE (e : Nat → Int) : Nat → Int
  | 0 => e 0
  | i + 1 => wmin (e (i + 1)) (mnE e i)
def mxE (e : Nat → Int) : Nat → Int
  | 0 => e 0
  | i + 1 => wmax (e (i + 1)) (mxE e i)
def bE (op : Int) (a b : VV) (i : Nat) : Int := wex op (sel4 a.lo a.lo a.hi a.hi i) (sel4 b.lo b.hi b.lo b.hi i)
theorem mnE_span (op : Int) (a b : VV) : mnE (bE op a b) 3 = spanL op a b := rfl
theorem mxE_span (op : Int) (a b : VV) : mxE (bE op a b) 3 = spanG op a b := rfl
theorem mn_le_mx (e : Nat → Int) : ∀ i, mnE e i ≤ mxE e i
  | 0 => Int.le_refl _
  | i + 1 => by
    have := mn_le_mx e i
    show wmin _ _ ≤ wmax _ _
    unfold wmin wmax
    split <;> split <;> omega
theorem mnE_in {e : Nat → Int} (h : ∀ i, IW (e i)) : ∀ i, IW (mnE e i)
  | 0 => h 0
  | i + 1 => by show IW (wmin _ _); unfold wmin; split; exact h _; exact mnE_in h i
theorem mxE_in {e : Nat → Int} (h : ∀ i, IW (e i)) : ∀ i, IW (mxE e i)
  | 0 => h 0
  | i + 1 => by show IW (wmax _ _); unfold wmax; split; exact h _; exact mxE_in h i
/-- Moved up. -/
def mv (z : Int) : Nat := ((X0 : Int) + z).toNat
theorem mv_eq {z : Int} (h : IW z) : (mv z : Int) = X0 + z := by
  have := h.1
  have := x0v
  unfold mv
  omega
theorem mv_in {z : Int} (h : IW z) : 256 ^ 23 ≤ mv z ∧ mv z < 256 ^ 24 := ex_in h (mv_eq h)
theorem mv_len {z : Int} (h : IW z) : (byt (mv z)).length = 24 := byt_len_eq (mv_in h).1 (mv_in h).2
theorem exN_mv (op a b : Int) : exN op a b = mv (wex op a b) := rfl
theorem cmp_mv {z w : Int} (hz : IW z) (hw : IW w) : cmpN (mv z) (mv w) = if z < w then -1 else if z = w then 0 else 1 := by
  have e1 := mv_eq hz
  have e2 := mv_eq hw
  unfold cmpN
  by_cases c : z < w
  · rw [if_pos (by omega), if_pos c]
  · rw [if_neg (by omega), if_neg c]
    by_cases d : z = w
    · rw [if_pos (by subst d; rfl), if_pos d]
    · rw [if_neg (by omega), if_neg d]
theorem sel_is {a b c d : Int} (ha : IS a) (hb : IS b) (hc : IS c) (hd : IS d) (i : Nat) : IS (sel4 a b c d i) := by unfold sel4; split; exact ha; split; exact hb; split; exact hc; exact hd
theorem bE_in {op : Int} {a b : VV} (ha : InV a) (hb : InV b) (i : Nat) : IW (bE op a b i) := wex_in (sel_is ha.lo ha.lo ha.hi ha.hi i) (sel_is hb.lo hb.hi hb.lo hb.hi i)
theorem cl1 {z w : Int} (h : decide ((if z < w then (-1 : Int) else if z = w then 0 else 1) < 0) = true) : z < w := by
  have h := of_decide_eq_true h
  by_cases c : z < w
  · exact c
  · rw [if_neg c] at h; split at h <;> omega
theorem cl0 {z w : Int} (h : decide ((if z < w then (-1 : Int) else if z = w then 0 else 1) < 0) = false) : ¬ z < w := fun c => by
  have h := of_decide_eq_false h
  rw [if_pos c] at h
  omega
theorem cg1 {z w : Int} (h : decide ((if z < w then (-1 : Int) else if z = w then 0 else 1) > 0) = true) : w < z := by
  have h := of_decide_eq_true h
  by_cases c : z < w
  · rw [if_pos c] at h; omega
  · rw [if_neg c] at h
    by_cases d : z = w
    · rw [if_pos d] at h; omega
    · omega
theorem cg0 {z w : Int} (h : decide ((if z < w then (-1 : Int) else if z = w then 0 else 1) > 0) = false) : ¬ w < z := fun c => by
  have h := of_decide_eq_false h
  rw [if_neg (by omega), if_neg (by omega)] at h
  omega
theorem wi4 {i : Nat} (h : i < 3) : IntKind.i64.wrap (((i + 1 : Nat) : Int) + 1) = ((i + 1 + 1 : Nat) : Int) := by rw [sg_eq, sg_in _ (by omega) (by omega)]; omega
theorem idx4 {i : Nat} (h : i < 3) : 0 ≤ ((i + 1 : Nat) : Int) ∧ ((i + 1 : Nat) : Int) < ((4 : Nat) : Int) := by omega
set_option maxHeartbeats 8000000 in
theorem Bounds_f (op : Int) (a b : VV) (ho : aknown' op) (ha : InV a) (hb : InV b) : DenF Tryz.prog 80 noFacts [.v (.int .i64 op), .v (VVal a), .v (VVal b)] [.sub 0 0 24, .sub 1 0 24] [.row 5 1 24 (BVs (b8 24 ((mv (spanL op a b) : Nat) : Int))), .row 5 1 24 (BVs (b8 24 ((mv (spanG op a b) : Nat) : Int)))] := by
  refine DenF.fam rfl ?_
  refine denV_of_body (args := [.int .i64 op, VVal a, VVal b]) hmix Tryz.func80 ?_
  have E : ∀ x y : Int, IS x → IS y → DenF Tryz.prog 170 noFacts [.v (.int .i64 op), .v (.int .i64 x), .v (.int .i64 y)] [.sub 0 0 24] [.row 5 1 24 (BVs (b8 24 ((mv (wex op x y) : Nat) : Int)))] := fun x y hx hy => by
    have := exact_f op x y ho hx hy
    rw [exN_mv, mv_len (wex_in hx hy)] at this
    exact this
  have E0 := E a.lo b.lo ha.lo hb.lo
  (repeat' ((conv => whnf); first | refine CallN.anyFresh _ _ E0 ?_ | refine Ob.mk ⟨by decide, by decide⟩ ?_ | refine RowN.mk _ rfl rfl ?_ | refine AdN.mk _ _ rfl ?_ | refine DrawN.a (Ob.mk (by decide +kernel) ?_) | refine DrawN.c (Ob.mk (by decide +kernel) ?_) | refine DrawN.b (Ob.mk (by decide +kernel) ?_) | refine Ob.mk (by kernel_rfl) ?_ | (refine Br.mk (fun h => ?_) (fun h => ?_) <;> (first | (exfalso; exact Bool.false_ne_true h) | (exfalso; exact Bool.false_ne_true h.symm) | skip)) | refine SeqN.go ?_)); all_goals (conv => whnf)
  have bi := bE_in (op := op) ha hb
  refine LoopN.mk {x : Nat × Nat × Nat // x.1 ≤ 3 ∧ x.2.1 = mv (mnE (bE op a b) x.1) ∧ x.2.2 = mv (mxE (bE op a b) x.1)} (fun x => [(12, .v (.int .i64 ((x.1.1 + 1 : Nat) : Int))), (10, .sub 4 0 24), (11, .sub 5 0 24), (47, .junk), (55, .junk)]) (fun x => [.dead, .dead, .row 2 1 4 [.int .i64 a.lo, .int .i64 a.lo, .int .i64 a.hi, .int .i64 a.hi], .row 2 1 4 [.int .i64 b.lo, .int .i64 b.hi, .int .i64 b.lo, .int .i64 b.hi], .row 5 1 24 (BVs (b8 24 ((x.1.2.1 : Nat) : Int))), .row 5 1 24 (BVs (b8 24 ((x.1.2.2 : Nat) : Int)))]) (fun x => 3 - x.1.1) ⟨(0, mv (wex op a.lo b.lo), mv (wex op a.lo b.lo)), Nat.zero_le _, rfl, rfl⟩ ?_ ?_
  · (conv => whnf); (repeat' (first | exact True.intro | exact rfl | refine And.intro ?_ ?_ | decide))
    all_goals trace_state
  (conv => whnf)
  rintro ⟨⟨i, NL, NG⟩, hi, hNL, hNG⟩
  dsimp only at hi hNL hNG
  have iL := mnE_in bi i
  have iG := mxE_in bi i
  have hLG := mn_le_mx (bE op a b) i
  by_cases hl : i < 3
  · have ei : ((i + 1 : Nat) : Int) = ((i + 1 : Nat) : Int) := rfl
    have E1 := E (sel4 a.lo a.lo a.hi a.hi (i + 1)) (sel4 b.lo b.hi b.lo b.hi (i + 1)) (sel_is ha.lo ha.lo ha.hi ha.hi _) (sel_is hb.lo hb.hi hb.lo hb.hi _)
    have iX := bi (i + 1)
    have C1 := cmp_n (mv_in iX).2 (mv_in iL).2 (by rw [mv_len iX]; decide) (by rw [mv_len iL]; decide)
    have C2 := cmp_n (mv_in iX).2 (mv_in iG).2 (by rw [mv_len iX]; decide) (by rw [mv_len iG]; decide)
    rw [cmp_mv iX iL] at C1
    rw [cmp_mv iX iG] at C2
    unfold argN at C1 C2
    rw [mv_len iX, mv_len iL] at C1
    rw [mv_len iX, mv_len iG] at C2
    rw [← hNL] at C1
    rw [← hNG] at C2
    obtain ⟨NX, hNX⟩ : ∃ n, n = mv (wex op (sel4 a.lo a.lo a.hi a.hi (i + 1)) (sel4 b.lo b.hi b.lo b.hi (i + 1))) := ⟨_, rfl⟩
    rw [← hNX] at E1
    have hNX' : NX = mv (bE op a b (i + 1)) := hNX
    rw [← hNX'] at C1 C2
    generalize hcl : (if bE op a b (i + 1) < mnE (bE op a b) i then (-1 : Int) else if bE op a b (i + 1) = mnE (bE op a b) i then 0 else 1) = cl at C1
    generalize hcg : (if bE op a b (i + 1) < mxE (bE op a b) i then (-1 : Int) else if bE op a b (i + 1) = mxE (bE op a b) i then 0 else 1) = cg at C2
    (repeat' ((conv => whnf); first | refine CallN.anyFresh _ _ E1 ?_ | refine CallA.any _ C1 ?_ | refine CallA.any _ C2 ?_ | refine Ob.mk (idx4 hl) ?_ | refine row4 (i + 1) rfl (Nat.succ_lt_succ hl) ?_ | refine Ob.mk (by decide) ?_ | refine AdN.mk _ _ rfl ?_ | refine DrawN.a (Ob.mk (by decide +kernel) ?_) | refine DrawN.c (Ob.mk (by decide +kernel) ?_) | refine DrawN.b (Ob.mk (by decide +kernel) ?_) | refine Ob.mk (by kernel_rfl) ?_ | (refine Br.mk (fun h => ?_) (fun h => ?_) <;> (first | (exfalso; exact Bool.false_ne_true h) | (exfalso; exact Bool.false_ne_true h.symm) | (exfalso; exact absurd (Int.ofNat_lt.2 (Nat.succ_lt_succ hl)) (of_decide_eq_false ‹_›)) | skip)) | refine SeqN.go ?_)); all_goals (conv => whnf)
    · exfalso
      have p := cl1 (z := bE op a b (i + 1)) (by rw [hcl]; exact ‹decide (cl < 0) = true›)
      have q := cg1 (z := bE op a b (i + 1)) (by rw [hcg]; exact ‹decide (cg > 0) = true›)
      omega
    · have p := cl1 (z := bE op a b (i + 1)) (by rw [hcl]; exact ‹decide (cl < 0) = true›)
      have q := cg0 (z := bE op a b (i + 1)) (by rw [hcg]; exact ‹decide (cg > 0) = false›)
      have r1 : mnE (bE op a b) (i + 1) = bE op a b (i + 1) := if_pos p
      have r2 : mxE (bE op a b) (i + 1) = mxE (bE op a b) i := if_neg q
      refine RoundN.via [0, 1, 2, 3, 6, 5] (by decide) ⟨(i + 1, NX, NG), hl, by rw [r1]; exact hNX', by rw [r2]; exact hNG⟩ (Nat.sub_succ_lt_self _ _ hl) ?_ ?_ <;> (conv => whnf); (repeat' (first | exact True.intro | exact rfl | refine And.intro ?_ ?_ | decide))
      all_goals first | exact congrArg (Value.int _) (wi4 hl) | trace_state
    · have p := cl0 (z := bE op a b (i + 1)) (by rw [hcl]; exact ‹decide (cl < 0) = false›)
      have q := cg1 (z := bE op a b (i + 1)) (by rw [hcg]; exact ‹decide (cg > 0) = true›)
      have r1 : mnE (bE op a b) (i + 1) = mnE (bE op a b) i := if_neg p
      have r2 : mxE (bE op a b) (i + 1) = bE op a b (i + 1) := if_pos q
      refine RoundN.via [0, 1, 2, 3, 4, 6] (by decide) ⟨(i + 1, NL, NX), hl, by rw [r1]; exact hNL, by rw [r2]; exact hNX'⟩ (Nat.sub_succ_lt_self _ _ hl) ?_ ?_ <;> (conv => whnf); (repeat' (first | exact True.intro | exact rfl | refine And.intro ?_ ?_ | decide))
      all_goals first | exact congrArg (Value.int _) (wi4 hl) | trace_state
    · have p := cl0 (z := bE op a b (i + 1)) (by rw [hcl]; exact ‹decide (cl < 0) = false›)
      have q := cg0 (z := bE op a b (i + 1)) (by rw [hcg]; exact ‹decide (cg > 0) = false›)
      have r1 : mnE (bE op a b) (i + 1) = mnE (bE op a b) i := if_neg p
      have r2 : mxE (bE op a b) (i + 1) = mxE (bE op a b) i := if_neg q
      refine RoundN.mk ⟨(i + 1, NL, NG), hl, by rw [r1]; exact hNL, by rw [r2]; exact hNG⟩ (Nat.sub_succ_lt_self _ _ hl) ?_
      (conv => whnf); (repeat' (first | exact True.intro | exact rfl | refine And.intro ?_ ?_ | decide))
      all_goals first | exact congrArg (Value.int _) (wi4 hl) | trace_state
  · obtain rfl : i = 3 := Nat.le_antisymm hi (Nat.le_of_not_lt hl)
    (repeat' ((conv => whnf); first | refine AdN.mk _ _ rfl ?_ | refine DrawN.a (Ob.mk (by decide +kernel) ?_) | refine DrawN.c (Ob.mk (by decide +kernel) ?_) | refine DrawN.b (Ob.mk (by decide +kernel) ?_) | refine Ob.mk (by kernel_rfl) ?_ | (refine Br.mk (fun h => ?_) (fun h => ?_) <;> (first | (exfalso; exact Bool.false_ne_true h) | (exfalso; exact Bool.false_ne_true h.symm) | (exfalso; exact absurd (Nat.lt_of_succ_lt_succ (Int.ofNat_lt.1 (of_decide_eq_true ‹_›))) hl) | skip)) | refine SeqN.go ?_)); all_goals (conv => whnf)
    rw [mnE_span] at hNL
    rw [mxE_span] at hNG
    subst hNL hNG
    refine RetN.mk [4, 5] (by decide) rfl ?_ ?_ <;> (conv => whnf); (repeat' (first | exact True.intro | exact rfl | refine And.intro ?_ ?_ | decide))
end Go.Proofs.YtljhbdgoknfkcaaGreatDoor
