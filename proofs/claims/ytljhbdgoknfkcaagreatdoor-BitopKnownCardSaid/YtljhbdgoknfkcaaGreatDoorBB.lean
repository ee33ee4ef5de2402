/- Contracts of package bitop: digits. -/
import Derived.Test.YtljhbdgoknfkcaaGreatDoorBA
import Derived.Test.YtljhbdgoknfkcaaGreatDoorPE
import Derived.Test.YtljhbdgoknfkcaaGreatDoorE3
import Derived.Test.YtljhbdgoknfkcaaGreatDoorC3
import Derived.Test.YtljhbdgoknfkcaaGreatDoorC6
namespace Go.Proofs.YtljhbdgoknfkcaaGreatDoor
open Go Go.RowKit Go.Sort
set_option linter.unusedVariables false
set_option linter.unusedSimpArgs false
set_option maxRecDepth 100000

/-- The least k for which n is from -2^k to 2^k - 1. -/
def roomN (n : Int) : Nat := Lib.bitLen (mag n)
theorem room_d (n : Int) (hn : IS n) : Den Tryz.prog 242 #[.int .i64 n] noFacts (.int .i64 (roomN n)) := by
  refine den_of_body (args := [.int .i64 n]) hmix Tryz.func242 ?_
  have hm : ((mag n : Nat) : Int) ≤ 18446744073709551615 := by unfold mag; have := hn.1; have := hn.2; split <;> omega
  have L := den_of (F := noFacts) fun W => (Tryz.bits_Len64 (mag n : Int) W (Int.natCast_nonneg _) hm).mono fun e w' ⟨h1, h2⟩ => ⟨h1, h2 ▸ Below.refl _ _⟩
  rw [Int.toNat_natCast] at L
  have e : IntKind.u64.wrap (bxor n (n.fdiv (2 ^ min (Int.toNat 63) IntKind.i64.bits))) = (mag n : Int) := by
    rw [show min (Int.toNat 63) IntKind.i64.bits = 63 from rfl, Int.fdiv_eq_ediv_of_nonneg _ (Int.le_of_lt (p2pos _)), sign63 hn, us_eq]
    exact us_in _ (Int.natCast_nonneg _) hm
  (repeat' ((conv => whnf); first | refine CallN.any (.int .i64 (roomN n)) (by rw [← e] at L; exact L) ?_ | refine Ob.mk (by decide) ?_ | refine AdN.mk _ _ rfl ?_ | refine DrawN.a (Ob.mk (by decide +kernel) ?_) | refine DrawN.c (Ob.mk (by decide +kernel) ?_) | refine DrawN.b (Ob.mk (by decide +kernel) ?_) | refine Ob.mk (by kernel_rfl) ?_ | (refine Br.mk (fun h => ?_) (fun h => ?_) <;> (first | (exfalso; exact Bool.false_ne_true h) | (exfalso; exact Bool.false_ne_true h.symm) | skip)) | refine SeqN.go ?_)); all_goals (conv => whnf)
  all_goals rfl

def uband (x y : Int) : Int := IntKind.u64.wrap ((BitVec.ofInt 64 x &&& BitVec.ofInt 64 y).toNat : Int)
def ubxor (x y : Int) : Int := IntKind.u64.wrap ((BitVec.ofInt 64 x ^^^ BitVec.ofInt 64 y).toNat : Int)
theorem bAnd1_d (x y : Int) : Den Tryz.prog 244 #[.int .u64 x, .int .u64 y] noFacts (.int .u64 (uband x y)) := by
  refine den_of_body (args := [.int .u64 x, .int .u64 y]) hmix Tryz.func244 ?_
  (repeat' ((conv => whnf); first | refine AdN.mk _ _ rfl ?_ | refine DrawN.a (Ob.mk (by decide +kernel) ?_) | refine DrawN.c (Ob.mk (by decide +kernel) ?_) | refine DrawN.b (Ob.mk (by decide +kernel) ?_) | refine Ob.mk (by kernel_rfl) ?_ | (refine Br.mk (fun h => ?_) (fun h => ?_) <;> (first | (exfalso; exact Bool.false_ne_true h) | (exfalso; exact Bool.false_ne_true h.symm) | skip)) | refine SeqN.go ?_)); all_goals (conv => whnf)
  all_goals rfl
theorem bXor1_d (x y : Int) : Den Tryz.prog 245 #[.int .u64 x, .int .u64 y] noFacts (.int .u64 (ubxor x y)) := by
  refine den_of_body (args := [.int .u64 x, .int .u64 y]) hmix Tryz.func245 ?_
  (repeat' ((conv => whnf); first | refine AdN.mk _ _ rfl ?_ | refine DrawN.a (Ob.mk (by decide +kernel) ?_) | refine DrawN.c (Ob.mk (by decide +kernel) ?_) | refine DrawN.b (Ob.mk (by decide +kernel) ?_) | refine Ob.mk (by kernel_rfl) ?_ | (refine Br.mk (fun h => ?_) (fun h => ?_) <;> (first | (exfalso; exact Bool.false_ne_true h) | (exfalso; exact Bool.false_ne_true h.symm) | skip)) | refine SeqN.go ?_)); all_goals (conv => whnf)
  all_goals rfl
theorem neB {x : Int} (h : (x == 0) = false) : x ≠ 0 := by simpa using h
/-- The modulus of digits. -/
def cdm (a b : VV) : Int := if (cwrapped a.m a.r).1 = 0 ∨ ((cwrapped b.m b.r).1 ≠ 0 ∧ (cwrapped b.m b.r).1 < (cwrapped a.m a.r).1) then (cwrapped b.m b.r).1 else (cwrapped a.m a.r).1
def cdig (f : Int → Int → Int) (a b : VV) : Int × Int := if cdm a b = 0 then (1, 0) else (cdm a b, (f (a.r.tmod (cdm a b)) (b.r.tmod (cdm a b))).tmod (cdm a b))
set_option maxHeartbeats 4000000 in
theorem bDigAnd_d (a b : VV) (ha : InV a) (hb : InV b) : Den Tryz.prog 243 #[VVal a, VVal b, .func (.func 244) #[] #[]] noFacts (.agg #[.int .u64 (cdig uband a b).1, .int .u64 (cdig uband a b).2]) := by
  refine den_of_body (args := [VVal a, VVal b, .func (.func 244) #[] #[]]) hmix Tryz.func243 ?_
  have W1 := den_of (F := noFacts) fun w => wrapped_c a.m a.r w ha.m.1 ha.m.2 ha.r.1 ha.r.2
  have W2 := den_of (F := noFacts) fun w => wrapped_c b.m b.r w hb.m.1 hb.m.2 hb.r.1 hb.r.2
  have T := den_of (F := noFacts) top_c
  generalize hm : (cwrapped a.m a.r).1 = m at *
  generalize hn : (cwrapped b.m b.r).1 = n at *
  (repeat' ((conv => whnf); first | refine CallN.any _ W1 ?_ | refine CallN.any _ W2 ?_ | refine CallN.any _ T ?_ | refine CallN.any _ (bAnd1_d _ _) ?_ | refine Ob.mk (neB ‹_›) ?_ | refine AdN.mk _ _ rfl ?_ | refine DrawN.a (Ob.mk (by decide +kernel) ?_) | refine DrawN.c (Ob.mk (by decide +kernel) ?_) | refine DrawN.b (Ob.mk (by decide +kernel) ?_) | refine Ob.mk (by kernel_rfl) ?_ | (refine Br.mk (fun h => ?_) (fun h => ?_) <;> (first | (exfalso; exact Bool.false_ne_true h) | (exfalso; exact Bool.false_ne_true h.symm) | skip)) | refine SeqN.go ?_)); all_goals (conv => whnf)
  all_goals (clear W1 W2 T; unfold cdig cdm; rw [hm, hn]; first | grind [retV] | trace_state)
set_option maxHeartbeats 4000000 in
theorem bDigXor_d (a b : VV) (ha : InV a) (hb : InV b) : Den Tryz.prog 243 #[VVal a, VVal b, .func (.func 245) #[] #[]] noFacts (.agg #[.int .u64 (cdig ubxor a b).1, .int .u64 (cdig ubxor a b).2]) := by
  refine den_of_body (args := [VVal a, VVal b, .func (.func 245) #[] #[]]) hmix Tryz.func243 ?_
  have W1 := den_of (F := noFacts) fun w => wrapped_c a.m a.r w ha.m.1 ha.m.2 ha.r.1 ha.r.2
  have W2 := den_of (F := noFacts) fun w => wrapped_c b.m b.r w hb.m.1 hb.m.2 hb.r.1 hb.r.2
  have T := den_of (F := noFacts) top_c
  generalize hm : (cwrapped a.m a.r).1 = m at *
  generalize hn : (cwrapped b.m b.r).1 = n at *
  (repeat' ((conv => whnf); first | refine CallN.any _ W1 ?_ | refine CallN.any _ W2 ?_ | refine CallN.any _ T ?_ | refine CallN.any _ (bXor1_d _ _) ?_ | refine Ob.mk (neB ‹_›) ?_ | refine AdN.mk _ _ rfl ?_ | refine DrawN.a (Ob.mk (by decide +kernel) ?_) | refine DrawN.c (Ob.mk (by decide +kernel) ?_) | refine DrawN.b (Ob.mk (by decide +kernel) ?_) | refine Ob.mk (by kernel_rfl) ?_ | (refine Br.mk (fun h => ?_) (fun h => ?_) <;> (first | (exfalso; exact Bool.false_ne_true h) | (exfalso; exact Bool.false_ne_true h.symm) | skip)) | refine SeqN.go ?_)); all_goals (conv => whnf)
  all_goals (clear W1 W2 T; unfold cdig cdm; rw [hm, hn]; first | grind [retV] | trace_state)
theorem cdm_in {a b : VV} (ha : InV a) (hb : InV b) : IU (cdm a b) := by
  unfold cdm
  split
  · exact (cwr_in hb.m hb.r).1
  · exact (cwr_in ha.m ha.r).1
theorem tmod_iu {x m : Int} (hx : 0 ≤ x) (hm : IU m) (h0 : m ≠ 0) : IU (x.tmod m) := by
  have h1 := hm.1
  have h2 := hm.2
  rw [Int.tmod_eq_emod_of_nonneg hx]
  have := Int.emod_nonneg x h0
  have := Int.emod_lt_of_pos x (show 0 < m by omega)
  exact ⟨by omega, by omega⟩
theorem cdig_in {f : Int → Int → Int} (hf : ∀ x y, 0 ≤ f x y) {a b : VV} (ha : InV a) (hb : InV b) : IU (cdig f a b).1 ∧ IU (cdig f a b).2 := by
  unfold cdig
  by_cases h : cdm a b = 0
  · rw [if_pos h]; exact ⟨⟨by decide, by decide⟩, ⟨by decide, by decide⟩⟩
  · rw [if_neg h]; exact ⟨cdm_in ha hb, tmod_iu (hf _ _) (cdm_in ha hb) h⟩
theorem uband_in (x y : Int) : 0 ≤ uband x y := by unfold uband; rw [us_eq]; exact (us_rng _).1
theorem ubxor_in (x y : Int) : 0 ≤ ubxor x y := by unfold ubxor; rw [us_eq]; exact (us_rng _).1
theorem imin_is {x y : Int} (hx : IS x) (hy : IS y) : IS (if y < x then y else x) := by split <;> assumption
theorem imax_is {x y : Int} (hx : IS x) (hy : IS y) : IS (if x < y then y else x) := by split <;> assumption
theorem imax_is' {x y : Int} (hx : IS x) (hy : IS y) : IS (if y > x then y else x) := by split <;> assumption
/-- The interval of what BitAnd makes. -/
def bothI (a b : VV) : Int × Int :=
  (if a.lo < 0 ∧ b.lo < 0 then IntKind.i64.wrap (-1 * 2 ^ min (roomN (if b.lo < a.lo then b.lo else a.lo)) 64) else 0,
   if 0 ≤ a.lo ∧ 0 ≤ b.lo then (if b.hi < a.hi then b.hi else a.hi) else if 0 ≤ a.lo then a.hi else if 0 ≤ b.lo then b.hi else if a.hi < 0 ∧ b.hi < 0 then (if b.hi < a.hi then b.hi else a.hi) else (if a.hi < b.hi then b.hi else a.hi))
def bboth (a b : VV) : VV := vmk (iof (bothI a b).1 (bothI a b).2) (cdig uband a b)
set_option maxHeartbeats 8000000 in
theorem both_d (a b : VV) (ha : InV a) (hb : InV b) : Den Tryz.prog 181 #[VVal a, VVal b] noFacts (VVal (bboth a b)) := by
  refine den_of_body (args := [VVal a, VVal b]) hmix Tryz.func181 ?_
  have D := bDigAnd_d a b ha hb
  have ci := cdig_in uband_in ha hb
  have R := room_d _ (imin_is ha.lo hb.lo)
  have z : IS 0 := ⟨by decide, by decide⟩
  (repeat' ((conv => whnf); first | refine CallN.any _ D ?_ | refine CallN.any _ R ?_ | refine CallN.any _ (iOf_d _ _) ?_ | refine Ob.mk ⟨by decide, by decide⟩ ?_ | refine Ob.mk (Int.natCast_nonneg _) ?_ | refine CallN.any _ (vMake_d ⟨_, _, _, _⟩ (InV.mk (iof_in (by first | exact z | exact wrap_is _ | exact ha.hi | exact hb.hi | exact ha.lo | exact hb.lo | exact imin_is ha.hi hb.hi | exact imax_is ha.hi hb.hi) (by first | exact z | exact wrap_is _ | exact ha.hi | exact hb.hi | exact ha.lo | exact hb.lo | exact imin_is ha.hi hb.hi | exact imax_is ha.hi hb.hi)).1 (iof_in (by first | exact z | exact wrap_is _ | exact ha.hi | exact hb.hi | exact ha.lo | exact hb.lo | exact imin_is ha.hi hb.hi | exact imax_is ha.hi hb.hi) (by first | exact z | exact wrap_is _ | exact ha.hi | exact hb.hi | exact ha.lo | exact hb.lo | exact imin_is ha.hi hb.hi | exact imax_is ha.hi hb.hi)).2 ci.1 ci.2)) ?_ | refine AdN.mk _ _ rfl ?_ | refine DrawN.a (Ob.mk (by decide +kernel) ?_) | refine DrawN.c (Ob.mk (by decide +kernel) ?_) | refine DrawN.b (Ob.mk (by decide +kernel) ?_) | refine Ob.mk (by kernel_rfl) ?_ | (refine Br.mk (fun h => ?_) (fun h => ?_) <;> (first | (exfalso; exact Bool.false_ne_true h) | (exfalso; exact Bool.false_ne_true h.symm) | skip)) | refine SeqN.go ?_)); all_goals (conv => whnf)
  all_goals (clear D R ci z ha hb; refine congrArg VVal (?_ : vmake _ = _); unfold bboth bothI vmk; simp only [Int.toNat_natCast, show IntKind.i64.bits = 64 from rfl, decide_eq_true_eq, decide_eq_false_iff_not] at *; first | (exfalso; omega) | (simp only [*, Int.not_lt, ge_iff_le, and_self, if_true, if_false, and_true, and_false, true_and, false_and]; done) | grind | trace_state)
/-! Contracts of package bitop: digits turned about, either, one. -/
theorem inv_is {n : Int} (h : IS n) : IS (-1 - n) := by have := h.1; have := h.2; exact ⟨by omega, by omega⟩
/-- Turned about. -/
def binvert (a : VV) : VV := vmk (iof (-1 - a.hi) (-1 - a.lo)) (csub 0 (us (-1)) a.m a.r)
theorem binvert_inv {a : VV} (ha : InV a) : InV ⟨(iof (-1 - a.hi) (-1 - a.lo)).1, (iof (-1 - a.hi) (-1 - a.lo)).2, (csub 0 (us (-1)) a.m a.r).1, (csub 0 (us (-1)) a.m a.r).2⟩ := by
  have ii := iof_in (inv_is ha.hi) (inv_is ha.lo)
  have z0 : IU 0 := ⟨by decide, by decide⟩
  have ci := csub_in z0.1 z0.2 (us_rng (-1)).1 (us_rng (-1)).2 ha.m.1 ha.m.2 ha.r.1 ha.r.2
  exact ⟨ii.1, ii.2, ci.1, ci.2⟩
theorem binvert_rv {a : VV} (ha : InV a) : RV (binvert a) := vmake_rv (binvert_inv ha)
theorem invert_d (a : VV) (ha : InV a) : Den Tryz.prog 114 #[VVal a] noFacts (VVal (binvert a)) := by
  refine den_of_body (args := [VVal a]) hmix Tryz.func114 ?_
  have C := den_of (F := noFacts) (const_c (-1))
  have S := den_of (F := noFacts) fun W => sub_c 0 (us (-1)) a.m a.r W (by decide) (by decide) (us_rng (-1)).1 (us_rng (-1)).2 ha.m.1 ha.m.2 ha.r.1 ha.r.2
  have e1 : bxor (-1) a.hi = -1 - a.hi := by rw [bxor_comm, bxor_neg1 ha.hi]
  have e2 : bxor (-1) a.lo = -1 - a.lo := by rw [bxor_comm, bxor_neg1 ha.lo]
  have I := iOf_d (-1 - a.hi) (-1 - a.lo)
  rw [← e1, ← e2] at I
  have M := vMake_d _ (binvert_inv ha)
  rw [e1, e2] at I
  rw [← e1, ← e2] at I
  (repeat' ((conv => whnf); first | refine CallN.any _ C ?_ | refine CallN.any _ S ?_ | refine CallN.any _ I ?_ | refine CallN.any _ (by rw [e1, e2]; exact M) ?_ | refine AdN.mk _ _ rfl ?_ | refine DrawN.a (Ob.mk (by decide +kernel) ?_) | refine DrawN.c (Ob.mk (by decide +kernel) ?_) | refine DrawN.b (Ob.mk (by decide +kernel) ?_) | refine Ob.mk (by kernel_rfl) ?_ | (refine Br.mk (fun h => ?_) (fun h => ?_) <;> (first | (exfalso; exact Bool.false_ne_true h) | (exfalso; exact Bool.false_ne_true h.symm) | skip)) | refine SeqN.go ?_)); all_goals (conv => whnf)
  all_goals rfl
/-- What BitOr makes. -/
def beither (a b : VV) : VV := binvert (bboth (binvert a) (binvert b))
theorem bboth_in {a b : VV} (ha : InV a) (hb : InV b) : RV (bboth a b) := by
  have ci := cdig_in uband_in ha hb
  have z : IS 0 := ⟨by decide, by decide⟩
  have h1 : IS (bothI a b).1 := by unfold bothI; dsimp only; split <;> first | exact z | exact wrap_is _ | exact ha.hi | exact hb.hi | exact ha.lo | exact hb.lo | exact imin_is ha.hi hb.hi | exact imax_is ha.hi hb.hi
  have h2 : IS (bothI a b).2 := by
    unfold bothI; dsimp only
    split
    · first | exact z | exact wrap_is _ | exact ha.hi | exact hb.hi | exact ha.lo | exact hb.lo | exact imin_is ha.hi hb.hi | exact imax_is ha.hi hb.hi
    split
    · first | exact z | exact wrap_is _ | exact ha.hi | exact hb.hi | exact ha.lo | exact hb.lo | exact imin_is ha.hi hb.hi | exact imax_is ha.hi hb.hi
    split
    · first | exact z | exact wrap_is _ | exact ha.hi | exact hb.hi | exact ha.lo | exact hb.lo | exact imin_is ha.hi hb.hi | exact imax_is ha.hi hb.hi
    split
    · first | exact z | exact wrap_is _ | exact ha.hi | exact hb.hi | exact ha.lo | exact hb.lo | exact imin_is ha.hi hb.hi | exact imax_is ha.hi hb.hi
    · first | exact z | exact wrap_is _ | exact ha.hi | exact hb.hi | exact ha.lo | exact hb.lo | exact imin_is ha.hi hb.hi | exact imax_is ha.hi hb.hi
  have ii := iof_in h1 h2
  exact vmake_rv (x := ⟨(iof (bothI a b).1 (bothI a b).2).1, (iof (bothI a b).1 (bothI a b).2).2, (cdig uband a b).1, (cdig uband a b).2⟩) ⟨ii.1, ii.2, ci.1, ci.2⟩
theorem either_d (a b : VV) (ha : InV a) (hb : InV b) : Den Tryz.prog 182 #[VVal a, VVal b] noFacts (VVal (beither a b)) := by
  refine den_of_body (args := [VVal a, VVal b]) hmix Tryz.func182 ?_
  have A := invert_d a ha
  have B := invert_d b hb
  have ra := (binvert_rv ha).inn
  have rb := (binvert_rv hb).inn
  have D := both_d _ _ ra rb
  have I := invert_d _ (bboth_in ra rb).inn
  (repeat' ((conv => whnf); first | refine CallN.any _ A ?_ | refine CallN.any _ B ?_ | refine CallN.any _ D ?_ | refine CallN.any _ I ?_ | refine AdN.mk _ _ rfl ?_ | refine DrawN.a (Ob.mk (by decide +kernel) ?_) | refine DrawN.c (Ob.mk (by decide +kernel) ?_) | refine DrawN.b (Ob.mk (by decide +kernel) ?_) | refine Ob.mk (by kernel_rfl) ?_ | (refine Br.mk (fun h => ?_) (fun h => ?_) <;> (first | (exfalso; exact Bool.false_ne_true h) | (exfalso; exact Bool.false_ne_true h.symm) | skip)) | refine SeqN.go ?_)); all_goals (conv => whnf)
  all_goals rfl
theorem imax4_is {p q : Int} (hp : IS p) (hq : IS q) : IS (if p < q then q else p) := by split <;> assumption
/-- The greatest room. -/
def rmax (x y : Int) : Int := if x < y then y else x
def roomK (a b : VV) : Nat := max (max (roomN a.lo) (roomN a.hi)) (max (roomN b.lo) (roomN b.hi))
/-- The interval of what Xor makes. -/
def oneI (a b : VV) : Int × Int :=
  (if (0 ≤ a.lo ∧ 0 ≤ b.lo) ∨ (a.hi < 0 ∧ b.hi < 0) then 0 else IntKind.i64.wrap (-1 * 2 ^ min (roomK a b) 64),
   if (0 ≤ a.lo ∧ 0 ≤ b.lo) ∨ (a.hi < 0 ∧ b.hi < 0) then IntKind.i64.wrap (IntKind.u64.wrap (IntKind.u64.wrap (1 * 2 ^ min (roomK a b) 64) - 1)) else if (0 ≤ a.lo ∧ b.hi < 0) ∨ (a.hi < 0 ∧ 0 ≤ b.lo) then -1 else IntKind.i64.wrap (IntKind.u64.wrap (IntKind.u64.wrap (1 * 2 ^ min (roomK a b) 64) - 1)))
def bxone (a b : VV) : VV := vmk (iof (oneI a b).1 (oneI a b).2) (cdig ubxor a b)
set_option maxHeartbeats 8000000 in
theorem one_d (a b : VV) (ha : InV a) (hb : InV b) : Den Tryz.prog 183 #[VVal a, VVal b] noFacts (VVal (bxone a b)) := by
  refine den_of_body (args := [VVal a, VVal b]) hmix Tryz.func183 ?_
  have D := bDigXor_d a b ha hb
  have ci := cdig_in ubxor_in ha hb
  have R1 := room_d _ ha.lo
  have R2 := room_d _ ha.hi
  have R3 := room_d _ hb.lo
  have R4 := room_d _ hb.hi
  have z : IS 0 := ⟨by decide, by decide⟩
  obtain ⟨kk, hk⟩ : ∃ kk : Int, (if (roomN b.hi : Int) > (if (roomN b.lo : Int) > (if (roomN a.hi : Int) > (roomN a.lo : Int) then (roomN a.hi : Int) else (roomN a.lo : Int)) then (roomN b.lo : Int) else (if (roomN a.hi : Int) > (roomN a.lo : Int) then (roomN a.hi : Int) else (roomN a.lo : Int))) then (roomN b.hi : Int) else (if (roomN b.lo : Int) > (if (roomN a.hi : Int) > (roomN a.lo : Int) then (roomN a.hi : Int) else (roomN a.lo : Int)) then (roomN b.lo : Int) else (if (roomN a.hi : Int) > (roomN a.lo : Int) then (roomN a.hi : Int) else (roomN a.lo : Int)))) = kk := ⟨_, rfl⟩
  have hkk : kk = (roomK a b : Int) := by
    rw [← hk]
    unfold roomK
    generalize roomN a.lo = p
    generalize roomN a.hi = q
    generalize roomN b.lo = r
    generalize roomN b.hi = s
    repeat' split
    all_goals omega
  have k0 : 0 ≤ kk := by rw [hkk]; exact Int.natCast_nonneg _
  (repeat' ((conv => whnf); first | refine CallN.any _ D ?_ | refine CallN.any _ R1 ?_ | refine CallN.any _ R2 ?_ | refine CallN.any _ R3 ?_ | refine CallN.any _ R4 ?_ | refine CallN.any _ (iOf_d _ _) ?_ | refine Ob.mk ⟨by decide, by decide⟩ ?_ | refine AdN.mk _ _ rfl ?_ | refine DrawN.a (Ob.mk (by decide +kernel) ?_) | refine DrawN.c (Ob.mk (by decide +kernel) ?_) | refine DrawN.b (Ob.mk (by decide +kernel) ?_) | refine Ob.mk (by kernel_rfl) ?_ | (refine Br.mk (fun h => ?_) (fun h => ?_) <;> (first | (exfalso; exact Bool.false_ne_true h) | (exfalso; exact Bool.false_ne_true h.symm) | skip)))); all_goals (conv => whnf)
  rw [hk]
  clear hk R1 R2 R3 R4
  (repeat' ((conv => whnf); first | refine CallN.any _ D ?_ | refine CallN.any _ (iOf_d _ _) ?_ | refine Ob.mk k0 ?_ | refine Ob.mk ⟨by decide, by decide⟩ ?_ | refine CallN.any _ (vMake_d ⟨_, _, _, _⟩ (InV.mk (iof_in (by first | exact z | exact wrap_is _ | exact ⟨by decide, by decide⟩) (by first | exact z | exact wrap_is _ | exact ⟨by decide, by decide⟩)).1 (iof_in (by first | exact z | exact wrap_is _ | exact ⟨by decide, by decide⟩) (by first | exact z | exact wrap_is _ | exact ⟨by decide, by decide⟩)).2 ci.1 ci.2)) ?_ | refine AdN.mk _ _ rfl ?_ | refine DrawN.a (Ob.mk (by decide +kernel) ?_) | refine DrawN.c (Ob.mk (by decide +kernel) ?_) | refine DrawN.b (Ob.mk (by decide +kernel) ?_) | refine Ob.mk (by kernel_rfl) ?_ | (refine Br.mk (fun h => ?_) (fun h => ?_) <;> (first | (exfalso; exact Bool.false_ne_true h) | (exfalso; exact Bool.false_ne_true h.symm) | skip)) | refine SeqN.go ?_)); all_goals (conv => whnf)
  all_goals (clear D ci z k0; subst hkk; refine congrArg VVal (?_ : vmake _ = _); unfold bxone oneI vmk; simp only [Int.toNat_natCast, show IntKind.i64.bits = 64 from rfl, show IntKind.u64.bits = 64 from rfl, decide_eq_true_eq, decide_eq_false_iff_not] at *; first | (exfalso; clear ha hb; omega) | (clear ha hb; generalize roomK a b = rk at *; grind) | trace_state)
/-! Contracts of package bitop: shifts by a count. -/
/-- Moved up, and down. -/
def slK (x : Int) (k : Nat) : Int := IntKind.i64.wrap (x * 2 ^ k)
theorem min64 {k : Nat} (h : k < 64) : min ((k : Int)).toNat IntKind.i64.bits = k := by rw [Int.toNat_natCast]; exact Nat.min_eq_left (show k ≤ 64 by omega)
theorem min64u {k : Nat} (h : k < 64) : min ((k : Int)).toNat IntKind.u64.bits = k := by rw [Int.toNat_natCast]; exact Nat.min_eq_left (show k ≤ 64 by omega)
theorem fdiv2 (x : Int) (k : Nat) : x.fdiv (2 ^ k) = x / 2 ^ k := Int.fdiv_eq_ediv_of_nonneg _ (Int.le_of_lt (p2pos k))
theorem div2_is {x : Int} (h : IS x) (k : Nat) : IS (x / 2 ^ k) := by
  have := shf_dn h (k := k)
  rw [← this]; exact wrap_is _
def cup (a : VV) (k : Nat) : Int × Int := cmul a.m a.r 0 (us (IntKind.i64.wrap (IntKind.u64.wrap (1 * 2 ^ k))))
def bup (a : VV) (k : Nat) : VV :=
  if a.lo = a.hi then vone (slK a.lo k)
  else if slK a.lo k / 2 ^ k ≠ a.lo ∨ slK a.hi k / 2 ^ k ≠ a.hi then vmk (-9223372036854775808, 9223372036854775807) (cwrapped (cup a k).1 (cup a k).2)
  else vmk (iof (slK a.lo k) (slK a.hi k)) (cup a k)
theorem cup_in {a : VV} (ha : InV a) (k : Nat) : IU (cup a k).1 ∧ IU (cup a k).2 := by
  have z0 : IU 0 := ⟨by decide, by decide⟩
  exact cmul_in ha.m.1 ha.m.2 ha.r.1 ha.r.2 z0.1 z0.2 (us_rng _).1 (us_rng _).2
set_option maxHeartbeats 8000000 in
theorem up_d (a : VV) (h : RV a) (k : Nat) (hk : k < 64) : Den Tryz.prog 186 #[VVal a, .int .u64 (k : Int)] noFacts (VVal (bup a k)) := by
  refine den_of_body (args := [VVal a, .int .u64 (k : Int)]) hmix Tryz.func186 ?_
  have ha := h.inn
  have S := single_r h
  have e1 := min64 hk
  have e2 := min64u hk
  have ec : ((k : Int) % 64).toNat = k := by omega
  have D := wAll_d 11 a.lo (IntKind.i64.wrap (k : Int)) ⟨by decide, by decide⟩
  have eD : wopV 11 a.lo (IntKind.i64.wrap (k : Int)) = slK a.lo k := by
    rw [sg_eq, sg_in _ (by omega) (by omega)]
    show IntKind.i64.wrap (a.lo * 2 ^ ((k : Int) % 64).toNat) = _
    rw [ec]; rfl
  rw [eD] at D
  have O := vOne_d (slK a.lo k)
  have C := den_of (F := noFacts) (const_c (IntKind.i64.wrap (IntKind.u64.wrap (1 * 2 ^ min ((k : Int)).toNat IntKind.u64.bits))))
  have z0 : IU 0 := ⟨by decide, by decide⟩
  have M := den_of (F := noFacts) fun W => mul_c a.m a.r 0 (us (IntKind.i64.wrap (IntKind.u64.wrap (1 * 2 ^ min ((k : Int)).toNat IntKind.u64.bits)))) W ha.m.1 ha.m.2 ha.r.1 ha.r.2 z0.1 z0.2 (us_rng _).1 (us_rng _).2
  have ecup : cmul a.m a.r 0 (us (IntKind.i64.wrap (IntKind.u64.wrap (1 * 2 ^ min ((k : Int)).toNat IntKind.u64.bits)))) = cup a k := by rw [e2]; rfl
  rw [ecup] at M
  have ci := cup_in ha k
  have wi := cwr_in ci.1 ci.2
  have W := den_of (F := noFacts) fun w => wrapped_c (cup a k).1 (cup a k).2 w ci.1.1 ci.1.2 ci.2.1 ci.2.2
  have M1 := vMake_d ⟨-9223372036854775808, 9223372036854775807, _, _⟩ (show InV ⟨-9223372036854775808, 9223372036854775807, (cwrapped (cup a k).1 (cup a k).2).1, (cwrapped (cup a k).1 (cup a k).2).2⟩ from ⟨by constructor <;> dsimp only <;> decide, by constructor <;> dsimp only <;> decide, wi.1, wi.2⟩)
  by_cases hs : a.lo = a.hi
  · rw [if_pos hs] at S
    (repeat' ((conv => whnf); first | refine CallN.any _ S ?_ | refine CallN.any _ D ?_ | refine CallN.any _ O ?_ | refine AdN.mk _ _ rfl ?_ | refine DrawN.a (Ob.mk (by decide +kernel) ?_) | refine DrawN.c (Ob.mk (by decide +kernel) ?_) | refine DrawN.b (Ob.mk (by decide +kernel) ?_) | refine Ob.mk (by kernel_rfl) ?_ | (refine Br.mk (fun h => ?_) (fun h => ?_) <;> (first | (exfalso; exact Bool.false_ne_true h) | (exfalso; exact Bool.false_ne_true h.symm) | (exfalso; simp [hs] at *; done) | skip)) | refine SeqN.go ?_)); all_goals (conv => whnf)
    show VVal _ = _
    rw [show bup a k = vone (slK a.lo k) from if_pos hs]
  · rw [if_neg hs] at S
    (repeat' ((conv => whnf); first | refine CallN.any _ S ?_ | refine CallN.any _ C ?_ | refine CallN.any _ M ?_ | refine CallN.any _ W ?_ | refine CallN.any _ M1 ?_ | refine CallN.any _ iWhole_d ?_ | refine CallN.any _ (iOf_d _ _) ?_ | refine Ob.mk (Int.natCast_nonneg _) ?_ | refine Ob.mk ⟨by decide, by decide⟩ ?_ | refine CallN.any _ (vMake_d ⟨_, _, _, _⟩ (InV.mk (iof_in (by first | exact wrap_is _ | exact div2_is ha.lo _ | exact div2_is ha.hi _) (by first | exact wrap_is _ | exact div2_is ha.lo _ | exact div2_is ha.hi _)).1 (iof_in (by first | exact wrap_is _ | exact div2_is ha.lo _ | exact div2_is ha.hi _) (by first | exact wrap_is _ | exact div2_is ha.lo _ | exact div2_is ha.hi _)).2 ci.1 ci.2)) ?_ | refine AdN.mk _ _ rfl ?_ | refine DrawN.a (Ob.mk (by decide +kernel) ?_) | refine DrawN.c (Ob.mk (by decide +kernel) ?_) | refine DrawN.b (Ob.mk (by decide +kernel) ?_) | refine Ob.mk (by kernel_rfl) ?_ | (refine Br.mk (fun h => ?_) (fun h => ?_) <;> (first | (exfalso; exact Bool.false_ne_true h) | (exfalso; exact Bool.false_ne_true h.symm) | (exfalso; simp [hs] at *; done) | skip)) | refine SeqN.go ?_)); all_goals (conv => whnf)
    all_goals (clear S D O C M W M1; refine congrArg VVal (?_ : vmake _ = _); unfold bup vmk; rw [if_neg hs]; simp only [e1, fdiv2] at *; unfold slK; first | grind | trace_state)
def cdown (a : VV) (k : Nat) : Int × Int := if IntKind.u64.wrap (a.m / 2 ^ k * 2 ^ k) = a.m then (a.m / 2 ^ k, a.r / 2 ^ k) else (1, 0)
def bdown (a : VV) (k : Nat) : VV := if a.lo = a.hi then vone (a.lo / 2 ^ k) else vmk (iof (a.lo / 2 ^ k) (a.hi / 2 ^ k)) (cdown a k)
theorem div2_iu {x : Int} (h : IU x) (k : Nat) : IU (x / 2 ^ k) := ⟨Int.ediv_nonneg h.1 (Int.le_of_lt (p2pos k)), Int.le_trans (Int.ediv_le_self _ h.1) h.2⟩
set_option maxHeartbeats 8000000 in
theorem down_d (a : VV) (h : RV a) (k : Nat) (hk : k < 64) : Den Tryz.prog 188 #[VVal a, .int .u64 (k : Int)] noFacts (VVal (bdown a k)) := by
  refine den_of_body (args := [VVal a, .int .u64 (k : Int)]) hmix Tryz.func188 ?_
  have ha := h.inn
  have S := single_r h
  have e1 := min64 hk
  have e2 := min64u hk
  have ec : ((k : Int) % 64).toNat = k := by omega
  have D := wAll_d 12 a.lo (IntKind.i64.wrap (k : Int)) ⟨by decide, by decide⟩
  have eD : wopV 12 a.lo (IntKind.i64.wrap (k : Int)) = a.lo / 2 ^ k := by
    rw [sg_eq, sg_in _ (by omega) (by omega)]
    show a.lo / 2 ^ ((k : Int) % 64).toNat = _
    rw [ec]
  rw [eD] at D
  have O := vOne_d (a.lo / 2 ^ k)
  have T := den_of (F := noFacts) top_c
  have im : IU (a.m.fdiv (2 ^ min ((k : Int)).toNat IntKind.u64.bits)) := by rw [e2, fdiv2]; exact div2_iu ha.m k
  have ir : IU (a.r.fdiv (2 ^ min ((k : Int)).toNat IntKind.u64.bits)) := by rw [e2, fdiv2]; exact div2_iu ha.r k
  have il : IS (a.lo.fdiv (2 ^ min ((k : Int)).toNat IntKind.i64.bits)) := by rw [e1, fdiv2]; exact div2_is ha.lo k
  have ih : IS (a.hi.fdiv (2 ^ min ((k : Int)).toNat IntKind.i64.bits)) := by rw [e1, fdiv2]; exact div2_is ha.hi k
  have i1 : IU 1 := ⟨by decide, by decide⟩
  have i0 : IU 0 := ⟨by decide, by decide⟩
  by_cases hs : a.lo = a.hi
  · rw [if_pos hs] at S
    (repeat' ((conv => whnf); first | refine CallN.any _ S ?_ | refine CallN.any _ D ?_ | refine CallN.any _ O ?_ | refine AdN.mk _ _ rfl ?_ | refine DrawN.a (Ob.mk (by decide +kernel) ?_) | refine DrawN.c (Ob.mk (by decide +kernel) ?_) | refine DrawN.b (Ob.mk (by decide +kernel) ?_) | refine Ob.mk (by kernel_rfl) ?_ | (refine Br.mk (fun h => ?_) (fun h => ?_) <;> (first | (exfalso; exact Bool.false_ne_true h) | (exfalso; exact Bool.false_ne_true h.symm) | (exfalso; simp [hs] at *; done) | skip)) | refine SeqN.go ?_)); all_goals (conv => whnf)
    show VVal _ = _
    rw [show bdown a k = vone (a.lo / 2 ^ k) from if_pos hs]
  · rw [if_neg hs] at S
    (repeat' ((conv => whnf); first | refine CallN.any _ S ?_ | refine CallN.any _ T ?_ | refine CallN.any _ (iOf_d _ _) ?_ | refine Ob.mk (Int.natCast_nonneg _) ?_ | refine Ob.mk ⟨by decide, by decide⟩ ?_ | refine CallN.any _ (vMake_d ⟨_, _, a.m.fdiv (2 ^ min ((k : Int)).toNat IntKind.u64.bits), a.r.fdiv (2 ^ min ((k : Int)).toNat IntKind.u64.bits)⟩ (InV.mk (iof_in il ih).1 (iof_in il ih).2 im ir)) ?_ | refine CallN.any _ (vMake_d ⟨_, _, 1, 0⟩ (InV.mk (iof_in il ih).1 (iof_in il ih).2 i1 i0)) ?_ | refine AdN.mk _ _ rfl ?_ | refine DrawN.a (Ob.mk (by decide +kernel) ?_) | refine DrawN.c (Ob.mk (by decide +kernel) ?_) | refine DrawN.b (Ob.mk (by decide +kernel) ?_) | refine Ob.mk (by kernel_rfl) ?_ | (refine Br.mk (fun h => ?_) (fun h => ?_) <;> (first | (exfalso; exact Bool.false_ne_true h) | (exfalso; exact Bool.false_ne_true h.symm) | (exfalso; simp [hs] at *; done) | skip)) | refine SeqN.go ?_)); all_goals (conv => whnf)
    all_goals (clear S D O T im ir il ih; refine congrArg VVal (?_ : vmake _ = _); unfold bdown vmk cdown; rw [if_neg hs]; simp only [e1, e2, fdiv2] at *; first | grind | trace_state)
end Go.Proofs.YtljhbdgoknfkcaaGreatDoor
