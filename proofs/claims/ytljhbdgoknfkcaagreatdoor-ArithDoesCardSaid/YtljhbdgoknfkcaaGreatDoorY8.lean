/- Rows of bytes of the reference: products. -/
import Derived.Test.YtljhbdgoknfkcaaGreatDoorY7
namespace Go.Proofs.YtljhbdgoknfkcaaGreatDoor
open Go Go.RowKit Go.Sort
set_option linter.unusedVariables false
set_option linter.unusedSimpArgs false
set_option maxRecDepth 100000

def IVs (l : List Int) : List Value := l.map fun x => Value.int .i64 x
theorem IVs_rep (n : Nat) : IVs (List.replicate n 0) = repX n [.int .i64 0] := by
  induction n with
  | zero => rfl
  | succ n ih => rw [List.replicate_succ]; show Value.int .i64 0 :: IVs _ = _; rw [ih]; rfl
theorem rowI {l : List Int} {K : List Value → Prop} (n : Int) (h0 : 0 ≤ n) (h : n < (l.length : Int)) (k : K [.int .i64 (l.getD n.toNat 0)]) : RowN (IVs l) (n.toNat * 1) 1 K := by
  refine .mk _ ?_ rfl k
  have h2 : n.toNat < l.length := by omega
  rw [Nat.mul_one]
  unfold IVs
  have h3 : l.getD n.toNat 0 = l[n.toNat] := by simp [List.getD, h2]
  rw [h3, ← List.map_drop, ← List.map_take, List.drop_eq_getElem_cons h2]
  rfl
theorem rowI1 {l : List Int} {z : Int} {K : List Value → Prop} (n : Nat) (e : z = (n : Int)) (h : n < l.length) (k : K [.int .i64 (l.getD n 0)]) : RowN (IVs l) (z.toNat * 1) 1 K := by
  subst e
  exact rowI (n : Int) (Int.natCast_nonneg _) (Int.ofNat_lt.2 h) (by rw [Int.toNat_natCast]; exact k)
theorem rowI2 {l : List Int} {z z' v : Int} {K : List Value → Prop} (m n : Nat) (e' : z' = (m : Int)) (e : z = (n : Int)) (h : n < l.length) (k : K [.int .i64 ((l.set m v).getD n 0)]) : RowN (storeV (IVs l) (z'.toNat * 1) [.int .i64 v]) (z.toNat * 1) 1 K := by
  have q : storeV (IVs l) (z'.toNat * 1) [.int .i64 v] = IVs (l.set m v) := by
    subst e'
    rw [Int.toNat_natCast]
    show setL (IVs l) (m * 1) _ = _
    rw [setL_eq, Nat.mul_one]
    unfold IVs
    rw [List.map_set]
  rw [q]
  exact rowI1 n e (by simpa using h) k
theorem storeI {l : List Int} {x : Int} (n : Nat) : storeV (IVs l) (n * 1) [.int .i64 x] = IVs (l.set n x) := by
  show setL (IVs l) (n * 1) _ = _
  rw [setL_eq, Nat.mul_one]
  unfold IVs
  rw [List.map_set]
structure MulI (A B la lb i : Nat) (s : List Int) : Prop where
  len : s.length = la + lb + 1
  nn : NN s
  sum : sumI s ≤ 65025 * (i * lb : Nat)
  wv : wv s = ((A % 256 ^ i * B : Nat) : Int)
structure MulK (A B la lb i k : Nat) (s : List Int) : Prop where
  len : s.length = la + lb + 1
  nn : NN s
  sum : sumI s ≤ 65025 * (i * lb + k : Nat)
  wv : wv s = ((A % 256 ^ i * B + A / 256 ^ i % 256 * (B % 256 ^ k) * 256 ^ i : Nat) : Int)
theorem MulI.start {A B la lb : Nat} : MulI A B la lb 0 (List.replicate (la + lb + 1) 0) :=
  ⟨by simp, fun x hx => by rw [List.eq_of_mem_replicate hx]; exact Int.le_refl 0, by rw [sum_zero]; simp, by rw [wv_zero]; simp [Nat.mod_one]⟩
theorem MulI.row {A B la lb i : Nat} {s : List Int} (h : MulI A B la lb i s) : MulK A B la lb i 0 s := ⟨h.len, h.nn, h.sum, by rw [h.wv]; simp [Nat.mod_one]⟩
theorem MulK.row {A B la lb i : Nat} {s : List Int} (h : MulK A B la lb i lb s) (hB : B < 256 ^ lb) : MulI A B la lb (i + 1) s := by
  refine ⟨h.len, h.nn, ?_, ?_⟩
  · have := h.sum
    rw [Nat.succ_mul]
    exact this
  · rw [h.wv, Nat.mod_eq_of_lt hB, mod_step, Nat.add_mul]
    congr 2
    rw [Nat.mul_assoc, Nat.mul_comm B, ← Nat.mul_assoc, Nat.mul_comm (A / 256 ^ i % 256)]
theorem MulK.bound {A B la lb i k : Nat} {s : List Int} (h : MulK A B la lb i k s) (hi : i < la) (hk : k ≤ lb) (ha : la ≤ 500) (hb : lb ≤ 500) (j : Nat) : 0 ≤ s.getD j 0 ∧ s.getD j 0 ≤ 32512500000 := by
  refine ⟨h.nn.getD j, Int.le_trans (h.nn.le j) (Int.le_trans h.sum ?_)⟩
  have h1 : i * lb + k ≤ 499 * 500 + 500 := Nat.add_le_add (Nat.mul_le_mul (by omega) hb) (by omega)
  generalize i * lb + k = n at *
  omega
theorem MulK.step {A B la lb i k : Nat} {s : List Int} (h : MulK A B la lb i k s) (hi : i < la) (hk : k < lb) :
    MulK A B la lb i (k + 1) (mulSt s (i + k) (((A / 256 ^ i % 256 : Nat) : Int) * ((B / 256 ^ k % 256 : Nat) : Int))) := by
  obtain ⟨p1, p2⟩ := byte_mul (A := A) (B := B) (i := i) (k := k)
  have hj : i + k + 1 < s.length := by rw [h.len]; omega
  refine ⟨by rw [mulSt_len]; exact h.len, mulSt_nn h.nn p1, ?_, ?_⟩
  · have h1 := mulSt_sum h.nn p1 hj
    have h2 := h.sum
    rw [show i * lb + (k + 1) = i * lb + k + 1 by omega]
    generalize i * lb + k = n at *
    generalize ((A / 256 ^ i % 256 : Nat) : Int) * ((B / 256 ^ k % 256 : Nat) : Int) = p at *
    omega
  · rw [mulSt_wv hj, h.wv, mod_step]
    generalize A / 256 ^ i % 256 = x
    generalize B / 256 ^ k % 256 = y
    generalize A % 256 ^ i * B = z
    generalize B % 256 ^ k = u
    rw [Int.pow_add]
    push_cast
    generalize (256 : Int) ^ k = q
    generalize (256 : Int) ^ i = r
    generalize (x : Int) = x, (y : Int) = y, (z : Int) = z, (u : Int) = u
    rw [Int.mul_add, Int.add_mul, ← Int.add_assoc]
    congr 1
    rw [Int.mul_comm r q, ← Int.mul_assoc, Int.mul_assoc x y q, Int.mul_comm y q]
theorem w5 {x : Int} {a b : Nat} (hx : 0 ≤ x ∧ x ≤ 32512500000) (ha : a < 256) (hb : b < 256) : IntKind.i64.wrap (x + IntKind.i64.wrap ((a : Int) * (b : Int))) = x + (a : Int) * (b : Int) := by
  have := Nat.mul_le_mul (Nat.le_of_lt_succ ha) (Nat.le_of_lt_succ hb)
  have e : (a : Int) * (b : Int) = ((a * b : Nat) : Int) := by simp
  rw [e]
  generalize a * b = c at *
  have q : sg (c : Int) = (c : Int) := sg_in _ (by omega) (by omega)
  simp only [sg_eq]
  rw [q, sg_in _ (by omega) (by omega)]
theorem wadd {i k la lb : Nat} (hi : i < la) (hk : k < lb) (ha : la ≤ 500) (hb : lb ≤ 500) : IntKind.i64.wrap ((i : Int) + (k : Int)) = ((i + k : Nat) : Int) := by rw [sg_eq, sg_in _ (by omega) (by omega)]; omega
theorem wadd1 {i k la lb : Nat} (hi : i < la) (hk : k < lb) (ha : la ≤ 500) (hb : lb ≤ 500) : IntKind.i64.wrap (IntKind.i64.wrap ((i : Int) + (k : Int)) + 1) = ((i + k + 1 : Nat) : Int) := by rw [wadd hi hk ha hb, sg_eq, sg_in _ (by omega) (by omega)]; omega
theorem idx {z : Int} {n N : Nat} (e : z = (n : Int)) (h : n < N) : 0 ≤ z ∧ z < (N : Int) := by omega
theorem fit1 {z : Int} {n N L : Nat} (e : z = (n : Int)) (h : n < N) (hL : L = N) : z.toNat * 1 + 1 ≤ L := by omega
theorem lt3 {i k la lb : Nat} (hi : i < la) (hk : k < lb) : i + k < la + lb + 1 := by omega
theorem lt4 {i k la lb : Nat} (hi : i < la) (hk : k < lb) : i + k + 1 < la + lb + 1 := by omega
theorem mulrow {r : List Int} {j a b : Nat} {z z' w : Int} (e1 : z = (j : Int)) (e2 : z' = ((j + 1 : Nat) : Int)) (ha : a < 256) (hb : b < 256) (hr : ∀ j, 0 ≤ r.getD j 0 ∧ r.getD j 0 ≤ 32512500000) (ew : w = r.getD j 0 + (a : Int) * (b : Int)) :
    storeV (storeV (IVs r) (z.toNat * 1) [.int .i64 (w.tmod 256)]) (z'.toNat * 1) [.int .i64 (IntKind.i64.wrap ((r.set j (w.tmod 256)).getD (j + 1) 0 + IntKind.i64.wrap (w.tdiv 256)))] = IVs (mulSt r j ((a : Int) * (b : Int))) := by
  have h1 := hr j
  have h2 := hr (j + 1)
  have h3 : 0 ≤ (a : Int) * (b : Int) ∧ (a : Int) * (b : Int) ≤ 65025 := by
    have := Nat.mul_le_mul (Nat.le_of_lt_succ ha) (Nat.le_of_lt_succ hb)
    have e : (a : Int) * (b : Int) = ((a * b : Nat) : Int) := by simp
    rw [e]
    generalize a * b = c at *
    omega
  subst e1 e2
  rw [Int.toNat_natCast, Int.toNat_natCast, storeI, storeI]
  unfold mulSt
  rw [ew]
  generalize (a : Int) * (b : Int) = p at *
  have hs : (r.set j ((r.getD j 0 + p).tmod 256)).getD (j + 1) 0 = r.getD (j + 1) 0 := by simp [List.getD, List.getElem?_set_ne (show j ≠ j + 1 by omega)]
  have hs' : (r.set j ((r.getD j 0 + p) % 256)).getD (j + 1) 0 = r.getD (j + 1) 0 := by simp [List.getD, List.getElem?_set_ne (show j ≠ j + 1 by omega)]
  rw [hs, hs', Int.tmod_eq_emod_of_nonneg (by omega), Int.tdiv_eq_ediv_of_nonneg (by omega)]
  have q : sg ((r.getD j 0 + p) / 256) = (r.getD j 0 + p) / 256 := sg_in _ (by omega) (by omega)
  simp only [sg_eq]
  rw [q, sg_in _ (by omega) (by omega)]
theorem by_w {l : List Int} {z : Int} {i n : Nat} (g : l.getD i 0 = ((n % 256 : Nat) : Int)) (hz : z = (i : Int)) : IntKind.i64.wrap (l.getD z.toNat 0) = ((n % 256 : Nat) : Int) := by
  subst hz
  rw [Int.toNat_natCast, g, sg_eq, sg_in _ (by omega) (by omega)]
theorem MulI.bound {A B la lb i : Nat} {s : List Int} (h : MulI A B la lb i s) (hi : i ≤ la) (ha : la ≤ 500) (hb : lb ≤ 500) (j : Nat) : 0 ≤ s.getD j 0 ∧ s.getD j 0 ≤ 32512500000 := by
  refine ⟨h.nn.getD j, Int.le_trans (h.nn.le j) (Int.le_trans h.sum ?_)⟩
  have h1 : i * lb ≤ 500 * 500 := Nat.mul_le_mul (by omega) hb
  generalize i * lb = n at *
  omega
theorem cap1 {i lb j : Nat} (h : j < i + lb + 1) (ha : i ≤ 500) (hb : lb ≤ 500) : 0 < 0 + 1 ∧ (j + 1) * 1 ≤ 140737488355328 ∧ j + 1 ≤ 140737488355328 := by omega
theorem cap2 {i lb : Nat} (ha : i ≤ 500) (hb : lb ≤ 500) : i + lb + 1 ≤ 1000000000 := by omega
theorem cz {c : Nat} (hz : c = 0) (h : decide ((c : Int) > 0) = true) : False := by subst hz; simp at h
theorem cap3 {i lb : Nat} (ha : i ≤ 500) (hb : lb ≤ 500) : i + lb + 1 ≤ 1000000 := by omega
theorem mul_lt {A B i j : Nat} (hA : A < 256 ^ i) (hB : B < 256 ^ j) : A * B < 256 ^ (i + j + 1) := by
  have h1 : A * B ≤ 256 ^ i * 256 ^ j := Nat.mul_le_mul (Nat.le_of_lt hA) (Nat.le_of_lt hB)
  rw [Nat.pow_succ, Nat.pow_add]
  have := Nat.pow_pos (n := i) (show 0 < 256 by decide)
  have := Nat.pow_pos (n := j) (show 0 < 256 by decide)
  have : 0 < 256 ^ i * 256 ^ j := Nat.mul_pos ‹_› ‹_›
  generalize 256 ^ i * 256 ^ j = t at *
  omega
theorem div_big {V k : Nat} (h : V < 256 ^ k) : ((V : Nat) : Int) / 256 ^ k = 0 := Int.ediv_eq_zero_of_lt (Int.natCast_nonneg _) (by exact_mod_cast h)
/-- The carry. -/
structure CarI (V : Nat) (s : List Int) (j c : Nat) : Prop where
  le : c ≤ 32512500000
  eq : (c : Int) + wv (s.drop j) = (V : Int) / 256 ^ j
theorem CarI.step {V : Nat} {s : List Int} {j c n : Nat} (h : CarI V s j c) (hj : j < s.length) (hs : 0 ≤ s.getD j 0 ∧ s.getD j 0 ≤ 32512500000) (hn : (n : Int) = s.getD j 0 + c) : CarI V s (j + 1) (n / 256) ∧ ((n % 256 : Nat) : Int) = (V : Int) / 256 ^ j % 256 := by
  have e := h.eq
  have hl := h.le
  rw [wv_drop hj] at e
  constructor
  · refine ⟨by clear e; omega, ?_⟩
    have e2 : (V : Int) / 256 ^ (j + 1) = (V : Int) / 256 ^ j / 256 := by rw [Int.pow_succ, Int.ediv_ediv_of_nonneg (Int.le_of_lt (Int.pow_pos (by decide)))]
    rw [e2, ← e]
    generalize wv (s.drop (j + 1)) = w at *
    clear e e2
    omega
  · rw [← e]
    generalize wv (s.drop (j + 1)) = w at *
    clear e
    omega
theorem w6 {x : Int} {c n : Nat} (hx : 0 ≤ x ∧ x ≤ 32512500000) (hc : c ≤ 32512500000) (hn : (n : Int) = x + c) : IntKind.i64.wrap (x + (c : Int)) = (n : Int) ∧ IntKind.i64.wrap ((IntKind.i64.wrap (x + (c : Int))).tdiv 256) = ((n / 256 : Nat) : Int) ∧ IntKind.u8.wrap ((IntKind.i64.wrap (x + (c : Int))).tmod 256) = ((n % 256 : Nat) : Int) := by
  have e : IntKind.i64.wrap (x + (c : Int)) = (n : Int) := by rw [sg_eq, sg_in _ (by omega) (by omega), hn]
  refine ⟨e, ?_, ?_⟩
  · rw [e, Int.tdiv_eq_ediv_of_nonneg (by omega), sg_eq, sg_in _ (by omega) (by omega)]; omega
  · rw [e, Int.tmod_eq_emod_of_nonneg (by omega), IntKind.wrap_u8]; omega
set_option maxHeartbeats 4000000 in
theorem mul_f (A B : Nat) (ha : (byt A).length ≤ 500) (hb : (byt B).length ≤ 500) : DenF Tryz.prog 233 noFacts [.r 1 (byt A).length (BVs (byt A)), .r 1 (byt B).length (BVs (byt B))] [.sub 0 0 (byt (A * B)).length] [.row 5 1 ((byt A).length + (byt B).length + 1) (BVs (b8 ((byt A).length + (byt B).length + 1) ((A * B : Nat) : Int)))] := by
  refine DenF.fam rfl ?_
  intro ad1 b1 off1 c1 hs1 _ ad2 b2 off2 c2 hs2 _
  have F1 : FLe (rowF b1 off1 (BVs (byt A))) (orF (orF noFacts (rowF b1 off1 (BVs (byt A)))) (rowF b2 off2 (BVs (byt B)))) := le_orR.trans le_orL
  have F2 : FLe (rowF b2 off2 (BVs (byt B))) (orF (orF noFacts (rowF b1 off1 (BVs (byt A)))) (rowF b2 off2 (BVs (byt B)))) := le_orR
  generalize orF (orF noFacts (rowF b1 off1 (BVs (byt A)))) (rowF b2 off2 (BVs (byt B))) = F at *
  have hA := byt_lt A
  have hB := byt_lt B
  have gA := byt_getD A
  have gB := byt_getD B
  refine denV_of_body (args := [.slice ad1 (byt A).length c1, .slice ad2 (byt B).length c2]) hmix Tryz.func233 ?_
  generalize byt A = l1 at *
  generalize byt B = l2 at *
  generalize hla : l1.length = la at *
  generalize hlb : l2.length = lb at *
  have en : IntKind.i64.wrap (IntKind.i64.wrap ((la : Int) + (lb : Int)) + 1) = ((la + lb + 1 : Nat) : Int) := by
    have q : sg ((la : Int) + (lb : Int)) = (la : Int) + (lb : Int) := sg_in _ (by clear hA hB; omega) (by clear hA hB; omega)
    simp only [sg_eq]; rw [q, sg_in _ (by clear hA hB; omega) (by clear hA hB; omega)]; simp
  (repeat' ((conv => whnf); first | refine Ob.mk ⟨(by rw [en]; exact Int.natCast_nonneg _), (by rw [en]; exact Int.le_refl _), (by rw [en]; show ((la + lb + 1 : Nat) : Int) * ((8 : Nat) : Int) ≤ 140737488355328; clear hA hB; omega), (by rw [en]; clear hA hB; omega)⟩ ?_ | refine AdN.mk _ _ rfl ?_ | refine DrawN.a (Ob.mk (by decide +kernel) ?_) | refine DrawN.c (Ob.mk (by decide +kernel) ?_) | refine DrawN.b (Ob.mk (by decide +kernel) ?_) | refine Ob.mk (by kernel_rfl) ?_ | (refine Br.mk (fun h => ?_) (fun h => ?_) <;> (first | (exfalso; exact Bool.false_ne_true h) | (exfalso; exact Bool.false_ne_true h.symm) | skip)))); all_goals (conv => whnf)
  refine SeqN.go ?_
  (repeat' ((conv => whnf); first | refine AdN.mk _ _ rfl ?_ | refine DrawN.a (Ob.mk (by decide +kernel) ?_) | refine DrawN.c (Ob.mk (by decide +kernel) ?_) | refine DrawN.b (Ob.mk (by decide +kernel) ?_) | refine Ob.mk (by kernel_rfl) ?_ | (refine Br.mk (fun h => ?_) (fun h => ?_) <;> (first | (exfalso; exact Bool.false_ne_true h) | (exfalso; exact Bool.false_ne_true h.symm) | skip)))); all_goals (conv => whnf)
  refine LoopN.mk {x : Nat × List Int // x.1 ≤ la ∧ MulI A B la lb x.1 x.2} (fun x => [(6, .v (.int .i64 x.1.1)), (5, .s 0)]) (fun x => [.row 3 1 (la + lb + 1) (IVs x.1.2)]) (fun x => la - x.1.1) ⟨(0, List.replicate (la + lb + 1) 0), Nat.zero_le _, MulI.start⟩ ?_ ?_
  · (conv => whnf); (repeat' (first | exact True.intro | exact rfl | refine And.intro ?_ ?_ | decide))
    all_goals first | (rw [en]; exact Int.toNat_natCast _) | (rw [en]; exact (IVs_rep _).symm) | trace_state
  (conv => whnf)
  rintro ⟨⟨i, s⟩, hi, hI⟩
  dsimp only at hi hI
  (repeat' ((conv => whnf); first | refine AdN.mk _ _ rfl ?_ | refine DrawN.a (Ob.mk (by decide +kernel) ?_) | refine DrawN.c (Ob.mk (by decide +kernel) ?_) | refine DrawN.b (Ob.mk (by decide +kernel) ?_) | refine Ob.mk (by kernel_rfl) ?_ | (refine Br.mk (fun h => ?_) (fun h => ?_) <;> (first | (exfalso; exact Bool.false_ne_true h) | (exfalso; exact Bool.false_ne_true h.symm) | skip)))); all_goals (conv => whnf)
  refine SeqN.go ?_
  (repeat' ((conv => whnf); first | refine AdN.mk _ _ rfl ?_ | refine DrawN.a (Ob.mk (by decide +kernel) ?_) | refine DrawN.c (Ob.mk (by decide +kernel) ?_) | refine DrawN.b (Ob.mk (by decide +kernel) ?_) | refine Ob.mk (by kernel_rfl) ?_ | (refine Br.mk (fun h => ?_) (fun h => ?_) <;> (first | (exfalso; exact Bool.false_ne_true h) | (exfalso; exact Bool.false_ne_true h.symm) | skip)))); all_goals (conv => whnf)
  · have hil : i < la := Int.ofNat_lt.1 (of_decide_eq_true ‹decide ((i : Int) < (la : Int)) = true›)
    refine SeqN.go ?_
    (repeat' ((conv => whnf); first | refine AdN.mk _ _ rfl ?_ | refine DrawN.a (Ob.mk (by decide +kernel) ?_) | refine DrawN.c (Ob.mk (by decide +kernel) ?_) | refine DrawN.b (Ob.mk (by decide +kernel) ?_) | refine Ob.mk (by kernel_rfl) ?_ | (refine Br.mk (fun h => ?_) (fun h => ?_) <;> (first | (exfalso; exact Bool.false_ne_true h) | (exfalso; exact Bool.false_ne_true h.symm) | skip)))); all_goals (conv => whnf)
    refine LoopN.mk {x : Nat × List Int // x.1 ≤ lb ∧ MulK A B la lb i x.1 x.2} (fun x => [(7, .v (.int .i64 x.1.1)), (5, .s 0)]) (fun x => [.row 3 1 (la + lb + 1) (IVs x.1.2)]) (fun x => lb - x.1.1) ⟨(0, s), Nat.zero_le _, hI.row⟩ ?_ ?_
    · (conv => whnf); (repeat' (first | exact True.intro | exact rfl | refine And.intro ?_ ?_ | decide))
    (conv => whnf)
    rintro ⟨⟨k, r⟩, hk, hK⟩
    dsimp only at hk hK
    have hwi := wi hil (Nat.le_trans ha (by decide))
    have p1 : 0 < la := Nat.lt_of_le_of_lt (Nat.zero_le _) hil
    have hsl := hK.len
    by_cases hkl : k < lb
    · have e1 := wadd hil hkl ha hb
      have e2 := wadd1 hil hkl ha hb
      have i1 := idx e1 (show i + k < la + lb + 1 from lt3 hil hkl)
      have i2 := idx e2 (show i + k + 1 < la + lb + 1 from lt4 hil hkl)
      have p2 : 0 < lb := Nat.lt_of_le_of_lt (Nat.zero_le _) hkl
      have bi : 0 ≤ (i : Int) ∧ (i : Int) < (l1.length : Int) := ⟨Int.natCast_nonneg _, by rw [hla]; exact Int.ofNat_lt.2 hil⟩
      have bk : 0 ≤ (k : Int) ∧ (k : Int) < (l2.length : Int) := ⟨Int.natCast_nonneg _, by rw [hlb]; exact Int.ofNat_lt.2 hkl⟩
      (repeat' ((conv => whnf); first | refine Ob.mk (hla ▸ bi) ?_ | refine Ob.mk (hlb ▸ bk) ?_ | refine Ob.mk i1 ?_ | refine Ob.mk i2 ?_ | refine AdN.mk b1 off1 (hs1 p1) ?_ | refine AdN.mk b2 off2 (hs2 p2) ?_ | refine cellsF F1 (i : Int) bi.1 bi.2 ?_ | refine cellsF F2 (k : Int) bk.1 bk.2 ?_ | refine rowI1 (i + k) e1 (by rw [hsl]; exact lt3 hil hkl) ?_ | refine rowI2 (i + k) (i + k + 1) e1 e2 (by rw [hsl]; exact lt4 hil hkl) ?_ | refine Ob.mk (by decide) ?_ | refine Ob.mk (fit1 e1 (lt3 hil hkl) (by simp [IVs, hsl])) ?_ | refine Ob.mk (fit1 e2 (lt4 hil hkl) (by rw [storeV_len]; simp [IVs, hsl])) ?_ | refine AdN.mk _ _ rfl ?_ | refine DrawN.a (Ob.mk (by decide +kernel) ?_) | refine DrawN.c (Ob.mk (by decide +kernel) ?_) | refine DrawN.b (Ob.mk (by decide +kernel) ?_) | refine Ob.mk (by kernel_rfl) ?_ | (refine Br.mk (fun h => ?_) (fun h => ?_) <;> (first | (exfalso; exact Bool.false_ne_true h) | (exfalso; exact Bool.false_ne_true h.symm) | (exfalso; exact absurd (Int.ofNat_lt.2 hkl) (of_decide_eq_false ‹_›)) | skip)) | refine SeqN.go ?_)); all_goals (conv => whnf)
      have hb0 := hK.bound hil hk ha hb
      have ew := w5 (hb0 (i + k)) (Nat.mod_lt (A / 256 ^ i) (show 0 < 256 by decide)) (Nat.mod_lt (B / 256 ^ k) (show 0 < 256 by decide))
      rw [← by_w (gA i) rfl, ← by_w (gB k) rfl] at ew
      have key := mulrow e1 e2 (Nat.mod_lt (A / 256 ^ i) (show 0 < 256 by decide)) (Nat.mod_lt (B / 256 ^ k) (show 0 < 256 by decide)) hb0 (ew.trans (by rw [by_w (gA i) rfl, by_w (gB k) rfl]))
      refine RoundN.mk ⟨(k + 1, _), hkl, hK.step hil hkl⟩ (Nat.sub_succ_lt_self _ _ hkl) ?_
      (conv => whnf); (repeat' (first | exact True.intro | exact rfl | refine And.intro ?_ ?_ | decide))
      all_goals first | exact congrArg (Value.int _) (wi hkl (Nat.le_trans hb (by decide))) | exact key | trace_state
    · obtain rfl : k = lb := Nat.le_antisymm hk (Nat.le_of_not_lt hkl)
      (repeat' ((conv => whnf); first | refine AdN.mk _ _ rfl ?_ | refine DrawN.a (Ob.mk (by decide +kernel) ?_) | refine DrawN.c (Ob.mk (by decide +kernel) ?_) | refine DrawN.b (Ob.mk (by decide +kernel) ?_) | refine Ob.mk (by kernel_rfl) ?_ | (refine Br.mk (fun h => ?_) (fun h => ?_) <;> (first | (exfalso; exact Bool.false_ne_true h) | (exfalso; exact Bool.false_ne_true h.symm) | (exfalso; exact absurd (Int.ofNat_lt.1 (of_decide_eq_true ‹_›)) hkl) | skip)) | refine SeqN.go ?_)); all_goals (conv => whnf)
      refine RoundN.mk ⟨(i + 1, r), hil, hK.row hB⟩ (Nat.sub_succ_lt_self _ _ hil) ?_
      (conv => whnf); (repeat' (first | exact True.intro | exact rfl | refine And.intro ?_ ?_ | decide))
      all_goals first | exact congrArg (Value.int _) hwi | trace_state
  · obtain rfl : i = la := eq_of_le hi (of_decide_eq_false ‹_›)
    have hv : wv s = ((A * B : Nat) : Int) := by rw [hI.wv, Nat.mod_eq_of_lt hA]
    have hsl := hI.len
    have hnn := hI.nn
    refine SeqN.nilRow 9 5 1 rfl ?_
    (conv => whnf)
    refine SeqN.go ?_
    (repeat' ((conv => whnf); first | refine AdN.mk _ _ rfl ?_ | refine DrawN.a (Ob.mk (by decide +kernel) ?_) | refine DrawN.c (Ob.mk (by decide +kernel) ?_) | refine DrawN.b (Ob.mk (by decide +kernel) ?_) | refine Ob.mk (by kernel_rfl) ?_ | (refine Br.mk (fun h => ?_) (fun h => ?_) <;> (first | (exfalso; exact Bool.false_ne_true h) | (exfalso; exact Bool.false_ne_true h.symm) | skip)))); all_goals (conv => whnf)
    have hbs := hI.bound (Nat.le_refl _) ha hb
    refine LoopN.mk {x : Nat × Nat // x.1 ≤ i + lb + 1 ∧ CarI (A * B) s x.1 x.2} (fun x => [(11, .v (.int .i64 x.1.1)), (10, .v (.int .i64 x.1.2)), (9, .s 1)]) (fun x => [.row 3 1 (i + lb + 1) (IVs s), .row 5 1 x.1.1 (BVs (b8 x.1.1 ((A * B : Nat) : Int)))]) (fun x => i + lb + 1 - x.1.1) ⟨(0, 0), Nat.zero_le _, Nat.zero_le _, by rw [List.drop_zero, hv]; simp⟩ ?_ ?_
    · (conv => whnf); (repeat' (first | exact True.intro | exact rfl | refine And.intro ?_ ?_ | decide))
    (conv => whnf)
    rintro ⟨⟨j, c⟩, hj, hC⟩
    dsimp only at hj hC
    by_cases hjl : j < i + lb + 1
    · have hx := hbs j
      obtain ⟨n, hn⟩ : ∃ n : Nat, (n : Int) = s.getD j 0 + c := ⟨(s.getD j 0 + c).toNat, Int.toNat_of_nonneg (Int.add_nonneg hx.1 (Int.natCast_nonneg _))⟩
      obtain ⟨q1, q2, q3⟩ := w6 hx hC.le hn
      obtain ⟨s1, s2⟩ := hC.step (by rw [hsl]; exact hjl) hx hn
      have hsn := b8_snoc j ((A * B : Nat) : Int)
      (repeat' ((conv => whnf); first | refine Ob.mk ⟨Int.natCast_nonneg _, Int.ofNat_lt.2 hjl⟩ ?_ | refine rowI1 j rfl (by rw [hsl]; exact hjl) ?_ | refine Ob.mk (by decide) ?_ | refine Ob.mk (cap1 hjl ha hb) ?_ | refine AdN.mk _ _ rfl ?_ | refine DrawN.a (Ob.mk (by decide +kernel) ?_) | refine DrawN.c (Ob.mk (by decide +kernel) ?_) | refine DrawN.b (Ob.mk (by decide +kernel) ?_) | refine Ob.mk (by kernel_rfl) ?_ | (refine Br.mk (fun h => ?_) (fun h => ?_) <;> (first | (exfalso; exact Bool.false_ne_true h) | (exfalso; exact Bool.false_ne_true h.symm) | (exfalso; exact absurd (Int.ofNat_lt.2 hjl) (of_decide_eq_false ‹_›)) | skip)) | refine SeqN.go ?_)); all_goals (conv => whnf)
      refine RoundN.mk ⟨(j + 1, n / 256), hjl, s1⟩ (Nat.sub_succ_lt_self _ _ hjl) ?_
      (conv => whnf); (repeat' (first | exact True.intro | exact rfl | refine And.intro ?_ ?_ | decide))
      all_goals first | exact congrArg (Value.int _) (wi hjl (cap2 ha hb)) | exact congrArg (Value.int _) q2 | (dsimp only; rw [hsn, q3, s2]; simp [BVs]; done) | trace_state
    · obtain rfl : j = i + lb + 1 := Nat.le_antisymm hj (Nat.le_of_not_lt hjl)
      have hV : A * B < 256 ^ (i + lb + 1) := mul_lt hA hB
      have hz : c = 0 := by
        have := hC.eq
        rw [List.drop_eq_nil_of_le (by rw [hsl]; exact Nat.le_refl _), div_big hV] at this
        simpa [wv] using this
      (repeat' ((conv => whnf); first | refine AdN.mk _ _ rfl ?_ | refine DrawN.a (Ob.mk (by decide +kernel) ?_) | refine DrawN.c (Ob.mk (by decide +kernel) ?_) | refine DrawN.b (Ob.mk (by decide +kernel) ?_) | refine Ob.mk (by kernel_rfl) ?_ | (refine Br.mk (fun h => ?_) (fun h => ?_) <;> (first | (exfalso; exact Bool.false_ne_true h) | (exfalso; exact Bool.false_ne_true h.symm) | (exfalso; exact absurd (Int.ofNat_lt.1 (of_decide_eq_true ‹_›)) hjl) | skip)))); all_goals (conv => whnf)
      refine SeqN.go ?_
      (repeat' ((conv => whnf); first | refine AdN.mk _ _ rfl ?_ | refine DrawN.a (Ob.mk (by decide +kernel) ?_) | refine DrawN.c (Ob.mk (by decide +kernel) ?_) | refine DrawN.b (Ob.mk (by decide +kernel) ?_) | refine Ob.mk (by kernel_rfl) ?_ | (refine Br.mk (fun h => ?_) (fun h => ?_) <;> (first | (exfalso; exact Bool.false_ne_true h) | (exfalso; exact Bool.false_ne_true h.symm) | (exfalso; exact absurd (Int.ofNat_lt.1 (of_decide_eq_true ‹_›)) hjl) | skip)))); all_goals (conv => whnf)
      refine SeqN.go ?_
      (conv => whnf)
      refine LoopN.roll 1 ?_
      have T := trim_f (b8 (i + lb + 1) ((A * B : Nat) : Int)) (by rw [b8_len]; exact cap3 ha hb)
      rw [b8_len] at T
      (repeat' ((conv => whnf); first | refine CallA.anyFresh _ _ T ?_ | refine AdN.mk _ _ rfl ?_ | refine DrawN.a (Ob.mk (by decide +kernel) ?_) | refine DrawN.c (Ob.mk (by decide +kernel) ?_) | refine DrawN.b (Ob.mk (by decide +kernel) ?_) | refine Ob.mk (by kernel_rfl) ?_ | (refine Br.mk (fun h => ?_) (fun h => ?_) <;> (first | (exfalso; exact Bool.false_ne_true h) | (exfalso; exact Bool.false_ne_true h.symm) | (exfalso; exact cz hz ‹_›) | skip)) | refine SeqN.go ?_)); all_goals (conv => whnf)
      refine RetN.mk [2] (by decide) rfl ?_ ?_ <;> (conv => whnf); (repeat' (first | exact True.intro | exact rfl | refine And.intro ?_ ?_ | decide))
      all_goals first | (rw [b8_trim hV]; done) | trace_state
end Go.Proofs.YtljhbdgoknfkcaaGreatDoor
