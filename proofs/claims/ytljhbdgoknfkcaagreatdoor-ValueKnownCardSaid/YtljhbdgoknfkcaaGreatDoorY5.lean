/- The reference's text of a number. -/
import Derived.Lib.ItoaNum
import Derived.Test.YtljhbdgoknfkcaaGreatDoorY4
namespace Go.Proofs.YtljhbdgoknfkcaaGreatDoor
open Go Go.RowKit Go.Sort
set_option linter.unusedVariables false
set_option linter.unusedSimpArgs false
set_option maxRecDepth 100000

theorem arIs_at {W : World} {F : Facts} {z n b off c : Nat} {xs : List Value} {ad : Option Addr} (hW : Sat (orF F (rowF b off xs)) W) (hl : xs.length = n * z) (hs : 0 < n → ad = some ⟨b, off, none⟩) : ArIs W (.r z n xs) (.slice ad n c) :=
  ⟨hl, ad, c, rfl, fun h => ⟨b, off, hs h, fun j v hj => hW.1 b (off + j) v (.inr ⟨rfl, j, rfl, hj⟩)⟩⟩
theorem sat_left {F G : Facts} {W : World} (h : Sat (orF F G) W) : Sat F W := ⟨fun b o x hx => h.1 b o x (.inl hx), fun b p hp => h.2 b p (.inl hp)⟩
/-- A contract for a row, at a slice that came in. -/
theorem DenF.at {P : Program} {f : FuncId} {F : Facts} {z n b off c : Nat} {xs : List Value} {rest : List AR} {res : List AV} {own : List Blk} {ad : Option Addr} (hn : noObj own = true) (h : DenF P f F (.r z n xs :: rest) res own) (hl : xs.length = n * z) (hs : 0 < n → ad = some ⟨b, off, none⟩) :
    DenF P f (orF F (rowF b off xs)) (.v (.slice ad n c) :: rest) res own := by
  constructor
  intro W us hW ha
  obtain ⟨u, us', rfl, rfl, h2⟩ := ha
  refine (h.out W _ (sat_left hW) ⟨_, us', rfl, arIs_at hW hl hs, h2⟩).mono ?_
  rintro e w' ⟨σ, vs, he, hR, hall, hres⟩
  refine ⟨σ, vs, he, hR.facts (hW.stay fun b hb => hR.below.block b (hW.lt hb)) (fun b hb => hW.lt hb) (fun k b hk => ?_), hall, hres⟩
  have := List.all_eq_true.1 hn b (List.mem_of_getElem? hk)
  cases b <;> simp at this ⊢
theorem DenA.at {P : Program} {f : FuncId} {F : Facts} {z n b off c : Nat} {xs : List Value} {v : Value} {ad : Option Addr} (h : DenA P f F [.r z n xs] v) (hl : xs.length = n * z) (hs : 0 < n → ad = some ⟨b, off, none⟩) :
    Den P f #[.slice ad n c] (orF F (rowF b off xs)) v :=
  ⟨fun W hW => h.out W [.slice ad n c] (sat_left hW) ⟨_, [], rfl, arIs_at hW hl hs, rfl⟩⟩
theorem BVs_len (l : List Int) : (BVs l).length = l.length * 1 := by simp [BVs]
/-- The first bytes of what comes of limbs are the number. -/
theorem flat_part {l : List Int} {v : Nat} (h : ∀ x ∈ l, (0 ≤ x ∧ x ≤ 18446744073709551615)) (hv : lval l = v) : partRow 1 0 (byt v).length (BVs (flat8 l)) = BVs (byt v) := by
  have e := flat8_trim h
  rw [hv] at e
  unfold partRow BVs
  rw [List.drop_zero, Nat.mul_one, ← List.map_take, ← e, trim_take]
def decBn (v : Nat) : ByteArray := ⟨(Lib.decDigits v).toArray⟩
theorem limbsL_iu {l : List Int} (h : BY l) (c : Nat) : ∀ x ∈ limbsL l c, (0 ≤ x ∧ x ≤ 18446744073709551615) := by
  intro x hx
  unfold limbsL at hx
  obtain ⟨k, _, rfl⟩ := List.mem_map.1 hx
  exact limb_rng h k
theorem byt_div_len (v : Nat) : (byt (v / 10)).length ≤ (byt v).length := by
  refine byt_len ?_
  have h := bval_lt (byt_by v)
  rw [bval_byt] at h
  omega
theorem decDigits_small {v : Nat} (h : v < 10) : Lib.decDigits v = [UInt8.ofNat (48 + v)] := by rw [Lib.decDigits]; simp [h]
theorem decDigits_big {v : Nat} (h : ¬ v < 10) : Lib.decDigits v = Lib.decDigits (v / 10) ++ [UInt8.ofNat (48 + v % 10)] := by rw [Lib.decDigits]; simp [h]
theorem nDigits_le : ∀ (k v : Nat), v < 10 ^ (k + 1) → (Lib.decDigits v).length ≤ k + 1
  | 0, v, h => by rw [decDigits_small (by simpa using h)]; simp
  | k + 1, v, h => by
    by_cases hv : v < 10
    · rw [decDigits_small hv]; simp
    · rw [decDigits_big hv, List.length_append]
      have := nDigits_le k (v / 10) (by rw [Nat.pow_succ] at h; omega)
      simp
      omega
/-- The text of one digit. -/
theorem str_digit {r : Nat} (h : r < 10) : [Value.int .u8 (IntKind.u8.wrap (IntKind.u64.wrap (48 + (r : Int))))] = ((⟨#[UInt8.ofNat (48 + r)]⟩ : ByteArray).data.toList.map fun b => Value.int .u8 b.toNat) := by
  have e : IntKind.u8.wrap (IntKind.u64.wrap (48 + (r : Int))) = 48 + (r : Int) := by
    rw [IntKind.wrap_u8, us_eq, us_in _ (by omega) (by omega)]; omega
  rw [e]
  show [Value.int .u8 (48 + (r : Int))] = [Value.int .u8 ((UInt8.ofNat (48 + r)).toNat : Int)]
  have : (UInt8.ofNat (48 + r)).toNat = 48 + r := by rw [UInt8.toNat_ofNat']; omega
  rw [this]
  simp
set_option maxHeartbeats 2000000 in
theorem text_d (v : Nat) (hl : (byt v).length ≤ 20) : DenA Tryz.prog 215 noFacts [.r 1 (byt v).length (BVs (byt v))] (.string (decBn v)) := by
  induction v using Nat.strongRecOn with
  | ind v ih =>
  refine DenA.fam ?_
  intro ad b off c hs _
  have hd := byt_div_len v
  have D := DenF.at (c := c) rfl (div10_f (byt v) (byt_by v) (by omega)) (BVs_len _) hs
  have qb := quo_by (byt v) (byt_by v)
  have qv := quo_val (byt v) (byt_by v)
  rw [bval_byt] at D qv
  have hv : lval (limbsL (quo (byt v)).1 (((byt v).length + 7) / 8)) = v / 10 := by
    rw [limbsL_val, List.take_of_length_le (by rw [quo_len]; omega), qv.1]
  have hp := flat_part (limbsL_iu qb (((byt v).length + 7) / 8)) hv
  have hfl : (flat8 (limbsL (quo (byt v)).1 (((byt v).length + 7) / 8))).length = 8 * (((byt v).length + 7) / 8) := by rw [flat8_len, limbsL_len]
  generalize flat8 (limbsL (quo (byt v)).1 (((byt v).length + 7) / 8)) = fl at *
  refine den_of_body (args := [.slice ad (byt v).length c]) hmix Tryz.func215 ?_
  have hne : (((byt v).length : Int) == 0) = false → v ≠ 0 := fun h e => by
    subst e
    rw [byt_zero] at h
    exact absurd h (by decide)
  have T : (((byt v).length : Int) == 0) = false → DenA Tryz.prog 215 noFacts [.r 1 (byt (v / 10)).length (partRow 1 0 (byt (v / 10)).length (BVs fl))] (.string (decBn (v / 10))) := fun h => by
    rw [hp]
    exact ih (v / 10) (by have := hne h; omega) (by omega)
  have hsz : (decBn (v / 10)).size ≤ 51 := by
    have h1 := bval_lt (byt_by v)
    rw [bval_byt] at h1
    have h2 : (256 : Nat) ^ (byt v).length ≤ 256 ^ 20 := Nat.pow_le_pow_right (by decide) hl
    have h3 : (256 : Nat) ^ 20 ≤ 10 ^ 51 := by decide +kernel
    have := nDigits_le 50 (v / 10) (by omega)
    simpa [decBn, ByteArray.size] using this
  (repeat' ((conv => whnf); first | refine CallN.fresh _ _ D ?_ | refine CallA.any _ (T ‹_›) ?_ | refine StrN.mk _ (str_digit (show v % 10 < 10 by omega)) ?_ | refine Ob.mk (by omega) ?_ | refine Ob.mk (show (((decBn (v / 10)).size + 1 : Nat) : Int) ≤ 9223372036854775807 by omega) ?_ | refine AdN.mk _ _ rfl ?_ | refine DrawN.a (Ob.mk (by decide +kernel) ?_) | refine DrawN.c (Ob.mk (by decide +kernel) ?_) | refine DrawN.b (Ob.mk (by decide +kernel) ?_) | refine Ob.mk (by kernel_rfl) ?_ | (refine Br.mk (fun h => ?_) (fun h => ?_) <;> (first | (exfalso; exact Bool.false_ne_true h) | (exfalso; exact Bool.false_ne_true h.symm) | skip)) | refine SeqN.go ?_)); all_goals (conv => whnf)
  · have h0 : (byt v).length = 0 := by
      have h : (((byt v).length : Int) == 0) = true := ‹_›
      simpa using h
    obtain rfl : v = 0 := byt_nil.1 (List.length_eq_zero_iff.1 h0)
    show Value.string _ = Value.string _
    unfold decBn
    rw [decDigits_small (by decide)]
    rfl
  · have h0 : (byt (v / 10)).length = 0 := by
      have h : (((byt (v / 10)).length : Int) == 0) = true := ‹_›
      simpa using h
    have h1 := byt_nil.1 (List.length_eq_zero_iff.1 h0)
    show Value.string _ = Value.string _
    unfold decBn
    rw [decDigits_small (by omega), show v % 10 = v by omega]
  · have h0 : (byt (v / 10)).length ≠ 0 := by
      have h : (((byt (v / 10)).length : Int) == 0) = false := ‹_›
      simpa using h
    have h1 : v / 10 ≠ 0 := fun e => h0 (by rw [e, byt_zero]; rfl)
    refine congrArg Value.string ?_
    unfold decBn
    rw [decDigits_big (v := v) (by omega)]
    apply ByteArray.ext
    simp [ByteArray.data_append]
theorem DenA.own1 {P : Program} {f : FuncId} {F F' : Facts} {args : List AR} {v : Value} (h : DenA P f F args v) (hF : FLe F F') : DenA P f F' args v := ⟨fun W us hW ha => h.out W us (hW.le hF) ha⟩
theorem of1 (u : Int) (hu : 0 ≤ u ∧ u ≤ 18446744073709551615) : DenF Tryz.prog 172 noFacts [.r 1 1 [.int .u64 u]] [.sub 0 0 (byt u.toNat).length] [.row 5 1 8 (BVs (flat8 [u]))] := by
  have := of_v [u] (by intro x hx; simp at hx; subst hx; exact hu) (show 1 ≤ 1000 by decide)
  rwa [show lval [u] = u.toNat from rfl] at this
theorem text1 (u : Int) (hu : 0 ≤ u ∧ u ≤ 18446744073709551615) : DenA Tryz.prog 215 noFacts [.r 1 (byt u.toNat).length (partRow 1 0 (byt u.toNat).length (BVs (flat8 [u])))] (.string (decBn u.toNat)) ∧ (byt u.toNat).length ≤ 8 ∧ (decBn u.toNat).size ≤ 20 := by
  have h8 : (byt u.toNat).length ≤ 8 := byt_len (by have := hu.2; omega)
  refine ⟨?_, h8, ?_⟩
  · rw [flat_part (by intro x hx; simp at hx; subst hx; exact hu) (show lval [u] = u.toNat from rfl)]
    exact text_d _ (by omega)
  · have := nDigits_le 19 u.toNat (by have := hu.2; omega)
    simpa [decBn, ByteArray.size] using this
/-- P2.3. -/
theorem whole_d (n : Int) (hn : -9223372036854775808 ≤ n ∧ n ≤ 9223372036854775807) : Den Tryz.prog 131 #[.int .i64 n] noFacts (.string ⟨(Lib.itoa n).toArray⟩) := by
  refine den_of_body (args := [.int .i64 n]) hmix Tryz.func131 ?_
  have r1 := us_rng (IntKind.i64.wrap (0 - n))
  have r2 := us_rng n
  rw [← us_eq] at r1 r2
  have O1 := of1 _ r1
  have O2 := of1 _ r2
  have T1 := text1 _ r1
  have T2 := text1 _ r2
  (repeat' ((conv => whnf); first | refine CallA.anyFresh _ _ O1 ?_ | refine CallA.anyFresh _ _ O2 ?_ | refine CallA.any _ T1.1 ?_ | refine CallA.any _ T2.1 ?_ | refine Ob.mk (by have := T1.2.1; omega) ?_ | refine Ob.mk (by have := T2.2.1; omega) ?_ | refine Ob.mk (show ((1 + (decBn _).size : Nat) : Int) ≤ 9223372036854775807 by have := T1.2.2; omega) ?_ | refine AdN.mk _ _ rfl ?_ | refine DrawN.a (Ob.mk (by decide +kernel) ?_) | refine DrawN.c (Ob.mk (by decide +kernel) ?_) | refine DrawN.b (Ob.mk (by decide +kernel) ?_) | refine Ob.mk (by kernel_rfl) ?_ | (refine Br.mk (fun h => ?_) (fun h => ?_) <;> (first | (exfalso; exact Bool.false_ne_true h) | (exfalso; exact Bool.false_ne_true h.symm) | skip)) | refine SeqN.go ?_)); all_goals (conv => whnf)
  · have h0 : n < 0 := of_decide_eq_true ‹_›
    refine congrArg Value.string ?_
    have e : (IntKind.u64.wrap (IntKind.i64.wrap (0 - n))).toNat = n.natAbs := by rw [us_eq, sg_eq]; unfold us sg; omega
    rw [e]
    unfold decBn Lib.itoa
    rw [if_pos h0]
    apply ByteArray.ext
    simp [ByteArray.data_append]
  · have h0 : ¬ n < 0 := of_decide_eq_false ‹_›
    refine congrArg Value.string ?_
    have e : (IntKind.u64.wrap n).toNat = n.toNat := by rw [us_eq]; unfold us; omega
    rw [e]
    unfold decBn Lib.itoa
    rw [if_neg h0]
/-- A number's decimal digits. -/
theorem digits_small (n : Int) (h0 : 0 ≤ n) (h : n < 10) : Den Tryz.prog 132 #[.int .u64 n] noFacts (.string (decBn n.toNat)) := by
  refine den_of_body (args := [.int .u64 n]) hmix Tryz.func132 ?_
  have S := str_digit (r := n.toNat) (by omega)
  rw [show ((n.toNat : Nat) : Int) = n by omega] at S
  (repeat' ((conv => whnf); first | refine StrN.mk _ S ?_ | refine AdN.mk _ _ rfl ?_ | refine DrawN.a (Ob.mk (by decide +kernel) ?_) | refine DrawN.c (Ob.mk (by decide +kernel) ?_) | refine DrawN.b (Ob.mk (by decide +kernel) ?_) | refine Ob.mk (by kernel_rfl) ?_ | (refine Br.mk (fun h => ?_) (fun h => ?_) <;> (first | (exfalso; exact Bool.false_ne_true h) | (exfalso; exact Bool.false_ne_true h.symm) | (exfalso; have := of_decide_eq_false ‹decide (n < 10) = false›; omega) | skip)) | refine SeqN.go ?_)); all_goals (conv => whnf)
  refine congrArg Value.string ?_
  unfold decBn
  rw [decDigits_small (by omega)]
theorem digits_d (v : Nat) : ∀ n : Int, n.toNat = v → 0 ≤ n → n ≤ 18446744073709551615 → Den Tryz.prog 132 #[.int .u64 n] noFacts (.string (decBn n.toNat)) := by
  induction v using Nat.strongRecOn with
  | ind v ih =>
  intro n hv h0 h1
  by_cases hs : n < 10
  · exact digits_small n h0 hs
  have e1 : IntKind.u64.wrap (n.tdiv 10) = n / 10 := by rw [Int.tdiv_eq_ediv_of_nonneg h0, us_eq]; exact us_in _ (by omega) (by omega)
  have e2 : n.tmod 10 = n % 10 := Int.tmod_eq_emod_of_nonneg h0
  have D1 := ih (n / 10).toNat (by omega) (n / 10) rfl (by omega) (by omega)
  have D2 := digits_small (n % 10) (by omega) (by omega)
  rw [← e1] at D1
  rw [← e2] at D2
  have s1 : (decBn (IntKind.u64.wrap (n.tdiv 10)).toNat).size ≤ 20 := by
    rw [e1]
    have := nDigits_le 19 (n / 10).toNat (by omega)
    simpa [decBn, ByteArray.size] using this
  have s2 : (decBn (n.tmod 10).toNat).size ≤ 20 := by
    rw [e2]
    have := nDigits_le 19 (n % 10).toNat (by omega)
    simpa [decBn, ByteArray.size] using this
  refine den_of_body (args := [.int .u64 n]) hmix Tryz.func132 ?_
  (repeat' ((conv => whnf); first | refine CallN.any _ D1 ?_ | refine CallN.any _ D2 ?_ | refine Ob.mk (by decide) ?_ | refine Ob.mk (show (((decBn (IntKind.u64.wrap (n.tdiv 10)).toNat).size + (decBn (n.tmod 10).toNat).size : Nat) : Int) ≤ 9223372036854775807 by omega) ?_ | refine AdN.mk _ _ rfl ?_ | refine DrawN.a (Ob.mk (by decide +kernel) ?_) | refine DrawN.c (Ob.mk (by decide +kernel) ?_) | refine DrawN.b (Ob.mk (by decide +kernel) ?_) | refine Ob.mk (by kernel_rfl) ?_ | (refine Br.mk (fun h => ?_) (fun h => ?_) <;> (first | (exfalso; exact Bool.false_ne_true h) | (exfalso; exact Bool.false_ne_true h.symm) | (exfalso; have := of_decide_eq_true ‹decide (n < 10) = true›; omega) | skip)) | refine SeqN.go ?_)); all_goals (conv => whnf)
  refine congrArg Value.string ?_
  rw [e1, e2]
  unfold decBn
  rw [decDigits_big (v := n.toNat) (by omega), show (n / 10).toNat = n.toNat / 10 by omega, decDigits_small (v := (n % 10).toNat) (by omega), show (n % 10).toNat = n.toNat % 10 by omega]
  apply ByteArray.ext
  simp [ByteArray.data_append]
end Go.Proofs.YtljhbdgoknfkcaaGreatDoor
