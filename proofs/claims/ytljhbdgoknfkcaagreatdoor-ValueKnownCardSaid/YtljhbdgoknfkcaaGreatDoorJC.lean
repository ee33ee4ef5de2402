/- ValueKnown as a call. -/
import Derived.Test.YtljhbdgoknfkcaaGreatDoorJ8
import Derived.Test.YtljhbdgoknfkcaaGreatDoorJY
import Derived.Test.YtljhbdgoknfkcaaGreatDoorHV
namespace Go.Proofs.YtljhbdgoknfkcaaGreatDoor
open Go Go.RowKit Go.Sort
set_option linter.unusedVariables false
set_option linter.unusedSimpArgs false
set_option maxRecDepth 100000

theorem ICs_len (l : List Int) : (ICs l).length = l.length := by simp [ICs]
theorem part_ICs (l : List Int) (o n : Nat) : partRow 1 (o * 1) n (ICs l) = ICs ((l.drop o).take n) := by
  unfold partRow ICs
  rw [Nat.mul_one, Nat.mul_one, List.map_take, List.map_drop]
theorem VCs_dropn : ∀ (l : List VV) (o : Nat), (VCs l).drop (o * 4) = VCs (l.drop o)
  | l, 0 => by simp
  | [], o + 1 => by simp [VCs]
  | p :: l, o + 1 => by
    show (VC p ++ VCs l).drop ((o + 1) * 4) = VCs (l.drop o)
    rw [← VCs_dropn l o, show (o + 1) * 4 = 4 + o * 4 by omega, ← List.drop_drop]
    rfl
theorem VCs_taken : ∀ (l : List VV) (n : Nat), (VCs l).take (n * 4) = VCs (l.take n)
  | l, 0 => by simp [VCs]
  | [], n + 1 => by simp [VCs]
  | p :: l, n + 1 => by
    show (VC p ++ VCs l).take ((n + 1) * 4) = VC p ++ VCs (l.take n)
    rw [← VCs_taken l n, show (n + 1) * 4 = 4 + n * 4 by omega]
    rw [List.take_append]
    have : (VC p).length = 4 := rfl
    rw [this, List.take_of_length_le (by rw [this]; omega)]
    congr 2
    omega
theorem part_VCs (l : List VV) (o n : Nat) : partRow 4 (o * 4) n (VCs l) = VCs ((l.drop o).take n) := by
  unfold partRow
  rw [VCs_dropn, VCs_taken]
theorem mem_part {l : List VV} {o n : Nat} (h : ∀ p ∈ l, InV p) : ∀ p ∈ (l.drop o).take n, InV p := fun p hp => h p (List.mem_of_mem_drop (List.mem_of_mem_take hp))
theorem mem_partI {l : List Int} {o n : Nat} (h : ∀ p ∈ l, IS p) : ∀ p ∈ (l.drop o).take n, IS p := fun p hp => h p (List.mem_of_mem_drop (List.mem_of_mem_take hp))
theorem len_part {α : Type} {l : List α} {o n : Nat} (h : o + n ≤ l.length) : ((l.drop o).take n).length = n := by simp; omega
theorem vj_sub {L : List VV} {a b : VV} {N : List Int} {o n n' : Nat} (hL : ∀ p ∈ L, InV p) (ha : InV a) (hb : InV b) (hN : ∀ p ∈ N, IS p) (h1 : o + n ≤ L.length) (h2 : n' ≤ N.length) (c1 : L.length ≤ 1000) (c2 : N.length ≤ 1000) :
    DenA Tryz.prog 12 tabF [.r 4 n (partRow 4 (o * 4) n (VCs L)), .v (VVal a), .v (VVal b), .r 1 n' (partRow 1 (0 * 1) n' (ICs N))] (.bool true) := by
  rw [part_VCs, part_ICs]
  have := valueJoins_d ((L.drop o).take n) a b ((N.drop 0).take n') (mem_part hL) ha hb (mem_partI hN) (by rw [len_part h1]; omega) (by rw [len_part (by omega)]; omega)
  rw [len_part h1, len_part (show 0 + n' ≤ N.length by omega)] at this
  exact this
theorem vl_sub {L : List VV} {a b : VV} {x : Int} {o n : Nat} (hL : ∀ p ∈ L, InV p) (ha : InV a) (hb : InV b) (hx : IS x) (h1 : o + n ≤ L.length) (c1 : L.length ≤ 1000) :
    DenA Tryz.prog 13 tabF [.v (VVal a), .v (VVal b), .v (.int .i64 x), .r 4 n (partRow 4 (o * 4) n (VCs L))] (.bool true) := by
  rw [part_VCs]
  have := valueLattice_d a b x ((L.drop o).take n) ha hb hx (mem_part hL) (by rw [len_part h1]; omega)
  rw [len_part h1] at this
  exact this
theorem vOf_a (l : List Int) (hl : ∀ p ∈ l, IS p) (hlen : l.length ≤ 9223372036854775807) : DenA Tryz.prog 14 noFacts [.r 1 l.length (ICs l)] (VVal (vofs l)) := by
  refine DenA.fam ?_
  intro ad b off c hs _
  rw [orF_no]
  exact vOf_m l hl hlen ad b off c hs
theorem vOf_sub {l : List Int} {n : Nat} (hl : ∀ p ∈ l, IS p) (h2 : n ≤ l.length) (c2 : l.length ≤ 1000) : DenA Tryz.prog 14 noFacts [.r 1 n (partRow 1 (0 * 1) n (ICs l))] (VVal (vofs ((l.drop 0).take n))) := by
  rw [part_ICs]
  have := vOf_a ((l.drop 0).take n) (mem_partI hl) (by rw [len_part (by omega)]; omega)
  rw [len_part (show 0 + n ≤ l.length by omega)] at this
  exact this
def E7 : List Int := [-9223372036854775808, -9223372036854775807, -3, 0, 1, 6, 9223372036854775807]
def M7 : List Int := [0, 1, 2, 3, 6, 9223372036854775808, 18446744073709551615]
theorem e7_is (i : Nat) : IS (E7.getD i 0) := by
  by_cases h : i < 7
  · have : ∀ j, j < 7 → IS (E7.getD j 0) := by decide
    exact this i h
  · have : E7.getD i 0 = 0 := by simp [List.getD, List.getElem?_eq_none (show E7.length ≤ i by show 7 ≤ i; omega)]
    rw [this]; exact ⟨by decide, by decide⟩
theorem e7_mem : ∀ p ∈ E7, IS p := by decide
theorem m7_is (i : Nat) : IU (M7.getD i 0) := by
  by_cases h : i < 7
  · have : ∀ j, j < 7 → IU (M7.getD j 0) := by decide
    exact this i h
  · have : M7.getD i 0 = 0 := by simp [List.getD, List.getElem?_eq_none (show M7.length ≤ i by show 7 ≤ i; omega)]
    rw [this]; exact ⟨by decide, by decide⟩
theorem rowIC {l : List Int} {z : Int} {K : List Value → Prop} (n : Nat) (e : z = (n : Int)) (h : n < l.length) (k : K [.int .i64 (l.getD n 0)]) : RowN (ICs l) (z.toNat * 1) 1 K := by
  subst e
  rw [Int.toNat_natCast, Nat.mul_one]
  exact .mk _ (ICs_drop l n h) rfl k
def UCs (l : List Int) : List Value := l.map (Value.int .u64)
theorem rowUC {l : List Int} {z : Int} {K : List Value → Prop} (n : Nat) (e : z = (n : Int)) (h : n < l.length) (k : K [.int .u64 (l.getD n 0)]) : RowN (UCs l) (z.toNat * 1) 1 K := by
  subst e
  refine .mk _ ?_ rfl k
  rw [Int.toNat_natCast, Nat.mul_one]
  unfold UCs
  have h3 : l.getD n 0 = l[n] := by simp [List.getD, h]
  rw [h3, ← List.map_drop, ← List.map_take, List.drop_eq_getElem_cons h]
  rfl
theorem idx7 {z : Int} {n N : Nat} (e : z = (n : Int)) (h : n < N) : 0 ≤ z ∧ z < (N : Int) := by omega
theorem ik7 {i k : Nat} (hi : i < 7) (hk : k < 7) : (IntKind.i64.wrap ((i : Int) + (k : Int))).tmod 7 = (((i + k) % 7 : Nat) : Int) := by
  rw [sg_eq, sg_in _ (by omega) (by omega), Int.tmod_eq_emod_of_nonneg (by omega)]; omega
theorem pk7 {i k : Nat} (hi : i < 7) (hk : k < 7) : (IntKind.i64.wrap ((i : Int) * (k : Int))).tmod 7 = (((i * k) % 7 : Nat) : Int) := by
  have h : i * k ≤ 6 * 6 := Nat.mul_le_mul (by omega) (by omega)
  have e : (i : Int) * (k : Int) = ((i * k : Nat) : Int) := by simp
  rw [e, sg_eq, sg_in _ (by omega) (by omega), Int.tmod_eq_emod_of_nonneg (by omega)]; rfl
theorem sh7 {k : Nat} (hk : k < 7) : 0 ≤ IntKind.i64.wrap ((k : Int) * 9) := by rw [sg_eq, sg_in _ (by omega) (by omega)]; omega
theorem cap7 {n i k : Nat} (h : n = 7 * i + k) (hi : i < 7) (hk : k < 7) : 0 < 0 + 1 ∧ (n + 1) * 32 ≤ 140737488355328 ∧ n + 1 ≤ 140737488355328 := by omega
theorem uw_iu (n : Int) : IU (IntKind.u64.wrap n) := by rw [us_eq]; exact us_rng n
theorem nat_is {k n : Nat} (h : k < n) (hn : n ≤ 1000 := by decide) : IS (k : Int) := ⟨by omega, by omega⟩
theorem nine_is : IS 9 := ⟨by decide, by decide⟩
theorem len7 {n i k : Nat} (h : n = 7 * i + k) (hk : k ≤ 7) (hkl : ¬ k < 7) : n = 7 * (i + 1) := by omega
theorem eq_of_le' {i n : Nat} (h : i ≤ n) (k : ¬ (i : Int) < (n : Int)) : i = n := by omega
theorem wi1 {i n : Nat} (h : i < n) (hn : n ≤ 1000000) : IntKind.i64.wrap ((i : Int) + 1) = ((i + 1 : Nat) : Int) := by rw [sg_eq, sg_in _ (by omega) (by omega)]; omega
def r7 (i k : Nat) : Int := IntKind.u64.wrap (IntKind.u64.wrap (i : Int) * 2 ^ min (IntKind.i64.wrap ((k : Int) * 9)).toNat IntKind.u64.bits)
theorem m40 (i : Nat) : (i : Int).tmod 40 = ((i % 40 : Nat) : Int) := by rw [Int.tmod_eq_emod_of_nonneg (Int.natCast_nonneg _)]; rfl
theorem m5 (i : Nat) : (i : Int).tmod 5 = ((i % 5 : Nat) : Int) := by rw [Int.tmod_eq_emod_of_nonneg (Int.natCast_nonneg _)]; rfl
theorem m7 (i : Nat) : (i : Int).tmod 7 = ((i % 7 : Nat) : Int) := by rw [Int.tmod_eq_emod_of_nonneg (Int.natCast_nonneg _)]; rfl
theorem h40 (i k : Nat) : IntKind.i64.wrap ((i : Int).tmod 40 + (k : Int).tmod 5) = ((i % 40 + k % 5 : Nat) : Int) := by rw [m40, m5, sg_eq, sg_in _ (by omega) (by omega)]; omega
theorem h44 (k : Nat) : IntKind.i64.wrap ((k : Int).tmod 40 + 4) = ((k % 40 + 4 : Nat) : Int) := by rw [m40, sg_eq, sg_in _ (by omega) (by omega)]; omega
theorem s40 (i k : Nat) : 0 ≤ (i : Int).tmod 40 ∧ (i : Int).tmod 40 ≤ IntKind.i64.wrap ((i : Int).tmod 40 + (k : Int).tmod 5) ∧ IntKind.i64.wrap ((i : Int).tmod 40 + (k : Int).tmod 5) ≤ ((49 : Nat) : Int) := by
  rw [h40, m40]; omega
theorem s44 (k : Nat) : 0 ≤ (k : Int).tmod 40 ∧ (k : Int).tmod 40 ≤ IntKind.i64.wrap ((k : Int).tmod 40 + 4) ∧ IntKind.i64.wrap ((k : Int).tmod 40 + 4) ≤ ((49 : Nat) : Int) := by
  rw [h44, m40]; omega
theorem s07 (k : Nat) : 0 ≤ ((0 : Nat) : Int) ∧ ((0 : Nat) : Int) ≤ (k : Int).tmod 7 ∧ (k : Int).tmod 7 ≤ ((7 : Nat) : Int) := by rw [m7]; omega
theorem f40 (i k : Nat) : ((i : Int).tmod 40).toNat * 4 + ((IntKind.i64.wrap ((i : Int).tmod 40 + (k : Int).tmod 5)).toNat - ((i : Int).tmod 40).toNat) * 4 ≤ 49 * 4 := by rw [h40, m40]; omega
theorem f44 (k : Nat) : ((k : Int).tmod 40).toNat * 4 + ((IntKind.i64.wrap ((k : Int).tmod 40 + 4)).toNat - ((k : Int).tmod 40).toNat) * 4 ≤ 49 * 4 := by rw [h44, m40]; omega
theorem f07 (k : Nat) : (((0 : Nat) : Int)).toNat * 1 + (((k : Int).tmod 7).toNat - (((0 : Nat) : Int)).toNat) * 1 ≤ 7 * 1 := by rw [m7]; omega
theorem g40 (i k : Nat) {n : Nat} (h : n = 49) : ((i : Int).tmod 40).toNat + ((IntKind.i64.wrap ((i : Int).tmod 40 + (k : Int).tmod 5)).toNat - ((i : Int).tmod 40).toNat) ≤ n := by rw [h40, m40]; omega
theorem g44 (k : Nat) {n : Nat} (h : n = 49) : ((k : Int).tmod 40).toNat + ((IntKind.i64.wrap ((k : Int).tmod 40 + 4)).toNat - ((k : Int).tmod 40).toNat) ≤ n := by rw [h44, m40]; omega
theorem g07 (k : Nat) : ((k : Int).tmod 7).toNat - (((0 : Nat) : Int)).toNat ≤ E7.length := by rw [m7]; show _ ≤ 7; omega
theorem ik77 {i k : Nat} (hi : i < 49) (hk : k < 49) : (IntKind.i64.wrap ((i : Int) + (k : Int))).tmod 7 = (((i + k) % 7 : Nat) : Int) := by
  rw [sg_eq, sg_in _ (by omega) (by omega), Int.tmod_eq_emod_of_nonneg (by omega)]; omega
theorem halfw {n : Nat} (h : n ≤ 8) : IntKind.i64.wrap ((n : Int).tdiv 2) = ((n / 2 : Nat) : Int) := by rw [Int.tdiv_eq_ediv_of_nonneg (Int.natCast_nonneg _), sg_eq, sg_in _ (by omega) (by omega)]; omega
theorem half {n : Nat} (h : n ≤ 8) : (IntKind.i64.wrap ((n : Int).tdiv 2)).toNat - (((0 : Nat) : Int)).toNat ≤ n := by rw [halfw h]; omega
theorem half2 {n : Nat} (h : n ≤ 8) : 0 ≤ ((0 : Nat) : Int) ∧ ((0 : Nat) : Int) ≤ IntKind.i64.wrap ((n : Int).tdiv 2) ∧ IntKind.i64.wrap ((n : Int).tdiv 2) ≤ (n : Int) := by rw [halfw h]; omega
theorem half3 {n : Nat} (h : n ≤ 8) : (((0 : Nat) : Int)).toNat * 1 + ((IntKind.i64.wrap ((n : Int).tdiv 2)).toNat - (((0 : Nat) : Int)).toNat) * 1 ≤ n * 1 := by rw [halfw h]; omega
theorem DenA.nil4 {P : Program} {f : FuncId} {F : Facts} {z : Nat} {rest : List AR} {v : Value} (h : DenA P f F (.r z 0 [] :: rest) v) : DenA P f F (.v (.slice none 0 0) :: rest) v :=
  ⟨fun W us hW ha => by
    obtain ⟨u, us', rfl, rfl, h2⟩ := ha
    exact h.out W _ hW ⟨_, us', rfl, ⟨by simp, none, 0, rfl, fun h => by omega⟩, h2⟩⟩
theorem tm8 {j : Nat} (h : j < 8) : IS ((IntKind.i64.wrap ((j : Int) * 5)).tmod 8) := by rw [sg_eq, sg_in _ (by omega) (by omega), Int.tmod_eq_emod_of_nonneg (by omega)]; exact ⟨by omega, by omega⟩
theorem cap8 {n j : Nat} (h : n ≤ j) (hj : j ≤ 8) : 0 < 0 + 1 ∧ (n + 1) * 8 ≤ 140737488355328 ∧ n + 1 ≤ 140737488355328 := by omega
set_option maxHeartbeats 8000000 in
theorem valueKnown_d : Den Tryz.prog 3 #[] tabF (.bool true) := by
  refine den_of_body (args := []) hmix Tryz.func3 ?_
  (repeat' ((conv => whnf); first | refine AdN.mk _ _ rfl ?_ | refine DrawN.a (Ob.mk (by decide +kernel) ?_) | refine DrawN.c (Ob.mk (by decide +kernel) ?_) | refine DrawN.b (Ob.mk (by decide +kernel) ?_) | refine Ob.mk (by kernel_rfl) ?_ | (refine Br.mk (fun h => ?_) (fun h => ?_) <;> (first | (exfalso; exact Bool.false_ne_true h) | (exfalso; exact Bool.false_ne_true h.symm) | skip)))); all_goals (conv => whnf)
  refine SeqN.nilRow 3 31 4 rfl ?_
  (conv => whnf)
  refine SeqN.go ?_
  (repeat' ((conv => whnf); first | refine AdN.mk _ _ rfl ?_ | refine DrawN.a (Ob.mk (by decide +kernel) ?_) | refine DrawN.c (Ob.mk (by decide +kernel) ?_) | refine DrawN.b (Ob.mk (by decide +kernel) ?_) | refine Ob.mk (by kernel_rfl) ?_ | (refine Br.mk (fun h => ?_) (fun h => ?_) <;> (first | (exfalso; exact Bool.false_ne_true h) | (exfalso; exact Bool.false_ne_true h.symm) | skip)))); all_goals (conv => whnf)
  refine LoopN.mk {x : Nat × List VV // x.1 ≤ 7 ∧ x.2.length = 7 * x.1 ∧ ∀ p ∈ x.2, InV p} (fun x => [(4, .v (.int .i64 x.1.1)), (3, .s 2)]) (fun x => [.row 2 1 7 (ICs E7), .row 23 1 7 (UCs M7), .row 31 4 x.1.2.length (VCs x.1.2)]) (fun x => 7 - x.1.1) ⟨(0, []), by simp⟩ ?_ ?_
  · (conv => whnf); (repeat' (first | exact True.intro | exact rfl | refine And.intro ?_ ?_ | decide))
  (conv => whnf)
  rintro ⟨⟨i, L⟩, hi, hL, hI⟩
  dsimp only at hi hL hI
  (repeat' ((conv => whnf); first | refine SeqN.go ?_ | refine AdN.mk _ _ rfl ?_ | refine DrawN.a (Ob.mk (by decide +kernel) ?_) | refine DrawN.c (Ob.mk (by decide +kernel) ?_) | refine DrawN.b (Ob.mk (by decide +kernel) ?_) | refine Ob.mk (by kernel_rfl) ?_ | (refine Br.mk (fun h => ?_) (fun h => ?_) <;> (first | (exfalso; exact Bool.false_ne_true h) | (exfalso; exact Bool.false_ne_true h.symm) | skip)))); all_goals (conv => whnf)
  · have hi7 : i < 7 := Int.ofNat_lt.1 (of_decide_eq_true ‹decide ((i : Int) < ((7 : Nat) : Int)) = true›)
    have oi : 0 ≤ (i : Int) ∧ (i : Int) < ((7 : Nat) : Int) := ⟨Int.natCast_nonneg _, Int.ofNat_lt.2 hi7⟩
    refine LoopN.mk {x : Nat × List VV // x.1 ≤ 7 ∧ x.2.length = 7 * i + x.1 ∧ ∀ p ∈ x.2, InV p} (fun x => [(5, .v (.int .i64 x.1.1)), (3, .s 2)]) (fun x => [.row 2 1 7 (ICs E7), .row 23 1 7 (UCs M7), .row 31 4 x.1.2.length (VCs x.1.2)]) (fun x => 7 - x.1.1) ⟨(0, L), Nat.zero_le _, hL, hI⟩ ?_ ?_
    · (conv => whnf); (repeat' (first | exact True.intro | exact rfl | refine And.intro ?_ ?_ | decide))
    (conv => whnf)
    rintro ⟨⟨k, L⟩, hk, hL, hI⟩
    dsimp only at hk hL hI
    by_cases hkl : k < 7
    · have ok : 0 ≤ (k : Int) ∧ (k : Int) < ((7 : Nat) : Int) := ⟨Int.natCast_nonneg _, Int.ofNat_lt.2 hkl⟩
      have em := ik7 hi7 hkl
      have im := idx7 em (Nat.mod_lt (i + k) (show 0 < 7 by decide))
      have ep := pk7 hi7 hkl
      have ip := idx7 ep (Nat.mod_lt (i * k) (show 0 < 7 by decide))
      have CM := den_of (F := noFacts) fun Wd => make_c (M7.getD k 0) (E7.getD i 0) Wd (m7_is _).1 (m7_is _).2 (e7_is i).1 (e7_is i).2
      (repeat' ((conv => whnf); first | refine CallN.any _ CM ?_ | refine Ob.mk oi ?_ | refine Ob.mk ok ?_ | refine Ob.mk im ?_ | refine Ob.mk ip ?_ | refine Ob.mk (by decide) ?_ | refine rowIC i rfl hi7 ?_ | refine rowIC k rfl hkl ?_ | refine rowIC ((i * k) % 7) ep (Nat.mod_lt _ (by decide)) ?_ | refine rowUC ((i + k) % 7) em (Nat.mod_lt _ (by decide)) ?_ | refine rowUC k rfl hkl ?_ | refine Ob.mk (sh7 hkl) ?_ | refine Ob.mk (cap7 hL hi7 hkl) ?_ | refine CallN.mk _ (valueTells_d ⟨_, _, _, _⟩ _ _ (InV.mk (e7_is _) (e7_is _) (m7_is _) (uw_iu _)) (e7_is _) (nat_is hkl)) ?_ | refine CallN.mk _ (valueTells_d ⟨_, _, _, _⟩ _ _ (InV.mk (e7_is _) (e7_is _) (m7_is _) (cmake_iu (m7_is _))) (e7_is _) nine_is) ?_ | refine AdN.mk _ _ rfl ?_ | refine DrawN.a (Ob.mk (by decide +kernel) ?_) | refine DrawN.c (Ob.mk (by decide +kernel) ?_) | refine DrawN.b (Ob.mk (by decide +kernel) ?_) | refine Ob.mk (by kernel_rfl) ?_ | (refine Br.mk (fun h => ?_) (fun h => ?_) <;> (first | (exfalso; exact Bool.false_ne_true h) | (exfalso; exact Bool.false_ne_true h.symm) | (exfalso; exact absurd (Int.ofNat_lt.2 hkl) (of_decide_eq_false ‹_›)) | skip)) | refine SeqN.go ?_)); all_goals (conv => whnf)
      refine RoundN.mk ⟨(k + 1, L ++ [⟨E7.getD i 0, E7.getD k 0, M7.getD ((i + k) % 7) 0, r7 i k⟩]), hkl, by simp [hL]; omega, fun p hp => ?_⟩ (Nat.sub_succ_lt_self _ _ hkl) ?_
      · rcases List.mem_append.1 hp with hp | hp
        · exact hI p hp
        · simp at hp; subst hp; exact InV.mk (e7_is _) (e7_is _) (m7_is _) (uw_iu _)
      (conv => whnf); (repeat' (first | exact True.intro | exact rfl | refine And.intro ?_ ?_ | decide))
      all_goals first | exact congrArg (Value.int _) (wi1 hkl (by decide)) | (dsimp only; simp; done) | (dsimp only; rw [VCs_app, VCs_one]; rfl) | trace_state
    · (repeat' ((conv => whnf); first | refine AdN.mk _ _ rfl ?_ | refine DrawN.a (Ob.mk (by decide +kernel) ?_) | refine DrawN.c (Ob.mk (by decide +kernel) ?_) | refine DrawN.b (Ob.mk (by decide +kernel) ?_) | refine Ob.mk (by kernel_rfl) ?_ | (refine Br.mk (fun h => ?_) (fun h => ?_) <;> (first | (exfalso; exact Bool.false_ne_true h) | (exfalso; exact Bool.false_ne_true h.symm) | (exfalso; exact absurd (Int.ofNat_lt.1 (of_decide_eq_true ‹_›)) hkl) | skip)) | refine SeqN.go ?_)); all_goals (conv => whnf)
      refine RoundN.mk ⟨(i + 1, L), hi7, len7 hL hk hkl, hI⟩ (Nat.sub_succ_lt_self _ _ hi7) ?_
      (conv => whnf); (repeat' (first | exact True.intro | exact rfl | refine And.intro ?_ ?_ | decide))
      all_goals exact congrArg (Value.int _) (wi1 hi7 (by decide))
  · obtain rfl : i = 7 := eq_of_le' hi (of_decide_eq_false ‹decide ((i : Int) < ((7 : Nat) : Int)) = false›)
    have hL49 : L.length = 49 := hL
    have IN : ∀ j, InV (L.getD j vbot) := fun j => getD_in hI j
    refine LoopN.mk {i : Nat // i ≤ 49} (fun i => [(7, .v (.int .i64 i.1)), (3, .s 2)]) (fun _ => [.row 2 1 7 (ICs E7), .dead, .row 31 4 49 (VCs L)]) (fun i => 49 - i.1) ⟨0, Nat.zero_le _⟩ ?_ ?_
    · (conv => whnf); (repeat' (first | exact True.intro | exact rfl | refine And.intro ?_ ?_ | decide))
      all_goals first | exact hL49 | trace_state
    (conv => whnf)
    rintro ⟨i, hi⟩
    (repeat' ((conv => whnf); first | refine SeqN.go ?_ | refine AdN.mk _ _ rfl ?_ | refine DrawN.a (Ob.mk (by decide +kernel) ?_) | refine DrawN.c (Ob.mk (by decide +kernel) ?_) | refine DrawN.b (Ob.mk (by decide +kernel) ?_) | refine Ob.mk (by kernel_rfl) ?_ | (refine Br.mk (fun h => ?_) (fun h => ?_) <;> (first | (exfalso; exact Bool.false_ne_true h) | (exfalso; exact Bool.false_ne_true h.symm) | skip)))); all_goals (conv => whnf)
    · have hil : i < 49 := Int.ofNat_lt.1 (of_decide_eq_true ‹decide ((i : Int) < ((49 : Nat) : Int)) = true›)
      have oi : 0 ≤ (i : Int) ∧ (i : Int) < ((49 : Nat) : Int) := ⟨Int.natCast_nonneg _, Int.ofNat_lt.2 hil⟩
      have ii : (i : Int) < (L.length : Int) := by rw [hL49]; exact oi.2
      refine LoopN.mk {k : Nat // k ≤ 49} (fun k => [(8, .v (.int .i64 k.1)), (3, .s 2)]) (fun _ => [.row 2 1 7 (ICs E7), .dead, .row 31 4 49 (VCs L)]) (fun k => 49 - k.1) ⟨0, Nat.zero_le _⟩ ?_ ?_
      · (conv => whnf); (repeat' (first | exact True.intro | exact rfl | refine And.intro ?_ ?_ | decide))
      (conv => whnf)
      rintro ⟨k, hk⟩
      by_cases hkl : k < 49
      · have ok : 0 ≤ (k : Int) ∧ (k : Int) < ((49 : Nat) : Int) := ⟨Int.natCast_nonneg _, Int.ofNat_lt.2 hkl⟩
        have kk : (k : Int) < (L.length : Int) := by rw [hL49]; exact ok.2
        have em := ik77 hil hkl
        have im := idx7 em (Nat.mod_lt (i + k) (show 0 < 7 by decide))
        (repeat' ((conv => whnf); first | refine Ob.mk oi ?_ | refine Ob.mk ok ?_ | refine Ob.mk im ?_ | refine Ob.mk (s40 i k) ?_ | refine Ob.mk (s44 k) ?_ | refine Ob.mk (s07 k) ?_ | refine Ob.mk (f40 i k) ?_ | refine Ob.mk (f44 k) ?_ | refine Ob.mk (f07 k) ?_ | refine Ob.mk (by decide) ?_ | refine rowVV (i : Int) (Int.natCast_nonneg _) ii ?_ | refine rowVV (k : Int) (Int.natCast_nonneg _) kk ?_ | refine rowIC ((i + k) % 7) em (Nat.mod_lt _ (by decide)) ?_ | refine CallA.mk _ (vj_sub hI (IN i) (IN k) e7_mem (g40 i k hL49) (g07 k) (by rw [hL49]; decide) (by decide)) ?_ | refine CallA.mk _ (vl_sub hI (IN i) (IN k) (e7_is _) (g44 k hL49) (by rw [hL49]; decide)) ?_ | refine AdN.mk _ _ rfl ?_ | refine DrawN.a (Ob.mk (by decide +kernel) ?_) | refine DrawN.c (Ob.mk (by decide +kernel) ?_) | refine DrawN.b (Ob.mk (by decide +kernel) ?_) | refine Ob.mk (by kernel_rfl) ?_ | (refine Br.mk (fun h => ?_) (fun h => ?_) <;> (first | (exfalso; exact Bool.false_ne_true h) | (exfalso; exact Bool.false_ne_true h.symm) | (exfalso; exact absurd (Int.ofNat_lt.2 hkl) (of_decide_eq_false ‹_›)) | skip)) | refine SeqN.go ?_)); all_goals (conv => whnf)
        all_goals
          refine RoundN.mk ⟨k + 1, hkl⟩ (Nat.sub_succ_lt_self _ _ hkl) ?_
          (conv => whnf); (repeat' (first | exact True.intro | exact rfl | refine And.intro ?_ ?_ | decide))
          all_goals exact congrArg (Value.int _) (wi1 hkl (by decide))
      · (repeat' ((conv => whnf); first | refine AdN.mk _ _ rfl ?_ | refine DrawN.a (Ob.mk (by decide +kernel) ?_) | refine DrawN.c (Ob.mk (by decide +kernel) ?_) | refine DrawN.b (Ob.mk (by decide +kernel) ?_) | refine Ob.mk (by kernel_rfl) ?_ | (refine Br.mk (fun h => ?_) (fun h => ?_) <;> (first | (exfalso; exact Bool.false_ne_true h) | (exfalso; exact Bool.false_ne_true h.symm) | (exfalso; exact absurd (Int.ofNat_lt.1 (of_decide_eq_true ‹_›)) hkl) | skip)) | refine SeqN.go ?_)); all_goals (conv => whnf)
        refine RoundN.mk ⟨i + 1, hil⟩ (Nat.sub_succ_lt_self _ _ hil) ?_
        (conv => whnf); (repeat' (first | exact True.intro | exact rfl | refine And.intro ?_ ?_ | decide))
        all_goals exact congrArg (Value.int _) (wi1 hil (by decide))
    · clear IN
      refine LoopN.mk {s : Nat // s ≤ 256} (fun s => [(9, .v (.int .i64 s.1))]) (fun _ => [.dead, .dead, .dead]) (fun s => 256 - s.1) ⟨0, Nat.zero_le _⟩ ?_ ?_
      · (conv => whnf); (repeat' (first | exact True.intro | exact rfl | refine And.intro ?_ ?_ | decide))
      (conv => whnf)
      rintro ⟨s, hs⟩
      by_cases hsl : s < 256
      · (repeat' ((conv => whnf); first | refine AdN.mk _ _ rfl ?_ | refine DrawN.a (Ob.mk (by decide +kernel) ?_) | refine DrawN.c (Ob.mk (by decide +kernel) ?_) | refine DrawN.b (Ob.mk (by decide +kernel) ?_) | refine Ob.mk (by kernel_rfl) ?_ | (refine Br.mk (fun h => ?_) (fun h => ?_) <;> (first | (exfalso; exact Bool.false_ne_true h) | (exfalso; exact Bool.false_ne_true h.symm) | (exfalso; exact absurd (Int.ofNat_lt.2 hsl) (of_decide_eq_false ‹_›)) | skip)))); all_goals (conv => whnf)
        refine SeqN.go ?_
        (repeat' ((conv => whnf); first | refine AdN.mk _ _ rfl ?_ | refine DrawN.a (Ob.mk (by decide +kernel) ?_) | refine DrawN.c (Ob.mk (by decide +kernel) ?_) | refine DrawN.b (Ob.mk (by decide +kernel) ?_) | refine Ob.mk (by kernel_rfl) ?_ | (refine Br.mk (fun h => ?_) (fun h => ?_) <;> (first | (exfalso; exact Bool.false_ne_true h) | (exfalso; exact Bool.false_ne_true h.symm) | (exfalso; exact absurd (Int.ofNat_lt.2 hsl) (of_decide_eq_false ‹_›)) | skip)))); all_goals (conv => whnf)
        refine SeqN.go ?_
        (repeat' ((conv => whnf); first | refine AdN.mk _ _ rfl ?_ | refine DrawN.a (Ob.mk (by decide +kernel) ?_) | refine DrawN.c (Ob.mk (by decide +kernel) ?_) | refine DrawN.b (Ob.mk (by decide +kernel) ?_) | refine Ob.mk (by kernel_rfl) ?_ | (refine Br.mk (fun h => ?_) (fun h => ?_) <;> (first | (exfalso; exact Bool.false_ne_true h) | (exfalso; exact Bool.false_ne_true h.symm) | skip)))); all_goals (conv => whnf)
        refine SeqN.nilRow 10 2 1 rfl ?_
        (conv => whnf)
        refine SeqN.go ?_
        (repeat' ((conv => whnf); first | refine SeqN.go ?_ | refine AdN.mk _ _ rfl ?_ | refine DrawN.a (Ob.mk (by decide +kernel) ?_) | refine DrawN.c (Ob.mk (by decide +kernel) ?_) | refine DrawN.b (Ob.mk (by decide +kernel) ?_) | refine Ob.mk (by kernel_rfl) ?_ | (refine Br.mk (fun h => ?_) (fun h => ?_) <;> (first | (exfalso; exact Bool.false_ne_true h) | (exfalso; exact Bool.false_ne_true h.symm) | skip)))); all_goals (conv => whnf)
        refine LoopN.mk {x : Nat × List Int // x.1 ≤ 8 ∧ x.2.length ≤ x.1 ∧ ∀ p ∈ x.2, IS p} (fun x => [(11, .v (.int .i64 x.1.1)), (10, .s 3)]) (fun x => [.dead, .dead, .dead, .row 2 1 x.1.2.length (ICs x.1.2)]) (fun x => 8 - x.1.1) ⟨(0, []), by simp⟩ ?_ ?_
        · (conv => whnf); (repeat' (first | exact True.intro | exact rfl | refine And.intro ?_ ?_ | decide))
        (conv => whnf)
        rintro ⟨⟨j, N⟩, hj, hN, hNI⟩
        dsimp only at hj hN hNI
        by_cases hjl : j < 8
        · (repeat' ((conv => whnf); first | refine Ob.mk (by decide) ?_ | refine Ob.mk (Int.natCast_nonneg _) ?_ | refine Ob.mk (cap8 hN hj) ?_ | refine AdN.mk _ _ rfl ?_ | refine DrawN.a (Ob.mk (by decide +kernel) ?_) | refine DrawN.c (Ob.mk (by decide +kernel) ?_) | refine DrawN.b (Ob.mk (by decide +kernel) ?_) | refine Ob.mk (by kernel_rfl) ?_ | (refine Br.mk (fun h => ?_) (fun h => ?_) <;> (first | (exfalso; exact Bool.false_ne_true h) | (exfalso; exact Bool.false_ne_true h.symm) | (exfalso; exact absurd (Int.ofNat_lt.2 hjl) (of_decide_eq_false ‹_›)) | skip)) | refine SeqN.go ?_)); all_goals (conv => whnf)
          · refine RoundN.mk ⟨(j + 1, N ++ [(IntKind.i64.wrap ((j : Int) * 5)).tmod 8]), hjl, by simp; exact hN, fun p hp => ?_⟩ (Nat.sub_succ_lt_self _ _ hjl) ?_
            · rcases List.mem_append.1 hp with hp | hp
              · exact hNI p hp
              · simp at hp; subst hp; exact tm8 hjl
            (conv => whnf); (repeat' (first | exact True.intro | exact rfl | refine And.intro ?_ ?_ | decide))
            all_goals first | exact congrArg (Value.int _) (wi1 hjl (by decide)) | (dsimp only; simp; done) | (dsimp only; unfold ICs; rw [List.map_append]; rfl) | trace_state
          · refine RoundN.mk ⟨(j + 1, N), hjl, Nat.le_succ_of_le hN, hNI⟩ (Nat.sub_succ_lt_self _ _ hjl) ?_
            (conv => whnf); (repeat' (first | exact True.intro | exact rfl | refine And.intro ?_ ?_ | decide))
            all_goals exact congrArg (Value.int _) (wi1 hjl (by decide))
        · have hN8 : N.length ≤ 8 := Nat.le_trans hN hj
          have iv := (vofs_rv hNI).inn
          have iv2 := (vofs_rv (l := (N.drop 0).take ((IntKind.i64.wrap ((N.length : Int).tdiv 2)).toNat - (((0 : Nat) : Int)).toNat)) (mem_partI hNI)).inn
          have R : Den Tryz.prog 16 #[.int .i64 1, .int .i64 6] noFacts (VVal ⟨1, 6, 1, 0⟩) := (vRange_d 1 6 ⟨by decide, by decide⟩ ⟨by decide, by decide⟩).eq (congrArg VVal (by decide +kernel))
          have iR : InV ⟨1, 6, 1, 0⟩ := ⟨⟨by decide, by decide⟩, ⟨by decide, by decide⟩, ⟨by decide, by decide⟩, ⟨by decide, by decide⟩⟩
          have VL := valueLattice_d (vofs N) (vofs ((N.drop 0).take ((IntKind.i64.wrap ((N.length : Int).tdiv 2)).toNat - (((0 : Nat) : Int)).toNat))) 3 [vofs N, vone 9] iv iv2 ⟨by decide, by decide⟩ (by intro p hp; simp at hp; rcases hp with rfl | rfl; exact iv; exact vone_in ⟨by decide, by decide⟩) (by simp)
          have VJ := DenA.nil4 (valueJoins_d [] (vofs N) ⟨1, 6, 1, 0⟩ N (by simp) iv iR hNI (by simp) (by omega))
          have V1 := vOf_a N hNI (by omega)
          have V2 := vOf_sub (n := (IntKind.i64.wrap ((N.length : Int).tdiv 2)).toNat - (((0 : Nat) : Int)).toNat) hNI (half hN8) (by omega)
          (repeat' ((conv => whnf); first | refine CallN.any _ R ?_ | refine CallN.any _ (vOne_d _) ?_ | refine CallA.any _ V1 ?_ | refine CallA.any _ V2 ?_ | refine CallA.mk _ VL ?_ | refine CallA.mk _ VJ ?_ | refine Ob.mk (half2 hN8) ?_ | refine Ob.mk (half3 hN8) ?_ | refine Ob.mk (by decide) ?_ | refine AdN.mk _ _ rfl ?_ | refine DrawN.a (Ob.mk (by decide +kernel) ?_) | refine DrawN.c (Ob.mk (by decide +kernel) ?_) | refine DrawN.b (Ob.mk (by decide +kernel) ?_) | refine Ob.mk (by kernel_rfl) ?_ | (refine Br.mk (fun h => ?_) (fun h => ?_) <;> (first | (exfalso; exact Bool.false_ne_true h) | (exfalso; exact Bool.false_ne_true h.symm) | (exfalso; exact absurd (Int.ofNat_lt.1 (of_decide_eq_true ‹_›)) hjl) | skip)) | refine SeqN.go ?_)); all_goals (conv => whnf)
          refine RoundN.mk ⟨s + 1, hsl⟩ (Nat.sub_succ_lt_self _ _ hsl) ?_
          (conv => whnf); (repeat' (first | exact True.intro | exact rfl | refine And.intro ?_ ?_ | decide))
          all_goals exact congrArg (Value.int _) (wi1 hsl (by decide))
      · (repeat' ((conv => whnf); first | refine CallN.mk _ works21_d ?_ | refine AdN.mk _ _ rfl ?_ | refine DrawN.a (Ob.mk (by decide +kernel) ?_) | refine DrawN.c (Ob.mk (by decide +kernel) ?_) | refine DrawN.b (Ob.mk (by decide +kernel) ?_) | refine Ob.mk (by kernel_rfl) ?_ | (refine Br.mk (fun h => ?_) (fun h => ?_) <;> (first | (exfalso; exact Bool.false_ne_true h) | (exfalso; exact Bool.false_ne_true h.symm) | (exfalso; exact absurd (Int.ofNat_lt.1 (of_decide_eq_true ‹_›)) hsl) | skip)) | refine SeqN.go ?_)); all_goals (conv => whnf)
        rfl
end Go.Proofs.YtljhbdgoknfkcaaGreatDoor
