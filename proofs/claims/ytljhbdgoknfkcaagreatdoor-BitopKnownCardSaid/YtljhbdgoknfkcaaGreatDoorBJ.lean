/- Contracts of package bitop: what few numbers make, each with each. -/
import Derived.Test.YtljhbdgoknfkcaaGreatDoorBE
import Derived.Test.YtljhbdgoknfkcaaGreatDoorS1
import Derived.Test.YtljhbdgoknfkcaaGreatDoorHV
import Derived.Test.YtljhbdgoknfkcaaGreatDoorBS
namespace Go.Proofs.YtljhbdgoknfkcaaGreatDoor
open Go Go.RowKit Go.Sort
set_option linter.unusedVariables false
set_option linter.unusedSimpArgs false
set_option maxRecDepth 100000

theorem vOf_all (l : List Int) (hl : ∀ p ∈ l, IS p) (hlen : l.length ≤ 9223372036854775807) : DenA Tryz.prog 14 noFacts [.r 1 l.length (ICs l)] (VVal (vofs l)) := by
  refine DenA.fam ?_
  intro ad b off c hs _
  rw [orF_no]
  exact vOf_m l hl hlen ad b off c hs
/-- What a number makes with each of some; what each of some makes with each of others. -/
def mks (op x : Int) (ys : List Int) : List Int := (ys.filter (wopB op)).map (wopV op x)
def mpairs (op : Int) (xs ys : List Int) : List Int := xs.flatMap fun x => mks op x ys
/-- A value's least eight numbers. -/
def bs8 (v : VV) : List Int := vnums v (min (8 : Int).toNat (vcnt v))
theorem ICs_IVl (l : List Int) : IVl l = ICs l := rfl
theorem rowIL {l : List Int} {z : Int} {K : List Value → Prop} (n : Nat) (e : z = (n : Int)) (h : n < l.length) (k : K [.int .i64 (l.getD n 0)]) : RowN (ICs l) (z.toNat * 1) 1 K := by
  subst e
  rw [Int.toNat_natCast, Nat.mul_one]
  exact .mk _ (ICs_drop l n h) rfl k
theorem some_r {v : VV} (rv : RV v) : DenF Tryz.prog 49 noFacts [.v (VVal v), .v (.int .i64 8)] [.s 0] [.row 2 1 (bs8 v).length (ICs (bs8 v))] := by
  rw [show (bs8 v).length = min (8 : Int).toNat (vcnt v) from vnums_len _ _]
  have h := some_f v 8 rv.inn (by decide) (by decide)
  rw [rv.fix] at h
  exact h
theorem bs8_len (v : VV) : (bs8 v).length ≤ 8 := by
  rw [show (bs8 v).length = min (8 : Int).toNat (vcnt v) from vnums_len _ _]
  exact Nat.min_le_left _ _
theorem mks_succ {op x : Int} {ys : List Int} {j : Nat} (h : j < ys.length) : mks op x (ys.take (j + 1)) = mks op x (ys.take j) ++ if wopB op (ys.getD j 0) then [wopV op x (ys.getD j 0)] else [] := by
  have e : ys.take (j + 1) = ys.take j ++ [ys.getD j 0] := by
    rw [List.take_add_one, List.getElem?_eq_getElem h]
    simp [List.getD, h]
  unfold mks
  rw [e, List.filter_append, List.map_append]
  congr 1
  by_cases c : wopB op (ys.getD j 0) = true
  · rw [if_pos c, List.filter_cons_of_pos c]; rfl
  · rw [if_neg c, List.filter_cons_of_neg c]; rfl
theorem mpairs_succ {op : Int} {xs ys : List Int} {i : Nat} (h : i < xs.length) : mpairs op (xs.take (i + 1)) ys = mpairs op (xs.take i) ys ++ mks op (xs.getD i 0) ys := by
  have e : xs.take (i + 1) = xs.take i ++ [xs.getD i 0] := by
    rw [List.take_add_one, List.getElem?_eq_getElem h]
    simp [List.getD, h]
  unfold mpairs
  rw [e, List.flatMap_append]
  simp
theorem mks_len (op x : Int) (ys : List Int) : (mks op x ys).length ≤ ys.length := by unfold mks; rw [List.length_map]; exact List.length_filter_le _ _
theorem wi8 {i n : Nat} (h : i < n) (hn : n ≤ 1000000) : IntKind.i64.wrap ((i : Int) + 1) = ((i + 1 : Nat) : Int) := by rw [sg_eq, sg_in _ (by omega) (by omega)]; omega
theorem wopV_is {op x y : Int} (ho : 0 ≤ op ∧ op ≤ 17) (hx : IS x) : IS (wopV op x y) := by
  unfold wopV
  have z : IS 0 := ⟨by decide, by decide⟩
  split; exact wrap_is _
  split; exact wrap_is _
  split; exact wrap_is _
  split; exact wrap_is _
  split; exact div2_is hx _
  split; (split; exact z; exact wrap_is _)
  split
  · split
    · exact z
    · rename_i h0
      have t := tmod_rng (x := x) h0
      have h1 := hx.1; have h2 := hx.2
      have t1 := t.2.1; have t2 := t.2.2.1; have t3 := t.2.2.2
      by_cases s : 0 ≤ x
      · have := t2 s; exact ⟨by omega, by omega⟩
      · have := t3 (by omega); exact ⟨by omega, by omega⟩
  split
  · unfold wdo; repeat' split
    all_goals first | exact wrap_is _ | exact ⟨by decide, by decide⟩
  · exact z
set_option maxHeartbeats 8000000 in
theorem pairs_d (op : Int) (ho : 0 ≤ op ∧ op ≤ 17) (a b : VV) (ra : RV a) (rb : RV b) : Den Tryz.prog 94 #[.int .i64 op, VVal a, VVal b] noFacts (VVal (vofs (mpairs op (bs8 a) (bs8 b)))) := by
  refine den_of_body (args := [.int .i64 op, VVal a, VVal b]) hmix Tryz.func94 ?_
  have SA := some_r ra
  have SB := some_r rb
  have lx := bs8_len a
  have ly := bs8_len b
  have ix : ∀ p ∈ bs8 a, IS p := fun p hp => (some_in_v ra hp).2
  have W : ∀ x y, Den Tryz.prog 31 #[.int .i64 op, .int .i64 x, .int .i64 y] noFacts (.tuple #[.int .i64 (wopV op x y), .bool (wopB op y)]) := fun x y => wAll_d op x y ho
  generalize bs8 a = xs at *
  generalize bs8 b = ys at *
  have lm : ∀ i j x, (mpairs op (xs.take i) ys ++ mks op x (ys.take j)).length ≤ 8 * 8 + 8 := by
    intro i j x
    have h1 : ∀ zs : List Int, (mpairs op zs ys).length ≤ zs.length * 8 := by
      intro zs
      induction zs with
      | nil => exact Nat.zero_le _
      | cons z zs ih =>
        show (mks op z ys ++ mpairs op zs ys).length ≤ _
        have := mks_len op z ys
        rw [List.length_append, List.length_cons]
        omega
    have h2 := h1 (xs.take i)
    have h3 := mks_len op x (ys.take j)
    rw [List.length_take] at h2 h3
    rw [List.length_append]
    omega
  have im : ∀ p ∈ mpairs op xs ys, IS p := by
    intro p hp
    obtain ⟨x, hx, hp⟩ := List.mem_flatMap.1 hp
    obtain ⟨y, _, rfl⟩ := List.mem_map.1 hp
    exact wopV_is ho (ix x hx)
  (repeat' ((conv => whnf); first | refine CallN.anyFresh _ _ SA ?_ | refine CallN.anyFresh _ _ SB ?_ | refine AdN.mk _ _ rfl ?_ | refine DrawN.a (Ob.mk (by decide +kernel) ?_) | refine DrawN.c (Ob.mk (by decide +kernel) ?_) | refine DrawN.b (Ob.mk (by decide +kernel) ?_) | refine Ob.mk (by kernel_rfl) ?_ | (refine Br.mk (fun h => ?_) (fun h => ?_) <;> (first | (exfalso; exact Bool.false_ne_true h) | (exfalso; exact Bool.false_ne_true h.symm) | skip)))); all_goals (conv => whnf)
  refine SeqN.nilRow 7 2 1 rfl ?_
  (conv => whnf)
  refine SeqN.go ?_
  (repeat' ((conv => whnf); first | refine CallN.anyFresh _ _ SA ?_ | refine CallN.anyFresh _ _ SB ?_ | refine AdN.mk _ _ rfl ?_ | refine DrawN.a (Ob.mk (by decide +kernel) ?_) | refine DrawN.c (Ob.mk (by decide +kernel) ?_) | refine DrawN.b (Ob.mk (by decide +kernel) ?_) | refine Ob.mk (by kernel_rfl) ?_ | (refine Br.mk (fun h => ?_) (fun h => ?_) <;> (first | (exfalso; exact Bool.false_ne_true h) | (exfalso; exact Bool.false_ne_true h.symm) | skip)))); all_goals (conv => whnf)
  refine LoopN.mk {i : Nat // i ≤ xs.length} (fun i => [(20, .v (.int .i64 i.1)), (7, .s 4)]) (fun i => [.dead, .dead, .cells [.junk, .junk, .junk, .junk], .row 2 1 ys.length (ICs ys), .row 2 1 (mpairs op (xs.take i.1) ys).length (ICs (mpairs op (xs.take i.1) ys)), .row 2 1 xs.length (ICs xs)]) (fun i => xs.length - i.1) ⟨0, Nat.zero_le _⟩ ?_ ?_
  · (conv => whnf); (repeat' (first | exact True.intro | exact rfl | refine And.intro ?_ ?_ | decide))
  (conv => whnf)
  rintro ⟨i, hi⟩
  by_cases hil : i < xs.length
  · have oi : 0 ≤ (i : Int) ∧ (i : Int) < (xs.length : Int) := ⟨Int.natCast_nonneg _, Int.ofNat_lt.2 hil⟩
    (repeat' ((conv => whnf); first | refine Ob.mk oi ?_ | refine rowIL i rfl hil ?_ | refine SeqN.go ?_ | refine AdN.mk _ _ rfl ?_ | refine DrawN.a (Ob.mk (by decide +kernel) ?_) | refine DrawN.c (Ob.mk (by decide +kernel) ?_) | refine DrawN.b (Ob.mk (by decide +kernel) ?_) | refine Ob.mk (by kernel_rfl) ?_ | (refine Br.mk (fun h => ?_) (fun h => ?_) <;> (first | (exfalso; exact Bool.false_ne_true h) | (exfalso; exact Bool.false_ne_true h.symm) | (exfalso; exact absurd (Int.ofNat_lt.2 hil) (of_decide_eq_false ‹_›)) | skip)))); all_goals (conv => whnf)
    refine LoopN.mk {j : Nat // j ≤ ys.length} (fun j => [(26, .v (.int .i64 j.1)), (7, .s 4)]) (fun j => [.dead, .dead, .cells [.junk, .junk, .junk, .junk], .row 2 1 ys.length (ICs ys), .row 2 1 (mpairs op (xs.take i) ys ++ mks op (xs.getD i 0) (ys.take j.1)).length (ICs (mpairs op (xs.take i) ys ++ mks op (xs.getD i 0) (ys.take j.1))), .row 2 1 xs.length (ICs xs)]) (fun j => ys.length - j.1) ⟨0, Nat.zero_le _⟩ ?_ ?_
    · (conv => whnf); (repeat' (first | exact True.intro | exact rfl | refine And.intro ?_ ?_ | decide))
      all_goals first | (dsimp only; simp [mks]; done) | trace_state
    (conv => whnf)
    rintro ⟨j, hj⟩
    have lij := lm i j (xs.getD i 0)
    have ms := mks_succ (op := op) (x := xs.getD i 0) (ys := ys) (j := j)
    have mp := mpairs_succ (op := op) (xs := xs) (ys := ys) hil
    dsimp only
    by_cases hjl : j < ys.length
    · have oj : 0 ≤ (j : Int) ∧ (j : Int) < (ys.length : Int) := ⟨Int.natCast_nonneg _, Int.ofNat_lt.2 hjl⟩
      have ms := ms hjl
      clear mp
      generalize mpairs op (xs.take i) ys = M at *
      generalize mks op (xs.getD i 0) (ys.take j) = N at *
      (repeat' ((conv => whnf); first | refine CallN.any _ (W _ _) ?_ | refine Ob.mk oj ?_ | refine rowIL j rfl hjl ?_ | refine Ob.mk ⟨by decide, (by show ((M ++ N).length + 1) * 8 ≤ 140737488355328; omega), (by show (M ++ N).length + 1 ≤ 140737488355328; omega)⟩ ?_ | refine AdN.mk _ _ rfl ?_ | refine DrawN.a (Ob.mk (by decide +kernel) ?_) | refine DrawN.c (Ob.mk (by decide +kernel) ?_) | refine DrawN.b (Ob.mk (by decide +kernel) ?_) | refine Ob.mk (by kernel_rfl) ?_ | (refine Br.mk (fun h => ?_) (fun h => ?_) <;> (first | (exfalso; exact Bool.false_ne_true h) | (exfalso; exact Bool.false_ne_true h.symm) | (exfalso; exact absurd (Int.ofNat_lt.2 hjl) (of_decide_eq_false ‹_›)) | skip)) | refine SeqN.go ?_)); all_goals (conv => whnf)
      · have hw : wopB op (ys.getD j 0) = true := ‹wopB op (ys.getD j 0) = true›
        rw [if_pos hw] at ms
        refine RoundN.mk ⟨j + 1, hjl⟩ (Nat.sub_succ_lt_self _ _ hjl) ?_
        (conv => whnf); (repeat' (first | exact True.intro | exact rfl | refine And.intro ?_ ?_ | decide))
        all_goals first | exact congrArg (Value.int _) (wi8 hjl (by omega)) | (dsimp only; rw [ms]; simp <;> omega) | (dsimp only; rw [ms, ← List.append_assoc]; simp [ICs]; done) | trace_state
      · have hw : wopB op (ys.getD j 0) = false := ‹wopB op (ys.getD j 0) = false›
        rw [if_neg (by rw [hw]; decide), List.append_nil] at ms
        refine RoundN.mk ⟨j + 1, hjl⟩ (Nat.sub_succ_lt_self _ _ hjl) ?_
        (conv => whnf); (repeat' (first | exact True.intro | exact rfl | refine And.intro ?_ ?_ | decide))
        all_goals first | exact congrArg (Value.int _) (wi8 hjl (by omega)) | (dsimp only; rw [ms]; done) | trace_state
    · obtain rfl : j = ys.length := by omega
      (repeat' ((conv => whnf); first | refine AdN.mk _ _ rfl ?_ | refine DrawN.a (Ob.mk (by decide +kernel) ?_) | refine DrawN.c (Ob.mk (by decide +kernel) ?_) | refine DrawN.b (Ob.mk (by decide +kernel) ?_) | refine Ob.mk (by kernel_rfl) ?_ | (refine Br.mk (fun h => ?_) (fun h => ?_) <;> (first | (exfalso; exact Bool.false_ne_true h) | (exfalso; exact Bool.false_ne_true h.symm) | (exfalso; exact absurd (Int.ofNat_lt.1 (of_decide_eq_true ‹_›)) hjl) | skip)) | refine SeqN.go ?_)); all_goals (conv => whnf)
      refine RoundN.mk ⟨i + 1, hil⟩ (Nat.sub_succ_lt_self _ _ hil) ?_
      (conv => whnf); (repeat' (first | exact True.intro | exact rfl | refine And.intro ?_ ?_ | decide))
      all_goals first | exact congrArg (Value.int _) (wi8 hil (by omega)) | (dsimp only; rw [mp, List.take_length]; done) | trace_state
  · obtain rfl : i = xs.length := by omega
    rw [show xs.take (⟨xs.length, hi⟩ : {i : Nat // i ≤ xs.length}).1 = xs from List.take_length]
    have V := vOf_all _ im (by have := lm xs.length 0 0; rw [List.take_length, List.length_append] at this; omega)
    (repeat' ((conv => whnf); first | refine CallA.any _ V ?_ | refine AdN.mk _ _ rfl ?_ | refine DrawN.a (Ob.mk (by decide +kernel) ?_) | refine DrawN.c (Ob.mk (by decide +kernel) ?_) | refine DrawN.b (Ob.mk (by decide +kernel) ?_) | refine Ob.mk (by kernel_rfl) ?_ | (refine Br.mk (fun h => ?_) (fun h => ?_) <;> (first | (exfalso; exact Bool.false_ne_true h) | (exfalso; exact Bool.false_ne_true h.symm) | (exfalso; exact absurd (Int.ofNat_lt.1 (of_decide_eq_true ‹_›)) hil) | skip)) | refine SeqN.go ?_)); all_goals (conv => whnf)
    rfl
/-! Contracts of package bitop: the counts of a shift. -/
/-! Results that are functions with own things in what they hold. -/
def capsOf (own : List Blk) (res : List AV) : List Nat := (namesOf res).flatMap fun k => match (own[k]? : Option Blk) with
  | some (Blk.clo _ _ l) => namesOf l
  | _ => []
inductive RetX (res0 : List AV) (own0 : List Blk) (res : List AV) (own : List Blk) : Prop where
  | mk (m : List Nat) (hm : m.Nodup) (hn : (List.range own0.length).all (fun k => (namesOf res0).contains k || (capsOf own0 res0).contains k) = true) (hr : leL (nth m) res res0) (ho : leM (nth m) own m own0) : RetX res0 own0 res own
theorem RetX.sound {w0 w : World} {F : Facts} {σ : Sg} {res0 res : List AV} {own own0 : List Blk} {vs : List Value} (h : RetX res0 own0 res own) (R : Reg w0 F σ own w) (hv : FrIs σ res vs.toArray) : ∃ σ', Reg w0 F σ' own0 w ∧ (∀ k, k < own0.length → σ' k ≠ none) ∧ FrIs σ' res0 vs.toArray := by
  obtain ⟨m, hm, hn, hr, ho⟩ := h
  obtain ⟨h1, h2⟩ := leM_at m own0 ho
  have hv' := leL_sound hr hv
  have R' : Reg w0 F (σ.via (nth m)) own0 w := by
    refine reg_via R (fun j k i hj hk => ?_) (fun k i hk => ?_) (fun k i d hd hg => ?_)
    · exact nth_inj hm j k i hj hk
    · rw [nth_eq] at hk
      have := (List.getElem?_eq_some_iff.1 hk).1
      omega
    · rw [nth_eq] at hg
      exact h2 k i d hd hg
  refine ⟨_, R', fun k hk => ?_, hv'⟩
  have := List.all_eq_true.1 hn k (List.mem_range.2 hk)
  rcases Bool.or_eq_true_iff.1 this with q | q
  · exact namesOf_some _ _ hv' k (by simpa using q)
  · have q : k ∈ capsOf own0 res0 := by simpa using q
    obtain ⟨k0, hk0, hkl⟩ := List.mem_flatMap.1 q
    have ne := namesOf_some _ _ hv' k0 hk0
    obtain ⟨m0, hm0⟩ := Option.ne_none_iff_exists'.1 ne
    split at hkl
    · rename_i g first l hb
      obtain ⟨us, _, hf⟩ := R'.mem.blk k0 _ m0 hb hm0
      exact namesOf_some l us.toList (by simpa using hf) k hkl
    · cases hkl
theorem denX_of_body {P : Program} {F : Facts} {f : FuncId} {fn : Func} {args : List Value} {res : List AV} {own0 : List Blk} (hm : P.follows .mixedOrders = true) (hf : P.funcs[f]? = some fn) (h : bodyF P F fn args (RetX res own0)) : DenV P f F args res own0 := by
  constructor
  intro W hF
  unfold bodyF at h
  split at h
  · rename_i c hc
    rw [padK_eq, catK_eq] at h
    refine calls_of_wp hf hc (codeK_sound (w0 := W) hm c (fun _ => none) _ _ _ _ _ _ h (holds_start hF) fun e σ' fr' own' a' w' hH hK => ?_)
    have fin : resA P fr' own' fn.results.toList (fun l => RetX res own0 l own') → bodyPost P fn (fun e w' => ∃ σ vs, e = .returned (retV vs) ∧ Reg W F σ own0 w' ∧ (∀ k, k < own0.length → σ k ≠ none) ∧ FrIs σ res vs.toArray) .normal a' w' := fun hr => by
      obtain ⟨l, vs, h1, h2, h3⟩ := resA_sound _ _ hr hH
      obtain ⟨σ2, q1, q2, q3⟩ := h1.sound hH.reg h2
      exact ⟨hH.dfr, _, run_results h3, σ2, vs, rfl, q1, q2, q3⟩
    cases e with
    | normal => exact fin hK
    | ret => exact fin hK
    | _ => exact hK.elim
  · exact h.elim
/-! Arrays of 64 truths. -/
def arrB (f : Nat → Bool) : List Value := (List.range 64).map fun i => Value.bool (f i)
theorem arrB_len (f : Nat → Bool) : (arrB f).length = 64 := by simp [arrB]
theorem arrB_congr {f g : Nat → Bool} (h : ∀ i, i < 64 → f i = g i) : arrB f = arrB g := by
  unfold arrB
  refine List.map_congr_left fun i hi => ?_
  rw [h i (List.mem_range.1 hi)]
theorem arrB_set {f : Nat → Bool} {i : Nat} {v : Bool} (h : i < 64) : (arrB f).set i (.bool v) = arrB fun j => if j = i then v else f j := by
  apply List.ext_getElem
  · simp [arrB]
  · intro j h1 h2
    simp only [arrB, List.getElem_set, List.getElem_map, List.getElem_range]
    by_cases c : i = j
    · subst c; simp
    · rw [if_neg c, if_neg (Ne.symm c)]
theorem storeB {f : Nat → Bool} {z : Int} {v : Bool} (n : Nat) (e : z = (n : Int)) (h : n < 64) : storeV (arrB f) (0 + z.toNat * 1) [.bool v] = arrB fun j => if j = n then v else f j := by
  subst e
  rw [Int.toNat_natCast, Nat.mul_one, Nat.zero_add]
  show setL (arrB f) n _ = _
  rw [setL_eq, arrB_set h]
theorem fitB {f : Nat → Bool} {z : Int} (n : Nat) (e : z = (n : Int)) (h : n < 64) : 0 + z.toNat * 1 + 1 ≤ (arrB f).length := by rw [arrB_len]; omega
/-- Which counts there are. -/
def bstep (b : VV) : Int := if 64 < (cwrapped b.m b.r).1 then 64 else (cwrapped b.m b.r).1
def bfew (b : VV) : Bool := (vcard b).2 && decide ((vcard b).1 ≤ 64)
def bmet (b : VV) (j : Nat) : Bool := if bfew b then (vnums b (min (64 : Int).toNat (vcnt b))).any (fun y => y % 64 == (j : Int)) else bstep b == 0 || (j : Int).tmod (bstep b) == b.r.tmod (bstep b)
theorem m64_nat {x : Int} : (x % 64).tmod 64 = (((x % 64).toNat : Nat) : Int) := by rw [Int.tmod_eq_emod_of_nonneg (by omega)]; omega
theorem rowIK {l : List Int} {z : Int} {K : List Value → Prop} (n : Nat) (e : z = (n : Int)) (h : n < l.length) (k : K [.int .i64 (l.getD n 0)]) : RowN (ICs l) (z.toNat * 1) 1 K := by
  subst e
  rw [Int.toNat_natCast, Nat.mul_one]
  exact .mk _ (ICs_drop l n h) rfl k
theorem some64 {v : VV} (rv : RV v) : DenF Tryz.prog 49 noFacts [.v (VVal v), .v (.int .i64 64)] [.s 0] [.row 2 1 (vnums v (min (64 : Int).toNat (vcnt v))).length (ICs (vnums v (min (64 : Int).toNat (vcnt v))))] := by
  rw [vnums_len]
  have h := some_f v 64 rv.inn (by decide) (by decide)
  rw [rv.fix] at h
  exact h
theorem any_succ {xs : List Int} {i : Nat} (h : i < xs.length) (j : Nat) : ((xs.take (i + 1)).any fun y => y % 64 == (j : Int)) = if j = (xs.getD i 0 % 64).toNat then true else (xs.take i).any fun y => y % 64 == (j : Int) := by
  have e : xs.take (i + 1) = xs.take i ++ [xs.getD i 0] := by
    rw [List.take_add_one, List.getElem?_eq_getElem h]
    simp [List.getD, h]
  rw [e, List.any_append]
  have : ([xs.getD i 0].any fun y => y % 64 == (j : Int)) = decide (j = (xs.getD i 0 % 64).toNat) := by
    rw [List.any_cons, List.any_nil, Bool.or_false, Bool.eq_iff_iff, beq_iff_eq, decide_eq_true_eq]
    omega
  rw [this]
  by_cases c : j = (xs.getD i 0 % 64).toNat
  · rw [if_pos c, decide_eq_true c, Bool.or_true]
  · rw [if_neg c, decide_eq_false c, Bool.or_false]
theorem wi64b {i : Nat} (h : i < 64) : IntKind.u64.wrap ((i : Int) + 1) = ((i + 1 : Nat) : Int) := by rw [us_eq, us_in _ (by omega) (by omega)]; omega
theorem wi64s {i n : Nat} (h : i < n) (hn : n ≤ 1000000) : IntKind.i64.wrap ((i : Int) + 1) = ((i + 1 : Nat) : Int) := by rw [sg_eq, sg_in _ (by omega) (by omega)]; omega
theorem idxB {z : Int} {j : Nat} (e : z = (j : Int)) (h : j < 64) : 0 ≤ z ∧ z < ((64 : Nat) : Int) := by omega
set_option maxHeartbeats 8000000 in
theorem counts_v (b : VV) (rb : RV b) : DenV Tryz.prog 246 noFacts [VVal b] [.t 1] [.arr (arrB (bmet b)), .clo 256 [] [.p 0 0]] := by
  refine denX_of_body (args := [VVal b]) hmix Tryz.func246 ?_
  have C := card_r rb
  have S := some64 rb
  have xl : (vnums b (min (64 : Int).toNat (vcnt b))).length ≤ 64 := by rw [vnums_len]; exact Nat.min_le_left _ _
  have W := den_of (F := noFacts) fun w => wrapped_c b.m b.r w rb.inn.m.1 rb.inn.m.2 rb.inn.r.1 rb.inn.r.2
  by_cases few : bfew b = true
  · have ef : arrB (bmet b) = arrB fun j => (vnums b (min (64 : Int).toNat (vcnt b))).any fun y => y % 64 == (j : Int) := by
      refine arrB_congr fun i hi => ?_
      unfold bmet
      rw [if_pos few]
    rw [ef]
    unfold bfew at few
    clear ef
    generalize vnums b (min (64 : Int).toNat (vcnt b)) = xs at *
    (repeat' ((conv => whnf); first | refine CallN.any _ C ?_ | refine CallN.anyFresh _ _ S ?_ | refine CallN.any _ W ?_ | refine CallN.any _ (wShift_d _) ?_ | refine AdN.mk _ _ rfl ?_ | refine DrawN.a (Ob.mk (by decide +kernel) ?_) | refine DrawN.c (Ob.mk (by decide +kernel) ?_) | refine DrawN.b (Ob.mk (by decide +kernel) ?_) | refine Ob.mk (by kernel_rfl) ?_ | (refine Br.mk (fun h => ?_) (fun h => ?_) <;> (first | (exfalso; exact Bool.false_ne_true h) | (exfalso; exact Bool.false_ne_true h.symm) | (exfalso; simp_all; done) | skip)))); all_goals (conv => whnf)
    refine LoopN.mk {i : Nat // i ≤ xs.length} (fun i => [(23, .v (.int .i64 i.1))]) (fun i => [.cells ((VC b).map .v), .arr (arrB fun j => (xs.take i.1).any fun y => y % 64 == (j : Int)), .row 2 1 xs.length (ICs xs)]) (fun i => xs.length - i.1) ⟨0, Nat.zero_le _⟩ ?_ ?_
    · (conv => whnf); (repeat' (first | exact True.intro | exact rfl | refine And.intro ?_ ?_ | decide))
    (conv => whnf)
    rintro ⟨i, hi⟩
    by_cases hil : i < xs.length
    · have oi : 0 ≤ (i : Int) ∧ (i : Int) < (xs.length : Int) := ⟨Int.natCast_nonneg _, Int.ofNat_lt.2 hil⟩
      have h64 : (xs.getD i 0 % 64).toNat < 64 := by omega
      (repeat' ((conv => whnf); first | refine CallN.any _ (wShift_d _) ?_ | refine Ob.mk oi ?_ | refine rowIK i rfl hil ?_ | refine SeqN.go ?_ | refine Ob.mk (idxB m64_nat h64) ?_ | refine Ob.mk (fitB _ m64_nat h64) ?_ | refine Ob.mk (by decide) ?_ | refine AdN.mk _ _ rfl ?_ | refine DrawN.a (Ob.mk (by decide +kernel) ?_) | refine DrawN.c (Ob.mk (by decide +kernel) ?_) | refine DrawN.b (Ob.mk (by decide +kernel) ?_) | refine Ob.mk (by kernel_rfl) ?_ | (refine Br.mk (fun h => ?_) (fun h => ?_) <;> (first | (exfalso; exact Bool.false_ne_true h) | (exfalso; exact Bool.false_ne_true h.symm) | (exfalso; exact absurd (Int.ofNat_lt.2 hil) (of_decide_eq_false ‹_›)) | skip)))); all_goals (conv => whnf)
      refine RoundN.mk ⟨i + 1, hil⟩ (Nat.sub_succ_lt_self _ _ hil) ?_
      (conv => whnf); (repeat' (first | exact True.intro | exact rfl | refine And.intro ?_ ?_ | decide))
      all_goals first | exact congrArg (Value.int _) (wi64s hil (by omega)) | exact (storeB _ m64_nat h64).trans (arrB_congr fun j hj => (any_succ hil j).symm) | trace_state
    · obtain rfl : i = xs.length := by omega
      (repeat' ((conv => whnf); first | refine AdN.mk _ _ rfl ?_ | refine DrawN.a (Ob.mk (by decide +kernel) ?_) | refine DrawN.c (Ob.mk (by decide +kernel) ?_) | refine DrawN.b (Ob.mk (by decide +kernel) ?_) | refine Ob.mk (by kernel_rfl) ?_ | (refine Br.mk (fun h => ?_) (fun h => ?_) <;> (first | (exfalso; exact Bool.false_ne_true h) | (exfalso; exact Bool.false_ne_true h.symm) | (exfalso; exact absurd (Int.ofNat_lt.1 (of_decide_eq_true ‹_›)) hil) | skip)) | refine SeqN.go ?_)); all_goals (conv => whnf)
      dsimp only
      rw [List.take_length]
      refine RetX.mk [1, 3] (by decide) rfl ?_ ?_ <;> (conv => whnf); (repeat' (first | exact True.intro | exact rfl | refine And.intro ?_ ?_ | decide))
      all_goals first | (rw [List.take_length]; done) | trace_state
  · have ef : arrB (bmet b) = arrB fun j => bstep b == 0 || (j : Int).tmod (bstep b) == b.r.tmod (bstep b) := by
      refine arrB_congr fun i hi => ?_
      unfold bmet
      rw [if_neg few]
    rw [ef]
    clear ef
    have e0 : arrB (fun _ => false) = arrB fun j => decide (j < 0) && (bstep b == 0 || (j : Int).tmod (bstep b) == b.r.tmod (bstep b)) := arrB_congr fun i _ => by simp
    unfold bfew at few
    have z0 : bstep b ≠ 0 → bstep b ≠ 0 := id
    have es : (if 64 < (cwrapped b.m b.r).1 then 64 else (cwrapped b.m b.r).1) = bstep b := rfl
    (repeat' ((conv => whnf); first | refine CallN.any _ C ?_ | refine CallN.anyFresh _ _ S ?_ | refine CallN.any _ W ?_ | refine CallN.any _ (wShift_d _) ?_ | refine AdN.mk _ _ rfl ?_ | refine DrawN.a (Ob.mk (by decide +kernel) ?_) | refine DrawN.c (Ob.mk (by decide +kernel) ?_) | refine DrawN.b (Ob.mk (by decide +kernel) ?_) | refine Ob.mk (by kernel_rfl) ?_ | (refine Br.mk (fun h => ?_) (fun h => ?_) <;> (first | (exfalso; exact Bool.false_ne_true h) | (exfalso; exact Bool.false_ne_true h.symm) | (exfalso; simp_all; done) | skip)))); all_goals (conv => whnf)
    all_goals try (exfalso; simp_all; done)
    all_goals
      rw [es]
      refine LoopN.mk {i : Nat // i ≤ 64} (fun i => [(37, .v (.int .u64 i.1))]) (fun i => [.cells ((VC b).map .v), .arr (arrB fun j => decide (j < i.1) && (bstep b == 0 || (j : Int).tmod (bstep b) == b.r.tmod (bstep b)))]) (fun i => 64 - i.1) ⟨0, Nat.zero_le _⟩ ?_ ?_
      · (conv => whnf); (repeat' (first | exact True.intro | exact rfl | refine And.intro ?_ ?_ | decide))
      (conv => whnf)
      rintro ⟨i, hi⟩
      by_cases hil : i < 64
      · have st : ∀ v, v = (bstep b == 0 || (i : Int).tmod (bstep b) == b.r.tmod (bstep b)) → arrB (fun j => if j = i then v else decide (j < i) && (bstep b == 0 || (j : Int).tmod (bstep b) == b.r.tmod (bstep b))) = arrB fun j => decide (j < i + 1) && (bstep b == 0 || (j : Int).tmod (bstep b) == b.r.tmod (bstep b)) := by
          intro v hv
          refine arrB_congr fun j hj => ?_
          by_cases c : j = i
          · rw [if_pos c, hv, c, decide_eq_true (Nat.lt_succ_self i), Bool.true_and]
          · rw [if_neg c]
            by_cases c2 : j < i
            · rw [decide_eq_true c2, decide_eq_true (show j < i + 1 by omega)]
            · rw [decide_eq_false c2, decide_eq_false (show ¬ j < i + 1 by omega)]
        (repeat' ((conv => whnf); first | refine SeqN.go ?_ | refine Ob.mk (idxB rfl hil) ?_ | refine Ob.mk (fitB _ rfl hil) ?_ | refine Ob.mk (neB ‹_›) ?_ | refine AdN.mk _ _ rfl ?_ | refine DrawN.a (Ob.mk (by decide +kernel) ?_) | refine DrawN.c (Ob.mk (by decide +kernel) ?_) | refine DrawN.b (Ob.mk (by decide +kernel) ?_) | refine Ob.mk (by kernel_rfl) ?_ | (refine Br.mk (fun h => ?_) (fun h => ?_) <;> (first | (exfalso; exact Bool.false_ne_true h) | (exfalso; exact Bool.false_ne_true h.symm) | (exfalso; exact absurd (Int.ofNat_lt.2 hil) (of_decide_eq_false ‹_›)) | skip)))); all_goals (conv => whnf)
        all_goals
          refine RoundN.mk ⟨i + 1, hil⟩ (Nat.sub_succ_lt_self _ _ hil) ?_
          (conv => whnf); (repeat' (first | exact True.intro | exact rfl | refine And.intro ?_ ?_ | decide))
          all_goals first | exact congrArg (Value.int _) (wi64b hil) | (refine (storeB _ rfl hil).trans (st _ ?_); simp_all; done) | trace_state
      · obtain rfl : i = 64 := by omega
        (repeat' ((conv => whnf); first | refine AdN.mk _ _ rfl ?_ | refine DrawN.a (Ob.mk (by decide +kernel) ?_) | refine DrawN.c (Ob.mk (by decide +kernel) ?_) | refine DrawN.b (Ob.mk (by decide +kernel) ?_) | refine Ob.mk (by kernel_rfl) ?_ | (refine Br.mk (fun h => ?_) (fun h => ?_) <;> (first | (exfalso; exact Bool.false_ne_true h) | (exfalso; exact Bool.false_ne_true h.symm) | (exfalso; exact absurd (Int.ofNat_lt.1 (of_decide_eq_true ‹_›)) hil) | skip)) | refine SeqN.go ?_)); all_goals (conv => whnf)
        refine RetX.mk [1, 2] (by decide) rfl ?_ ?_ <;> (conv => whnf); (repeat' (first | exact True.intro | exact rfl | refine And.intro ?_ ?_ | decide))
        all_goals first | exact arrB_congr fun j hj => by rw [decide_eq_true hj, Bool.true_and] | trace_state
theorem counts_f (b : VV) (rb : RV b) : DenF Tryz.prog 246 noFacts [.v (VVal b)] [.t 1] [.arr (arrB (bmet b)), .clo 256 [] [.p 0 0]] := DenF.fam rfl (counts_v b rb)
end Go.Proofs.YtljhbdgoknfkcaaGreatDoor
