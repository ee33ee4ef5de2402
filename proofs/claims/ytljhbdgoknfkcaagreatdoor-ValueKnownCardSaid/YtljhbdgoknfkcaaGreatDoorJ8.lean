/- ValueLattice as a call. -/
import Derived.Test.YtljhbdgoknfkcaaGreatDoorS3
import Derived.Test.YtljhbdgoknfkcaaGreatDoorJ1
namespace Go.Proofs.YtljhbdgoknfkcaaGreatDoor
open Go Go.RowKit Go.Sort
set_option linter.unusedVariables false
set_option linter.unusedSimpArgs false
set_option maxRecDepth 100000

theorem rowIv {l : List Int} {K : List Value → Prop} (n : Int) (h0 : 0 ≤ n) (h : n < (l.length : Int)) (k : K [.int .i64 (l.getD n.toNat 0)]) : RowN (IVl l) (n.toNat * 1) 1 K := by
  refine .mk _ ?_ rfl k
  have h2 : n.toNat < l.length := by omega
  rw [Nat.mul_one]
  unfold IVl
  have h3 : l.getD n.toNat 0 = l[n.toNat] := by simp [List.getD, h2]
  rw [h3, ← List.map_drop, ← List.map_take, List.drop_eq_getElem_cons h2]
  rfl
theorem vjoins2 (x y : VV) : vjoins [x, y] = vjoin (vmake x) (vmake y) := by
  show vjoin (vjoin vbot (vmake x)) (vmake y) = _
  rw [vjoin_bot]
set_option maxHeartbeats 4000000 in
theorem valueLattice_d (x y : VV) (n : Int) (L : List VV) (hx : InV x) (hy : InV y) (hn : IS n) (hL : ∀ p ∈ L, InV p) (hl1 : L.length ≤ 9223372036854775807) :
    DenA Tryz.prog 13 tabF [.v (VVal x), .v (VVal y), .v (.int .i64 n), .r 4 L.length (VCs L)] (.bool true) := by
  refine DenA.fam ?_
  intro ad1 b1 off1 c1 hs1 _
  have F0 : FLe tabF (orF tabF (rowF b1 off1 (VCs L))) := le_orL
  have F1 : FLe (rowF b1 off1 (VCs L)) (orF tabF (rowF b1 off1 (VCs L))) := le_orR
  generalize orF tabF (rowF b1 off1 (VCs L)) = F at *
  have WK := works21_d.mono F0
  refine den_of_body (args := [VVal x, VVal y, .int .i64 n, .slice ad1 L.length c1]) hmix Tryz.func13 ?_
  have A := vmake_rv hx
  have B := vmake_rv hy
  have rj := vjoin_rv A B
  have rm := vmeet_rv A B
  have rn := vnarrow_rv A B
  have rw' := vwiden_rv A B
  have J1 := vJoin2_d x y hx hy
  rw [vjoins2] at J1
  have J2 := vJoin2_d y x hy hx
  rw [vjoins2, ← join_comm A B] at J2
  have M := vMeet2_d x y hx hy
  rw [show vmeets [x, y] = vmeet (vmeet vtop (vmake x)) (vmake y) from rfl, vmeet_top A] at M
  have Hx := vHas_d x n hx hn
  have Hy := vHas_d y n hy hn
  have Hj := has_r n rj hn
  have Hm := has_r n rm hn
  have Hn := has_r n rn hn
  have W1 := vWithin_d x y hx hy
  have W2 := vWithin_d y x hy hx
  have S1 := vSame_d (vjoin (vmake x) (vmake y)) y rj.inn hy
  rw [rj.fix] at S1
  have S2 := vSame_d x y hx hy
  have S3 := vSame_d _ _ rj.inn rj.inn
  rw [rj.fix, veq_iff.2 rfl] at S3
  have W3 := (vWithin_d x _ hx rj.inn).eq (by rw [rj.fix, (vwithin_iff A rj).2 fun k hk q => join_in A B hk (.inl q)])
  have W4 := (vWithin_d _ _ rm.inn rj.inn).eq (by rw [rm.fix, rj.fix, (vwithin_iff rm rj).2 fun k hk q => meet_join A B hk q])
  have W5 := (vWithin_d _ _ rj.inn rw'.inn).eq (by rw [rj.fix, rw'.fix, (vwithin_iff rj rw').2 fun k hk q => join_widen A B hk q])
  have N := vNarrow_d x y hx hy
  have Wi := vWiden_d x y hx hy
  have C := vCard_d x hx
  have SM := some_f x 20 hx (by decide) (by decide)
  rw [show (20 : Int).toNat = 20 from rfl] at SM
  have fj : vhas (vmake x) n = true ∨ vhas (vmake y) n = true → vhas (vjoin (vmake x) (vmake y)) n = true := fun h => vhas_iff.2 (join_in A B hn (h.imp vhas_iff.1 vhas_iff.1))
  have fm : vhas (vmake x) n = true → vhas (vmake y) n = true → vhas (vmeet (vmake x) (vmake y)) n = true := fun h k => vhas_iff.2 (meet_in A B hn (vhas_iff.1 h) (vhas_iff.1 k))
  have fn : vhas (vmake x) n = true → vhas (vmake y) n = true → vhas (vnarrow (vmake x) (vmake y)) n = true := fun h k => vhas_iff.2 (narrow_in A B hn (vhas_iff.1 h) (vhas_iff.1 k))
  have fs : vwithin (vmake x) (vmake y) = true → vhas (vmake x) n = true → vhas (vmake y) n = true := fun h k => vhas_iff.2 ((vwithin_iff A B).1 h n hn (vhas_iff.1 k))
  have es : veq (vmake x) (vmake y) = (vwithin (vmake x) (vmake y) && vwithin (vmake y) (vmake x)) := by
    rw [Bool.eq_iff_iff, Bool.and_eq_true, vwithin_iff A B, vwithin_iff B A, veq_iff]
    exact ⟨fun e => by rw [e]; exact ⟨fun _ _ q => q, fun _ _ q => q⟩, fun h => A.ext B fun k hk => ⟨h.1 k hk, h.2 k hk⟩⟩
  rw [es] at S2
  rw [← within_join A B] at S1
  have vs := vcard_some A
  have vc := vcard_in A
  have K1 : ∀ i, i < min 20 (vcnt (vmake x)) → Den Tryz.prog 41 #[VVal x, .int .i64 (vnum (vmake x) i)] noFacts (.bool true) := fun i hi => by
    have v := vnum_in A (k := i) (by omega)
    exact (vHas_d x _ hx (vin_is' A v)).eq (by rw [vhas_iff.2 v])
  have K2 : ∀ i, i + 1 < min 20 (vcnt (vmake x)) → vnum (vmake x) i < vnum (vmake x) (i + 1) := fun i hi => (vnum_succ A (by omega)).2
  rw [vsome_len] at vs
  clear A B rj rm rn rw' es
  generalize vwithin (vmake x) (vmake y) = s at *
  generalize vwithin (vmake y) (vmake x) = t at *
  generalize vhas (vmake x) n = p at *
  generalize vhas (vmake y) n = q at *
  generalize vhas (vjoin (vmake x) (vmake y)) n = r at *
  generalize vhas (vmeet (vmake x) (vmake y)) n = u at *
  generalize vhas (vnarrow (vmake x) (vmake y)) n = z at *
  generalize vjoin (vmake x) (vmake y) = j at *
  generalize vmeet (vmake x) (vmake y) = m at *
  generalize vnarrow (vmake x) (vmake y) = nw at *
  generalize vwiden (vmake x) (vmake y) = wd at *
  by_cases h12 : L.length ≤ 12
  case neg =>
    (repeat' ((conv => whnf); first | refine AdN.mk _ _ rfl ?_ | refine DrawN.a (Ob.mk (by decide +kernel) ?_) | refine DrawN.c (Ob.mk (by decide +kernel) ?_) | refine DrawN.b (Ob.mk (by decide +kernel) ?_) | refine Ob.mk (by kernel_rfl) ?_ | (refine Br.mk (fun h => ?_) (fun h => ?_) <;> (first | (exfalso; exact Bool.false_ne_true h) | (exfalso; exact Bool.false_ne_true h.symm) | skip)))); all_goals (conv => whnf)
    refine SeqN.go ?_
    (repeat' ((conv => whnf); first | refine CallN.mk _ WK ?_ | refine AdN.mk _ _ rfl ?_ | refine DrawN.a (Ob.mk (by decide +kernel) ?_) | refine DrawN.c (Ob.mk (by decide +kernel) ?_) | refine DrawN.b (Ob.mk (by decide +kernel) ?_) | refine Ob.mk (by kernel_rfl) ?_ | (refine Br.mk (fun h => ?_) (fun h => ?_) <;> (first | (exfalso; exact Bool.false_ne_true h) | (exfalso; exact Bool.false_ne_true h.symm) | (exfalso; have := of_decide_eq_false ‹decide ((L.length : Int) > 12) = false›; omega) | skip)))); all_goals (conv => whnf)
    rfl
  (repeat' ((conv => whnf); first | refine AdN.mk _ _ rfl ?_ | refine DrawN.a (Ob.mk (by decide +kernel) ?_) | refine DrawN.c (Ob.mk (by decide +kernel) ?_) | refine DrawN.b (Ob.mk (by decide +kernel) ?_) | refine Ob.mk (by kernel_rfl) ?_ | (refine Br.mk (fun h => ?_) (fun h => ?_) <;> (first | (exfalso; exact Bool.false_ne_true h) | (exfalso; exact Bool.false_ne_true h.symm) | skip)))); all_goals (conv => whnf)
  refine SeqN.go ?_
  (repeat' ((conv => whnf); first | refine CallA.any _ J1 ?_ | refine CallA.any _ M ?_ | refine AdN.mk _ _ rfl ?_ | refine DrawN.a (Ob.mk (by decide +kernel) ?_) | refine DrawN.c (Ob.mk (by decide +kernel) ?_) | refine DrawN.b (Ob.mk (by decide +kernel) ?_) | refine Ob.mk (by kernel_rfl) ?_ | (refine Br.mk (fun h => ?_) (fun h => ?_) <;> (first | (exfalso; exact Bool.false_ne_true h) | (exfalso; exact Bool.false_ne_true h.symm) | (exfalso; have := of_decide_eq_true ‹decide ((L.length : Int) > 12) = true›; omega) | skip)))); all_goals (conv => whnf)
  refine SeqN.join ?_ ?_
  · (conv => whnf)
    cases p <;> cases q <;> cases s
    all_goals
      first
        | (exfalso; simp at fs; done)
        | ((try (have e := fj (.inl rfl); subst e)); (try (have e := fj (.inr rfl); subst e)); (try (have e := fm rfl rfl; subst e))
           (repeat' ((conv => whnf); first | refine CallN.any _ Hx ?_ | refine CallN.any _ Hy ?_ | refine CallN.any _ Hj ?_ | refine CallN.any _ Hm ?_ | refine CallN.any _ W1 ?_ | refine CallN.any _ S1 ?_ | refine CallN.any _ W3 ?_ | refine CallN.any _ W4 ?_ | refine AdN.mk _ _ rfl ?_ | refine DrawN.a (Ob.mk (by decide +kernel) ?_) | refine DrawN.c (Ob.mk (by decide +kernel) ?_) | refine DrawN.b (Ob.mk (by decide +kernel) ?_) | refine Ob.mk (by kernel_rfl) ?_ | (refine Br.mk (fun h => ?_) (fun h => ?_) <;> (first | (exfalso; exact Bool.false_ne_true h) | (exfalso; exact Bool.false_ne_true h.symm) | skip)) | refine SeqN.go ?_)); all_goals (conv => whnf)
           all_goals first | exact EndN.mk () (by (conv => whnf); (repeat' (first | exact True.intro | exact rfl | refine And.intro ?_ ?_ | decide))) | (exfalso; simp at *; done))
  (conv => whnf)
  refine SeqN.join ?_ ?_
  · (conv => whnf)
    cases p <;> cases q <;> cases s <;> cases t
    all_goals
      first
        | (exfalso; simp at fs; done)
        | ((try (have e := fn rfl rfl; subst e))
           (repeat' ((conv => whnf); first | refine CallN.any _ Hx ?_ | refine CallN.any _ Hy ?_ | refine CallN.any _ Hn ?_ | refine CallA.any _ J2 ?_ | refine CallN.any _ W1 ?_ | refine CallN.any _ W2 ?_ | refine CallN.any _ S2 ?_ | refine CallN.any _ S3 ?_ | refine CallN.any _ N ?_ | refine CallN.any _ Wi ?_ | refine CallN.any _ W5 ?_ | refine AdN.mk _ _ rfl ?_ | refine DrawN.a (Ob.mk (by decide +kernel) ?_) | refine DrawN.c (Ob.mk (by decide +kernel) ?_) | refine DrawN.b (Ob.mk (by decide +kernel) ?_) | refine Ob.mk (by kernel_rfl) ?_ | (refine Br.mk (fun h => ?_) (fun h => ?_) <;> (first | (exfalso; exact Bool.false_ne_true h) | (exfalso; exact Bool.false_ne_true h.symm) | skip)) | refine SeqN.go ?_)); all_goals (conv => whnf)
           all_goals first | exact EndN.mk () (by (conv => whnf); (repeat' (first | exact True.intro | exact rfl | refine And.intro ?_ ?_ | decide))) | (exfalso; simp at *; done))
  (conv => whnf)
  (repeat' ((conv => whnf); first | refine CallN.any _ C ?_ | refine CallN.anyFresh _ _ SM ?_ | refine AdN.mk _ _ rfl ?_ | refine DrawN.a (Ob.mk (by decide +kernel) ?_) | refine DrawN.c (Ob.mk (by decide +kernel) ?_) | refine DrawN.b (Ob.mk (by decide +kernel) ?_) | refine Ob.mk (by kernel_rfl) ?_ | (refine Br.mk (fun h => ?_) (fun h => ?_) <;> (first | (exfalso; exact Bool.false_ne_true h) | (exfalso; exact Bool.false_ne_true h.symm) | skip)))); all_goals (conv => whnf)
  refine SeqN.join ?_ ?_
  · (repeat' ((conv => whnf); first | refine AdN.mk _ _ rfl ?_ | refine DrawN.a (Ob.mk (by decide +kernel) ?_) | refine DrawN.c (Ob.mk (by decide +kernel) ?_) | refine DrawN.b (Ob.mk (by decide +kernel) ?_) | refine Ob.mk (by kernel_rfl) ?_ | (refine Br.mk (fun h => ?_) (fun h => ?_) <;> (first | (exfalso; exact Bool.false_ne_true h) | (exfalso; exact Bool.false_ne_true h.symm) | skip)) | refine SeqN.go ?_)); all_goals (conv => whnf)
    all_goals first | exact EndN.mk () (by (conv => whnf); (repeat' (first | exact True.intro | exact rfl | refine And.intro ?_ ?_ | decide))) | skip
    all_goals (exfalso; clear WK J1 J2 M Hx Hy Hj Hm Hn W1 W2 S1 S2 S3 W3 W4 W5 N Wi C SM K1 K2; have v0 := vc.1; have e : (vcard (vmake x)).1 ≤ 20 → IntKind.i64.wrap (vcard (vmake x)).1 = (vcard (vmake x)).1 := fun g => i64_in (by omega) (by omega); generalize vcard (vmake x) = cd at *; grind)
  (conv => whnf)
  (repeat' ((conv => whnf); first | refine AdN.mk _ _ rfl ?_ | refine DrawN.a (Ob.mk (by decide +kernel) ?_) | refine DrawN.c (Ob.mk (by decide +kernel) ?_) | refine DrawN.b (Ob.mk (by decide +kernel) ?_) | refine Ob.mk (by kernel_rfl) ?_ | (refine Br.mk (fun h => ?_) (fun h => ?_) <;> (first | (exfalso; exact Bool.false_ne_true h) | (exfalso; exact Bool.false_ne_true h.symm) | skip)))); all_goals (conv => whnf)
  refine SeqN.join ?_ ?_
  · (repeat' ((conv => whnf); first | refine AdN.mk _ _ rfl ?_ | refine DrawN.a (Ob.mk (by decide +kernel) ?_) | refine DrawN.c (Ob.mk (by decide +kernel) ?_) | refine DrawN.b (Ob.mk (by decide +kernel) ?_) | refine Ob.mk (by kernel_rfl) ?_ | (refine Br.mk (fun h => ?_) (fun h => ?_) <;> (first | (exfalso; exact Bool.false_ne_true h) | (exfalso; exact Bool.false_ne_true h.symm) | skip)))); all_goals (conv => whnf)
    have hkl : (vnums (vmake x) (min 20 (vcnt (vmake x)))).length = min 20 (vcnt (vmake x)) := vnums_len _ _
    have hkg : ∀ i, i < min 20 (vcnt (vmake x)) → (vnums (vmake x) (min 20 (vcnt (vmake x)))).getD i 0 = vnum (vmake x) i := fun i hi => by
      unfold vnums; simp [List.getD, hi]
    have hk20 : min 20 (vcnt (vmake x)) ≤ 20 := Nat.min_le_left _ _
    generalize vnums (vmake x) (min 20 (vcnt (vmake x))) = ns at *
    generalize min 20 (vcnt (vmake x)) = kk at *
    refine LoopN.mk {i : Nat // i ≤ kk} (fun i => [(14, .v (.int .i64 i.1))]) (fun i => [.cells ((VC x).map .v), .cells ((VC y).map .v), .row 31 4 2 [.int .i64 x.lo, .int .i64 x.hi, .int .u64 x.m, .int .u64 x.r, .int .i64 y.lo, .int .i64 y.hi, .int .u64 y.m, .int .u64 y.r], .row 31 4 2 [.int .i64 x.lo, .int .i64 x.hi, .int .u64 x.m, .int .u64 x.r, .int .i64 y.lo, .int .i64 y.hi, .int .u64 y.m, .int .u64 y.r], .cells ((VC j).map .v), .cells ((VC m).map .v), .row 2 1 kk (IVl ns)]) (fun i => kk - i.1) ⟨0, Nat.zero_le _⟩ ?_ ?_
    · (conv => whnf); (repeat' (first | exact True.intro | exact rfl | refine And.intro ?_ ?_ | decide))
    (conv => whnf)
    rintro ⟨i, hi⟩
    have o1 : decide ((i : Int) < (kk : Int)) = true → 0 ≤ (i : Int) ∧ (i : Int) < (kk : Int) := fun h => ⟨Int.natCast_nonneg _, of_decide_eq_true h⟩
    have e1 : decide ((i : Int) > 0) = true → IntKind.i64.wrap ((i : Int) - 1) = ((i - 1 : Nat) : Int) := fun h => by
      have := of_decide_eq_true h
      rw [i64_in (by omega) (by omega)]; omega
    have o2 : decide ((i : Int) < (kk : Int)) = true → decide ((i : Int) > 0) = true → 0 ≤ IntKind.i64.wrap ((i : Int) - 1) ∧ IntKind.i64.wrap ((i : Int) - 1) < (kk : Int) := fun h k => by
      have h1 := of_decide_eq_true h
      have h2 := of_decide_eq_true k
      rw [e1 k]; omega
    have K1' : decide ((i : Int) < (kk : Int)) = true → Den Tryz.prog 41 #[VVal x, .int .i64 (ns.getD ((i : Int)).toNat 0)] noFacts (.bool true) := fun h => by
      have hi2 : i < kk := by have := of_decide_eq_true h; omega
      have := K1 i hi2
      rwa [← hkg i hi2] at this
    have K2' : decide ((i : Int) < (kk : Int)) = true → decide ((i : Int) > 0) = true → ¬ (ns.getD ((i : Int)).toNat 0 ≤ ns.getD (IntKind.i64.wrap ((i : Int) - 1)).toNat 0) := fun h k => by
      have h1 := of_decide_eq_true h
      have h2 := of_decide_eq_true k
      obtain ⟨m', rfl⟩ : ∃ m', i = m' + 1 := ⟨i - 1, by omega⟩
      have := K2 m' (by omega)
      rw [e1 k, Int.toNat_natCast, Int.toNat_natCast, hkg _ (by omega), show m' + 1 - 1 = m' by omega, hkg _ (by omega)]
      omega
    (repeat' ((conv => whnf); first | refine CallN.any _ (K1' ‹_›) ?_ | refine Ob.mk (o1 ‹_›) ?_ | refine Ob.mk (o2 ‹_› ‹_›) ?_ | refine rowIv (i : Int) (o1 ‹_›).1 (by rw [hkl]; exact (o1 ‹_›).2) ?_ | refine rowIv (IntKind.i64.wrap ((i : Int) - 1)) (o2 ‹_› ‹_›).1 (by rw [hkl]; exact (o2 ‹_› ‹_›).2) ?_ | refine AdN.mk _ _ rfl ?_ | refine DrawN.a (Ob.mk (by decide +kernel) ?_) | refine DrawN.c (Ob.mk (by decide +kernel) ?_) | refine DrawN.b (Ob.mk (by decide +kernel) ?_) | refine Ob.mk (by kernel_rfl) ?_ | (refine Br.mk (fun h => ?_) (fun h => ?_) <;> (first | (exfalso; exact Bool.false_ne_true h) | (exfalso; exact Bool.false_ne_true h.symm) | skip)) | refine SeqN.go ?_)); all_goals (conv => whnf)
    all_goals first
      | exact EndN.mk () (by (conv => whnf); (repeat' (first | exact True.intro | exact rfl | refine And.intro ?_ ?_ | decide)))
      | (exfalso; exact K2' ‹_› ‹_› (of_decide_eq_true ‹_›))
      | (have h' : (i : Int) < (kk : Int) := of_decide_eq_true ‹_›
         refine RoundN.mk ⟨i + 1, by omega⟩ (by show kk - (i + 1) < kk - i; omega) ?_
         (conv => whnf); (repeat' (first | exact True.intro | exact rfl | refine And.intro ?_ ?_ | decide))
         all_goals (refine congrArg (Value.int _) ?_; dsimp only; rw [i64_in (by omega) (by omega)]; omega))
      | trace_state
  (conv => whnf)
  (repeat' ((conv => whnf); first | refine AdN.mk _ _ rfl ?_ | refine DrawN.a (Ob.mk (by decide +kernel) ?_) | refine DrawN.c (Ob.mk (by decide +kernel) ?_) | refine DrawN.b (Ob.mk (by decide +kernel) ?_) | refine Ob.mk (by kernel_rfl) ?_ | (refine Br.mk (fun h => ?_) (fun h => ?_) <;> (first | (exfalso; exact Bool.false_ne_true h) | (exfalso; exact Bool.false_ne_true h.symm) | skip)))); all_goals (conv => whnf)
  obtain ⟨f, hf⟩ : ∃ f : Nat → VV, f = fun k : Nat => L.getD ((k : Int).tmod (L.length : Int)).toNat vbot := ⟨_, rfl⟩
  have fin : ∀ k, InV (f k) := fun k => by rw [hf]; exact getD_in hL _
  obtain ⟨g, g0, gs, gn, gw⟩ : ∃ g : Nat → VV, g 0 = x ∧ (∀ i, 0 < L.length → g (i + 1) = vwiden (vmake (g i)) (vmake (f i))) ∧ (∀ i, L.length = 0 → g (i + 1) = g i) ∧ (0 < L.length → g = wseq x f) := by
    by_cases h0 : L.length = 0
    · exact ⟨fun _ => x, rfl, fun i h => by omega, fun _ _ => rfl, fun h => by omega⟩
    · exact ⟨wseq x f, rfl, fun i _ => rfl, fun i h => absurd h h0, fun _ => rfl⟩
  have gin : ∀ i, InV (g i) := fun i => by
    by_cases h0 : L.length = 0
    · induction i with
      | zero => rw [g0]; exact hx
      | succ i ih => rw [gn i h0]; exact ih
    · rw [gw (by omega)]; exact wseq_in hx fin i
  refine SeqN.go ?_
  (repeat' ((conv => whnf); first | refine AdN.mk _ _ rfl ?_ | refine DrawN.a (Ob.mk (by decide +kernel) ?_) | refine DrawN.c (Ob.mk (by decide +kernel) ?_) | refine DrawN.b (Ob.mk (by decide +kernel) ?_) | refine Ob.mk (by kernel_rfl) ?_ | (refine Br.mk (fun h => ?_) (fun h => ?_) <;> (first | (exfalso; exact Bool.false_ne_true h) | (exfalso; exact Bool.false_ne_true h.symm) | skip)))); all_goals (conv => whnf)
  refine LoopN.mk {i : Nat // i ≤ 400} (fun i => [(16, .v (.int .i64 i.1))]) (fun i => [.cells ((VC x).map .v), .cells ((VC y).map .v), .dead, .dead, .cells ((VC j).map .v), .cells ((VC m).map .v), .dead, .cells ((VC (g i.1)).map .v)]) (fun i => 400 - i.1) ⟨0, by decide⟩ ?_ ?_
  · rw [show ((⟨0, by decide⟩ : {i : Nat // i ≤ 400}).1) = 0 from rfl, g0]
    (conv => whnf); (repeat' (first | exact True.intro | exact rfl | refine And.intro ?_ ?_ | decide))
  (conv => whnf)
  rintro ⟨i, hi⟩
  have WD := vWiden_d (g i) (f i) (gin i) (fin i)
  rw [hf] at WD
  have p1 : decide ((L.length : Int) > 0) = true → 0 < L.length := fun h => by have := of_decide_eq_true h; omega
  have o3 : decide ((L.length : Int) > 0) = true → (L.length : Int) ≠ 0 := fun h => by have := p1 h; omega
  have o4 : decide ((L.length : Int) > 0) = true → 0 ≤ (i : Int).tmod (L.length : Int) ∧ (i : Int).tmod (L.length : Int) < (L.length : Int) := fun h => by
    have := p1 h
    exact ⟨Int.tmod_nonneg _ (Int.natCast_nonneg _), Int.tmod_lt_of_pos _ (by omega)⟩
  have gs' := gs i
  have gn' := gn i
  rw [hf] at gs'
  (repeat' ((conv => whnf); first | refine CallN.any _ WD ?_ | refine Ob.mk (o3 ‹_›) ?_ | refine Ob.mk (o4 ‹_›) ?_ | refine AdN.mk b1 off1 (hs1 (p1 ‹_›)) ?_ | refine CellsN.le F1 (cellsV _ (o4 ‹_›).1 (o4 ‹_›).2 ?_) | refine AdN.mk _ _ rfl ?_ | refine DrawN.a (Ob.mk (by decide +kernel) ?_) | refine DrawN.c (Ob.mk (by decide +kernel) ?_) | refine DrawN.b (Ob.mk (by decide +kernel) ?_) | refine Ob.mk (by kernel_rfl) ?_ | (refine Br.mk (fun h => ?_) (fun h => ?_) <;> (first | (exfalso; exact Bool.false_ne_true h) | (exfalso; exact Bool.false_ne_true h.symm) | skip)) | refine SeqN.go ?_)); all_goals (conv => whnf)
  · have e := gs' (p1 ‹_›)
    have h' : (i : Int) < 400 := of_decide_eq_true ‹decide ((i : Int) < 400) = true›
    refine RoundN.mk ⟨i + 1, by omega⟩ (by show 400 - (i + 1) < 400 - i; omega) ?_
    (conv => whnf); (repeat' (first | exact True.intro | exact rfl | refine And.intro ?_ ?_ | decide))
    all_goals first | (dsimp only; rw [e]; exact rfl) | (refine congrArg (Value.int _) ?_; dsimp only; rw [i64_in (by omega) (by omega)]; omega)
  · have e := gn' (by have := of_decide_eq_false ‹decide ((L.length : Int) > 0) = false›; omega)
    have h' : (i : Int) < 400 := of_decide_eq_true ‹decide ((i : Int) < 400) = true›
    refine RoundN.mk ⟨i + 1, by omega⟩ (by show 400 - (i + 1) < 400 - i; omega) ?_
    (conv => whnf); (repeat' (first | exact True.intro | exact rfl | refine And.intro ?_ ?_ | decide))
    all_goals first | (dsimp only; rw [e]; exact rfl) | (refine congrArg (Value.int _) ?_; dsimp only; rw [i64_in (by omega) (by omega)]; omega)
  have h' : ¬ (i : Int) < 400 := of_decide_eq_false ‹decide ((i : Int) < 400) = false›
  obtain rfl : i = 400 := by omega
  clear WD gs' gn' o3 o4 p1
  have GV := vmake_rv (gin 400)
  have sub : ∀ k, k < L.length → ∀ m, IS m → vin (vmake (L.getD k vbot)) m → vin (vmake (g 400)) m := fun k hk m hm h => by
    rw [gw (by omega)]
    refine wseq_has hx fin (j := k) (by omega) hm ?_
    rw [hf]
    show vin (vmake (L.getD ((k : Int).tmod (L.length : Int)).toNat vbot)) m
    rw [Int.tmod_eq_of_lt (Int.natCast_nonneg _) (by omega)]
    exact h
  refine LoopN.mk {i : Nat // i ≤ L.length} (fun i => [(17, .v (.int .i64 i.1))]) (fun i => [.cells ((VC x).map .v), .cells ((VC y).map .v), .dead, .dead, .cells ((VC j).map .v), .cells ((VC m).map .v), .dead, .cells ((VC (g 400)).map .v)]) (fun i => L.length - i.1) ⟨0, Nat.zero_le _⟩ ?_ ?_
  · (conv => whnf); (repeat' (first | exact True.intro | exact rfl | refine And.intro ?_ ?_ | decide))
  (conv => whnf)
  rintro ⟨k, hk⟩
  have q0 : decide ((k : Int) < (L.length : Int)) = true → k < L.length := fun h => by have := of_decide_eq_true h; omega
  have q1 : decide ((k : Int) < (L.length : Int)) = true → 0 ≤ (k : Int) ∧ (k : Int) < (L.length : Int) := fun h => ⟨Int.natCast_nonneg _, of_decide_eq_true h⟩
  have U1 : decide ((k : Int) < (L.length : Int)) = true → Den Tryz.prog 64 #[VVal (g 400), VVal (L.getD ((k : Int)).toNat vbot)] noFacts (VVal (vmake (g 400))) := fun h =>
    (vWiden_d (g 400) (L.getD k vbot) (gin 400) (getD_in hL k)).eq (by rw [widen_absorb GV (vmake_rv (getD_in hL k)) (sub k (q0 h))])
  have U2 : Den Tryz.prog 70 #[VVal (vmake (g 400)), VVal (g 400)] noFacts (.bool true) := (vSame_d _ _ GV.inn (gin 400)).eq (by rw [GV.fix, veq_iff.2 rfl])
  have U3 : decide ((k : Int) < (L.length : Int)) = true → Den Tryz.prog 68 #[VVal (L.getD ((k : Int)).toNat vbot), VVal (g 400)] noFacts (.bool true) := fun h =>
    (vWithin_d _ _ (getD_in hL k) (gin 400)).eq (by rw [(vwithin_iff (vmake_rv (getD_in hL k)) GV).2 (sub k (q0 h))])
  (repeat' ((conv => whnf); first | refine CallN.any _ (U1 ‹_›) ?_ | refine CallN.any _ U2 ?_ | refine CallN.any _ (U3 ‹_›) ?_ | refine CallN.mk _ WK ?_ | refine Ob.mk (q1 ‹_›) ?_ | refine AdN.mk b1 off1 (hs1 (by have := q0 ‹_›; omega)) ?_ | refine CellsN.le F1 (cellsV _ (q1 ‹_›).1 (q1 ‹_›).2 ?_) | refine AdN.mk _ _ rfl ?_ | refine DrawN.a (Ob.mk (by decide +kernel) ?_) | refine DrawN.c (Ob.mk (by decide +kernel) ?_) | refine DrawN.b (Ob.mk (by decide +kernel) ?_) | refine Ob.mk (by kernel_rfl) ?_ | (refine Br.mk (fun h => ?_) (fun h => ?_) <;> (first | (exfalso; exact Bool.false_ne_true h) | (exfalso; exact Bool.false_ne_true h.symm) | skip)) | refine SeqN.go ?_)); all_goals (conv => whnf)
  all_goals first
    | rfl
    | (have h2 := q0 ‹_›
       refine RoundN.mk ⟨k + 1, by omega⟩ (by show L.length - (k + 1) < L.length - k; omega) ?_
       (conv => whnf); (repeat' (first | exact True.intro | exact rfl | refine And.intro ?_ ?_ | decide))
       all_goals (refine congrArg (Value.int _) ?_; dsimp only; rw [i64_in (by omega) (by omega)]; omega))
    | (exfalso; simp at *; done)
    | trace_state
end Go.Proofs.YtljhbdgoknfkcaaGreatDoor
