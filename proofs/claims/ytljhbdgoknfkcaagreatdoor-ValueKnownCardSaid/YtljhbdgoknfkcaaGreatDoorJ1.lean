/- The statement ValueJoins, as a call: true for all values and numbers, over the table that a text reads. -/
import Derived.Test.YtljhbdgoknfkcaaGreatDoorPV
import Derived.Test.YtljhbdgoknfkcaaGreatDoorJ0
namespace Go.Proofs.YtljhbdgoknfkcaaGreatDoor
open Go Go.RowKit Go.Sort
set_option linter.unusedVariables false
set_option linter.unusedSimpArgs false
set_option maxRecDepth 100000

theorem CellsN.le {F F' : Facts} {b off n : Nat} {K : List Value → Prop} (hF : FLe F F') (h : CellsN F b off n K) : CellsN F' b off n K := by
  obtain ⟨vs, h1, h2, h3⟩ := h
  exact .mk vs (fun j v hj => hF.1 _ _ _ (h1 j v hj)) h2 h3

set_option maxHeartbeats 2000000 in
theorem valueJoins_d (L : List VV) (a b : VV) (N : List Int) (hL : ∀ p ∈ L, InV p) (ha : InV a) (hb : InV b) (hN : ∀ p ∈ N, IS p) (hl1 : L.length ≤ 9223372036854775807) (hl2 : N.length ≤ 9223372036854775807) :
    DenA Tryz.prog 12 tabF [.r 4 L.length (VCs L), .v (VVal a), .v (VVal b), .r 1 N.length (ICs N)] (.bool true) := by
  refine DenA.fam ?_
  intro ad1 b1 off1 c1 hs1 _ ad2 b2 off2 c2 hs2 _
  have F0 : FLe tabF (orF (orF tabF (rowF b1 off1 (VCs L))) (rowF b2 off2 (ICs N))) := le_orL.trans le_orL
  have F1 : FLe (rowF b1 off1 (VCs L)) (orF (orF tabF (rowF b1 off1 (VCs L))) (rowF b2 off2 (ICs N))) := le_orR.trans le_orL
  have F2 : FLe (rowF b2 off2 (ICs N)) (orF (orF tabF (rowF b1 off1 (VCs L))) (rowF b2 off2 (ICs N))) := le_orR
  generalize orF (orF tabF (rowF b1 off1 (VCs L))) (rowF b2 off2 (ICs N)) = F at *
  have WK := works21_d.mono F0
  refine den_of_body (args := [.slice ad1 L.length c1, VVal a, VVal b, .slice ad2 N.length c2]) hmix Tryz.func12 ?_
  (repeat' ((conv => whnf); first | refine CallN.mk _ WK ?_ | refine CallN.any _ rBottom_d ?_ | refine CallN.any _ rTop_d ?_ | refine AdN.mk _ _ rfl ?_ | refine DrawN.a (Ob.mk (by decide +kernel) ?_) | refine DrawN.c (Ob.mk (by decide +kernel) ?_) | refine DrawN.b (Ob.mk (by decide +kernel) ?_) | refine Ob.mk (by kernel_rfl) ?_ | (refine Br.mk (fun h => ?_) (fun h => ?_) <;> (first | (exfalso; exact Bool.false_ne_true h) | (exfalso; exact Bool.false_ne_true h.symm) | skip)) | refine SeqN.go ?_)); all_goals (conv => whnf)
  · rfl
  · rfl
  have JR : ∀ i : Nat, RV ((L.take i).foldl (fun a x => vjoin a (vmake x)) vbot) := fun i => fold_rv (p := InV) (fun a x ha hx => vjoin_rv ha (vmake_rv hx)) _ _ rv_bot fun p hp => hL p (List.mem_of_mem_take hp)
  have MR : ∀ i : Nat, RV ((L.take i).foldl (fun a x => vmeet a (vmake x)) vtop) := fun i => fold_rv (p := InV) (fun a x ha hx => vmeet_rv ha (vmake_rv hx)) _ _ rv_top fun p hp => hL p (List.mem_of_mem_take hp)
  have g1 : ¬ (L.length : Int) > 12 := of_decide_eq_false ‹_›
  have g2 : ¬ (N.length : Int) > 12 := of_decide_eq_false ‹_›
  refine LoopN.mk {i : Nat // i ≤ L.length} (fun i => [(11, .v (.int .i64 i.1))]) (fun i => [.cells ((VC a).map .v), .cells ((VC b).map .v), .cells ((VC ((L.take i.1).foldl (fun a x => vjoin a (vmake x)) vbot)).map .v), .cells ((VC ((L.take i.1).foldl (fun a x => vmeet a (vmake x)) vtop)).map .v)]) (fun i => L.length - i.1) ⟨0, Nat.zero_le _⟩ ?_ ?_
  · (conv => whnf); (repeat' (first | exact True.intro | exact rfl | refine And.intro ?_ ?_ | decide))
  (conv => whnf)
  rintro ⟨i, hi⟩
  have hx := getD_in hL i
  have D1 := (rJoin_d _ _ (JR i).red (vmake_rv hx).red)
  rw [rvjoin_eq (JR i) (vmake_rv hx)] at D1
  have D2 := (rMeet_d _ _ (MR i).red (vmake_rv hx).red)
  rw [rvmeet_eq (MR i) (vmake_rv hx)] at D2
  (repeat' ((conv => whnf); first | refine CallN.any _ (lplain_d _ hx) ?_ | refine CallN.any _ D1 ?_ | refine CallN.any _ D2 ?_ | refine CallN.any _ rBottom_d ?_ | refine Ob.mk ⟨Int.natCast_nonneg _, of_decide_eq_true (by assumption)⟩ ?_ | refine AdN.mk b1 off1 (hs1 (by have := of_decide_eq_true ‹decide ((i : Int) < L.length) = true›; omega)) ?_ | refine CellsN.le F1 (cellsV _ (Int.natCast_nonneg _) (of_decide_eq_true (by assumption)) ?_) | refine AdN.mk _ _ rfl ?_ | refine DrawN.a (Ob.mk (by decide +kernel) ?_) | refine DrawN.c (Ob.mk (by decide +kernel) ?_) | refine DrawN.b (Ob.mk (by decide +kernel) ?_) | refine Ob.mk (by kernel_rfl) ?_ | (refine Br.mk (fun h => ?_) (fun h => ?_) <;> (first | (exfalso; exact Bool.false_ne_true h) | (exfalso; exact Bool.false_ne_true h.symm) | skip)) | refine SeqN.go ?_)); all_goals (conv => whnf)
  · have h' : (i : Int) < (L.length : Int) := of_decide_eq_true ‹_›
    refine RoundN.mk ⟨i + 1, by omega⟩ (by show L.length - (i + 1) < L.length - i; omega) ?_
    (conv => whnf); (repeat' (first | exact True.intro | exact rfl | refine And.intro ?_ ?_ | decide))
    all_goals first | (refine congrArg (Value.int _) ?_; dsimp only; rw [i64_in (by omega) (by omega)]; omega) | (dsimp only; rw [take_fold _ _ _ _ (by omega)]; exact rfl)
  clear D1 D2 hx
  have h' : ¬ (i : Int) < (L.length : Int) := of_decide_eq_false ‹_›
  have e : i = L.length := by omega
  subst e
  have e1 : (L.take L.length).foldl (fun a x => vjoin a (vmake x)) vbot = vjoins L := by rw [List.take_length]; rfl
  have e2 : (L.take L.length).foldl (fun a x => vmeet a (vmake x)) vtop = vmeets L := by rw [List.take_length]; rfl
  have OR : ∀ i : Nat, RV (vofs (N.take i)) := fun i => vofs_rv fun p hp => hN p (List.mem_of_mem_take hp)
  refine LoopN.mk {i : Nat // i ≤ N.length} (fun i => [(13, .v (.int .i64 i.1))]) (fun i => [.cells ((VC a).map .v), .cells ((VC b).map .v), .cells ((VC (vjoins L)).map .v), .cells ((VC (vmeets L)).map .v), .cells ((VC (vofs (N.take i.1))).map .v)]) (fun i => N.length - i.1) ⟨0, Nat.zero_le _⟩ ?_ ?_
  · rw [← e1, ← e2]
    (conv => whnf); (repeat' (first | exact True.intro | exact rfl | refine And.intro ?_ ?_ | decide))
  (conv => whnf)
  rintro ⟨i, hi⟩
  have hx := getD_is hN i
  have D1 := (rJoin_d _ _ (OR i).red (rv_one hx).red)
  rw [rvjoin_eq (OR i) (rv_one hx)] at D1
  have X := vmake_rv ha
  have Y := vmake_rv hb
  have A1 := (vJoin_m L hL hl1 ad1 b1 off1 c1 hs1).mono F1
  have A2 := (vMeet_m L hL hl1 ad1 b1 off1 c1 hs1).mono F1
  have A3 := (vOf_m N hN hl2 ad2 b2 off2 c2 hs2).mono F2
  have A4 := rWiden_d _ _ X.red Y.red
  rw [rvwiden_eq X Y] at A4
  have A5 := rNarrow_d _ _ X.red Y.red
  have A6 := rWithin_d _ _ X.red Y.red
  rw [rwithin_eq X Y] at A6
  (repeat' ((conv => whnf); first | refine CallN.any _ (rOne_d _ hx) ?_ | refine CallN.any _ D1 ?_ | refine CallN.any _ (lplain_d a ha) ?_ | refine CallN.any _ (lplain_d b hb) ?_ | refine CallN.mk _ A1 ?_ | refine CallN.mk _ A2 ?_ | refine CallN.mk _ A3 ?_ | refine CallN.any _ (vWiden_d a b ha hb) ?_ | refine CallN.any _ A4 ?_ | refine CallN.any _ (vNarrow_d a b ha hb) ?_ | refine CallN.any _ A5 ?_ | refine CallN.any _ (vWithin_d a b ha hb) ?_ | refine CallN.any _ A6 ?_ | refine CallN.any _ (vSame_d a b ha hb) ?_ | refine CallN.any _ (docValue_d _) ?_ | refine CallN.mk _ WK ?_ | refine Ob.mk ⟨Int.natCast_nonneg _, of_decide_eq_true (by assumption)⟩ ?_ | refine AdN.mk b2 off2 (hs2 (by have := of_decide_eq_true ‹decide ((i : Int) < N.length) = true›; omega)) ?_ | refine CellsN.le F2 (cellsI _ (Int.natCast_nonneg _) (of_decide_eq_true (by assumption)) ?_) | refine AdN.mk _ _ rfl ?_ | refine DrawN.a (Ob.mk (by decide +kernel) ?_) | refine DrawN.c (Ob.mk (by decide +kernel) ?_) | refine DrawN.b (Ob.mk (by decide +kernel) ?_) | refine Ob.mk (by kernel_rfl) ?_ | (refine Br.mk (fun h => ?_) (fun h => ?_) <;> (first | (exfalso; exact Bool.false_ne_true h) | (exfalso; exact Bool.false_ne_true h.symm) | skip)) | refine SeqN.go ?_)); all_goals (conv => whnf)
  · have h' : (i : Int) < (N.length : Int) := of_decide_eq_true ‹_›
    refine RoundN.mk ⟨i + 1, by omega⟩ (by show N.length - (i + 1) < N.length - i; omega) ?_
    (conv => whnf); (repeat' (first | exact True.intro | exact rfl | refine And.intro ?_ ?_ | decide))
    all_goals first | (refine congrArg (Value.int _) ?_; dsimp only; rw [i64_in (by omega) (by omega)]; omega) | (dsimp only [vofs]; rw [take_foldI _ _ _ _ (by omega)]; exact rfl)
  all_goals
    have h' : ¬ (i : Int) < (N.length : Int) := of_decide_eq_false ‹decide ((i : Int) < N.length) = false›
    have e : i = N.length := by omega
    subst e
    clear A1 A2 A3 A4 A5 A6 D1
    first | rfl | (exfalso; simp_all; done) | (exfalso; unfold veq at *; simp_all; done) | (simp_all [retV]; done)
end Go.Proofs.YtljhbdgoknfkcaaGreatDoor
