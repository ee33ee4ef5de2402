/- Contracts of package bitop: quotients. -/
import Derived.Test.YtljhbdgoknfkcaaGreatDoorBB
namespace Go.Proofs.YtljhbdgoknfkcaaGreatDoor
open Go Go.RowKit Go.Sort
set_option linter.unusedVariables false
set_option linter.unusedSimpArgs false
set_option maxRecDepth 100000

theorem bsize_d (n : Int) (hn : IS n) : Den Tryz.prog 241 #[.int .i64 n] noFacts (.int .u64 (n.natAbs : Nat)) := by
  refine den_of_body (args := [.int .i64 n]) hmix Tryz.func241 ?_
  have h1 := hn.1
  have h2 := hn.2
  (repeat' ((conv => whnf); first | refine AdN.mk _ _ rfl ?_ | refine DrawN.a (Ob.mk (by decide +kernel) ?_) | refine DrawN.c (Ob.mk (by decide +kernel) ?_) | refine DrawN.b (Ob.mk (by decide +kernel) ?_) | refine Ob.mk (by kernel_rfl) ?_ | (refine Br.mk (fun h => ?_) (fun h => ?_) <;> (first | (exfalso; exact Bool.false_ne_true h) | (exfalso; exact Bool.false_ne_true h.symm) | skip)) | refine SeqN.go ?_)); all_goals (conv => whnf)
  · have h := of_decide_eq_true ‹decide (n < 0) = true›
    refine congrArg (Value.int .u64) ?_
    simp only [us_eq]; unfold us; omega
  · have h := of_decide_eq_false ‹decide (n < 0) = false›
    refine congrArg (Value.int .u64) ?_
    simp only [us_eq]; unfold us; omega
/-- The parts of a divisor. -/
def partL (b : VV) : List (Int × Int) := (if b.lo < 0 then [(b.lo, if -1 < b.hi then -1 else b.hi)] else []) ++ (if 0 < b.hi then [(b.hi, if 1 > b.lo then 1 else b.lo)] else [])
def PVs (l : List (Int × Int)) : List Value := (l.map fun p => [Value.int .i64 p.1, Value.int .i64 p.2]).flatten
set_option maxHeartbeats 4000000 in
theorem parts_f (b : VV) : DenF Tryz.prog 240 noFacts [.v (VVal b)] [.s 0] [.row 203 2 (partL b).length (PVs (partL b))] := by
  refine DenF.fam rfl ?_
  refine denV_of_body (args := [VVal b]) hmix Tryz.func240 ?_
  (repeat' ((conv => whnf); first | refine AdN.mk _ _ rfl ?_ | refine DrawN.a (Ob.mk (by decide +kernel) ?_) | refine DrawN.c (Ob.mk (by decide +kernel) ?_) | refine DrawN.b (Ob.mk (by decide +kernel) ?_) | refine Ob.mk (by kernel_rfl) ?_ | (refine Br.mk (fun h => ?_) (fun h => ?_) <;> (first | (exfalso; exact Bool.false_ne_true h) | (exfalso; exact Bool.false_ne_true h.symm) | skip)))); all_goals (conv => whnf)
  refine SeqN.nilRow 3 203 2 rfl ?_
  (repeat' ((conv => whnf); first | refine Ob.mk ⟨by decide, by decide, by decide⟩ ?_ | refine AdN.mk _ _ rfl ?_ | refine DrawN.a (Ob.mk (by decide +kernel) ?_) | refine DrawN.c (Ob.mk (by decide +kernel) ?_) | refine DrawN.b (Ob.mk (by decide +kernel) ?_) | refine Ob.mk (by kernel_rfl) ?_ | (refine Br.mk (fun h => ?_) (fun h => ?_) <;> (first | (exfalso; exact Bool.false_ne_true h) | (exfalso; exact Bool.false_ne_true h.symm) | skip)) | refine SeqN.go ?_)); all_goals (conv => whnf)
  all_goals refine RetN.mk [1] (by decide) rfl ?_ ?_ <;> (conv => whnf); (repeat' (first | exact True.intro | exact rfl | refine And.intro ?_ ?_ | decide))
  all_goals (simp only [decide_eq_true_eq, decide_eq_false_iff_not] at *; unfold partL; try unfold PVs)
  all_goals by_cases c1 : b.lo < 0 <;> by_cases c2 : 0 < b.hi <;> first | (exfalso; omega) | (simp [c1, c2]; done) | trace_state
/-! Contracts of package bitop: quotients. -/
def spanS (s : Int × Int) (q : Int) : Int × Int := (if q < s.1 then q else s.1, if q > s.2 then q else s.2)
/-- The quotients that span what Div makes. -/
def quoL (a : VV) (l : List (Int × Int)) : List Int := (l.map fun p => [wopV 16 a.lo p.1, wopV 16 a.hi p.1, wopV 16 a.lo p.2, wopV 16 a.hi p.2]).flatten
def qspan : List Int → Int × Int
  | [] => (0, 0)
  | q :: l => (q :: l).foldl spanS (q, q)
theorem bite_is {c : Prop} [Decidable c] {p q : Int} (hp : IS p) (hq : IS q) : IS (if c then p else q) := by split <;> assumption
theorem span_is (l : List Int) (s : Int × Int) (hs : IS s.1 ∧ IS s.2) (h : ∀ q ∈ l, IS q) : IS (l.foldl spanS s).1 ∧ IS (l.foldl spanS s).2 := by
  induction l generalizing s with
  | nil => exact hs
  | cons q l ih => exact ih _ ⟨bite_is (h q (by simp)) hs.1, bite_is (h q (by simp)) hs.2⟩ fun x hx => h x (by simp [hx])
theorem qspan_is (l : List Int) (h : ∀ q ∈ l, IS q) : IS (qspan l).1 ∧ IS (qspan l).2 := by
  cases l with
  | nil => exact ⟨⟨by decide, by decide⟩, by decide, by decide⟩
  | cons q l => exact span_is _ _ ⟨h q (by simp), h q (by simp)⟩ h
def bquot (a b : VV) : VV :=
  if (partL b).any (fun p => p.2 == -1) ∧ a.lo = -9223372036854775808 then vtop
  else vmk (iof (qspan (quoL a (partL b))).1 (qspan (quoL a (partL b))).2) (1, 0)
theorem wop16_is (n d : Int) : IS (wopV 16 n d) := by
  show IS (if d = 0 then 0 else quo n d)
  split
  · exact ⟨by decide, by decide⟩
  · exact wrap_is _
set_option maxHeartbeats 8000000 in
theorem quot1_d (a b : VV) (ha : InV a) (x y : Int) (hx : IS x) (hy : IS y) (hp : partL b = [(x, y)]) : Den Tryz.prog 179 #[VVal a, VVal b] noFacts (VVal (bquot a b)) := by
  refine den_of_body (args := [VVal a, VVal b]) hmix Tryz.func179 ?_
  have P := parts_f b
  rw [hp] at P
  have P : DenF Tryz.prog 240 noFacts [.v (VVal b)] [.s 0] [.row 203 2 1 [.int .i64 x, .int .i64 y]] := P
  have T := vTop_d
  have D1 := wAll_d 16 a.lo x ⟨by decide, by decide⟩
  have D2 := wAll_d 16 a.hi x ⟨by decide, by decide⟩
  have D3 := wAll_d 16 a.lo y ⟨by decide, by decide⟩
  have D4 := wAll_d 16 a.hi y ⟨by decide, by decide⟩
  have G := qspan_is (quoL a [(x, y)]) (by
    intro q hq
    simp only [quoL, List.map_cons, List.map_nil, List.flatten_cons, List.flatten_nil, List.append_nil, List.cons_append, List.nil_append, List.mem_cons, List.not_mem_nil, or_false] at hq
    rcases hq with rfl | rfl | rfl | rfl
    all_goals exact wop16_is _ _)
  have R := vRange_d (qspan (quoL a [(x, y)])).1 (qspan (quoL a [(x, y)])).2 G.1 G.2
  (repeat' ((conv => whnf); first | refine CallN.anyFresh _ _ P ?_ | refine CallN.any _ T ?_ | refine CallN.any _ D1 ?_ | refine CallN.any _ D2 ?_ | refine CallN.any _ D3 ?_ | refine CallN.any _ D4 ?_ | refine CallN.any _ R ?_ | refine LoopN.roll 3 ?_ | refine Ob.mk (by decide) ?_ | refine Ob.mk ⟨by decide, by decide⟩ ?_ | refine RowN.mk _ rfl rfl ?_ | refine cellsN_row _ rfl rfl ?_ | refine AdN.mk _ _ rfl ?_ | refine DrawN.a (Ob.mk (by decide +kernel) ?_) | refine DrawN.c (Ob.mk (by decide +kernel) ?_) | refine DrawN.b (Ob.mk (by decide +kernel) ?_) | refine Ob.mk (by kernel_rfl) ?_ | (refine Br.mk (fun h => ?_) (fun h => ?_) <;> (first | (exfalso; exact Bool.false_ne_true h) | (exfalso; exact Bool.false_ne_true h.symm) | skip)) | refine SeqN.go ?_)); all_goals (conv => whnf)
  all_goals (clear P T D1 D2 D3 D4 R; refine congrArg VVal (?_ : _ = bquot a b); unfold bquot; rw [hp])
  · rw [if_pos]; refine ⟨?_, ?_⟩ <;> simp_all
  all_goals (rw [if_neg (by simp_all)]; rfl)
set_option maxHeartbeats 8000000 in
theorem quot2_d (a b : VV) (ha : InV a) (x y u v : Int) (hx : IS x) (hy : IS y) (hv : v ≠ -1) (hp : partL b = [(x, y), (u, v)]) : Den Tryz.prog 179 #[VVal a, VVal b] noFacts (VVal (bquot a b)) := by
  refine den_of_body (args := [VVal a, VVal b]) hmix Tryz.func179 ?_
  have P := parts_f b
  rw [hp] at P
  have P : DenF Tryz.prog 240 noFacts [.v (VVal b)] [.s 0] [.row 203 2 2 [.int .i64 x, .int .i64 y, .int .i64 u, .int .i64 v]] := P
  have T := vTop_d
  have D1 := wAll_d 16 a.lo x ⟨by decide, by decide⟩
  have D2 := wAll_d 16 a.hi x ⟨by decide, by decide⟩
  have D3 := wAll_d 16 a.lo y ⟨by decide, by decide⟩
  have D4 := wAll_d 16 a.hi y ⟨by decide, by decide⟩
  have D5 := wAll_d 16 a.lo u ⟨by decide, by decide⟩
  have D6 := wAll_d 16 a.hi u ⟨by decide, by decide⟩
  have D7 := wAll_d 16 a.lo v ⟨by decide, by decide⟩
  have D8 := wAll_d 16 a.hi v ⟨by decide, by decide⟩
  have G := qspan_is (quoL a [(x, y), (u, v)]) (by
    intro q hq
    simp only [quoL, List.map_cons, List.map_nil, List.flatten_cons, List.flatten_nil, List.append_nil, List.cons_append, List.nil_append, List.mem_cons, List.not_mem_nil, or_false] at hq
    rcases hq with rfl | rfl | rfl | rfl | rfl | rfl | rfl | rfl
    all_goals exact wop16_is _ _)
  have R := vRange_d (qspan (quoL a [(x, y), (u, v)])).1 (qspan (quoL a [(x, y), (u, v)])).2 G.1 G.2
  (repeat' ((conv => whnf); first | refine CallN.anyFresh _ _ P ?_ | refine CallN.any _ T ?_ | refine CallN.any _ D1 ?_ | refine CallN.any _ D2 ?_ | refine CallN.any _ D3 ?_ | refine CallN.any _ D4 ?_ | refine CallN.any _ D5 ?_ | refine CallN.any _ D6 ?_ | refine CallN.any _ D7 ?_ | refine CallN.any _ D8 ?_ | refine CallN.any _ R ?_ | refine LoopN.roll 3 ?_ | refine Ob.mk (by decide) ?_ | refine Ob.mk ⟨by decide, by decide⟩ ?_ | refine RowN.mk _ rfl rfl ?_ | refine cellsN_row _ rfl rfl ?_ | refine AdN.mk _ _ rfl ?_ | refine DrawN.a (Ob.mk (by decide +kernel) ?_) | refine DrawN.c (Ob.mk (by decide +kernel) ?_) | refine DrawN.b (Ob.mk (by decide +kernel) ?_) | refine Ob.mk (by kernel_rfl) ?_ | (refine Br.mk (fun h => ?_) (fun h => ?_) <;> (first | (exfalso; exact Bool.false_ne_true h) | (exfalso; exact Bool.false_ne_true h.symm) | (exfalso; simp_all; done) | skip)) | refine SeqN.go ?_)); all_goals (conv => whnf)
  all_goals (clear P T D1 D2 D3 D4 D5 D6 D7 D8 R; refine congrArg VVal (?_ : _ = bquot a b); unfold bquot; rw [hp])
  · rw [if_pos]; refine ⟨?_, ?_⟩ <;> simp_all
  all_goals (rw [if_neg (by simp_all)]; rfl)
set_option maxHeartbeats 4000000 in
theorem quot0_d (a b : VV) (ha : InV a) (hp : partL b = []) : Den Tryz.prog 179 #[VVal a, VVal b] noFacts (VVal (bquot a b)) := by
  refine den_of_body (args := [VVal a, VVal b]) hmix Tryz.func179 ?_
  have P := parts_f b
  rw [hp] at P
  have P : DenF Tryz.prog 240 noFacts [.v (VVal b)] [.s 0] [.row 203 2 0 []] := P
  have R := vRange_d 0 0 ⟨by decide, by decide⟩ ⟨by decide, by decide⟩
  (repeat' ((conv => whnf); first | refine CallN.anyFresh _ _ P ?_ | refine CallN.any _ R ?_ | refine LoopN.roll 3 ?_ | refine Ob.mk (by decide) ?_ | refine Ob.mk ⟨by decide, by decide⟩ ?_ | refine RowN.mk _ rfl rfl ?_ | refine cellsN_row _ rfl rfl ?_ | refine AdN.mk _ _ rfl ?_ | refine DrawN.a (Ob.mk (by decide +kernel) ?_) | refine DrawN.c (Ob.mk (by decide +kernel) ?_) | refine DrawN.b (Ob.mk (by decide +kernel) ?_) | refine Ob.mk (by kernel_rfl) ?_ | (refine Br.mk (fun h => ?_) (fun h => ?_) <;> (first | (exfalso; exact Bool.false_ne_true h) | (exfalso; exact Bool.false_ne_true h.symm) | skip)) | refine SeqN.go ?_)); all_goals (conv => whnf)
  all_goals (clear P R; refine congrArg VVal (?_ : _ = bquot a b); unfold bquot; rw [hp])
  all_goals (rw [if_neg (by simp)]; rfl)
theorem quotient_d (a b : VV) (ha : InV a) (hb : InV b) : Den Tryz.prog 179 #[VVal a, VVal b] noFacts (VVal (bquot a b)) := by
  have m1 : IS (-1) := ⟨by decide, by decide⟩
  have p1 : IS 1 := ⟨by decide, by decide⟩
  by_cases c1 : b.lo < 0 <;> by_cases c2 : 0 < b.hi
  · exact quot2_d a b ha b.lo (if -1 < b.hi then -1 else b.hi) b.hi (if 1 > b.lo then 1 else b.lo) hb.lo (bite_is m1 hb.hi) (by split <;> omega) (by simp [partL, c1, c2])
  · exact quot1_d a b ha b.lo (if -1 < b.hi then -1 else b.hi) hb.lo (bite_is m1 hb.hi) (by simp [partL, c1, c2])
  · exact quot1_d a b ha b.hi (if 1 > b.lo then 1 else b.lo) hb.hi (bite_is p1 hb.lo) (by simp [partL, c1, c2])
  · exact quot0_d a b ha (by simp [partL, c1, c2])
/-! Contracts of package bitop: rests. -/
theorem natabs_iu {n : Int} (h : IS n) : IU (n.natAbs : Nat) := by have := h.1; have := h.2; exact ⟨by omega, by omega⟩
/-- The greater of two. -/
def gr (x y : Int) : Int := if y > x then y else x
def bgreat (l : List (Int × Int)) : Int := l.foldl (fun g p => gr (gr g (p.1.natAbs : Nat)) (p.2.natAbs : Nat)) 0
def brM (b : VV) : Int := IntKind.i64.wrap (IntKind.u64.wrap (bgreat (partL b) - 1))
def brI (a b : VV) : Int × Int :=
  (if a.lo < 0 then gr a.lo (IntKind.i64.wrap (-(brM b))) else 0, if 0 < a.hi then (if brM b < a.hi then brM b else a.hi) else 0)
def brC (a b : VV) : Int × Int := if b.lo = b.hi then cadd a.m a.r (b.lo.natAbs : Nat) (cmake (b.lo.natAbs : Nat) 0) else (1, 0)
def brest (a b : VV) : VV :=
  if (partL b).all (fun p => decide (((p.2.natAbs : Nat) : Int) > gr (a.lo.natAbs : Nat) (a.hi.natAbs : Nat))) then a
  else vmk (iof (brI a b).1 (brI a b).2) (brC a b)
theorem cmake0_iu {m : Int} : cmake m 0 = 0 := by unfold cmake; split; exact (by decide); exact Int.zero_emod _
theorem brC_in {a b : VV} (ha : InV a) (hb : InV b) : IU (brC a b).1 ∧ IU (brC a b).2 := by
  unfold brC
  have n := natabs_iu hb.lo
  rw [cmake0_iu]
  split
  · exact cadd_in ha.m.1 ha.m.2 ha.r.1 ha.r.2 n.1 n.2 (by decide) (by decide)
  · exact ⟨⟨by decide, by decide⟩, by decide, by decide⟩
set_option maxHeartbeats 8000000 in
theorem rest1_d (a b : VV) (ha : InV a) (hv : RV b) (x y : Int) (hx : IS x) (hy : IS y) (hp : partL b = [(x, y)]) : Den Tryz.prog 180 #[VVal a, VVal b] noFacts (VVal (brest a b)) := by
  refine den_of_body (args := [VVal a, VVal b]) hmix Tryz.func180 ?_
  have hb := hv.inn
  have P := parts_f b
  rw [hp] at P
  have P : DenF Tryz.prog 240 noFacts [.v (VVal b)] [.s 0] [.row 203 2 1 [.int .i64 x, .int .i64 y]] := P
  have T := den_of (F := noFacts) top_c
  have S := single_r hv
  have S1 := bsize_d a.lo ha.lo
  have S2 := bsize_d a.hi ha.hi
  have S3 := bsize_d x hx
  have S4 := bsize_d y hy
  have S5 := bsize_d b.lo hb.lo
  have n := natabs_iu hb.lo
  have M := den_of (F := noFacts) fun W => make_c (b.lo.natAbs : Nat) 0 W n.1 n.2 (by decide) (by decide)
  have C := den_of (F := noFacts) fun W => add_c a.m a.r (b.lo.natAbs : Nat) (cmake (b.lo.natAbs : Nat) 0) W ha.m.1 ha.m.2 ha.r.1 ha.r.2 n.1 n.2 (by rw [cmake0_iu]; decide) (by rw [cmake0_iu]; decide)
  have z : IS 0 := ⟨by decide, by decide⟩
  have i1 : IU 1 := ⟨by decide, by decide⟩
  have i0 : IU 0 := ⟨by decide, by decide⟩
  have ci := brC_in ha hb
  unfold brC at ci
  by_cases hs : b.lo = b.hi
  · rw [if_pos hs] at S ci
    (repeat' ((conv => whnf); first | refine CallN.anyFresh _ _ P ?_ | refine CallN.any _ T ?_ | refine CallN.any _ S ?_ | refine CallN.any _ S1 ?_ | refine CallN.any _ S2 ?_ | refine CallN.any _ S3 ?_ | refine CallN.any _ S4 ?_ | refine CallN.any _ S5 ?_ | refine CallN.any _ M ?_ | refine CallN.any _ C ?_ | refine CallN.any _ (iOf_d _ _) ?_ | refine LoopN.roll 3 ?_ | refine Ob.mk (by decide) ?_ | refine Ob.mk ⟨by decide, by decide⟩ ?_ | refine RowN.mk _ rfl rfl ?_ | refine cellsN_row _ rfl rfl ?_ | refine CallN.any _ (vMake_d ⟨_, _, (cadd a.m a.r (b.lo.natAbs : Nat) (cmake (b.lo.natAbs : Nat) 0)).1, (cadd a.m a.r (b.lo.natAbs : Nat) (cmake (b.lo.natAbs : Nat) 0)).2⟩ (InV.mk (iof_in (by first | exact z | exact bite_is (wrap_is _) ha.lo | exact bite_is (wrap_is _) ha.hi) (by first | exact z | exact bite_is (wrap_is _) ha.lo | exact bite_is (wrap_is _) ha.hi)).1 (iof_in (by first | exact z | exact bite_is (wrap_is _) ha.lo | exact bite_is (wrap_is _) ha.hi) (by first | exact z | exact bite_is (wrap_is _) ha.lo | exact bite_is (wrap_is _) ha.hi)).2 ci.1 ci.2)) ?_ | refine AdN.mk _ _ rfl ?_ | refine DrawN.a (Ob.mk (by decide +kernel) ?_) | refine DrawN.c (Ob.mk (by decide +kernel) ?_) | refine DrawN.b (Ob.mk (by decide +kernel) ?_) | refine Ob.mk (by kernel_rfl) ?_ | (refine Br.mk (fun h => ?_) (fun h => ?_) <;> (first | (exfalso; exact Bool.false_ne_true h) | (exfalso; exact Bool.false_ne_true h.symm) | (exfalso; simp [hs] at *; done) | skip)) | refine SeqN.go ?_)); all_goals (conv => whnf)
    all_goals (clear P T S S1 S2 S3 S4 S5 M C ha hv hb n z i1 i0 ci; refine congrArg VVal (?_ : _ = brest a b); unfold brest vmk brI brC brM; rw [hp, if_pos hs]; simp only [bgreat, List.foldl_cons, List.foldl_nil, List.all_cons, List.all_nil, Bool.and_true, gr, decide_eq_true_eq, decide_eq_false_iff_not] at *; first | grind | trace_state)
  · rw [if_neg hs] at S ci
    (repeat' ((conv => whnf); first | refine CallN.anyFresh _ _ P ?_ | refine CallN.any _ T ?_ | refine CallN.any _ S ?_ | refine CallN.any _ S1 ?_ | refine CallN.any _ S2 ?_ | refine CallN.any _ S3 ?_ | refine CallN.any _ S4 ?_ | refine CallN.any _ (iOf_d _ _) ?_ | refine LoopN.roll 3 ?_ | refine Ob.mk (by decide) ?_ | refine Ob.mk ⟨by decide, by decide⟩ ?_ | refine RowN.mk _ rfl rfl ?_ | refine cellsN_row _ rfl rfl ?_ | refine CallN.any _ (vMake_d ⟨_, _, 1, 0⟩ (InV.mk (iof_in (by first | exact z | exact bite_is (wrap_is _) ha.lo | exact bite_is (wrap_is _) ha.hi) (by first | exact z | exact bite_is (wrap_is _) ha.lo | exact bite_is (wrap_is _) ha.hi)).1 (iof_in (by first | exact z | exact bite_is (wrap_is _) ha.lo | exact bite_is (wrap_is _) ha.hi) (by first | exact z | exact bite_is (wrap_is _) ha.lo | exact bite_is (wrap_is _) ha.hi)).2 i1 i0)) ?_ | refine AdN.mk _ _ rfl ?_ | refine DrawN.a (Ob.mk (by decide +kernel) ?_) | refine DrawN.c (Ob.mk (by decide +kernel) ?_) | refine DrawN.b (Ob.mk (by decide +kernel) ?_) | refine Ob.mk (by kernel_rfl) ?_ | (refine Br.mk (fun h => ?_) (fun h => ?_) <;> (first | (exfalso; exact Bool.false_ne_true h) | (exfalso; exact Bool.false_ne_true h.symm) | (exfalso; simp [hs] at *; done) | skip)) | refine SeqN.go ?_)); all_goals (conv => whnf)
    all_goals (clear P T S S1 S2 S3 S4 S5 M C ha hv hb n z i1 i0 ci; refine congrArg VVal (?_ : _ = brest a b); unfold brest vmk brI brC brM; rw [hp, if_neg hs]; simp only [bgreat, List.foldl_cons, List.foldl_nil, List.all_cons, List.all_nil, Bool.and_true, gr, decide_eq_true_eq, decide_eq_false_iff_not] at *; first | grind | trace_state)
set_option maxHeartbeats 8000000 in
theorem rest2_d (a b : VV) (ha : InV a) (hv : RV b) (x y u v : Int) (hx : IS x) (hy : IS y) (hu : IS u) (hw : IS v) (hp : partL b = [(x, y), (u, v)]) : Den Tryz.prog 180 #[VVal a, VVal b] noFacts (VVal (brest a b)) := by
  refine den_of_body (args := [VVal a, VVal b]) hmix Tryz.func180 ?_
  have hb := hv.inn
  have P := parts_f b
  rw [hp] at P
  have P : DenF Tryz.prog 240 noFacts [.v (VVal b)] [.s 0] [.row 203 2 2 [.int .i64 x, .int .i64 y, .int .i64 u, .int .i64 v]] := P
  have T := den_of (F := noFacts) top_c
  have S := single_r hv
  have S1 := bsize_d a.lo ha.lo
  have S2 := bsize_d a.hi ha.hi
  have S3 := bsize_d x hx
  have S4 := bsize_d y hy
  have S6 := bsize_d u hu
  have S7 := bsize_d v hw
  have S5 := bsize_d b.lo hb.lo
  have n := natabs_iu hb.lo
  have M := den_of (F := noFacts) fun W => make_c (b.lo.natAbs : Nat) 0 W n.1 n.2 (by decide) (by decide)
  have C := den_of (F := noFacts) fun W => add_c a.m a.r (b.lo.natAbs : Nat) (cmake (b.lo.natAbs : Nat) 0) W ha.m.1 ha.m.2 ha.r.1 ha.r.2 n.1 n.2 (by rw [cmake0_iu]; decide) (by rw [cmake0_iu]; decide)
  have z : IS 0 := ⟨by decide, by decide⟩
  have i1 : IU 1 := ⟨by decide, by decide⟩
  have i0 : IU 0 := ⟨by decide, by decide⟩
  have ci := brC_in ha hb
  unfold brC at ci
  by_cases hs : b.lo = b.hi
  · rw [if_pos hs] at S ci
    (repeat' ((conv => whnf); first | refine CallN.anyFresh _ _ P ?_ | refine CallN.any _ T ?_ | refine CallN.any _ S ?_ | refine CallN.any _ S1 ?_ | refine CallN.any _ S2 ?_ | refine CallN.any _ S3 ?_ | refine CallN.any _ S4 ?_ | refine CallN.any _ S6 ?_ | refine CallN.any _ S7 ?_ | refine CallN.any _ S5 ?_ | refine CallN.any _ M ?_ | refine CallN.any _ C ?_ | refine CallN.any _ (iOf_d _ _) ?_ | refine LoopN.roll 3 ?_ | refine Ob.mk (by decide) ?_ | refine Ob.mk ⟨by decide, by decide⟩ ?_ | refine RowN.mk _ rfl rfl ?_ | refine cellsN_row _ rfl rfl ?_ | refine CallN.any _ (vMake_d ⟨_, _, (cadd a.m a.r (b.lo.natAbs : Nat) (cmake (b.lo.natAbs : Nat) 0)).1, (cadd a.m a.r (b.lo.natAbs : Nat) (cmake (b.lo.natAbs : Nat) 0)).2⟩ (InV.mk (iof_in (by first | exact z | exact bite_is (wrap_is _) ha.lo | exact bite_is (wrap_is _) ha.hi) (by first | exact z | exact bite_is (wrap_is _) ha.lo | exact bite_is (wrap_is _) ha.hi)).1 (iof_in (by first | exact z | exact bite_is (wrap_is _) ha.lo | exact bite_is (wrap_is _) ha.hi) (by first | exact z | exact bite_is (wrap_is _) ha.lo | exact bite_is (wrap_is _) ha.hi)).2 ci.1 ci.2)) ?_ | refine AdN.mk _ _ rfl ?_ | refine DrawN.a (Ob.mk (by decide +kernel) ?_) | refine DrawN.c (Ob.mk (by decide +kernel) ?_) | refine DrawN.b (Ob.mk (by decide +kernel) ?_) | refine Ob.mk (by kernel_rfl) ?_ | (refine Br.mk (fun h => ?_) (fun h => ?_) <;> (first | (exfalso; exact Bool.false_ne_true h) | (exfalso; exact Bool.false_ne_true h.symm) | (exfalso; simp_all; done) | skip)) | refine SeqN.go ?_)); all_goals (conv => whnf)
    all_goals (clear P T S S1 S2 S3 S4 S6 S7 S5 M C ha hv hb n z i1 i0 ci; refine congrArg VVal (?_ : _ = brest a b); unfold brest vmk brI brC brM; rw [hp, if_pos hs]; simp only [bgreat, List.foldl_cons, List.foldl_nil, List.all_cons, List.all_nil, Bool.and_true, gr, decide_eq_true_eq, decide_eq_false_iff_not] at *; first | grind | trace_state)
  · rw [if_neg hs] at S ci
    (repeat' ((conv => whnf); first | refine CallN.anyFresh _ _ P ?_ | refine CallN.any _ T ?_ | refine CallN.any _ S ?_ | refine CallN.any _ S1 ?_ | refine CallN.any _ S2 ?_ | refine CallN.any _ S3 ?_ | refine CallN.any _ S4 ?_ | refine CallN.any _ S6 ?_ | refine CallN.any _ S7 ?_ | refine CallN.any _ (iOf_d _ _) ?_ | refine LoopN.roll 3 ?_ | refine Ob.mk (by decide) ?_ | refine Ob.mk ⟨by decide, by decide⟩ ?_ | refine RowN.mk _ rfl rfl ?_ | refine cellsN_row _ rfl rfl ?_ | refine CallN.any _ (vMake_d ⟨_, _, 1, 0⟩ (InV.mk (iof_in (by first | exact z | exact bite_is (wrap_is _) ha.lo | exact bite_is (wrap_is _) ha.hi) (by first | exact z | exact bite_is (wrap_is _) ha.lo | exact bite_is (wrap_is _) ha.hi)).1 (iof_in (by first | exact z | exact bite_is (wrap_is _) ha.lo | exact bite_is (wrap_is _) ha.hi) (by first | exact z | exact bite_is (wrap_is _) ha.lo | exact bite_is (wrap_is _) ha.hi)).2 i1 i0)) ?_ | refine AdN.mk _ _ rfl ?_ | refine DrawN.a (Ob.mk (by decide +kernel) ?_) | refine DrawN.c (Ob.mk (by decide +kernel) ?_) | refine DrawN.b (Ob.mk (by decide +kernel) ?_) | refine Ob.mk (by kernel_rfl) ?_ | (refine Br.mk (fun h => ?_) (fun h => ?_) <;> (first | (exfalso; exact Bool.false_ne_true h) | (exfalso; exact Bool.false_ne_true h.symm) | (exfalso; simp_all; done) | skip)) | refine SeqN.go ?_)); all_goals (conv => whnf)
    all_goals (clear P T S S1 S2 S3 S4 S6 S7 S5 M C ha hv hb n z i1 i0 ci; refine congrArg VVal (?_ : _ = brest a b); unfold brest vmk brI brC brM; rw [hp, if_neg hs]; simp only [bgreat, List.foldl_cons, List.foldl_nil, List.all_cons, List.all_nil, Bool.and_true, gr, decide_eq_true_eq, decide_eq_false_iff_not] at *; first | grind | trace_state)
set_option maxHeartbeats 8000000 in
theorem rest0_d (a b : VV) (hp : partL b = []) (ha : InV a) : Den Tryz.prog 180 #[VVal a, VVal b] noFacts (VVal (brest a b)) := by
  refine den_of_body (args := [VVal a, VVal b]) hmix Tryz.func180 ?_
  have P := parts_f b
  rw [hp] at P
  have P : DenF Tryz.prog 240 noFacts [.v (VVal b)] [.s 0] [.row 203 2 0 []] := P
  have S1 := bsize_d a.lo ha.lo
  have S2 := bsize_d a.hi ha.hi
  (repeat' ((conv => whnf); first | refine CallN.anyFresh _ _ P ?_ | refine CallN.any _ S1 ?_ | refine CallN.any _ S2 ?_ | refine LoopN.roll 3 ?_ | refine Ob.mk (by decide) ?_ | refine AdN.mk _ _ rfl ?_ | refine DrawN.a (Ob.mk (by decide +kernel) ?_) | refine DrawN.c (Ob.mk (by decide +kernel) ?_) | refine DrawN.b (Ob.mk (by decide +kernel) ?_) | refine Ob.mk (by kernel_rfl) ?_ | (refine Br.mk (fun h => ?_) (fun h => ?_) <;> (first | (exfalso; exact Bool.false_ne_true h) | (exfalso; exact Bool.false_ne_true h.symm) | skip)) | refine SeqN.go ?_)); all_goals (conv => whnf)
  all_goals (clear P S1 S2; refine congrArg VVal (?_ : _ = brest a b); unfold brest; rw [hp]; rfl)
theorem rest_d (a b : VV) (ha : InV a) (hv : RV b) : Den Tryz.prog 180 #[VVal a, VVal b] noFacts (VVal (brest a b)) := by
  have hb := hv.inn
  have m1 : IS (-1) := ⟨by decide, by decide⟩
  have p1 : IS 1 := ⟨by decide, by decide⟩
  by_cases c1 : b.lo < 0 <;> by_cases c2 : 0 < b.hi
  · exact rest2_d a b ha hv b.lo (if -1 < b.hi then -1 else b.hi) b.hi (if 1 > b.lo then 1 else b.lo) hb.lo (bite_is m1 hb.hi) hb.hi (bite_is p1 hb.lo) (by simp [partL, c1, c2])
  · exact rest1_d a b ha hv b.lo (if -1 < b.hi then -1 else b.hi) hb.lo (bite_is m1 hb.hi) (by simp [partL, c1, c2])
  · exact rest1_d a b ha hv b.hi (if 1 > b.lo then 1 else b.lo) hb.hi (bite_is p1 hb.lo) (by simp [partL, c1, c2])
  · exact rest0_d a b (by simp [partL, c1, c2]) ha
/-! Contracts of package bitop: small, May, One. -/
theorem card_r {x : VV} (h : RV x) : Den Tryz.prog 47 #[VVal x] noFacts (.tuple #[.int .u64 (vcard x).1, .bool (vcard x).2]) := by
  have := vCard_d x h.inn
  rwa [h.fix] at this
/-- Whether a value has few numbers. -/
def bsmall (v : VV) : Bool := (vcard v).2 && decide ((vcard v).1 ≤ 8)
theorem small_d {v : VV} (hv : RV v) : Den Tryz.prog 93 #[VVal v] noFacts (.bool (bsmall v)) := by
  refine den_of_body (args := [VVal v]) hmix Tryz.func93 ?_
  have C := card_r hv
  (repeat' ((conv => whnf); first | refine CallN.any _ C ?_ | refine AdN.mk _ _ rfl ?_ | refine DrawN.a (Ob.mk (by decide +kernel) ?_) | refine DrawN.c (Ob.mk (by decide +kernel) ?_) | refine DrawN.b (Ob.mk (by decide +kernel) ?_) | refine Ob.mk (by kernel_rfl) ?_ | (refine Br.mk (fun h => ?_) (fun h => ?_) <;> (first | (exfalso; exact Bool.false_ne_true h) | (exfalso; exact Bool.false_ne_true h.symm) | skip)) | refine SeqN.go ?_)); all_goals (conv => whnf)
  all_goals (refine congrArg Value.bool ?_; unfold bsmall; simp_all)
theorem may_d (op : Int) {b : VV} (hv : RV b) : Den Tryz.prog 39 #[.int .i64 op, VVal b] noFacts (.bool ((op == 16 || op == 17) && vhas b 0)) := by
  refine den_of_body (args := [.int .i64 op, VVal b]) hmix Tryz.func39 ?_
  have T := wTraps_d op
  have H := has_r 0 hv ⟨by decide, by decide⟩
  (repeat' ((conv => whnf); first | refine CallN.any _ T ?_ | refine CallN.any _ H ?_ | refine AdN.mk _ _ rfl ?_ | refine DrawN.a (Ob.mk (by decide +kernel) ?_) | refine DrawN.c (Ob.mk (by decide +kernel) ?_) | refine DrawN.b (Ob.mk (by decide +kernel) ?_) | refine Ob.mk (by kernel_rfl) ?_ | (refine Br.mk (fun h => ?_) (fun h => ?_) <;> (first | (exfalso; exact Bool.false_ne_true h) | (exfalso; exact Bool.false_ne_true h.symm) | skip)) | refine SeqN.go ?_)); all_goals (conv => whnf)
  all_goals (refine congrArg Value.bool ?_; simp_all)
/-- What an operator makes of one value. -/
def boneV (op : Int) (a : VV) : VV :=
  if veq a vbot then vbot else if op = 20 then binvert a
  else if op = 19 then (if a.lo = a.hi ∧ a.lo = 0 then vone 1 else if vhas a 0 then vmk (iof 0 1) (1, 0) else vone 0) else vtop
theorem bOne_d (op : Int) (x : VV) (hx : InV x) : Den Tryz.prog 37 #[.int .i64 op, VVal x] noFacts (VVal (boneV op (vmake x))) := by
  refine den_of_body (args := [.int .i64 op, VVal x]) hmix Tryz.func37 ?_
  have rx := vmake_rv hx
  have M := vMake_d x hx
  have B := bottom_r rx
  have V := invert_d _ rx.inn
  have S := single_r rx
  have H := has_r 0 rx ⟨by decide, by decide⟩
  have O := vOne_d 1
  have Z := vOne_d 0
  have R := vRange_d 0 1 ⟨by decide, by decide⟩ ⟨by decide, by decide⟩
  have T := vTop_d
  have BB := vBottom_d
  generalize vmake x = a at *
  (repeat' ((conv => whnf); first | refine CallN.any _ M ?_ | refine CallN.any _ B ?_ | refine CallN.any _ V ?_ | refine CallN.any _ S ?_ | refine CallN.any _ H ?_ | refine CallN.any _ O ?_ | refine CallN.any _ Z ?_ | refine CallN.any _ R ?_ | refine CallN.any _ T ?_ | refine CallN.any _ BB ?_ | refine AdN.mk _ _ rfl ?_ | refine DrawN.a (Ob.mk (by decide +kernel) ?_) | refine DrawN.c (Ob.mk (by decide +kernel) ?_) | refine DrawN.b (Ob.mk (by decide +kernel) ?_) | refine Ob.mk (by kernel_rfl) ?_ | (refine Br.mk (fun h => ?_) (fun h => ?_) <;> (first | (exfalso; exact Bool.false_ne_true h) | (exfalso; exact Bool.false_ne_true h.symm) | skip)) | refine SeqN.go ?_)); all_goals (conv => whnf)
  all_goals (clear M B V S H O Z R T BB rx hx; refine congrArg VVal (?_ : _ = boneV op a); unfold boneV; (try simp only [decide_eq_true_eq, decide_eq_false_iff_not, beq_iff_eq, beq_eq_false_iff_ne] at *); first | grind [vmk] | trace_state)
/-! Contracts of package bitop: rows of functions. -/
def rowsL : List (Value × Value) := [(.int .i64 16, .agg #[.func (.func 179) #[] #[]]), (.int .i64 17, .agg #[.func (.func 180) #[] #[]]), (.int .i64 10, .agg #[.func (.func 181) #[] #[]]), (.int .i64 8, .agg #[.func (.func 182) #[] #[]]), (.int .i64 9, .agg #[.func (.func 183) #[] #[]]), (.int .i64 11, .agg #[.func (.func 184) #[] #[]]), (.int .i64 12, .agg #[.func (.func 187) #[] #[]])]
theorem rows_v : DenV Tryz.prog 91 noFacts [] [.t 0] [.map rowsL] := by
  refine denV_of_body (args := []) hmix Tryz.func91 ?_
  (repeat' ((conv => whnf); first | refine AdN.mk _ _ rfl ?_ | refine DrawN.a (Ob.mk (by decide +kernel) ?_) | refine DrawN.c (Ob.mk (by decide +kernel) ?_) | refine DrawN.b (Ob.mk (by decide +kernel) ?_) | refine Ob.mk (by kernel_rfl) ?_ | (refine Br.mk (fun h => ?_) (fun h => ?_) <;> (first | (exfalso; exact Bool.false_ne_true h) | (exfalso; exact Bool.false_ne_true h.symm) | skip)) | refine SeqN.go ?_)); all_goals (conv => whnf)
  refine RetN.mk [0] (by decide) rfl ?_ ?_ <;> (conv => whnf); (repeat' (first | exact True.intro | exact rfl | refine And.intro ?_ ?_ | decide))
theorem rows_f : DenF Tryz.prog 91 noFacts [] [.t 0] [.map rowsL] := DenF.fam rfl rows_v
/-- What an operator makes of two values, by what it makes of few numbers, and by its row. -/
def bdoV (op : Int) (p r a b : VV) : VV :=
  if veq a vbot || veq b vbot then vbot
  else if b.lo = b.hi ∧ b.lo = 0 ∧ (op = 16 ∨ op = 17) then vbot
  else if bsmall a && bsmall b then p else r
set_option maxHeartbeats 8000000 in
theorem bDo16_d (x y p : VV) (hx : InV x) (hy : InV y) (Q : Den Tryz.prog 94 #[.int .i64 16, VVal (vmake x), VVal (vmake y)] noFacts (VVal p)) : Den Tryz.prog 30 #[.int .i64 16, VVal x, VVal y] noFacts (VVal (bdoV 16 p (bquot (vmake x) (vmake y)) (vmake x) (vmake y))) := by
  refine den_of_body (args := [.int .i64 16, VVal x, VVal y]) hmix Tryz.func30 ?_
  have ra := vmake_rv hx
  have rb := vmake_rv hy
  have M1 := vMake_d x hx
  have M2 := vMake_d y hy
  have B1 := bottom_r ra
  have B2 := bottom_r rb
  have S := single_r rb
  have T := wTraps_d 16
  have C1 := small_d ra
  have C2 := small_d rb
  have R := quotient_d _ _ ra.inn rb.inn
  have BB := vBottom_d
  generalize vmake x = a at *
  generalize vmake y = b at *
  (repeat' ((conv => whnf); first | refine CallN.anyFresh _ _ rows_f ?_ | refine CallN.any _ M1 ?_ | refine CallN.any _ M2 ?_ | refine CallN.any _ B1 ?_ | refine CallN.any _ B2 ?_ | refine CallN.any _ S ?_ | refine CallN.any _ T ?_ | refine CallN.any _ C1 ?_ | refine CallN.any _ C2 ?_ | refine CallN.any _ Q ?_ | refine CallN.any _ R ?_ | refine CallN.any _ BB ?_ | refine AdN.mk _ _ rfl ?_ | refine DrawN.a (Ob.mk (by decide +kernel) ?_) | refine DrawN.c (Ob.mk (by decide +kernel) ?_) | refine DrawN.b (Ob.mk (by decide +kernel) ?_) | refine Ob.mk (by kernel_rfl) ?_ | (refine Br.mk (fun h => ?_) (fun h => ?_) <;> (first | (exfalso; exact Bool.false_ne_true h) | (exfalso; exact Bool.false_ne_true h.symm) | skip)) | refine SeqN.go ?_)); all_goals (conv => whnf)
  all_goals (clear M1 M2 B1 B2 S T C1 C2 Q R BB ra rb hx hy; refine congrArg VVal (?_ : _ = bdoV 16 p (bquot a b) a b); generalize bquot a b = r at *; unfold bdoV; (try simp only [decide_eq_true_eq, decide_eq_false_iff_not, beq_iff_eq, beq_eq_false_iff_ne] at *); first | grind | trace_state)
set_option maxHeartbeats 8000000 in
theorem bDo17_d (x y p : VV) (hx : InV x) (hy : InV y) (Q : Den Tryz.prog 94 #[.int .i64 17, VVal (vmake x), VVal (vmake y)] noFacts (VVal p)) : Den Tryz.prog 30 #[.int .i64 17, VVal x, VVal y] noFacts (VVal (bdoV 17 p (brest (vmake x) (vmake y)) (vmake x) (vmake y))) := by
  refine den_of_body (args := [.int .i64 17, VVal x, VVal y]) hmix Tryz.func30 ?_
  have ra := vmake_rv hx
  have rb := vmake_rv hy
  have M1 := vMake_d x hx
  have M2 := vMake_d y hy
  have B1 := bottom_r ra
  have B2 := bottom_r rb
  have S := single_r rb
  have T := wTraps_d 17
  have C1 := small_d ra
  have C2 := small_d rb
  have R := rest_d _ _ ra.inn rb
  have BB := vBottom_d
  generalize vmake x = a at *
  generalize vmake y = b at *
  (repeat' ((conv => whnf); first | refine CallN.anyFresh _ _ rows_f ?_ | refine CallN.any _ M1 ?_ | refine CallN.any _ M2 ?_ | refine CallN.any _ B1 ?_ | refine CallN.any _ B2 ?_ | refine CallN.any _ S ?_ | refine CallN.any _ T ?_ | refine CallN.any _ C1 ?_ | refine CallN.any _ C2 ?_ | refine CallN.any _ Q ?_ | refine CallN.any _ R ?_ | refine CallN.any _ BB ?_ | refine AdN.mk _ _ rfl ?_ | refine DrawN.a (Ob.mk (by decide +kernel) ?_) | refine DrawN.c (Ob.mk (by decide +kernel) ?_) | refine DrawN.b (Ob.mk (by decide +kernel) ?_) | refine Ob.mk (by kernel_rfl) ?_ | (refine Br.mk (fun h => ?_) (fun h => ?_) <;> (first | (exfalso; exact Bool.false_ne_true h) | (exfalso; exact Bool.false_ne_true h.symm) | skip)) | refine SeqN.go ?_)); all_goals (conv => whnf)
  all_goals (clear M1 M2 B1 B2 S T C1 C2 Q R BB ra rb hx hy; refine congrArg VVal (?_ : _ = bdoV 17 p (brest a b) a b); generalize brest a b = r at *; unfold bdoV; (try simp only [decide_eq_true_eq, decide_eq_false_iff_not, beq_iff_eq, beq_eq_false_iff_ne] at *); first | grind | trace_state)
set_option maxHeartbeats 8000000 in
theorem bDo10_d (x y p : VV) (hx : InV x) (hy : InV y) (Q : Den Tryz.prog 94 #[.int .i64 10, VVal (vmake x), VVal (vmake y)] noFacts (VVal p)) : Den Tryz.prog 30 #[.int .i64 10, VVal x, VVal y] noFacts (VVal (bdoV 10 p (bboth (vmake x) (vmake y)) (vmake x) (vmake y))) := by
  refine den_of_body (args := [.int .i64 10, VVal x, VVal y]) hmix Tryz.func30 ?_
  have ra := vmake_rv hx
  have rb := vmake_rv hy
  have M1 := vMake_d x hx
  have M2 := vMake_d y hy
  have B1 := bottom_r ra
  have B2 := bottom_r rb
  have S := single_r rb
  have T := wTraps_d 10
  have C1 := small_d ra
  have C2 := small_d rb
  have R := both_d _ _ ra.inn rb.inn
  have BB := vBottom_d
  generalize vmake x = a at *
  generalize vmake y = b at *
  (repeat' ((conv => whnf); first | refine CallN.anyFresh _ _ rows_f ?_ | refine CallN.any _ M1 ?_ | refine CallN.any _ M2 ?_ | refine CallN.any _ B1 ?_ | refine CallN.any _ B2 ?_ | refine CallN.any _ S ?_ | refine CallN.any _ T ?_ | refine CallN.any _ C1 ?_ | refine CallN.any _ C2 ?_ | refine CallN.any _ Q ?_ | refine CallN.any _ R ?_ | refine CallN.any _ BB ?_ | refine AdN.mk _ _ rfl ?_ | refine DrawN.a (Ob.mk (by decide +kernel) ?_) | refine DrawN.c (Ob.mk (by decide +kernel) ?_) | refine DrawN.b (Ob.mk (by decide +kernel) ?_) | refine Ob.mk (by kernel_rfl) ?_ | (refine Br.mk (fun h => ?_) (fun h => ?_) <;> (first | (exfalso; exact Bool.false_ne_true h) | (exfalso; exact Bool.false_ne_true h.symm) | skip)) | refine SeqN.go ?_)); all_goals (conv => whnf)
  all_goals (clear M1 M2 B1 B2 S T C1 C2 Q R BB ra rb hx hy; refine congrArg VVal (?_ : _ = bdoV 10 p (bboth a b) a b); generalize bboth a b = r at *; unfold bdoV; (try simp only [decide_eq_true_eq, decide_eq_false_iff_not, beq_iff_eq, beq_eq_false_iff_ne] at *); first | grind | trace_state)
set_option maxHeartbeats 8000000 in
theorem bDo8_d (x y p : VV) (hx : InV x) (hy : InV y) (Q : Den Tryz.prog 94 #[.int .i64 8, VVal (vmake x), VVal (vmake y)] noFacts (VVal p)) : Den Tryz.prog 30 #[.int .i64 8, VVal x, VVal y] noFacts (VVal (bdoV 8 p (beither (vmake x) (vmake y)) (vmake x) (vmake y))) := by
  refine den_of_body (args := [.int .i64 8, VVal x, VVal y]) hmix Tryz.func30 ?_
  have ra := vmake_rv hx
  have rb := vmake_rv hy
  have M1 := vMake_d x hx
  have M2 := vMake_d y hy
  have B1 := bottom_r ra
  have B2 := bottom_r rb
  have S := single_r rb
  have T := wTraps_d 8
  have C1 := small_d ra
  have C2 := small_d rb
  have R := either_d _ _ ra.inn rb.inn
  have BB := vBottom_d
  generalize vmake x = a at *
  generalize vmake y = b at *
  (repeat' ((conv => whnf); first | refine CallN.anyFresh _ _ rows_f ?_ | refine CallN.any _ M1 ?_ | refine CallN.any _ M2 ?_ | refine CallN.any _ B1 ?_ | refine CallN.any _ B2 ?_ | refine CallN.any _ S ?_ | refine CallN.any _ T ?_ | refine CallN.any _ C1 ?_ | refine CallN.any _ C2 ?_ | refine CallN.any _ Q ?_ | refine CallN.any _ R ?_ | refine CallN.any _ BB ?_ | refine AdN.mk _ _ rfl ?_ | refine DrawN.a (Ob.mk (by decide +kernel) ?_) | refine DrawN.c (Ob.mk (by decide +kernel) ?_) | refine DrawN.b (Ob.mk (by decide +kernel) ?_) | refine Ob.mk (by kernel_rfl) ?_ | (refine Br.mk (fun h => ?_) (fun h => ?_) <;> (first | (exfalso; exact Bool.false_ne_true h) | (exfalso; exact Bool.false_ne_true h.symm) | skip)) | refine SeqN.go ?_)); all_goals (conv => whnf)
  all_goals (clear M1 M2 B1 B2 S T C1 C2 Q R BB ra rb hx hy; refine congrArg VVal (?_ : _ = bdoV 8 p (beither a b) a b); generalize beither a b = r at *; unfold bdoV; (try simp only [decide_eq_true_eq, decide_eq_false_iff_not, beq_iff_eq, beq_eq_false_iff_ne] at *); first | grind | trace_state)
set_option maxHeartbeats 8000000 in
theorem bDo9_d (x y p : VV) (hx : InV x) (hy : InV y) (Q : Den Tryz.prog 94 #[.int .i64 9, VVal (vmake x), VVal (vmake y)] noFacts (VVal p)) : Den Tryz.prog 30 #[.int .i64 9, VVal x, VVal y] noFacts (VVal (bdoV 9 p (bxone (vmake x) (vmake y)) (vmake x) (vmake y))) := by
  refine den_of_body (args := [.int .i64 9, VVal x, VVal y]) hmix Tryz.func30 ?_
  have ra := vmake_rv hx
  have rb := vmake_rv hy
  have M1 := vMake_d x hx
  have M2 := vMake_d y hy
  have B1 := bottom_r ra
  have B2 := bottom_r rb
  have S := single_r rb
  have T := wTraps_d 9
  have C1 := small_d ra
  have C2 := small_d rb
  have R := one_d _ _ ra.inn rb.inn
  have BB := vBottom_d
  generalize vmake x = a at *
  generalize vmake y = b at *
  (repeat' ((conv => whnf); first | refine CallN.anyFresh _ _ rows_f ?_ | refine CallN.any _ M1 ?_ | refine CallN.any _ M2 ?_ | refine CallN.any _ B1 ?_ | refine CallN.any _ B2 ?_ | refine CallN.any _ S ?_ | refine CallN.any _ T ?_ | refine CallN.any _ C1 ?_ | refine CallN.any _ C2 ?_ | refine CallN.any _ Q ?_ | refine CallN.any _ R ?_ | refine CallN.any _ BB ?_ | refine AdN.mk _ _ rfl ?_ | refine DrawN.a (Ob.mk (by decide +kernel) ?_) | refine DrawN.c (Ob.mk (by decide +kernel) ?_) | refine DrawN.b (Ob.mk (by decide +kernel) ?_) | refine Ob.mk (by kernel_rfl) ?_ | (refine Br.mk (fun h => ?_) (fun h => ?_) <;> (first | (exfalso; exact Bool.false_ne_true h) | (exfalso; exact Bool.false_ne_true h.symm) | skip)) | refine SeqN.go ?_)); all_goals (conv => whnf)
  all_goals (clear M1 M2 B1 B2 S T C1 C2 Q R BB ra rb hx hy; refine congrArg VVal (?_ : _ = bdoV 9 p (bxone a b) a b); generalize bxone a b = r at *; unfold bdoV; (try simp only [decide_eq_true_eq, decide_eq_false_iff_not, beq_iff_eq, beq_eq_false_iff_ne] at *); first | grind | trace_state)
end Go.Proofs.YtljhbdgoknfkcaaGreatDoor
