/- Contracts of package value: joins, meets, what is widened and narrowed. -/
import Derived.Test.YtcemohoigdninaaGreatDoorK1
namespace Go.Proofs.YtcemohoigdninaaGreatDoor
open Go Go.RowKit Go.Sort
set_option linter.unusedVariables false
set_option linter.unusedSimpArgs false
set_option maxRecDepth 100000

theorem cj_in {x y : VV} (h : InV x) (k : InV y) : In2 (cjoin x.m x.r y.m y.r) := cjoin_in h.m.1 h.m.2 h.r.1 h.r.2 k.m.1 k.m.2 k.r.1 k.r.2
theorem cm_in {x y : VV} (h : InV x) (k : InV y) : In2 (cmeet x.m x.r y.m y.r).1 := cmeet_in h.m.1 h.m.2 h.r.1 h.r.2 k.m.1 k.m.2 k.r.1 k.r.2
theorem cjoin_d {x y : VV} (h : InV x) (k : InV y) : Den Tryz.prog 135 #[.agg #[.int .u64 x.m, .int .u64 x.r], .agg #[.int .u64 y.m, .int .u64 y.r]] noFacts (.agg #[.int .u64 (cjoin x.m x.r y.m y.r).1, .int .u64 (cjoin x.m x.r y.m y.r).2]) :=
  den_of fun W => join_c x.m x.r y.m y.r W h.m.1 h.m.2 h.r.1 h.r.2 k.m.1 k.m.2 k.r.1 k.r.2
theorem cmeet_d {x y : VV} (h : InV x) (k : InV y) : Den Tryz.prog 137 #[.agg #[.int .u64 x.m, .int .u64 x.r], .agg #[.int .u64 y.m, .int .u64 y.r]] noFacts (.tuple #[.agg #[.int .u64 (cmeet x.m x.r y.m y.r).1.1, .int .u64 (cmeet x.m x.r y.m y.r).1.2], .bool (cmeet x.m x.r y.m y.r).2]) :=
  den_of fun W => meet_c x.m x.r y.m y.r W h.m.1 h.m.2 h.r.1 h.r.2 k.m.1 k.m.2 k.r.1 k.r.2
theorem vWiden_d (x y : VV) (h : InV x) (k : InV y) : Den Tryz.prog 67 #[VVal x, VVal y] noFacts (VVal (vwiden (vmake x) (vmake y))) := by
  refine den_of_body (args := [VVal x, VVal y]) hmix Tryz.func67 ?_
  have hm := vmake_in h
  have km := vmake_in k
  have C := cjoin_d hm km
  have M := vMake_d ⟨_, _, _, _⟩ (show InV ⟨(iwiden (vmake x).lo (vmake x).hi (vmake y).lo (vmake y).hi).1, (iwiden (vmake x).lo (vmake x).hi (vmake y).lo (vmake y).hi).2, _, _⟩ from ⟨(iwiden_in hm.lo hm.hi km.lo km.hi).1, (iwiden_in hm.lo hm.hi km.lo km.hi).2, (cj_in hm km).1, (cj_in hm km).2⟩)
  (repeat' ((conv => whnf); first | refine CallN.any _ (vReduced_d x h) ?_ | refine CallN.any _ (vReduced_d y k) ?_ | refine CallN.any _ vBottom_d ?_ | refine CallN.any _ (iWiden_d _ _ _ _) ?_ | refine CallN.any _ C ?_ | refine CallN.any _ M ?_ | refine AdN.mk _ _ rfl ?_ | refine DrawN.a (Ob.mk (by decide +kernel) ?_) | refine DrawN.c (Ob.mk (by decide +kernel) ?_) | refine DrawN.b (Ob.mk (by decide +kernel) ?_) | refine Ob.mk (by kernel_rfl) ?_ | (refine Br.mk (fun h => ?_) (fun h => ?_) <;> (first | (exfalso; exact Bool.false_ne_true h) | (exfalso; exact Bool.false_ne_true h.symm) | skip)) | refine SeqN.go ?_)); all_goals (conv => whnf)
  all_goals (clear C M; grind [retV, vwiden, veq, vbot, vmk])
theorem vNarrow_d (x y : VV) (h : InV x) (k : InV y) : Den Tryz.prog 69 #[VVal x, VVal y] noFacts (VVal (vnarrow (vmake x) (vmake y))) := by
  refine den_of_body (args := [VVal x, VVal y]) hmix Tryz.func69 ?_
  have hm := vmake_in h
  have km := vmake_in k
  have C := cmeet_d hm km
  have M := vMake_d ⟨_, _, _, _⟩ (show InV ⟨(inarrow (vmake x).lo (vmake x).hi (vmake y).lo (vmake y).hi).1, (inarrow (vmake x).lo (vmake x).hi (vmake y).lo (vmake y).hi).2, _, _⟩ from ⟨(inarrow_in hm.lo hm.hi km.lo km.hi).1, (inarrow_in hm.lo hm.hi km.lo km.hi).2, (cm_in hm km).1, (cm_in hm km).2⟩)
  (repeat' ((conv => whnf); first | refine CallN.any _ (vReduced_d x h) ?_ | refine CallN.any _ (vReduced_d y k) ?_ | refine CallN.any _ vBottom_d ?_ | refine CallN.any _ (iNarrow_d _ _ _ _) ?_ | refine CallN.any _ C ?_ | refine CallN.any _ M ?_ | refine AdN.mk _ _ rfl ?_ | refine DrawN.a (Ob.mk (by decide +kernel) ?_) | refine DrawN.c (Ob.mk (by decide +kernel) ?_) | refine DrawN.b (Ob.mk (by decide +kernel) ?_) | refine Ob.mk (by kernel_rfl) ?_ | (refine Br.mk (fun h => ?_) (fun h => ?_) <;> (first | (exfalso; exact Bool.false_ne_true h) | (exfalso; exact Bool.false_ne_true h.symm) | skip)) | refine SeqN.go ?_)); all_goals (conv => whnf)
  all_goals (clear C M; grind [retV, vnarrow, veq, vbot, vmk])
theorem vJoin1_d (x y : VV) (hm : InV x) (km : InV y) : Den Tryz.prog 133 #[VVal x, VVal y] noFacts (VVal (vjoin x y)) := by
  refine den_of_body (args := [VVal x, VVal y]) hmix Tryz.func133 ?_
  have C := cjoin_d hm km
  have b1 := ijoin_in (a := 1) (b := 0) ⟨by decide, by decide⟩ ⟨by decide, by decide⟩ hm.lo hm.hi
  have b2 := ijoin_in b1.1 b1.2 km.lo km.hi
  have M := vMake_d ⟨_, _, _, _⟩ (show InV ⟨(ijoin (ijoin 1 0 x.lo x.hi).1 (ijoin 1 0 x.lo x.hi).2 y.lo y.hi).1, (ijoin (ijoin 1 0 x.lo x.hi).1 (ijoin 1 0 x.lo x.hi).2 y.lo y.hi).2, _, _⟩ from ⟨b2.1, b2.2, (cj_in hm km).1, (cj_in hm km).2⟩)
  (repeat' ((conv => whnf); first | refine CallN.any _ vBottom_d ?_ | refine CallA.any _ (iJoin_d _ _ _ _) ?_ | refine CallN.any _ C ?_ | refine CallN.any _ M ?_ | refine AdN.mk _ _ rfl ?_ | refine DrawN.a (Ob.mk (by decide +kernel) ?_) | refine DrawN.c (Ob.mk (by decide +kernel) ?_) | refine DrawN.b (Ob.mk (by decide +kernel) ?_) | refine Ob.mk (by kernel_rfl) ?_ | (refine Br.mk (fun h => ?_) (fun h => ?_) <;> (first | (exfalso; exact Bool.false_ne_true h) | (exfalso; exact Bool.false_ne_true h.symm) | skip)) | refine SeqN.go ?_)); all_goals (conv => whnf)
  all_goals (clear C M; grind [retV, vjoin, veq, vbot, vmk])
theorem vMeet1_d (x y : VV) (hm : InV x) (km : InV y) : Den Tryz.prog 136 #[VVal x, VVal y] noFacts (VVal (vmeet x y)) := by
  refine den_of_body (args := [VVal x, VVal y]) hmix Tryz.func136 ?_
  have C := cmeet_d hm km
  have b1 := imeet_in (a := -9223372036854775808) (b := 9223372036854775807) ⟨by decide, by decide⟩ ⟨by decide, by decide⟩ hm.lo hm.hi
  have b2 := imeet_in b1.1 b1.2 km.lo km.hi
  have M := vMake_d ⟨_, _, _, _⟩ (show InV ⟨(imeet (imeet (-9223372036854775808) 9223372036854775807 x.lo x.hi).1 (imeet (-9223372036854775808) 9223372036854775807 x.lo x.hi).2 y.lo y.hi).1, (imeet (imeet (-9223372036854775808) 9223372036854775807 x.lo x.hi).1 (imeet (-9223372036854775808) 9223372036854775807 x.lo x.hi).2 y.lo y.hi).2, _, _⟩ from ⟨b2.1, b2.2, (cm_in hm km).1, (cm_in hm km).2⟩)
  (repeat' ((conv => whnf); first | refine CallN.any _ vBottom_d ?_ | refine CallA.any _ (iMeet_d _ _ _ _) ?_ | refine CallN.any _ C ?_ | refine CallN.any _ M ?_ | refine AdN.mk _ _ rfl ?_ | refine DrawN.a (Ob.mk (by decide +kernel) ?_) | refine DrawN.c (Ob.mk (by decide +kernel) ?_) | refine DrawN.b (Ob.mk (by decide +kernel) ?_) | refine Ob.mk (by kernel_rfl) ?_ | (refine Br.mk (fun h => ?_) (fun h => ?_) <;> (first | (exfalso; exact Bool.false_ne_true h) | (exfalso; exact Bool.false_ne_true h.symm) | skip)) | refine SeqN.go ?_)); all_goals (conv => whnf)
  all_goals (clear C M; grind [retV, vmeet, veq, vbot, vmk])
/-- The cells of values. -/
def VC (x : VV) : List Value := [.int .i64 x.lo, .int .i64 x.hi, .int .u64 x.m, .int .u64 x.r]
def VCs (l : List VV) : List Value := l.flatMap VC
theorem VCs_len (l : List VV) : (VCs l).length = l.length * 4 := by
  induction l with
  | nil => rfl
  | cons p l ih => simp only [VCs, List.flatMap_cons, List.length_append, List.length_cons] at ih ⊢; rw [ih]; simp [VC]; omega
theorem VCs_drop : ∀ (l : List VV) (j : Nat), j < l.length → ((VCs l).drop (j * 4)).take 4 = VC (l.getD j vbot)
  | p :: l, 0, _ => by simp [VCs, VC]
  | p :: l, j + 1, h => by
    have ih := VCs_drop l j (by simpa using h)
    rw [show (j + 1) * 4 = 4 + j * 4 by omega, ← List.drop_drop]
    simpa [VCs, VC] using ih
theorem cellsV {l : List VV} {b off : Nat} {K : List Value → Prop} (n : Int) (h0 : 0 ≤ n) (h : n < (l.length : Int)) (k : K (VC (l.getD n.toNat vbot))) : CellsN (rowF b off (VCs l)) b (off + n.toNat * 4) 4 K :=
  cellsN_row _ (VCs_drop l n.toNat (by omega)) rfl k
theorem rowV {l : List VV} {K : List Value → Prop} (n : Int) (h0 : 0 ≤ n) (h : n < (l.length : Int)) (k : K (VC (l.getD n.toNat vbot))) : RowN (VCs l) (n.toNat * 4) 4 K :=
  .mk _ (VCs_drop l n.toNat (by omega)) rfl k
theorem getD_in {l : List VV} (h : ∀ p ∈ l, InV p) (j : Nat) : InV (l.getD j vbot) := by
  by_cases hj : j < l.length
  · have : l.getD j vbot = l[j] := by simp [List.getD, hj]
    rw [this]; exact h _ (List.getElem_mem hj)
  · have : l.getD j vbot = vbot := by simp [List.getD, List.getElem?_eq_none (Nat.le_of_not_lt hj)]
    rw [this]; exact vbot_in
theorem take_fold {α : Type} (f : α → VV → α) (a : α) (l : List VV) (i : Nat) (h : i < l.length) : (l.take (i + 1)).foldl f a = f ((l.take i).foldl f a) (l.getD i vbot) := by
  rw [List.take_add_one, List.foldl_append]
  have : l[i]? = some (l.getD i vbot) := by simp [List.getD, h]
  rw [this]
  rfl
def vjoins (l : List VV) : VV := l.foldl (fun a x => vjoin a (vmake x)) vbot
def vmeets (l : List VV) : VV := l.foldl (fun a x => vmeet a (vmake x)) vtop
theorem vjoin_in {x y : VV} (hm : InV x) (km : InV y) : InV (vjoin x y) := by
  unfold vjoin
  have b1 := ijoin_in (a := 1) (b := 0) ⟨by decide, by decide⟩ ⟨by decide, by decide⟩ hm.lo hm.hi
  split
  · exact km
  · split
    · exact hm
    · exact vmk_in (ijoin_in b1.1 b1.2 km.lo km.hi) ⟨(cj_in hm km).1, (cj_in hm km).2⟩
theorem vmeet_in {x y : VV} (hm : InV x) (km : InV y) : InV (vmeet x y) := by
  unfold vmeet
  have b1 := imeet_in (a := -9223372036854775808) (b := 9223372036854775807) ⟨by decide, by decide⟩ ⟨by decide, by decide⟩ hm.lo hm.hi
  split
  · exact vbot_in
  · exact vmk_in (imeet_in b1.1 b1.2 km.lo km.hi) ⟨(cm_in hm km).1, (cm_in hm km).2⟩
theorem fold_in {f : VV → VV → VV} (hf : ∀ a x, InV a → InV x → InV (f a x)) : ∀ (l : List VV) (a : VV), InV a → (∀ p ∈ l, InV p) → InV (l.foldl f a)
  | [], a, ha, _ => ha
  | x :: l, a, ha, h => fold_in hf l _ (hf a x ha (h x (by simp))) fun p hp => h p (by simp [hp])
theorem vjoins_in {l : List VV} (h : ∀ p ∈ l, InV p) : InV (vjoins l) := fold_in (fun a x ha hx => vjoin_in ha (vmake_in hx)) l _ vbot_in h
theorem vmeets_in {l : List VV} (h : ∀ p ∈ l, InV p) : InV (vmeets l) := fold_in (fun a x ha hx => vmeet_in ha (vmake_in hx)) l _ vtop_in h
theorem i64_in {n : Int} (h0 : -9223372036854775808 ≤ n) (h1 : n ≤ 9223372036854775807) : IntKind.i64.wrap n = n := by rw [sg_eq]; exact sg_in n h0 h1
theorem u64_in {n : Int} (h0 : 0 ≤ n) (h1 : n ≤ 18446744073709551615) : IntKind.u64.wrap n = n := by rw [us_eq]; exact us_in n h0 h1
set_option maxHeartbeats 1000000 in
theorem vFold_d (g : FuncId) (f : VV → VV → VV) (hg : g = 133 ∨ g = 136) (fin : ∀ a x, InV a → InV x → InV (f a x)) (fd : ∀ x y, InV x → InV y → Den Tryz.prog g #[VVal x, VVal y] noFacts (VVal (f x y))) (z : VV) (hz : InV z)
    (l : List VV) (hl : ∀ p ∈ l, InV p) (hlen : l.length ≤ 9223372036854775807) (ad : Option Addr) (b off cap : Nat) (hs : 0 < l.length → ad = some ⟨b, off, none⟩) : Den Tryz.prog 132 #[VVal z, .slice ad l.length cap, .func (.func g) #[] #[]] (rowF b off (VCs l)) (VVal (l.foldl (fun a x => f a (vmake x)) z)) := by
  have hp : ∀ i : Nat, InV ((l.take i).foldl (fun a x => f a (vmake x)) z) := fun i => fold_in (fun a x ha hx => fin _ _ ha (vmake_in hx)) _ _ hz fun p hp => hl p (List.mem_of_mem_take hp)
  rcases hg with rfl | rfl
  all_goals
    refine den_of_body (args := [VVal z, .slice ad l.length cap, .func (.func _) #[] #[]]) hmix Tryz.func132 ?_
    (repeat' ((conv => whnf); first | refine AdN.mk _ _ rfl ?_ | refine DrawN.a (Ob.mk (by decide +kernel) ?_) | refine DrawN.c (Ob.mk (by decide +kernel) ?_) | refine DrawN.b (Ob.mk (by decide +kernel) ?_) | refine Ob.mk (by kernel_rfl) ?_ | (refine Br.mk (fun h => ?_) (fun h => ?_) <;> (first | (exfalso; exact Bool.false_ne_true h) | (exfalso; exact Bool.false_ne_true h.symm) | skip)) | refine SeqN.go ?_)); all_goals (conv => whnf)
    refine LoopN.mk {i : Nat // i ≤ l.length} (fun i => [(11, .v (.int .i64 i.1))]) (fun i => [.cells ((VC ((l.take i.1).foldl (fun a x => f a (vmake x)) z)).map .v), .cells [.junk, .junk, .junk, .junk]]) (fun i => l.length - i.1) ⟨0, Nat.zero_le _⟩ ?_ ?_
    · (conv => whnf); (repeat' (first | exact True.intro | exact rfl | refine And.intro ?_ ?_ | decide))
    (conv => whnf)
    rintro ⟨i, hi⟩
    have D := fd _ _ (hp i) (vmake_in (getD_in hl i))
    (repeat' ((conv => whnf); first | refine CallN.any _ (vReduced_d _ (getD_in hl _)) ?_ | refine CallN.any _ D ?_ | refine Ob.mk ⟨Int.natCast_nonneg _, of_decide_eq_true (by assumption)⟩ ?_ | refine AdN.mk b off (hs (by have := of_decide_eq_true ‹decide ((i : Int) < l.length) = true›; omega)) ?_ | refine cellsV _ (Int.natCast_nonneg _) (of_decide_eq_true (by assumption)) ?_ | refine AdN.mk _ _ rfl ?_ | refine DrawN.a (Ob.mk (by decide +kernel) ?_) | refine DrawN.c (Ob.mk (by decide +kernel) ?_) | refine DrawN.b (Ob.mk (by decide +kernel) ?_) | refine Ob.mk (by kernel_rfl) ?_ | (refine Br.mk (fun h => ?_) (fun h => ?_) <;> (first | (exfalso; exact Bool.false_ne_true h) | (exfalso; exact Bool.false_ne_true h.symm) | skip)) | refine SeqN.go ?_)); all_goals (conv => whnf)
    · have h' : (i : Int) < (l.length : Int) := of_decide_eq_true ‹_›
      refine RoundN.mk ⟨i + 1, by omega⟩ (by show l.length - (i + 1) < l.length - i; omega) ?_
      (conv => whnf); (repeat' (first | exact True.intro | exact rfl | refine And.intro ?_ ?_ | decide))
      all_goals first | (refine congrArg (Value.int _) ?_; dsimp only; rw [i64_in (by omega) (by omega)]; omega) | (dsimp only; rw [take_fold _ _ _ _ (by omega)]; exact rfl)
    · have h' : ¬ (i : Int) < (l.length : Int) := of_decide_eq_false ‹_›
      have e : i = l.length := by omega
      subst e
      simp [retV]
theorem DenF.mono {P : Program} {f : FuncId} {args : Array Value} {F F' : Facts} {v : Value} (h : Den P f args F v) (hF : FLe F F') : Den P f args F' v := ⟨fun W hs => h.out W (hs.le hF)⟩
theorem vJoin_m (l : List VV) (hl : ∀ p ∈ l, InV p) (hlen : l.length ≤ 9223372036854775807) (ad : Option Addr) (b off cap : Nat) (hs : 0 < l.length → ad = some ⟨b, off, none⟩) : Den Tryz.prog 65 #[.slice ad l.length cap] (rowF b off (VCs l)) (VVal (vjoins l)) := by
  refine den_of_body (args := [.slice ad l.length cap]) hmix Tryz.func65 ?_
  have D := vFold_d 133 vjoin (Or.inl rfl) (fun _ _ => vjoin_in) vJoin1_d vbot vbot_in l hl hlen ad b off cap hs
  (repeat' ((conv => whnf); first | refine CallN.any _ vBottom_d ?_ | refine CallN.mk _ D ?_ | refine AdN.mk _ _ rfl ?_ | refine DrawN.a (Ob.mk (by decide +kernel) ?_) | refine DrawN.c (Ob.mk (by decide +kernel) ?_) | refine DrawN.b (Ob.mk (by decide +kernel) ?_) | refine Ob.mk (by kernel_rfl) ?_ | (refine Br.mk (fun h => ?_) (fun h => ?_) <;> (first | (exfalso; exact Bool.false_ne_true h) | (exfalso; exact Bool.false_ne_true h.symm) | skip)) | refine SeqN.go ?_)); all_goals (conv => whnf)
  all_goals rfl
theorem vMeet_m (l : List VV) (hl : ∀ p ∈ l, InV p) (hlen : l.length ≤ 9223372036854775807) (ad : Option Addr) (b off cap : Nat) (hs : 0 < l.length → ad = some ⟨b, off, none⟩) : Den Tryz.prog 66 #[.slice ad l.length cap] (rowF b off (VCs l)) (VVal (vmeets l)) := by
  refine den_of_body (args := [.slice ad l.length cap]) hmix Tryz.func66 ?_
  have D := vFold_d 136 vmeet (Or.inr rfl) (fun _ _ => vmeet_in) vMeet1_d vtop vtop_in l hl hlen ad b off cap hs
  (repeat' ((conv => whnf); first | refine CallN.any _ vTop_d ?_ | refine CallN.mk _ D ?_ | refine AdN.mk _ _ rfl ?_ | refine DrawN.a (Ob.mk (by decide +kernel) ?_) | refine DrawN.c (Ob.mk (by decide +kernel) ?_) | refine DrawN.b (Ob.mk (by decide +kernel) ?_) | refine Ob.mk (by kernel_rfl) ?_ | (refine Br.mk (fun h => ?_) (fun h => ?_) <;> (first | (exfalso; exact Bool.false_ne_true h) | (exfalso; exact Bool.false_ne_true h.symm) | skip)) | refine SeqN.go ?_)); all_goals (conv => whnf)
  all_goals rfl
theorem vJoin_d (l : List VV) (hl : ∀ p ∈ l, InV p) (hlen : l.length ≤ 9223372036854775807) : DenA Tryz.prog 65 noFacts [.r 4 l.length (VCs l)] (VVal (vjoins l)) := by
  refine DenA.fam ?_
  intro ad b off cap hs _
  rw [orF_no]
  exact vJoin_m l hl hlen ad b off cap hs
theorem vMeet_d (l : List VV) (hl : ∀ p ∈ l, InV p) (hlen : l.length ≤ 9223372036854775807) : DenA Tryz.prog 66 noFacts [.r 4 l.length (VCs l)] (VVal (vmeets l)) := by
  refine DenA.fam ?_
  intro ad b off cap hs _
  rw [orF_no]
  exact vMeet_m l hl hlen ad b off cap hs
theorem vJoin2_d (x y : VV) (h : InV x) (k : InV y) : DenA Tryz.prog 65 noFacts [.r 4 2 [.int .i64 x.lo, .int .i64 x.hi, .int .u64 x.m, .int .u64 x.r, .int .i64 y.lo, .int .i64 y.hi, .int .u64 y.m, .int .u64 y.r]] (VVal (vjoins [x, y])) :=
  vJoin_d [x, y] (by intro p hp; simp at hp; rcases hp with rfl | rfl <;> assumption) (by simp)
theorem vMeet2_d (x y : VV) (h : InV x) (k : InV y) : DenA Tryz.prog 66 noFacts [.r 4 2 [.int .i64 x.lo, .int .i64 x.hi, .int .u64 x.m, .int .u64 x.r, .int .i64 y.lo, .int .i64 y.hi, .int .u64 y.m, .int .u64 y.r]] (VVal (vmeets [x, y])) :=
  vMeet_d [x, y] (by intro p hp; simp at hp; rcases hp with rfl | rfl <;> assumption) (by simp)
end Go.Proofs.YtcemohoigdninaaGreatDoor
