
import Derived.Test.YtblaiilfoiefiaaGreatDoorXT45
import Derived.Test.YtblaiilfoiefiaaGreatDoorXT46
import Derived.Test.YtblaiilfoiefiaaGreatDoorXT47
namespace Go.Proofs.YtblaiilfoiefiaaGreatDoor
open Go Go.RowKit Go.Sort U
set_option linter.unusedVariables false
set_option linter.unusedSimpArgs false
set_option maxRecDepth 100000
set_option maxHeartbeats 4000000
structure Act25 where
  d : Int
  place : Int
  v : VZ
  k : Bool
  sl : List Int
  ar : List Int
def encA (a : Act25) : Value := .agg ⟨[.int .i64 a.d, .int .i64 a.place, .int .i64 a.v.lo, .int .i64 a.v.hi, .int .u64 a.v.m, .int .u64 a.v.r, .bool a.k, imS (iL a.sl), imS (iL a.ar)]⟩
theorem cleanA_cells (a : Act25) : ∀ x ∈ cellsOf (encA a), NoNm x := fun x hx => by
  simp only [encA, cellsOf, List.mem_cons, List.not_mem_nil, or_false] at hx
  rcases hx with rfl | rfl | rfl | rfl | rfl | rfl | rfl | rfl | rfl
  any_goals exact .flat _ rfl
  · exact cleanIL _
  · exact cleanIL _
theorem cleanA (a : Act25) : NoNm (encA a) := .agg _ fun x hx => cleanA_cells a x hx
theorem cleanAC (a : Act25) : ∀ x, x ∈ cellsAll [encA a] → NoNm x := fun x hx => by
  obtain ⟨v, hv, hc⟩ := List.mem_flatMap.1 hx
  rw [List.mem_singleton] at hv
  subst hv
  exact cleanA_cells a x hc
theorem cleanA1 (a : Act25) : NoNm (imS [encA a]) := .ims _ (cleanAC a)
def fewA (a : Act25) : Bool := decide (a.sl.length ≤ 20) && decide (a.ar.length ≤ 20)
theorem few_d (a : Act25) : DenU Tryz.prog [] 39 [imS [encA a], .int .i64 1] (.bool (fewA a)) := by
  refine denU_of_body hmixU rfl Tryz.func39 rfl rfl rfl 0 ?_
  intro Ts
  have hcl := cleanA1 a
  have e1 := iL_len a.sl
  have e2 := iL_len a.ar
  (repeat' ((conv => whnf); first | refine goD ?_ | refine U.lw_c (fun hb => ?_) (fun hb => ?_)))
  (conv => whnf)
  refine loop_inv (α := Nat) (fun i => i = 0 ∨ i = 1 ∧ fewA a = true) (fun i => (mkF [(0, imS [encA a]), (1, .int .i64 1), (4, .bool false), (5, .int .i64 i)], ⟨mkO [], 0, 0, 0⟩)) (fun i => 1 - i) 0 (.inl rfl) (Cov.renI rfl rfl rfl rfl .nil (.cons rfl (.clean _ _ (hcl) rfl) (.cons rfl (.F rfl rfl) (.cons rfl (.F rfl rfl) (.cons rfl (.F rfl rfl) .nil))))) ?_
  have n0 : nth [encA a] 0 = some (encA a) := rfl
  intro i hi
  rcases hi with rfl | ⟨rfl, h0⟩
  · by_cases b1 : 20 < a.sl.length
    · have g1 : decide (((iL a.sl).length : Int) > 20) = true := decide_eq_true (by rw [e1]; omega)
      have hf : fewA a = false := by unfold fewA; simp; omega
      rw [hf]
      (repeat' ((conv => whnf); first | refine goD ?_ | refine U.lw_c (fun hb => ?_) (fun hb => ?_)))
      (conv => whnf)
      exact .same (.flat _ rfl) rfl
    · have g1 : decide (((iL a.sl).length : Int) > 20) = false := decide_eq_false (by rw [e1]; omega)
      by_cases b2 : 20 < a.ar.length
      · have g2 : decide (((iL a.ar).length : Int) > 20) = true := decide_eq_true (by rw [e2]; omega)
        have hf : fewA a = false := by unfold fewA; simp; omega
        rw [hf]
        (repeat' ((conv => whnf); first | refine goD ?_ | refine U.lw_c (fun hb => ?_) (fun hb => ?_)))
        (conv => whnf)
        exact .same (.flat _ rfl) rfl
      · have g2 : decide (((iL a.ar).length : Int) > 20) = false := decide_eq_false (by rw [e2]; omega)
        have hf : fewA a = true := by unfold fewA; simp; omega
        (repeat' ((conv => whnf); first | refine goD ?_ | refine U.lw_c (fun hb => ?_) (fun hb => ?_)))
        (conv => whnf)
        exact ⟨1, .inr ⟨rfl, hf⟩, by decide, (Cov.renI rfl rfl rfl rfl .nil (.cons rfl (.clean _ _ (hcl) rfl) (.cons rfl (.F rfl rfl) (.cons rfl (.F rfl rfl) (.cons rfl (.F rfl rfl) .nil)))))⟩
  · rw [h0]
    (repeat' ((conv => whnf); first | refine goD ?_ | refine U.lw_c (fun hb => ?_) (fun hb => ?_)))
    (conv => whnf)
    exact .same (.flat _ rfl) rfl
theorem tabK2 {s : AS} {T : TypeId} (h1 : s.glb = 2) (h2 : s.heap.get 0 = some (.cells T (kwB.map Value.string) false)) : Tabled kwT s := fun x hx => by
  rw [kwT, List.mem_singleton] at hx
  subst hx
  exact ⟨by rw [h1]; decide, T, h2⟩
theorem tabA2 {s : AS} {T T' : TypeId} (h1 : s.glb = 2) (h2 : s.heap.get 0 = some (.cells T (kwB.map Value.string) false)) (h3 : s.heap.get 1 = some (.cells T' (Lib.pow10Tab.map fun z => Value.int .u64 z) false)) : Tabled allT s := fun x hx => by
  rcases List.mem_append.1 hx with hx | hx
  · exact tabK2 h1 h2 x hx
  · rw [List.mem_singleton] at hx
    subst hx
    exact ⟨by rw [h1]; decide, T', h3⟩
abbrev p10Blk (Ts : Nat → TypeId) : Option U.Blk := some (.cells (Ts 1) (Lib.pow10Tab.map fun z => Value.int .u64 z) false)
theorem pClean : ∀ x ∈ (Lib.pow10Tab.map fun z => Value.int .u64 z), NoNm x := fun x hx => by
  obtain ⟨b, _, rfl⟩ := List.mem_map.1 hx
  exact .flat _ rfl
theorem cleanNS (s : SZ) : ∀ c, c ∈ cellsAll [Value.pointer none, stV s] → NoNm c := fun c hc => by
  have hc : c ∈ [Value.pointer none, stV s] := hc
  simp only [List.mem_cons, List.not_mem_nil, or_false] at hc
  rcases hc with rfl | rfl
  · exact .flat _ rfl
  · exact cleanStV s
noncomputable abbrev hd2 (Ts : Nat → TypeId) (a : Act25) (p : Pg) : List (Nat × Option U.Blk) := [(0, kwBlk Ts), (1, p10Blk Ts), (2, some (.cells 102 (cellsOf (encA a)) false)), (3, some (.cells 27 (cellsOf (encP p)) false))]
theorem covRowF {P : Program} {N n0 : Nat} {fr : Tr Value} {s : AS} (ρ : Nat → Nat) (kf z c : Nat) {T : TypeId} {ys : List Value} {op : Bool} {l : List (Nat × Value)} {hl : List (Nat × Option U.Blk)} {n lo glb : Nat} (e1 : lo = s.lo) (e2 : glb = s.glb) (hn : n0 ≤ n) (hg : glb ≤ n0) (hρ : ∀ k, k < n0 → ρ k = k)
    (hkeys : keysB ρ lo n (hl.map (·.1)) = true) (hkeep : ∀ k, k < lo → (mkO hl).get k = s.heap.get k) (hkf : s.lo ≤ kf) (hno : ((hl.map (·.1)).all fun k => decide (ρ k ≠ kf)) = true) (hk : s.heap.get kf = some (.cells T (cellsAll ys) op)) (hcap : ys.length ≤ c) (hx : cellsAll ys ≠ []) (hz : ∀ y, y ∈ ys → (cellsOf y).length = z) (hc : ∀ y, y ∈ cellsAll ys → NoNm y)
    (hb : blksO s.heap n ⟨ρ, fun u1 u => u1 = imS ys ∧ u = .slice (some ⟨kf, 0, none⟩) ys.length c⟩ hl) (hf : slotsRen fr n ⟨ρ, fun u1 u => u1 = imS ys ∧ u = .slice (some ⟨kf, 0, none⟩) ys.length c⟩ l) : Cov P N n0 fr s (mkF l) ⟨mkO hl, n, lo, glb⟩ := by
  have hkeys := keysB.all hkeys
  have hget : ∀ k b, (mkO hl).get k = some b → k ∈ hl.map (·.1) ∧ ∃ b', s.heap.get (ρ k) = some b' ∧ RenB n ⟨ρ, fun u1 u => u1 = imS ys ∧ u = .slice (some ⟨kf, 0, none⟩) ys.length c⟩ b b' := fun k b h => by
    have hm := mkO_get h
    exact ⟨List.mem_map.2 ⟨_, hm, rfl⟩, hb.all _ hm b rfl⟩
  have hmem : ∀ k, (mkO hl).get k ≠ none → k ∈ hl.map (·.1) := fun k h => by
    obtain ⟨b, hbk⟩ := Option.ne_none_iff_exists'.1 h
    exact (hget k b hbk).1
  refine Cov.gen ρ kf (fun u1 u => u1 = imS ys ∧ u = .slice (some ⟨kf, 0, none⟩) ys.length c) (T := T) (op := op) (xs := cellsAll ys) e1 e2 hn hg hρ (fun k b h => ?_) (fun k k' h h' e => ?_) hkeep hkf (fun _ => hk) (fun u1 u ⟨h1, h2⟩ => ?_) (fun t u hu => ?_)
  · obtain ⟨h1, h2⟩ := hget k b h
    obtain ⟨g1, g2, _⟩ := hkeys k h1
    exact ⟨g1, g2, fun _ => of_decide_eq_true (List.all_eq_true.1 hno k h1), h2⟩
  · exact (hkeys k (hmem k h)).2.2 k' (hmem k' h') e
  · subst h1; subst h2
    exact .row ys z _ c hx rfl rfl hcap hz hc
  · exact hf.all _ (mkF_mem hu)
theorem law_d (a : Act25) (p : Pg) (hok : OkP p) (hi : ∀ x ∈ p.ins, inI x.lo ∧ inI x.hi) : DenU Tryz.prog allT 7 [encA a, encP p] (.bool true) := by
  refine denU_of_soundT all_ok fun Ts => SoundAt.body hmixU Tryz.func7 rfl rfl rfl 0 ?_
  have c0 := few_d a
  have c1 := fewIr_d p 250 hok
  have cw := works25_d
  have ka := cleanA a
  have kp := cleanP p
  have ka1 := cleanA1 a
  (repeat' ((conv => whnf); first | refine goD ?_ | refine U.lw_c (fun hb => ?_) (fun hb => ?_)))
  (conv => whnf)
  refine SoundAt.cov (args1 := [imS [encA a], .int .i64 1]) [(0, imS [encA a]), (1, .int .i64 1)] (covRowF (fun k => k) 4 9 1 (T := 102) (ys := [encA a]) (hl := hd2 Ts a p) (n := 5) (lo := 2) (glb := 2) rfl rfl (Nat.le_of_ble_eq_true rfl) (Nat.le_of_ble_eq_true rfl) (fun _ _ => rfl) rfl (fun k hk => by have hk : k < 2 := hk; rcases (by omega : k = 0 ∨ k = 1) with rfl | rfl <;> rfl) (Nat.le_of_ble_eq_true rfl) rfl rfl (Nat.le_refl _) (fun h => by cases h) (fun y hy => by rw [List.mem_singleton] at hy; subst hy; rfl) (cleanAC a) (.cons rfl (.row _ _ _ _ kwClean rfl) (.cons rfl (.row _ _ _ _ pClean rfl) (.cons rfl (.row _ _ _ _ (cleanA_cells a) rfl) (.cons rfl (.row _ _ _ _ (cleanP_cells p) rfl) .nil)))) (.cons rfl (.ext _ _ ⟨rfl, rfl⟩) (.cons rfl (.F rfl rfl) .nil))) rfl (fun i u h => by
    rcases i with _ | _ | i
    · cases h; rfl
    · cases h; rfl
    · simp at h) ?_
  by_cases hq : fewA a = true ∧ fewP p 250 = true ∧ p.slots ≤ 30
  · obtain ⟨q1, q2, q3⟩ := hq
    rw [q1] at c0
    rw [q2] at c1
    have g1 : decide (p.slots > 30) = false := decide_eq_false (by omega)
    have hf := fewP_ok (by decide) q2
    have c2 := new_d p hf (by omega) hi
    by_cases hr : rightP p = true
    · rw [if_pos hr] at c2
      have ks := cleanStV (st0 p)
      have hn0 : (st0 p).none = false := rfl
      have l1 : (st0 p).slots.length ≤ maxI := by rw [st0, foldIn_len, List.length_replicate]; simp [maxI]; omega
      have l2 : (st0 p).arrs.length ≤ maxI := by rw [st0, List.length_replicate]; exact hok.arrs
      generalize st0 p = s0 at *
      have d1 := joinN s0
      have d2 := sameS s0 hn0 l1 l2
      have d3 := widenS s0
      have d4 := withinNS s0
      have d5 := withinSN s0 hn0
      (repeat' ((conv => whnf); first | refine U.SoundAt.uT kw_ok c2 ⟨kp, trivial⟩ (tabK2 rfl rfl) ?_ | refine goD ?_ | refine U.SoundAt.u (c0) (by (repeat (first | exact trivial | ((conv => whnf); first | exact trivial | refine And.intro (by first | assumption | exact cleanI _ | exact cleanEs _ | exact cleanSs _ | exact cleanE _ | exact cleanIL _ | exact NoNm.flat _ rfl) ?_)))) ?_ | refine U.SoundAt.u (c1) (by (repeat (first | exact trivial | ((conv => whnf); first | exact trivial | refine And.intro (by first | assumption | exact cleanI _ | exact cleanEs _ | exact cleanSs _ | exact cleanE _ | exact cleanIL _ | exact NoNm.flat _ rfl) ?_)))) ?_ | refine U.SoundAt.u (shapeN) (by (repeat (first | exact trivial | ((conv => whnf); first | exact trivial | refine And.intro (by first | assumption | exact cleanI _ | exact cleanEs _ | exact cleanSs _ | exact cleanE _ | exact cleanIL _ | exact NoNm.flat _ rfl) ?_)))) ?_ | refine U.SoundC.u (c0) (by (repeat (first | exact trivial | ((conv => whnf); first | exact trivial | refine And.intro (by first | assumption | exact cleanI _ | exact cleanEs _ | exact cleanSs _ | exact cleanE _ | exact cleanIL _ | exact NoNm.flat _ rfl) ?_)))) ?_ | refine U.SoundC.u (c1) (by (repeat (first | exact trivial | ((conv => whnf); first | exact trivial | refine And.intro (by first | assumption | exact cleanI _ | exact cleanEs _ | exact cleanSs _ | exact cleanE _ | exact cleanIL _ | exact NoNm.flat _ rfl) ?_)))) ?_ | refine U.SoundC.u (shapeN) (by (repeat (first | exact trivial | ((conv => whnf); first | exact trivial | refine And.intro (by first | assumption | exact cleanI _ | exact cleanEs _ | exact cleanSs _ | exact cleanE _ | exact cleanIL _ | exact NoNm.flat _ rfl) ?_)))) ?_ | refine U.lw_c (fun hb => ?_) (fun hb => ?_)))
      (conv => whnf)
      refine SoundAt.cov (args1 := [imS [.pointer none, stV s0]]) [(0, imS [.pointer none, stV s0])] (covRowF (fun k => k) 5 1 2 (ys := [.pointer none, stV s0]) (hl := hd2 Ts a p) (n := 6) (lo := 2) (glb := 2) rfl rfl (Nat.le_of_ble_eq_true rfl) (Nat.le_of_ble_eq_true rfl) (fun _ _ => rfl) rfl (fun k hk => by have hk : k < 2 := hk; rcases (by omega : k = 0 ∨ k = 1) with rfl | rfl <;> rfl) (Nat.le_of_ble_eq_true rfl) rfl rfl (Nat.le_refl _) (fun h => by cases h) (fun y hy => by simp only [List.mem_cons, List.not_mem_nil, or_false] at hy; rcases hy with rfl | rfl <;> rfl) (cleanNS s0) (.cons rfl (.row _ _ _ _ kwClean rfl) (.cons rfl (.row _ _ _ _ pClean rfl) (.cons rfl (.row _ _ _ _ (cleanA_cells a) rfl) (.cons rfl (.row _ _ _ _ (cleanP_cells p) rfl) .nil)))) (.cons rfl (.ext _ _ ⟨rfl, rfl⟩) .nil)) rfl (fun i u h => by
        rcases i with _ | i
        · cases h; rfl
        · simp at h) ?_
      have kns : NoNm (imS [.pointer none, stV s0]) := .ims _ (cleanNS s0)
      (repeat' ((conv => whnf); first | refine goD ?_ | refine U.SoundAt.u (d1) (by (repeat (first | exact trivial | ((conv => whnf); first | exact trivial | refine And.intro (by first | assumption | exact cleanI _ | exact cleanEs _ | exact cleanSs _ | exact cleanE _ | exact cleanIL _ | exact NoNm.flat _ rfl) ?_)))) ?_ | refine U.SoundAt.u (d2) (by (repeat (first | exact trivial | ((conv => whnf); first | exact trivial | refine And.intro (by first | assumption | exact cleanI _ | exact cleanEs _ | exact cleanSs _ | exact cleanE _ | exact cleanIL _ | exact NoNm.flat _ rfl) ?_)))) ?_ | refine U.SoundAt.u (d3) (by (repeat (first | exact trivial | ((conv => whnf); first | exact trivial | refine And.intro (by first | assumption | exact cleanI _ | exact cleanEs _ | exact cleanSs _ | exact cleanE _ | exact cleanIL _ | exact NoNm.flat _ rfl) ?_)))) ?_ | refine U.SoundAt.u (d4) (by (repeat (first | exact trivial | ((conv => whnf); first | exact trivial | refine And.intro (by first | assumption | exact cleanI _ | exact cleanEs _ | exact cleanSs _ | exact cleanE _ | exact cleanIL _ | exact NoNm.flat _ rfl) ?_)))) ?_ | refine U.SoundAt.u (d5) (by (repeat (first | exact trivial | ((conv => whnf); first | exact trivial | refine And.intro (by first | assumption | exact cleanI _ | exact cleanEs _ | exact cleanSs _ | exact cleanE _ | exact cleanIL _ | exact NoNm.flat _ rfl) ?_)))) ?_ | refine U.SoundC.u (d1) (by (repeat (first | exact trivial | ((conv => whnf); first | exact trivial | refine And.intro (by first | assumption | exact cleanI _ | exact cleanEs _ | exact cleanSs _ | exact cleanE _ | exact cleanIL _ | exact NoNm.flat _ rfl) ?_)))) ?_ | refine U.SoundC.u (d2) (by (repeat (first | exact trivial | ((conv => whnf); first | exact trivial | refine And.intro (by first | assumption | exact cleanI _ | exact cleanEs _ | exact cleanSs _ | exact cleanE _ | exact cleanIL _ | exact NoNm.flat _ rfl) ?_)))) ?_ | refine U.SoundC.u (d3) (by (repeat (first | exact trivial | ((conv => whnf); first | exact trivial | refine And.intro (by first | assumption | exact cleanI _ | exact cleanEs _ | exact cleanSs _ | exact cleanE _ | exact cleanIL _ | exact NoNm.flat _ rfl) ?_)))) ?_ | refine U.SoundC.u (d4) (by (repeat (first | exact trivial | ((conv => whnf); first | exact trivial | refine And.intro (by first | assumption | exact cleanI _ | exact cleanEs _ | exact cleanSs _ | exact cleanE _ | exact cleanIL _ | exact NoNm.flat _ rfl) ?_)))) ?_ | refine U.SoundC.u (d5) (by (repeat (first | exact trivial | ((conv => whnf); first | exact trivial | refine And.intro (by first | assumption | exact cleanI _ | exact cleanEs _ | exact cleanSs _ | exact cleanE _ | exact cleanIL _ | exact NoNm.flat _ rfl) ?_)))) ?_ | refine U.lw_c (fun hb => ?_) (fun hb => ?_)))
      (conv => whnf)
      (repeat' ((conv => whnf); first | refine goA ?_ | refine U.SoundAt.uT all_ok works25_d trivial (tabA2 rfl rfl rfl) ?_ | refine goB ?_ | refine U.SoundAt.u (isbotN) (by (repeat (first | exact trivial | ((conv => whnf); first | exact trivial | refine And.intro (by first | assumption | exact cleanI _ | exact cleanEs _ | exact cleanSs _ | exact cleanE _ | exact cleanIL _ | exact NoNm.flat _ rfl) ?_)))) ?_ | refine U.SoundAt.u (getN a.place) (by (repeat (first | exact trivial | ((conv => whnf); first | exact trivial | refine And.intro (by first | assumption | exact cleanI _ | exact cleanEs _ | exact cleanSs _ | exact cleanE _ | exact cleanIL _ | exact NoNm.flat _ rfl) ?_)))) ?_ | refine U.SoundAt.u (loadN a.place) (by (repeat (first | exact trivial | ((conv => whnf); first | exact trivial | refine And.intro (by first | assumption | exact cleanI _ | exact cleanEs _ | exact cleanSs _ | exact cleanE _ | exact cleanIL _ | exact NoNm.flat _ rfl) ?_)))) ?_ | refine U.SoundAt.u (vbot_d) (by (repeat (first | exact trivial | ((conv => whnf); first | exact trivial | refine And.intro (by first | assumption | exact cleanI _ | exact cleanEs _ | exact cleanSs _ | exact cleanE _ | exact cleanIL _ | exact NoNm.flat _ rfl) ?_)))) ?_ | refine U.SoundAt.u (setN a.place zeroC) (by (repeat (first | exact trivial | ((conv => whnf); first | exact trivial | refine And.intro (by first | assumption | exact cleanI _ | exact cleanEs _ | exact cleanSs _ | exact cleanE _ | exact cleanIL _ | exact NoNm.flat _ rfl) ?_)))) ?_ | refine U.SoundAt.u (putN a.place zeroC) (by (repeat (first | exact trivial | ((conv => whnf); first | exact trivial | refine And.intro (by first | assumption | exact cleanI _ | exact cleanEs _ | exact cleanSs _ | exact cleanE _ | exact cleanIL _ | exact NoNm.flat _ rfl) ?_)))) ?_ | refine U.SoundAt.u (restrictN a.place a.v) (by (repeat (first | exact trivial | ((conv => whnf); first | exact trivial | refine And.intro (by first | assumption | exact cleanI _ | exact cleanEs _ | exact cleanSs _ | exact cleanE _ | exact cleanIL _ | exact NoNm.flat _ rfl) ?_)))) ?_ | refine U.SoundAt.u (havocN (.bool true) true) (by (repeat (first | exact trivial | ((conv => whnf); first | exact trivial | refine And.intro (by first | assumption | exact cleanI _ | exact cleanEs _ | exact cleanSs _ | exact cleanE _ | exact cleanIL _ | exact NoNm.flat _ rfl) ?_)))) ?_ | refine U.SoundAt.u (markN) (by (repeat (first | exact trivial | ((conv => whnf); first | exact trivial | refine And.intro (by first | assumption | exact cleanI _ | exact cleanEs _ | exact cleanSs _ | exact cleanE _ | exact cleanIL _ | exact NoNm.flat _ rfl) ?_)))) ?_ | refine U.SoundAt.u (hasN) (by (repeat (first | exact trivial | ((conv => whnf); first | exact trivial | refine And.intro (by first | assumption | exact cleanI _ | exact cleanEs _ | exact cleanSs _ | exact cleanE _ | exact cleanIL _ | exact NoNm.flat _ rfl) ?_)))) ?_ | refine U.SoundAt.u (join0) (by (repeat (first | exact trivial | ((conv => whnf); first | exact trivial | refine And.intro (by first | assumption | exact cleanI _ | exact cleanEs _ | exact cleanSs _ | exact cleanE _ | exact cleanIL _ | exact NoNm.flat _ rfl) ?_)))) ?_ | refine U.SoundAt.u (sameN) (by (repeat (first | exact trivial | ((conv => whnf); first | exact trivial | refine And.intro (by first | assumption | exact cleanI _ | exact cleanEs _ | exact cleanSs _ | exact cleanE _ | exact cleanIL _ | exact NoNm.flat _ rfl) ?_)))) ?_ | refine U.SoundC.u (isbotN) (by (repeat (first | exact trivial | ((conv => whnf); first | exact trivial | refine And.intro (by first | assumption | exact cleanI _ | exact cleanEs _ | exact cleanSs _ | exact cleanE _ | exact cleanIL _ | exact NoNm.flat _ rfl) ?_)))) ?_ | refine U.SoundC.u (getN a.place) (by (repeat (first | exact trivial | ((conv => whnf); first | exact trivial | refine And.intro (by first | assumption | exact cleanI _ | exact cleanEs _ | exact cleanSs _ | exact cleanE _ | exact cleanIL _ | exact NoNm.flat _ rfl) ?_)))) ?_ | refine U.SoundC.u (loadN a.place) (by (repeat (first | exact trivial | ((conv => whnf); first | exact trivial | refine And.intro (by first | assumption | exact cleanI _ | exact cleanEs _ | exact cleanSs _ | exact cleanE _ | exact cleanIL _ | exact NoNm.flat _ rfl) ?_)))) ?_ | refine U.SoundC.u (vbot_d) (by (repeat (first | exact trivial | ((conv => whnf); first | exact trivial | refine And.intro (by first | assumption | exact cleanI _ | exact cleanEs _ | exact cleanSs _ | exact cleanE _ | exact cleanIL _ | exact NoNm.flat _ rfl) ?_)))) ?_ | refine U.SoundC.u (setN a.place zeroC) (by (repeat (first | exact trivial | ((conv => whnf); first | exact trivial | refine And.intro (by first | assumption | exact cleanI _ | exact cleanEs _ | exact cleanSs _ | exact cleanE _ | exact cleanIL _ | exact NoNm.flat _ rfl) ?_)))) ?_ | refine U.SoundC.u (putN a.place zeroC) (by (repeat (first | exact trivial | ((conv => whnf); first | exact trivial | refine And.intro (by first | assumption | exact cleanI _ | exact cleanEs _ | exact cleanSs _ | exact cleanE _ | exact cleanIL _ | exact NoNm.flat _ rfl) ?_)))) ?_ | refine U.SoundC.u (restrictN a.place a.v) (by (repeat (first | exact trivial | ((conv => whnf); first | exact trivial | refine And.intro (by first | assumption | exact cleanI _ | exact cleanEs _ | exact cleanSs _ | exact cleanE _ | exact cleanIL _ | exact NoNm.flat _ rfl) ?_)))) ?_ | refine U.SoundC.u (havocN (.bool true) true) (by (repeat (first | exact trivial | ((conv => whnf); first | exact trivial | refine And.intro (by first | assumption | exact cleanI _ | exact cleanEs _ | exact cleanSs _ | exact cleanE _ | exact cleanIL _ | exact NoNm.flat _ rfl) ?_)))) ?_ | refine U.SoundC.u (markN) (by (repeat (first | exact trivial | ((conv => whnf); first | exact trivial | refine And.intro (by first | assumption | exact cleanI _ | exact cleanEs _ | exact cleanSs _ | exact cleanE _ | exact cleanIL _ | exact NoNm.flat _ rfl) ?_)))) ?_ | refine U.SoundC.u (hasN) (by (repeat (first | exact trivial | ((conv => whnf); first | exact trivial | refine And.intro (by first | assumption | exact cleanI _ | exact cleanEs _ | exact cleanSs _ | exact cleanE _ | exact cleanIL _ | exact NoNm.flat _ rfl) ?_)))) ?_ | refine U.SoundC.u (join0) (by (repeat (first | exact trivial | ((conv => whnf); first | exact trivial | refine And.intro (by first | assumption | exact cleanI _ | exact cleanEs _ | exact cleanSs _ | exact cleanE _ | exact cleanIL _ | exact NoNm.flat _ rfl) ?_)))) ?_ | refine U.SoundC.u (sameN) (by (repeat (first | exact trivial | ((conv => whnf); first | exact trivial | refine And.intro (by first | assumption | exact cleanI _ | exact cleanEs _ | exact cleanSs _ | exact cleanE _ | exact cleanIL _ | exact NoNm.flat _ rfl) ?_)))) ?_ | refine U.lw_c (fun hb => ?_) (fun hb => ?_)))
      (conv => whnf)
      exact .same (.flat _ rfl) rfl
    · rw [if_neg hr] at c2
      (repeat' ((conv => whnf); first | refine U.SoundAt.uT kw_ok c2 ⟨kp, trivial⟩ (tabK2 rfl rfl) ?_ | refine goA ?_ | refine U.SoundAt.uT all_ok works25_d trivial (tabA2 rfl rfl rfl) ?_ | refine goB ?_ | refine U.SoundAt.u (c0) (by (repeat (first | exact trivial | ((conv => whnf); first | exact trivial | refine And.intro (by first | assumption | exact cleanI _ | exact cleanEs _ | exact cleanSs _ | exact cleanE _ | exact cleanIL _ | exact NoNm.flat _ rfl) ?_)))) ?_ | refine U.SoundAt.u (c1) (by (repeat (first | exact trivial | ((conv => whnf); first | exact trivial | refine And.intro (by first | assumption | exact cleanI _ | exact cleanEs _ | exact cleanSs _ | exact cleanE _ | exact cleanIL _ | exact NoNm.flat _ rfl) ?_)))) ?_ | refine U.SoundAt.u (shapeN) (by (repeat (first | exact trivial | ((conv => whnf); first | exact trivial | refine And.intro (by first | assumption | exact cleanI _ | exact cleanEs _ | exact cleanSs _ | exact cleanE _ | exact cleanIL _ | exact NoNm.flat _ rfl) ?_)))) ?_ | refine U.SoundAt.u (isbotN) (by (repeat (first | exact trivial | ((conv => whnf); first | exact trivial | refine And.intro (by first | assumption | exact cleanI _ | exact cleanEs _ | exact cleanSs _ | exact cleanE _ | exact cleanIL _ | exact NoNm.flat _ rfl) ?_)))) ?_ | refine U.SoundAt.u (getN a.place) (by (repeat (first | exact trivial | ((conv => whnf); first | exact trivial | refine And.intro (by first | assumption | exact cleanI _ | exact cleanEs _ | exact cleanSs _ | exact cleanE _ | exact cleanIL _ | exact NoNm.flat _ rfl) ?_)))) ?_ | refine U.SoundAt.u (loadN a.place) (by (repeat (first | exact trivial | ((conv => whnf); first | exact trivial | refine And.intro (by first | assumption | exact cleanI _ | exact cleanEs _ | exact cleanSs _ | exact cleanE _ | exact cleanIL _ | exact NoNm.flat _ rfl) ?_)))) ?_ | refine U.SoundAt.u (vbot_d) (by (repeat (first | exact trivial | ((conv => whnf); first | exact trivial | refine And.intro (by first | assumption | exact cleanI _ | exact cleanEs _ | exact cleanSs _ | exact cleanE _ | exact cleanIL _ | exact NoNm.flat _ rfl) ?_)))) ?_ | refine U.SoundAt.u (setN a.place zeroC) (by (repeat (first | exact trivial | ((conv => whnf); first | exact trivial | refine And.intro (by first | assumption | exact cleanI _ | exact cleanEs _ | exact cleanSs _ | exact cleanE _ | exact cleanIL _ | exact NoNm.flat _ rfl) ?_)))) ?_ | refine U.SoundAt.u (putN a.place zeroC) (by (repeat (first | exact trivial | ((conv => whnf); first | exact trivial | refine And.intro (by first | assumption | exact cleanI _ | exact cleanEs _ | exact cleanSs _ | exact cleanE _ | exact cleanIL _ | exact NoNm.flat _ rfl) ?_)))) ?_ | refine U.SoundAt.u (restrictN a.place a.v) (by (repeat (first | exact trivial | ((conv => whnf); first | exact trivial | refine And.intro (by first | assumption | exact cleanI _ | exact cleanEs _ | exact cleanSs _ | exact cleanE _ | exact cleanIL _ | exact NoNm.flat _ rfl) ?_)))) ?_ | refine U.SoundAt.u (havocN (.bool true) true) (by (repeat (first | exact trivial | ((conv => whnf); first | exact trivial | refine And.intro (by first | assumption | exact cleanI _ | exact cleanEs _ | exact cleanSs _ | exact cleanE _ | exact cleanIL _ | exact NoNm.flat _ rfl) ?_)))) ?_ | refine U.SoundAt.u (markN) (by (repeat (first | exact trivial | ((conv => whnf); first | exact trivial | refine And.intro (by first | assumption | exact cleanI _ | exact cleanEs _ | exact cleanSs _ | exact cleanE _ | exact cleanIL _ | exact NoNm.flat _ rfl) ?_)))) ?_ | refine U.SoundAt.u (hasN) (by (repeat (first | exact trivial | ((conv => whnf); first | exact trivial | refine And.intro (by first | assumption | exact cleanI _ | exact cleanEs _ | exact cleanSs _ | exact cleanE _ | exact cleanIL _ | exact NoNm.flat _ rfl) ?_)))) ?_ | refine U.SoundAt.u (join0) (by (repeat (first | exact trivial | ((conv => whnf); first | exact trivial | refine And.intro (by first | assumption | exact cleanI _ | exact cleanEs _ | exact cleanSs _ | exact cleanE _ | exact cleanIL _ | exact NoNm.flat _ rfl) ?_)))) ?_ | refine U.SoundAt.u (sameN) (by (repeat (first | exact trivial | ((conv => whnf); first | exact trivial | refine And.intro (by first | assumption | exact cleanI _ | exact cleanEs _ | exact cleanSs _ | exact cleanE _ | exact cleanIL _ | exact NoNm.flat _ rfl) ?_)))) ?_ | refine U.SoundC.u (c0) (by (repeat (first | exact trivial | ((conv => whnf); first | exact trivial | refine And.intro (by first | assumption | exact cleanI _ | exact cleanEs _ | exact cleanSs _ | exact cleanE _ | exact cleanIL _ | exact NoNm.flat _ rfl) ?_)))) ?_ | refine U.SoundC.u (c1) (by (repeat (first | exact trivial | ((conv => whnf); first | exact trivial | refine And.intro (by first | assumption | exact cleanI _ | exact cleanEs _ | exact cleanSs _ | exact cleanE _ | exact cleanIL _ | exact NoNm.flat _ rfl) ?_)))) ?_ | refine U.SoundC.u (shapeN) (by (repeat (first | exact trivial | ((conv => whnf); first | exact trivial | refine And.intro (by first | assumption | exact cleanI _ | exact cleanEs _ | exact cleanSs _ | exact cleanE _ | exact cleanIL _ | exact NoNm.flat _ rfl) ?_)))) ?_ | refine U.SoundC.u (isbotN) (by (repeat (first | exact trivial | ((conv => whnf); first | exact trivial | refine And.intro (by first | assumption | exact cleanI _ | exact cleanEs _ | exact cleanSs _ | exact cleanE _ | exact cleanIL _ | exact NoNm.flat _ rfl) ?_)))) ?_ | refine U.SoundC.u (getN a.place) (by (repeat (first | exact trivial | ((conv => whnf); first | exact trivial | refine And.intro (by first | assumption | exact cleanI _ | exact cleanEs _ | exact cleanSs _ | exact cleanE _ | exact cleanIL _ | exact NoNm.flat _ rfl) ?_)))) ?_ | refine U.SoundC.u (loadN a.place) (by (repeat (first | exact trivial | ((conv => whnf); first | exact trivial | refine And.intro (by first | assumption | exact cleanI _ | exact cleanEs _ | exact cleanSs _ | exact cleanE _ | exact cleanIL _ | exact NoNm.flat _ rfl) ?_)))) ?_ | refine U.SoundC.u (vbot_d) (by (repeat (first | exact trivial | ((conv => whnf); first | exact trivial | refine And.intro (by first | assumption | exact cleanI _ | exact cleanEs _ | exact cleanSs _ | exact cleanE _ | exact cleanIL _ | exact NoNm.flat _ rfl) ?_)))) ?_ | refine U.SoundC.u (setN a.place zeroC) (by (repeat (first | exact trivial | ((conv => whnf); first | exact trivial | refine And.intro (by first | assumption | exact cleanI _ | exact cleanEs _ | exact cleanSs _ | exact cleanE _ | exact cleanIL _ | exact NoNm.flat _ rfl) ?_)))) ?_ | refine U.SoundC.u (putN a.place zeroC) (by (repeat (first | exact trivial | ((conv => whnf); first | exact trivial | refine And.intro (by first | assumption | exact cleanI _ | exact cleanEs _ | exact cleanSs _ | exact cleanE _ | exact cleanIL _ | exact NoNm.flat _ rfl) ?_)))) ?_ | refine U.SoundC.u (restrictN a.place a.v) (by (repeat (first | exact trivial | ((conv => whnf); first | exact trivial | refine And.intro (by first | assumption | exact cleanI _ | exact cleanEs _ | exact cleanSs _ | exact cleanE _ | exact cleanIL _ | exact NoNm.flat _ rfl) ?_)))) ?_ | refine U.SoundC.u (havocN (.bool true) true) (by (repeat (first | exact trivial | ((conv => whnf); first | exact trivial | refine And.intro (by first | assumption | exact cleanI _ | exact cleanEs _ | exact cleanSs _ | exact cleanE _ | exact cleanIL _ | exact NoNm.flat _ rfl) ?_)))) ?_ | refine U.SoundC.u (markN) (by (repeat (first | exact trivial | ((conv => whnf); first | exact trivial | refine And.intro (by first | assumption | exact cleanI _ | exact cleanEs _ | exact cleanSs _ | exact cleanE _ | exact cleanIL _ | exact NoNm.flat _ rfl) ?_)))) ?_ | refine U.SoundC.u (hasN) (by (repeat (first | exact trivial | ((conv => whnf); first | exact trivial | refine And.intro (by first | assumption | exact cleanI _ | exact cleanEs _ | exact cleanSs _ | exact cleanE _ | exact cleanIL _ | exact NoNm.flat _ rfl) ?_)))) ?_ | refine U.SoundC.u (join0) (by (repeat (first | exact trivial | ((conv => whnf); first | exact trivial | refine And.intro (by first | assumption | exact cleanI _ | exact cleanEs _ | exact cleanSs _ | exact cleanE _ | exact cleanIL _ | exact NoNm.flat _ rfl) ?_)))) ?_ | refine U.SoundC.u (sameN) (by (repeat (first | exact trivial | ((conv => whnf); first | exact trivial | refine And.intro (by first | assumption | exact cleanI _ | exact cleanEs _ | exact cleanSs _ | exact cleanE _ | exact cleanIL _ | exact NoNm.flat _ rfl) ?_)))) ?_ | refine U.lw_c (fun hb => ?_) (fun hb => ?_)))
      (conv => whnf)
      exact .same (.flat _ rfl) rfl
  · have hq' : fewA a = false ∨ fewA a = true ∧ fewP p 250 = false ∨ fewA a = true ∧ fewP p 250 = true ∧ ¬ p.slots ≤ 30 := by
      by_cases b1 : fewA a = true
      · by_cases b2 : fewP p 250 = true
        · exact .inr (.inr ⟨b1, b2, fun b3 => hq ⟨b1, b2, b3⟩⟩)
        · exact .inr (.inl ⟨b1, by simpa using b2⟩)
      · exact .inl (by simpa using b1)
    rcases hq' with q1 | ⟨q1, q2⟩ | ⟨q1, q2, q3⟩
    · rw [q1] at c0
      (repeat' ((conv => whnf); first | refine goA ?_ | refine U.SoundAt.uT all_ok works25_d trivial (tabA2 rfl rfl rfl) ?_ | refine goB ?_ | refine U.SoundAt.u (c0) (by (repeat (first | exact trivial | ((conv => whnf); first | exact trivial | refine And.intro (by first | assumption | exact cleanI _ | exact cleanEs _ | exact cleanSs _ | exact cleanE _ | exact cleanIL _ | exact NoNm.flat _ rfl) ?_)))) ?_ | refine U.SoundC.u (c0) (by (repeat (first | exact trivial | ((conv => whnf); first | exact trivial | refine And.intro (by first | assumption | exact cleanI _ | exact cleanEs _ | exact cleanSs _ | exact cleanE _ | exact cleanIL _ | exact NoNm.flat _ rfl) ?_)))) ?_ | refine U.lw_c (fun hb => ?_) (fun hb => ?_)))
      (conv => whnf)
      exact .same (.flat _ rfl) rfl
    · rw [q1] at c0
      rw [q2] at c1
      (repeat' ((conv => whnf); first | refine goA ?_ | refine U.SoundAt.uT all_ok works25_d trivial (tabA2 rfl rfl rfl) ?_ | refine goB ?_ | refine U.SoundAt.u (c0) (by (repeat (first | exact trivial | ((conv => whnf); first | exact trivial | refine And.intro (by first | assumption | exact cleanI _ | exact cleanEs _ | exact cleanSs _ | exact cleanE _ | exact cleanIL _ | exact NoNm.flat _ rfl) ?_)))) ?_ | refine U.SoundAt.u (c1) (by (repeat (first | exact trivial | ((conv => whnf); first | exact trivial | refine And.intro (by first | assumption | exact cleanI _ | exact cleanEs _ | exact cleanSs _ | exact cleanE _ | exact cleanIL _ | exact NoNm.flat _ rfl) ?_)))) ?_ | refine U.SoundC.u (c0) (by (repeat (first | exact trivial | ((conv => whnf); first | exact trivial | refine And.intro (by first | assumption | exact cleanI _ | exact cleanEs _ | exact cleanSs _ | exact cleanE _ | exact cleanIL _ | exact NoNm.flat _ rfl) ?_)))) ?_ | refine U.SoundC.u (c1) (by (repeat (first | exact trivial | ((conv => whnf); first | exact trivial | refine And.intro (by first | assumption | exact cleanI _ | exact cleanEs _ | exact cleanSs _ | exact cleanE _ | exact cleanIL _ | exact NoNm.flat _ rfl) ?_)))) ?_ | refine U.lw_c (fun hb => ?_) (fun hb => ?_)))
      (conv => whnf)
      exact .same (.flat _ rfl) rfl
    · rw [q1] at c0
      rw [q2] at c1
      have g1 : decide (p.slots > 30) = true := decide_eq_true (by omega)
      (repeat' ((conv => whnf); first | refine goA ?_ | refine U.SoundAt.uT all_ok works25_d trivial (tabA2 rfl rfl rfl) ?_ | refine goB ?_ | refine U.SoundAt.u (c0) (by (repeat (first | exact trivial | ((conv => whnf); first | exact trivial | refine And.intro (by first | assumption | exact cleanI _ | exact cleanEs _ | exact cleanSs _ | exact cleanE _ | exact cleanIL _ | exact NoNm.flat _ rfl) ?_)))) ?_ | refine U.SoundAt.u (c1) (by (repeat (first | exact trivial | ((conv => whnf); first | exact trivial | refine And.intro (by first | assumption | exact cleanI _ | exact cleanEs _ | exact cleanSs _ | exact cleanE _ | exact cleanIL _ | exact NoNm.flat _ rfl) ?_)))) ?_ | refine U.SoundC.u (c0) (by (repeat (first | exact trivial | ((conv => whnf); first | exact trivial | refine And.intro (by first | assumption | exact cleanI _ | exact cleanEs _ | exact cleanSs _ | exact cleanE _ | exact cleanIL _ | exact NoNm.flat _ rfl) ?_)))) ?_ | refine U.SoundC.u (c1) (by (repeat (first | exact trivial | ((conv => whnf); first | exact trivial | refine And.intro (by first | assumption | exact cleanI _ | exact cleanEs _ | exact cleanSs _ | exact cleanE _ | exact cleanIL _ | exact NoNm.flat _ rfl) ?_)))) ?_ | refine U.lw_c (fun hb => ?_) (fun hb => ?_)))
      (conv => whnf)
      exact .same (.flat _ rfl) rfl
end Go.Proofs.YtblaiilfoiefiaaGreatDoor
