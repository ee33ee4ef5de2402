import Derived.Shelf.Small.Bits
import Derived.Shelf.Strconv.Itoa0
import Derived.Ground.SlsfProg
import Derived.Shelf.SlSortCmp.InsertionK
import Derived.Shelf.SlSortCmp.SiftDownK
import Derived.Shelf.SlSortCmp.HeapSortK
import Derived.Shelf.SlSortCmp.MedianK
import Derived.Shelf.SlSortCmp.PivotK
import Derived.Shelf.SlSortCmp.ReverseRangeK
import Derived.Shelf.SlSortCmp.PartialInsertionK
import Derived.Shelf.SlSortCmp.PartitionEqualK
import Derived.Shelf.SlSortCmp.PartitionK
import Derived.Shelf.SlSortCmp.PdqK
import Derived.Shelf.SlSortCmp.WholeK
import Derived.Shelf.SlSortCmp.NoneTotal
import Derived.Test.YthekpmpcbidjiaaProg
import Derived.Test.YthekpmpcbidjiaaK25
import Derived.Test.YthekpmpcbidjiaaK27
/- Layer 11: edges are compared. -/
namespace Go.Proofs.Ythekpmpcbidjiaa
open Go Go.RowKit Go.Sort U
set_option linter.unusedVariables false
set_option linter.unusedSimpArgs false
set_option maxRecDepth 100000
set_option maxHeartbeats 4000000
theorem isNaN_d (x : Int) : DenU Try.prog [] 108 [.int .i64 x] (.bool false) := by
  refine denU_of_body hmixU rfl Try.func108 rfl rfl rfl 0 ?_
  intro Ts
  have hne : (x != x) = false := by simp
  (repeat' ((conv => whnf); first | refine U.lw_t ?_ | refine U.lw_f ?_ | refine U.lit_t ?_ | refine U.lit_f ?_ | refine U.ob_t ?_ | refine U.ob_c (by first | (with_reducible assumption) | exact Nat.ble_eq_true_of_le (by omega) | exact Nat.ble_eq_true_of_le (by simp at *; omega)) ?_ | refine U.nv_c (by with_reducible assumption) ?_ | refine U.lw_t' (by with_reducible assumption) ?_ | refine U.lw_f' (by with_reducible assumption) ?_ | refine U.lw_c (fun hb => ?_) (fun hb => ?_)))
  all_goals (conv => whnf)
  exact .same (.flat _ rfl) (congrArg Value.bool hne)
def cmpI (x y : Int) : Int := if x < y then -1 else if y < x then 1 else 0
theorem compare_d (x y : Int) : DenU Try.prog [] 85 [.int .i64 x, .int .i64 y] (.int .i64 (cmpI x y)) := by
  refine denU_of_body hmixU rfl Try.func85 rfl rfl rfl 0 ?_
  intro Ts
  (repeat' ((conv => whnf); first | refine U.lw_t ?_ | refine U.lw_f ?_ | refine U.lit_t ?_ | refine U.lit_f ?_ | refine U.ob_t ?_ | refine U.ob_c (by first | (with_reducible assumption) | exact Nat.ble_eq_true_of_le (by omega) | exact Nat.ble_eq_true_of_le (by simp at *; omega)) ?_ | refine U.nv_c (by with_reducible assumption) ?_ | refine ⟨_, isNaN_d _, (by (repeat (first | exact trivial | ((conv => whnf); first | exact trivial | refine And.intro (by first | assumption | exact cleanI _ | exact cleanEs _ | exact cleanSs _ | exact cleanTs _ | exact cleanE _ | exact cleanIL _ | exact cleanBL _ | exact cleanR _ | exact NoNm.flat _ rfl) ?_)))), tab0 _, ?_⟩ | refine U.lw_t' (by with_reducible assumption) ?_ | refine U.lw_f' (by with_reducible assumption) ?_ | refine U.lw_c (fun hb => ?_) (fun hb => ?_)))
  all_goals (conv => whnf)
  all_goals refine .same (.flat _ rfl) (congrArg (Value.int .i64) ?_)
  all_goals simp at *
  all_goals unfold cmpI
  · rw [if_pos (by omega)]
  · rw [if_neg (by omega), if_pos (by omega)]
  · rw [if_neg (by omega), if_neg (by omega)]
def orI (l : List Int) : Int := (l.find? (fun x => x != 0)).getD 0
theorem or_d (l : List Int) (hl : l.length ≤ maxI) : DenU Try.prog [] 84 [imS (iL l)] (.int .i64 (orI l)) := by
  refine denU_of_body hmixU rfl Try.func84 rfl rfl rfl 0 ?_
  intro Ts
  (repeat' ((conv => whnf); first | refine U.lw_t ?_ | refine U.lw_f ?_ | refine U.lit_t ?_ | refine U.lit_f ?_ | refine U.ob_t ?_ | refine U.ob_c (by first | (with_reducible assumption) | exact Nat.ble_eq_true_of_le (by omega) | exact Nat.ble_eq_true_of_le (by simp at *; omega)) ?_ | refine U.nv_c (by with_reducible assumption) ?_ | refine U.lw_t' (by with_reducible assumption) ?_ | refine U.lw_f' (by with_reducible assumption) ?_ | refine U.lw_c (fun hb => ?_) (fun hb => ?_)))
  (conv => whnf)
  refine loop_inv (α := List Int × List Int) (fun x => x.1 ++ x.2 = l ∧ ∀ n ∈ x.1, n = 0) (fun x => (mkF [(2, .int .i64 0), (3, .int .i64 0), (6, imS (iL l)), (7, .int .i64 (iL l).length), (8, .int .i64 x.1.length)], ⟨.e, 0, 0, 0⟩)) (fun x => x.2.length) ([], l) ⟨rfl, fun n hn => by cases hn⟩ (Cov.slots (Nat.le_refl _) ⟨rfl, rfl, rfl, rfl, rfl, trivial⟩) ?_
  rintro ⟨pre, rest⟩ ⟨p1, p2⟩
  dsimp only at p1 p2
  subst p1
  dsimp only
  rcases rest with _ | ⟨x, rest⟩
  · rw [List.append_nil] at *
    have h3b := U.lt_no iL_map pre
    (repeat' ((conv => whnf); first | refine U.lw_t ?_ | refine U.lw_f ?_ | refine U.lit_t ?_ | refine U.lit_f ?_ | refine U.ob_t ?_ | refine U.ob_c (by first | (with_reducible assumption) | exact Nat.ble_eq_true_of_le (by omega) | exact Nat.ble_eq_true_of_le (by simp at *; omega)) ?_ | refine U.nv_c (by with_reducible assumption) ?_ | refine U.lw_t' (by with_reducible assumption) ?_ | refine U.lw_f' (by with_reducible assumption) ?_ | refine U.lw_c (fun hb => ?_) (fun hb => ?_)))
    (conv => whnf)
    refine .same (.flat _ rfl) (congrArg (Value.int .i64) ?_)
    have : pre.find? (fun x => x != 0) = none := List.find?_eq_none.2 fun n hn => by simp [p2 n hn]
    simp [orI, this]
  · have h3b := U.lt_yes iL_map pre (x) rest; have h3c := U.blt_yes iL_map pre (x) rest; have h3n := U.nth_at iL_map pre (x) rest; have h3w := U.len_snoc (pre := pre) (x := x) (post := rest) (hl)
    (repeat' ((conv => whnf); first | refine U.lw_t ?_ | refine U.lw_f ?_ | refine U.lit_t ?_ | refine U.lit_f ?_ | refine U.ob_t ?_ | refine U.ob_c (by first | (with_reducible assumption) | exact Nat.ble_eq_true_of_le (by omega) | exact Nat.ble_eq_true_of_le (by simp at *; omega)) ?_ | refine U.nv_c (by with_reducible assumption) ?_ | refine U.lw_t' (by with_reducible assumption) ?_ | refine U.lw_f' (by with_reducible assumption) ?_ | refine U.lw_c (fun hb => ?_) (fun hb => ?_)))
    all_goals (conv => whnf)
    · refine .same (.flat _ rfl) (congrArg (Value.int .i64) ?_)
      have : pre.find? (fun x => x != 0) = none := List.find?_eq_none.2 fun n hn => by simp [p2 n hn]
      simp [orI, List.find?_append, this, hb]
    · refine ⟨(pre ++ [x], rest), ⟨by simp, fun n hn => ?_⟩, by simp, ?_⟩
      · rcases List.mem_append.1 hn with h | h
        · exact p2 n h
        · simp at h hb; omega
      · refine Cov.slots (s := ⟨.e, 0, 0, 0⟩) (Nat.le_refl 0) ⟨rfl, rfl, rfl, rfl, ?_, trivial⟩
        exact congrArg some (congrArg (Value.int .i64) h3w)
def cmpE (a b : Int × Int) : Int := if a = b then 0 else orI [cmpI a.1 b.1, cmpI a.2 b.2]
theorem byNodes_d (a b : Int × Int) : DenU Try.prog [] 66 [eK a, eK b] (.int .i64 (cmpE a b)) := by
  refine denU_of_sound hmixU fun Ts => SoundAt.body hmixU Try.func66 rfl rfl rfl 0 ?_
  obtain ⟨a1, a2⟩ := a
  obtain ⟨b1, b2⟩ := b
  (repeat' ((conv => whnf); first | refine U.lw_t ?_ | refine U.lw_f ?_ | refine U.lit_t ?_ | refine U.lit_f ?_ | refine U.ob_t ?_ | refine U.SoundC.uF (or_d [cmpI a1 b1, cmpI a2 b2] (by simp [maxI])) rfl (.cons (.rowL (z := 1) (Nat.zero_le _) rfl rfl iL_1 rfl (Nat.le_refl _) (cleanIC _)) .nil) ?_ | refine U.ob_c (by first | (with_reducible assumption) | exact Nat.ble_eq_true_of_le (by omega) | exact Nat.ble_eq_true_of_le (by simp at *; omega)) ?_ | refine U.nv_c (by with_reducible assumption) ?_ | refine U.SoundAt.u (compare_d _ _) (by (repeat (first | exact trivial | ((conv => whnf); first | exact trivial | refine And.intro (by first | assumption | exact cleanI _ | exact cleanEs _ | exact cleanSs _ | exact cleanTs _ | exact cleanE _ | exact cleanIL _ | exact cleanBL _ | exact cleanR _ | exact NoNm.flat _ rfl) ?_)))) ?_ | refine U.SoundC.u (compare_d _ _) (by (repeat (first | exact trivial | ((conv => whnf); first | exact trivial | refine And.intro (by first | assumption | exact cleanI _ | exact cleanEs _ | exact cleanSs _ | exact cleanTs _ | exact cleanE _ | exact cleanIL _ | exact cleanBL _ | exact cleanR _ | exact NoNm.flat _ rfl) ?_)))) ?_ | refine U.drawX_p (D := U.propX) 13 [] (by decide +kernel) (by decide +kernel) ?_ | refine U.lw_t' (by with_reducible assumption) ?_ | refine U.lw_f' (by with_reducible assumption) ?_ | refine U.lw_c (fun hb => ?_) (fun hb => ?_)))
  all_goals (conv => whnf)
  · refine .same (.flat _ rfl) (congrArg (Value.int .i64) ?_)
    simp at hb
    simp [cmpE, hb]
  · refine .same (.flat _ rfl) (congrArg (Value.int .i64) ?_)
    have : ¬ ((a1, a2) = (b1, b2)) := fun e => by cases e; simp at hb
    rw [cmpE, if_neg this]
/-! The order of edges. -/
theorem cmpE_lt (a b : Int × Int) : ltOf cmpE a b = decide (a.1 < b.1 ∨ (a.1 = b.1 ∧ a.2 < b.2)) := by
  obtain ⟨a1, a2⟩ := a
  obtain ⟨b1, b2⟩ := b
  unfold ltOf cmpE
  by_cases h : (a1, a2) = (b1, b2)
  · cases h
    simp
  · rw [if_neg h]
    rcases Int.lt_trichotomy a1 b1 with h1 | h1 | h1
    · simp [orI, cmpI, h1]
    · subst h1
      rcases Int.lt_trichotomy a2 b2 with h2 | h2 | h2
      · simp [orI, cmpI, h2]
      · subst h2; exact absurd rfl h
      · have : ¬ a2 < b2 := by omega
        simp [orI, cmpI, h2, this]
    · have h2 : ¬ a1 < b1 := by omega
      have h3 : ¬ a1 = b1 := by omega
      simp [orI, cmpI, h1, h2, h3]
theorem cmpE_swo : SWO (ltOf cmpE) where
  irrefl x := by rw [cmpE_lt]; simp
  trans x y z h1 h2 := by rw [cmpE_lt] at *; simp at *; omega
  ntrans x y z h1 h2 := by rw [cmpE_lt] at *; simp at *; omega
theorem cmpE_total (x y : Int × Int) (h1 : ltOf cmpE x y = false) (h2 : ltOf cmpE y x = false) : x = y := by
  rw [cmpE_lt] at *
  obtain ⟨x1, x2⟩ := x
  obtain ⟨y1, y2⟩ := y
  simp at h1 h2
  have e1 : x1 = y1 := by omega
  have e2 : x2 = y2 := by omega
  rw [e1, e2]
def e2L (e : Int × Int) : List Value := [.int .i64 e.1, .int .i64 e.2]
theorem edgeCmp (blk off size : Nat) (w : World) : CmpLays Try.prog 66 #[] e2L 2 cmpE blk off size w := cmpLays byNodes_d (fun x => rfl) blk off size w
def sortE (l : List (Int × Int)) : List (Int × Int) := l.mergeSort fun x y => !(ltOf cmpE) y x
end Go.Proofs.Ythekpmpcbidjiaa
/-
  DERIVED: THE SHELF's CONTRACTS AT THIS DUMP, IN PLAIN WORDS (tools/lay-plain.mjs out of 'TryShelf.lean', which tools/lay-shelf.mjs wrote): THE SAME DECLARATIONS UNDER THE SAME NAMES: 'import', 'namespace', 'open', 'def', 'theorem' AND NOTHING ELSE: no command of the shelf's: FOR A HAND-IN. Each laying: the table of numbers ('.._ren') and one theorem, a field a fact of the dump's own or the kernel's comparison; each contract: ONE APPLICATION.
-/
namespace Go.Proofs
open Go.Shelf
def Try.laysSlF06_f65_ren : Go.Shelf.Ren := ⟨fun | 6 => 65 | 15 => 82 | 14 => 83 | 28 => 98 | 29 => 99 | 20 => 100 | 21 => 101 | 22 => 102 | 23 => 103 | 24 => 104 | 25 => 105 | 26 => 106 | 27 => 107 | 46 => 114 | 47 => 110 | 48 => 111 | 49 => 115 | 50 => 116 | 57 => 118 | n => n, fun | 22 => 125 | 24 => 124 | 25 => 127 | 3 => 3 | 39 => 156 | 0 => 0 | 53 => 171 | 55 => 33 | 4 => 4 | 46 => 165 | 45 => 164 | 50 => 89 | 5 => 5 | 9 => 9 | 66 => 179 | 70 => 183 | 76 => 187 | 77 => 188 | n => n, fun | n => n⟩
theorem Try.laysSlF06_f65 : Go.Proofs.SlLaysF0.n6 Try.prog Try.laysSlF06_f65_ren := {
  mixed := by kernel_rfl
  f6 := ⟨Try.f65.name, by decide, Try.func65.trans (congrArg some (by kernel_rfl))⟩
  f14 := ⟨Try.f83.name, by decide, Try.func83.trans (congrArg some (by kernel_rfl))⟩
  f15 := Try.func82.trans (congrArg some (by kernel_rfl))
  f20 := ⟨Try.f100.name, by decide, Try.func100.trans (congrArg some (by kernel_rfl))⟩
  f21 := ⟨Try.f101.name, by decide, Try.func101.trans (congrArg some (by kernel_rfl))⟩
  f22 := ⟨Try.f102.name, by decide, Try.func102.trans (congrArg some (by kernel_rfl))⟩
  f23 := ⟨Try.f103.name, by decide, Try.func103.trans (congrArg some (by kernel_rfl))⟩
  f24 := ⟨Try.f104.name, by decide, Try.func104.trans (congrArg some (by kernel_rfl))⟩
  f25 := ⟨Try.f105.name, by decide, Try.func105.trans (congrArg some (by kernel_rfl))⟩
  f26 := ⟨Try.f106.name, by decide, Try.func106.trans (congrArg some (by kernel_rfl))⟩
  f27 := ⟨Try.f107.name, by decide, Try.func107.trans (congrArg some (by kernel_rfl))⟩
  f28 := Try.func98.trans (congrArg some (by kernel_rfl))
  f29 := Try.func99.trans (congrArg some (by kernel_rfl))
  f46 := ⟨Try.f114.name, by decide, Try.func114.trans (congrArg some (by kernel_rfl))⟩
  f47 := Try.func110.trans (congrArg some (by kernel_rfl))
  f48 := Try.func111.trans (congrArg some (by kernel_rfl))
  f49 := ⟨Try.f115.name, by decide, Try.func115.trans (congrArg some (by kernel_rfl))⟩
  f50 := ⟨Try.f116.name, by decide, Try.func116.trans (congrArg some (by kernel_rfl))⟩
  f57 := ⟨Try.f118.name, by decide, Try.func118.trans (congrArg some (by kernel_rfl))⟩
  t0 := Try.underlying0
  a0 := Try.isAgg0
  z0 := Try.sizeOf0
  v0 := Try.zeroValue0
  t3 := Try.underlying3
  a3 := Try.isAgg3
  z3 := Try.sizeOf3
  v3 := Try.zeroValue3
  t4 := Try.underlying4
  a4 := Try.isAgg4
  z4 := Try.sizeOf4
  v4 := Try.zeroValue4
  t5 := Try.underlying5
  a5 := Try.isAgg5
  z5 := Try.sizeOf5
  v5 := Try.zeroValue5
  t9 := Try.underlying9
  a9 := Try.isAgg9
  z9 := Try.sizeOf9
  v9 := Try.zeroValue9
  t22 := Try.underlying125
  a22 := Try.isAgg125
  z22 := Try.sizeOf125
  v22 := Try.zeroValue125
  t25 := Try.underlying127
  a25 := Try.isAgg127
  z25 := Try.sizeOf127
  v25 := Try.zeroValue127
  t39 := Try.underlying156
  a39 := Try.isAgg156
  z39 := Try.sizeOf156
  v39 := Try.zeroValue156
  t45 := Try.underlying164
  a45 := Try.isAgg164
  z45 := Try.sizeOf164
  v45 := Try.zeroValue164
  t46 := Try.underlying165
  a46 := Try.isAgg165
  z46 := Try.sizeOf165
  v46 := Try.zeroValue165
  t50 := Try.underlying89
  a50 := Try.isAgg89
  z50 := Try.sizeOf89
  v50 := Try.zeroValue89
  t53 := Try.underlying171
  a53 := Try.isAgg171
  z53 := Try.sizeOf171
  v53 := Try.zeroValue171
  t55 := Try.underlying33
  a55 := Try.isAgg33
  z55 := Try.sizeOf33
  v55 := Try.zeroValue33
  t66 := Try.underlying179
  a66 := Try.isAgg179
  z66 := Try.sizeOf179
  v66 := Try.zeroValue179
  t70 := Try.underlying183
  a70 := Try.isAgg183
  z70 := Try.sizeOf183
  v70 := Try.zeroValue183
  t76 := Try.underlying187
  a76 := Try.isAgg187
  z76 := Try.sizeOf187
  v76 := Try.zeroValue187
  t77 := Try.underlying188
  a77 := Try.isAgg188
  z77 := Try.sizeOf188
  v77 := Try.zeroValue188 }
end Go.Proofs
/- Layer 11: edges are sorted. -/
namespace Go.Proofs.Ythekpmpcbidjiaa
open Go Go.RowKit Go.Sort U
set_option linter.unusedVariables false
set_option linter.unusedSimpArgs false
set_option maxRecDepth 100000
set_option maxHeartbeats 4000000
theorem sortE_C (d : List (Int × Int)) (W : World) (r cap : Nat) (hH : HoldsK e2L 2 W r 0 d.toArray) (hr : r < W.heap.size) (hd : d.length ≤ 1000000) : Calls Try.prog 65 #[.slice (some ⟨r, 0, none⟩) d.length cap, .func (.func 66) #[] #[]] W fun e w' => e = .returned (.tuple #[]) ∧ ∃ n os, w' = sortWorldK e2L 2 W r 0 n (sortE d).toArray os := by
  have aE : ∀ w, (isAgg 124).run Try.prog w = .ok true w := fun w => by kernel_rfl
  have zE : ∀ w, (Go.sizeOf 124).run Try.prog w = .ok 2 w := fun w => by kernel_rfl
  have eg : ∀ args w, (callFunc 66 args).run Try.prog w = .ok (.enter 66 args) w := enters_of Try.func66 (by kernel_rfl) rfl
  have h := AnyQ.slices_SortFunc_total Try.laysSlF06_f65 2 aE zE e2L (fun _ => rfl) (fun x v hv => by simp [e2L] at hv; rcases hv with rfl | rfl <;> rfl) cmpE cmpE_swo 66 #[] r 0 cap d.toArray W eg (edgeCmp _ _ _ _) hH hr (by simp; omega) cmpE_total
  exact h
theorem sort_s {es : List (Int × Int)} {tl : List Value} {s : AS} {b n c : Nat} {op : Bool} (hb : s.heap.get b = some (.cells 124 (es.flatMap e2L ++ tl) op)) (hlo : s.lo ≤ b) (hn : es.length = n) (hm : n ≤ 1000000) {K : Value → AS → Prop} (hK : K (.tuple ⟨[]⟩) ⟨s.heap.set b (some (.cells 124 ((sortE es).flatMap e2L ++ tl) op)), s.next, s.lo, s.glb⟩) :
    SoundAt Try.prog 65 [.slice (some ⟨b, 0, none⟩) n c, .func (.func 66) ⟨[]⟩ ⟨[]⟩] s K :=
  sortAt (k := 2) (fun _ => rfl) (fun x v hv => by simp [e2L] at hv; rcases hv with rfl | rfl <;> rfl) (fun x v hv => by simp [e2L] at hv; rcases hv with rfl | rfl <;> rfl) (srt := sortE) (fun l => by simp [sortE]) sortE_C hb hlo hn hm hK
end Go.Proofs.Ythekpmpcbidjiaa
