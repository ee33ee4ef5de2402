/- What comes in: values, rows of values, rows of numbers: what a call's arguments are, read off the row's own condition. -/
import Derived.Test.YtljhbdgoknfkcaaGreatDoorPV
import Derived.Test.YtljhbdgoknfkcaaGreatDoorP
import Derived.Deep.Slices
import Derived.Carry
namespace Go.Proofs.YtljhbdgoknfkcaaGreatDoor
open Go Go.ChangeShapes Go.WideShapes Go.ChangeAt Go.RowKit Go.Joins
set_option linter.unusedVariables false
set_option maxRecDepth 100000

theorem spot_of_cell {w : World} {a : Addr} {v : Value} (h : w.cell? a = some v) : a.spot = none := by
  cases hsp : a.spot with
  | none => rfl
  | some s =>
    simp only [World.cell?] at h
    split at h
    · simp [hsp] at h
    · cases h
theorem flatMap_at {α : Type} {c : α → List Value} {z : Nat} (hz : ∀ y, (c y).length = z) : ∀ (L : List α) (j : Nat) (v : Value), (L.flatMap c)[j]? = some v → ∃ i q y, j = i * z + q ∧ q < z ∧ L[i]? = some y ∧ (c y)[q]? = some v
  | [], j, v, h => by simp at h
  | y :: L, j, v, h => by
    rw [List.flatMap_cons] at h
    by_cases hj : j < z
    · rw [List.getElem?_append_left (by rw [hz]; exact hj)] at h
      exact ⟨0, j, y, by omega, hj, by simp, h⟩
    · rw [List.getElem?_append_right (by rw [hz]; omega), hz] at h
      obtain ⟨i, q, y', h1, h2, h3, h4⟩ := flatMap_at hz L (j - z) v h
      exact ⟨i + 1, q, y', by rw [Nat.add_mul]; omega, h2, by simpa using h3, h4⟩
theorem flatMap_len {α : Type} {c : α → List Value} {z : Nat} (hz : ∀ y, (c y).length = z) : ∀ (L : List α), (L.flatMap c).length = L.length * z
  | [] => by simp
  | y :: L => by rw [List.flatMap_cons, List.length_append, hz, flatMap_len hz L, List.length_cons, Nat.add_mul]; omega

/-- A row that came in, whose elements are known to be so. -/
theorem open_rows {H : Type} {enc : TypeId × Value → H} {P : Program} {w : World} {base : Nat} {spare : Nat → Bool} {held : Bool} {t e : TypeId} {fuel z : Nat} {cs : List Value} {x : DataW H × List MemPlace} {α : Type} (y0 : α) (c : α → List Value) (p : α → Prop)
    (ht : P.underlying t = some (.slice e)) (hce : P.cellsOf e = z) (hz0 : 0 < z) (hz : ∀ y, (c y).length = z) (hel : ∀ n cs x, DataW.trod enc P w base spare held n e cs = some x → ∃ y, p y ∧ cs = c y)
    (h : DataW.trod enc P w base spare held fuel t cs = some x) : ∃ (L : List α) (ad : Option Addr) (cap : Nat), cs = [.slice ad L.length cap] ∧ L.length ≤ 9223372036854775807 ∧ SlP z L.length (L.flatMap c) (memF w) (.slice ad L.length cap) ∧ ∀ y ∈ L, p y := by
  rcases Go.Deep.open_slice ht h with ⟨rfl, _⟩ | ⟨a, len, cap, m, n, D, Pl, rfl, hb, hlc, hcm, hm, _, hall⟩
  · exact ⟨[], none, 0, rfl, by simp, ⟨by simp, none, 0, rfl, fun h => by simp at h⟩, fun y hy => by simp at hy⟩
  · have hlm : len ≤ m := by rw [hm]; split <;> omega
    have ex : ∀ i : Nat, ∃ y : α, i < len → p y ∧ w.cells? base (a.add (i * z)) z = some (c y) := fun i => by
      by_cases hi : i < len
      · obtain ⟨cs', h1, h2⟩ := hall i (by omega)
        obtain ⟨y, h3, rfl⟩ := hel _ _ _ h2
        rw [hce] at h1
        exact ⟨y, fun _ => ⟨h3, h1⟩⟩
      · exact ⟨y0, fun h => absurd h hi⟩
    obtain ⟨Y, hY⟩ := Classical.axiomOfChoice ex
    have hlen : ((List.range len).map Y).length = len := by simp
    have cell : ∀ i q v, i < len → (c (Y i))[q]? = some v → w.cell? ((a.add (i * z)).add q) = some v := fun i q v hi hq => by
      have h1 := (hY i hi).2
      unfold World.cells? at h1
      split at h1
      · have hlq := (List.getElem?_eq_some_iff.1 hq).1
        rw [hz] at hlq
        have := Lib.mapM_at h1 q q (by simp [hlq])
        obtain ⟨v', h2, h3⟩ := this
        rw [hq] at h2
        cases h2
        exact h3
      · cases h1
    refine ⟨(List.range len).map Y, some a, cap, by rw [hlen], by rw [hlen]; unfold maxLen at hcm; omega, ⟨by rw [flatMap_len hz], some a, cap, rfl, fun h0 => ?_⟩, fun y hy => ?_⟩
    · rw [hlen] at h0
      have hs : a.spot = none := by
        have hq : 0 < (c (Y 0)).length := by rw [hz]; exact hz0
        have := cell 0 0 _ h0 (List.getElem?_eq_getElem hq)
        have := spot_of_cell this
        simpa [Addr.add] using this
      obtain ⟨b, off, sp⟩ := a
      simp only at hs
      subst hs
      refine ⟨b, off, rfl, fun j v hj => ?_⟩
      obtain ⟨i, q, y, rfl, hq, hi, hv⟩ := flatMap_at hz _ j v hj
      have hil := (List.getElem?_eq_some_iff.1 hi).1
      rw [hlen] at hil
      simp only [List.getElem?_map, List.getElem?_range hil, Option.map_some, Option.some.injEq] at hi
      subst hi
      have := cell i q v hil hv
      rw [add_at, add_at] at this
      rw [← Nat.add_assoc]
      exact this
    · obtain ⟨i, hi, rfl⟩ := List.mem_map.1 hy
      exact (hY i (List.mem_range.1 hi)).1

theorem ICs_flat : ∀ (l : List Int), ICs l = l.flatMap fun n => [Value.int .i64 n]
  | [] => rfl
  | x :: l => by rw [List.flatMap_cons, ← ICs_flat l]; rfl

theorem cells_value : Tryz.prog.cellsOf 31 = 4 := by kernel_rfl
theorem cells_inter : Tryz.prog.cellsOf 27 = 2 := by kernel_rfl
theorem cells_cong : Tryz.prog.cellsOf 29 = 2 := by kernel_rfl
theorem cells_i64 : Tryz.prog.cellsOf 2 = 1 := by kernel_rfl
theorem cells_u64 : Tryz.prog.cellsOf 23 = 1 := by kernel_rfl
section
variable {H : Type} {enc : TypeId × Value → H} {W : World} {base : Nat} {spare : Nat → Bool} {held : Bool} {fuel : Nat} {cs : List Value} {x : DataW H × List MemPlace}
theorem is_of {n : Int} (h : (Lit.int .i64 n).wf = true) : IS n := by have := bounds_i64 h; exact ⟨by omega, by omega⟩
theorem iu_of {n : Int} (h : (Lit.int .u64 n).wf = true) : IU n := by have := bounds_u64 h; exact ⟨by omega, by omega⟩
theorem open_inter (h : DataW.trod enc Tryz.prog W base spare held fuel 27 cs = some x) : ∃ a b : Int, cs = [.int .i64 a, .int .i64 b] ∧ IS a ∧ IS b := by
  obtain ⟨y0, y1, n, _, hl, h0, h1⟩ := Go.ChangeShapes.trod_struct2 Tryz.underlying27 h
  rw [cells_inter] at hl
  obtain ⟨c0, c1, rfl⟩ : ∃ c0 c1, cs = [c0, c1] := by match cs, hl with | [c0, c1], _ => exact ⟨c0, c1, rfl⟩
  obtain ⟨a, e0, _, wa⟩ := DataW.trod_int Tryz.underlying2 h0
  obtain ⟨b, e1, _, wb⟩ := DataW.trod_int Tryz.underlying2 h1
  simp only [cells_i64, List.drop_zero, List.take_succ_cons, List.take_zero, List.drop_succ_cons, List.cons.injEq, and_true] at e0 e1
  subst e0 e1
  exact ⟨a, b, rfl, is_of wa, is_of wb⟩
theorem open_congC (h : DataW.trod enc Tryz.prog W base spare held fuel 29 cs = some x) : ∃ a b : Int, cs = [.int .u64 a, .int .u64 b] ∧ IU a ∧ IU b := by
  obtain ⟨y0, y1, n, _, hl, h0, h1⟩ := Go.ChangeShapes.trod_struct2 Tryz.underlying29 h
  rw [cells_cong] at hl
  obtain ⟨c0, c1, rfl⟩ : ∃ c0 c1, cs = [c0, c1] := by match cs, hl with | [c0, c1], _ => exact ⟨c0, c1, rfl⟩
  obtain ⟨a, e0, _, wa⟩ := DataW.trod_int Tryz.underlying23 h0
  obtain ⟨b, e1, _, wb⟩ := DataW.trod_int Tryz.underlying23 h1
  simp only [cells_u64, List.drop_zero, List.take_succ_cons, List.take_zero, List.drop_succ_cons, List.cons.injEq, and_true] at e0 e1
  subst e0 e1
  exact ⟨a, b, rfl, iu_of wa, iu_of wb⟩
theorem open_vcells (h : DataW.trod enc Tryz.prog W base spare held fuel 31 cs = some x) : ∃ y : VV, InV y ∧ cs = VC y := by
  obtain ⟨y0, y1, n, _, hl, h0, h1⟩ := Go.ChangeShapes.trod_struct2 Tryz.underlying31 h
  rw [cells_value] at hl
  obtain ⟨c0, c1, c2, c3, rfl⟩ : ∃ c0 c1 c2 c3, cs = [c0, c1, c2, c3] := by match cs, hl with | [c0, c1, c2, c3], _ => exact ⟨c0, c1, c2, c3, rfl⟩
  obtain ⟨a, b, e0, ha, hb⟩ := open_inter h0
  obtain ⟨c, d, e1, hc, hd⟩ := open_congC h1
  simp only [cells_inter, cells_cong, List.drop_zero, List.take_succ_cons, List.take_zero, List.drop_succ_cons, List.cons.injEq, and_true] at e0 e1
  obtain ⟨rfl, rfl⟩ := e0
  obtain ⟨rfl, rfl⟩ := e1
  exact ⟨⟨a, b, c, d⟩, ⟨ha, hb, hc, hd⟩, rfl⟩
theorem open_value {v : Value} {d : DataW H} {p : List MemPlace} {b0 : Nat} {r : Reach} (hv : Value.okWide Tryz.prog W r b0 31 v) (h : DataW.Trod enc Tryz.prog W base spare held 31 v d p) : ∃ y : VV, InV y ∧ v = VVal y := by
  obtain ⟨cs, rfl, hsz⟩ := okWide_struct Tryz.underlying31 hv
  obtain ⟨fuel, hf⟩ := h
  obtain ⟨y, hy, he⟩ := open_vcells hf
  refine ⟨y, hy, ?_⟩
  have : cs.toList = VC y := he
  show Value.agg cs = .agg _
  congr 1
  apply Array.ext'
  rw [this]; rfl
theorem open_values {v : Value} {d : DataW H} {p : List MemPlace} {b0 : Nat} {r : Reach} (hv : Value.okWide Tryz.prog W r b0 25 v) (h : DataW.Trod enc Tryz.prog W base spare held 25 v d p) : ∃ L : List VV, (∀ y ∈ L, InV y) ∧ L.length ≤ 9223372036854775807 ∧ ArIs W (.r 4 L.length (VCs L)) v := by
  obtain ⟨a, len, cap, rfl⟩ := okWide_slice Tryz.underlying25 hv
  obtain ⟨fuel, hf⟩ := h
  obtain ⟨L, ad, c, he, hl, hs, hp⟩ := open_rows vbot VC InV Tryz.underlying25 cells_value (by decide) (fun _ => rfl) (fun n cs x h => open_vcells h) hf
  simp only [Value.cells, List.cons.injEq, and_true] at he
  rw [he]
  exact ⟨L, hp, hl, hs⟩
theorem open_nums {v : Value} {d : DataW H} {p : List MemPlace} {b0 : Nat} {r : Reach} (hv : Value.okWide Tryz.prog W r b0 22 v) (h : DataW.Trod enc Tryz.prog W base spare held 22 v d p) : ∃ L : List Int, (∀ y ∈ L, IS y) ∧ L.length ≤ 9223372036854775807 ∧ ArIs W (.r 1 L.length (ICs L)) v := by
  obtain ⟨a, len, cap, rfl⟩ := okWide_slice Tryz.underlying22 hv
  obtain ⟨fuel, hf⟩ := h
  obtain ⟨L, ad, c, he, hl, hs, hp⟩ := open_rows (0 : Int) (fun n => [Value.int .i64 n]) IS Tryz.underlying22 cells_i64 (by decide) (fun _ => rfl) (fun n cs x h => by
    obtain ⟨m, rfl, _, hw⟩ := DataW.trod_int Tryz.underlying2 h
    exact ⟨m, is_of hw, rfl⟩) hf
  simp only [Value.cells, List.cons.injEq, and_true] at he
  rw [he]
  exact ⟨L, hp, hl, by rw [ICs_flat]; exact hs⟩
end
/-! Five parameters; an interval and a congruence that came in. -/
theorem trodAll_five {H : Type} {enc : TypeId × Value → H} {P : Program} {w : World} {base : Nat} {spare : Nat → Bool} {held : Bool} {t t' t'' t3 t4 : TypeId} {args : Array Value} {ds : List (DataW H)} {ps : List MemPlace} (h : DataW.TrodAll enc P w base spare held [t, t', t'', t3, t4] args.toList ds ps) :
    ∃ v v' v'' v3 v4 d d' d'' d3 d4 p p' p'' p3 p4, args = #[v, v', v'', v3, v4] ∧ ds = [d, d', d'', d3, d4] ∧ ps = p ++ p' ++ p'' ++ p3 ++ p4 ∧ DataW.Trod enc P w base spare held t v d p ∧ DataW.Trod enc P w base spare held t' v' d' p' ∧ DataW.Trod enc P w base spare held t'' v'' d'' p'' ∧ DataW.Trod enc P w base spare held t3 v3 d3 p3 ∧ DataW.Trod enc P w base spare held t4 v4 d4 p4 := by
  obtain ⟨v, vs, d, ds', p, q, hargs, rfl, rfl, hd, hrest⟩ := trodAll_cons h
  obtain ⟨v', vs', d', ds'', p', q', rfl, rfl, rfl, hd', hrest'⟩ := trodAll_cons hrest
  obtain ⟨v'', vs'', d'', ds''', p'', q'', rfl, rfl, rfl, hd'', hrest''⟩ := trodAll_cons hrest'
  obtain ⟨v3, vs3, d3, ds3, p3, q3, rfl, rfl, rfl, hd3, hrest3⟩ := trodAll_cons hrest''
  obtain ⟨v4, vs4, d4, ds4, p4, q4, rfl, rfl, rfl, hd4, hrest4⟩ := trodAll_cons hrest3
  obtain ⟨rfl, rfl, rfl⟩ := trodAll_nil hrest4
  exact ⟨v, v', v'', v3, v4, d, d', d'', d3, d4, p, p', p'', p3, p4, by cases args; simp_all, rfl, by simp, hd, hd', hd'', hd3, hd4⟩
end Go.Proofs.YtljhbdgoknfkcaaGreatDoor
