import Derived.Deep.Slices
import Derived.Lib.LaidTab
import Derived.Test.YthekpmpcbidjiaaR18
/- Data that came in, read as values that stay as they are. No condition. -/
namespace Go.Proofs.Ythekpmpcbidjiaa.U
open Go Go.RowKit Go.Sort Go.ChangeShapes
set_option linter.unusedVariables false
set_option linter.unusedSimpArgs false
/-- An element told by its cells. -/
def packV (P : Program) (e : TypeId) (r : List Value) : Value :=
  match P.underlying e with
  | some (.struct _) => .agg ⟨r⟩
  | _ => r.headD (.bool false)
/-- Cells of a type that hold data. -/
def DatF (P : Program) : Nat → TypeId → List Value → Prop
  | 0, _, _ => False
  | n + 1, t, us => match P.underlying t with
    | some .bool => ∃ b, us = [.bool b]
    | some (.int k) => ∃ m, us = [.int k m] ∧ (Lit.int k m).wf = true
    | some .string => ∃ s : ByteArray, us = [.string s] ∧ s.size ≤ maxLen
    | some (.slice e) => ∃ rows : List (List Value), us = [imS (rows.map (packV P e))] ∧ rows.length ≤ maxLen ∧ ∀ r ∈ rows, r.length = P.cellsOf e ∧ DatF P n e r
    | some (.struct fs) => us.length = P.cellsOf t ∧ ∀ f ∈ fs.toList, DatF P n f.type ((us.drop f.offset).take (P.cellsOf f.type))
    | _ => False
def layF (P : Program) : List Field → Nat → Nat → Bool
  | [], off, tot => off == tot
  | f :: fs, off, tot => f.offset == off && layF P fs (off + P.cellsOf f.type) tot
def okTys (P : Program) (ts : List TypeId) : Bool := ts.all fun t => match P.underlying t with
  | some .bool | some (.int _) | some .string => true
  | some (.slice e) => ts.contains e && decide (0 < P.cellsOf e)
  | some (.struct fs) => fs.toList.all (fun f => ts.contains f.type) && layF P fs.toList 0 (P.cellsOf t)
  | _ => false
theorem cells_packV {P : Program} {n : Nat} {e : TypeId} {r : List Value} (h : DatF P n e r) : cellsOf (packV P e r) = r := by
  cases n with
  | zero => exact h.elim
  | succ n =>
    unfold DatF at h
    unfold packV
    split at h
    · rename_i ht; rw [ht]; obtain ⟨b, rfl⟩ := h; rfl
    · rename_i ht; rw [ht]; obtain ⟨m, rfl, _⟩ := h; rfl
    · rename_i ht; rw [ht]; obtain ⟨m, rfl, _⟩ := h; rfl
    · rename_i ht; rw [ht]; obtain ⟨m, rfl, _⟩ := h; rfl
    · rename_i ht; rw [ht]; rfl
    · exact h.elim
/-- What a world holds, told as what stays as it is. -/
def zW (w : World) : Nat → Nat → Option Value := fun r o => w.cell? ⟨r, o, none⟩
theorem spotOf_cell {w : World} {a : Addr} {v : Value} (h : w.cell? a = some v) : a.spot = none := by
  cases hsp : a.spot with
  | none => rfl
  | some s =>
    simp only [World.cell?] at h
    split at h
    · simp [hsp] at h
    · cases h
theorem cells_at {w : World} {base z : Nat} {a : Addr} {cs : List Value} (h : w.cells? base a z = some cs) : cs.length = z ∧ ∀ q v, cs[q]? = some v → w.cell? (a.add q) = some v := by
  unfold World.cells? at h
  split at h
  · have hl : cs.length = z := by simpa using Lib.mapM_length h
    refine ⟨hl, fun q v hq => ?_⟩
    have hlq := (List.getElem?_eq_some_iff.1 hq).1
    rw [hl] at hlq
    obtain ⟨v', h2, h3⟩ := Lib.mapM_at h q q (by simp [hlq])
    rw [hq] at h2
    cases h2
    exact h3
  · cases h
theorem flatMap_pos {α : Type} {c : α → List Value} {z : Nat} : ∀ (L : List α) (hz : ∀ y ∈ L, (c y).length = z) (j : Nat) (v : Value), (L.flatMap c)[j]? = some v → ∃ i q y, j = i * z + q ∧ q < z ∧ L[i]? = some y ∧ (c y)[q]? = some v
  | [], hz, j, v, h => by simp at h
  | y :: L, hz, j, v, h => by
    rw [List.flatMap_cons] at h
    have hy := hz y (by simp)
    by_cases hj : j < z
    · rw [List.getElem?_append_left (by rw [hy]; exact hj)] at h
      exact ⟨0, j, y, by omega, hj, by simp, h⟩
    · rw [List.getElem?_append_right (by rw [hy]; omega), hy] at h
      obtain ⟨i, q, y', h1, h2, h3, h4⟩ := flatMap_pos L (fun y h => hz y (List.mem_cons_of_mem _ h)) (j - z) v h
      exact ⟨i + 1, q, y', by rw [Nat.add_mul]; omega, h2, by simpa using h3, h4⟩
section
variable {H : Type} {enc : TypeId × Value → H} {P : Program} {w : World}
abbrev bz (w : World) : Bt := ⟨fun _ => none, zW w⟩
theorem layF_le {P : Program} : ∀ {fs : List Field} {off tot : Nat}, layF P fs off tot = true → off ≤ tot
  | [], off, tot, h => by simp [layF] at h; omega
  | f :: fs, off, tot, h => by
    simp only [layF, Bool.and_eq_true] at h
    have := layF_le h.2
    omega
theorem open_fields {n : Nat} {cs : List Value} : ∀ (fs : List Field) (off : Nat), layF P fs off cs.length = true →
    (∀ f ∈ fs, ∃ us, DatF P n f.type us ∧ VRs (bz w) us ((cs.drop f.offset).take (P.cellsOf f.type)) ∧ ∀ c ∈ (cs.drop f.offset).take (P.cellsOf f.type), c.oneCell' = true) →
    ∃ us, VRs (bz w) us (cs.drop off) ∧ (∀ c ∈ cs.drop off, c.oneCell' = true) ∧ ∀ f ∈ fs, off ≤ f.offset ∧ DatF P n f.type ((us.drop (f.offset - off)).take (P.cellsOf f.type))
  | [], off, h, _ => by
    have h : off = cs.length := by simpa [layF] using h
    subst h
    exact ⟨[], by simpa using VRs.nil _, by simp, fun f hf => by cases hf⟩
  | f :: fs, off, h, hf => by
    simp only [layF, Bool.and_eq_true, beq_iff_eq] at h
    obtain ⟨h0, h1⟩ := h
    obtain ⟨us1, d1, v1, c1⟩ := hf f (by simp)
    rw [h0] at v1 c1
    obtain ⟨us2, v2, c2, h2⟩ := open_fields fs (off + P.cellsOf f.type) h1 fun g hg => hf g (List.mem_cons_of_mem _ hg)
    have hle := layF_le h1
    have e : cs.drop off = (cs.drop off).take (P.cellsOf f.type) ++ cs.drop (off + P.cellsOf f.type) := by
      rw [← List.drop_drop, List.take_append_drop]
    have hl : us1.length = P.cellsOf f.type := by rw [v1.1]; simp; omega
    refine ⟨us1 ++ us2, by rw [e]; exact v1.app v2, fun c hc => ?_, fun g hg => ?_⟩
    · rw [e, List.mem_append] at hc
      exact hc.elim (c1 c) (c2 c)
    · rcases List.mem_cons.1 hg with rfl | hg
      · rw [h0]
        refine ⟨Nat.le_refl _, ?_⟩
        rw [Nat.sub_self, List.drop_zero, ← hl, List.take_left]
        exact d1
      · obtain ⟨q1, q2⟩ := h2 g hg
        refine ⟨by omega, ?_⟩
        rw [List.drop_append, List.drop_eq_nil_of_le (by omega), List.nil_append, hl, show g.offset - off - P.cellsOf f.type = g.offset - (off + P.cellsOf f.type) by omega]
        exact q2
/-- What can be read as data is data, told by values that stay as they are. -/
theorem open_data {ts : List TypeId} (hts : okTys P ts = true) {base : Nat} {held : Bool} : ∀ (fuel : Nat) (t : TypeId) (cs : List Value) (x : DataW H × List MemPlace), t ∈ ts → DataW.trod enc P w base (fun _ => true) held fuel t cs = some x →
    ∃ us, DatF P fuel t us ∧ VRs (bz w) us cs ∧ ∀ c ∈ cs, c.oneCell' = true := by
  intro fuel
  induction fuel with
  | zero => intro t cs x _ h; simp [DataW.trod] at h
  | succ fuel ih =>
    intro t cs x ht h
    have hk := List.all_eq_true.1 hts t ht
    split at hk
    · rename_i hu
      obtain ⟨b, rfl, _⟩ := DataW.trod_bool hu h
      exact ⟨[.bool b], by unfold DatF; rw [hu]; exact ⟨b, rfl⟩, .cons (.of_flat _ rfl) (.nil _), fun c hc => by rw [List.mem_singleton] at hc; subst hc; rfl⟩
    · rename_i k hu
      obtain ⟨m, rfl, _, hw⟩ := DataW.trod_int hu h
      exact ⟨[.int k m], by unfold DatF; rw [hu]; exact ⟨m, rfl, hw⟩, .cons (.of_flat _ rfl) (.nil _), fun c hc => by rw [List.mem_singleton] at hc; subst hc; rfl⟩
    · rename_i hu
      obtain ⟨s, rfl, _, hw⟩ := DataW.trod_string hu h
      exact ⟨[.string s], by unfold DatF; rw [hu]; exact ⟨s, rfl, hw⟩, .cons (.of_flat _ rfl) (.nil _), fun c hc => by rw [List.mem_singleton] at hc; subst hc; rfl⟩
    · rename_i e hu
      simp only [Bool.and_eq_true, List.contains_iff_mem, decide_eq_true_eq] at hk
      obtain ⟨he, hz0⟩ := hk
      rcases DataW.trod_slice hu h with ⟨rfl, _⟩ | ⟨a, len, cap, elems, rest, n, hn, rfl, _, hb, hlc, hcm, hel, hall, hsp, _⟩
      · exact ⟨[imS []], by unfold DatF; rw [hu]; exact ⟨[], rfl, Nat.zero_le _, fun r hr => by cases hr⟩, .cons .imn (.nil _), fun c hc => by rw [List.mem_singleton] at hc; subst hc; rfl⟩
      · obtain rfl : n = fuel := by omega
        have hc1 : ∀ c ∈ [Value.slice (some a) len cap], c.oneCell' = true := fun c hc => by rw [List.mem_singleton] at hc; subst hc; rfl
        by_cases hcap : cap = 0
        · subst hcap
          obtain rfl : len = 0 := by omega
          exact ⟨[imS []], by unfold DatF; rw [hu]; exact ⟨[], rfl, Nat.zero_le _, fun r hr => by cases hr⟩, .cons (.imn _) (.nil _), hc1⟩
        · have hspot : a.spot = none := by
            have one : ∀ i, (∃ y, (w.cells? base (a.add (i * P.cellsOf e)) (P.cellsOf e)).bind (DataW.trod enc P w base (fun _ => true) held n e) = some y) → i = 0 → a.spot = none := by
              rintro i ⟨y, hy⟩ rfl
              obtain ⟨cs0, h1, _⟩ := Option.bind_eq_some_iff.1 hy
              obtain ⟨h2, h3⟩ := cells_at h1
              have h4 := h3 0 cs0[0] (List.getElem?_eq_getElem (by omega))
              have := spotOf_cell h4
              simpa [Addr.add] using this
            by_cases hl0 : len = 0
            · obtain ⟨q1, q2⟩ := hsp rfl
              have := q2 0 (by omega)
              exact one 0 ⟨rest[0], by rw [hl0] at this; simpa [List.getElem?_eq_getElem (show 0 < rest.length by omega)] using this⟩ rfl
            · have := hall 0 (by omega)
              exact one 0 ⟨elems[0], by simpa [List.getElem?_eq_getElem (show 0 < elems.length by omega)] using this⟩ rfl
          obtain ⟨r, off, sp⟩ := a
          simp only at hspot
          subst hspot
          have ex : ∀ i : Nat, ∃ y : List Value × List Value, i < len → w.cells? base ((⟨r, off, none⟩ : Addr).add (i * P.cellsOf e)) (P.cellsOf e) = some y.2 ∧ DatF P n e y.1 ∧ VRs (bz w) y.1 y.2 ∧ ∀ c ∈ y.2, c.oneCell' = true := fun i => by
            by_cases hi : i < len
            · have := hall i hi
              rw [List.getElem?_eq_getElem (by omega)] at this
              obtain ⟨cs', h1, h2⟩ := Option.bind_eq_some_iff.1 this
              obtain ⟨us', d1, v1, c1⟩ := ih e cs' _ he h2
              exact ⟨(us', cs'), fun _ => ⟨h1, d1, v1, c1⟩⟩
            · exact ⟨([], []), fun h => absurd h hi⟩
          obtain ⟨Y, hY⟩ := Classical.axiomOfChoice ex
          have hY2 : ∀ i ∈ List.range len, (Y i).2.length = P.cellsOf e := fun i hi => (cells_at (hY i (List.mem_range.1 hi)).1).1
          have hY1 : ∀ i ∈ List.range len, (Y i).1.length = P.cellsOf e := fun i hi => by rw [(hY i (List.mem_range.1 hi)).2.2.1.1]; exact hY2 i hi
          have hxs : cellsAll (((List.range len).map fun i => (Y i).1).map (packV P e)) = (List.range len).flatMap fun i => (Y i).1 := by
            rw [cellsAll, List.map_map, List.flatMap_map]
            rw [List.flatMap_def, List.flatMap_def]
            congr 1
            refine List.map_congr_left fun i hi => ?_
            exact cells_packV (hY i (List.mem_range.1 hi)).2.1
          have hfl : ∀ (f : Nat → List Value), (∀ i ∈ List.range len, (f i).length = P.cellsOf e) → ((List.range len).flatMap f).length = len * P.cellsOf e := fun f hf => by
            rw [List.length_flatMap, List.map_congr_left hf, List.map_const', List.sum_replicate_nat, List.length_range]
          refine ⟨[imS (((List.range len).map fun i => (Y i).1).map (packV P e))], by
            unfold DatF; rw [hu]
            refine ⟨_, rfl, by simp; omega, fun r hr => ?_⟩
            obtain ⟨i, hi, rfl⟩ := List.mem_map.1 hr
            exact ⟨hY1 i hi, (hY i (List.mem_range.1 hi)).2.1⟩, .cons ?_ (.nil _), hc1⟩
          have hlen : (((List.range len).map fun i => (Y i).1).map (packV P e)).length = len := by simp
          have hV := VR.ims (β := bz w) (((List.range len).map fun i => (Y i).1).map (packV P e)) ((List.range len).flatMap fun i => (Y i).2) (P.cellsOf e) r off cap (fun x hx => by
            obtain ⟨y, hy, rfl⟩ := List.mem_map.1 hx
            obtain ⟨i, hi, rfl⟩ := List.mem_map.1 hy
            rw [cells_packV (hY i (List.mem_range.1 hi)).2.1]
            exact hY1 i hi) (by rw [hlen]; exact hlc) (by rw [hxs, hfl _ hY1, hfl _ hY2]) (fun j v hj => by
            obtain ⟨i, q, y, rfl, hq, hi, hv⟩ := flatMap_pos _ hY2 j v hj
            have hil := (List.getElem?_eq_some_iff.1 hi).1
            simp only [List.length_range] at hil
            rw [List.getElem?_range hil] at hi
            cases hi
            have := (cells_at (hY i hil).1).2 q v hv
            rw [add_at, add_at] at this
            show w.cell? _ = _
            rw [← Nat.add_assoc]
            exact this) (fun j u v hju hjv => by
            rw [hxs] at hju
            obtain ⟨i, q, y, rfl, hq, hi, hv⟩ := flatMap_pos _ hY1 j u hju
            obtain ⟨i', q', y', e', hq', hi', hv'⟩ := flatMap_pos _ hY2 _ v hjv
            have hil := (List.getElem?_eq_some_iff.1 hi).1
            have hil' := (List.getElem?_eq_some_iff.1 hi').1
            simp only [List.length_range] at hil hil'
            rw [List.getElem?_range hil] at hi
            rw [List.getElem?_range hil'] at hi'
            cases hi
            cases hi'
            have ei : i = i' := by
              have h1 : (i * P.cellsOf e + q) / P.cellsOf e = i := by rw [Nat.mul_comm, Nat.mul_add_div hz0, Nat.div_eq_of_lt hq]; omega
              have h2 : (i' * P.cellsOf e + q') / P.cellsOf e = i' := by rw [Nat.mul_comm, Nat.mul_add_div hz0, Nat.div_eq_of_lt hq']; omega
              rw [← h1, e', h2]
            subst ei
            obtain rfl : q = q' := by omega
            exact (hY i hil).2.2.1.2 q u v hv hv') (fun v hv => by
            obtain ⟨i, hi, hv⟩ := List.mem_flatMap.1 hv
            exact (hY i (List.mem_range.1 hi)).2.2.2 v hv)
          rw [hlen] at hV
          exact hV
    · rename_i fs hu
      simp only [Bool.and_eq_true] at hk
      obtain ⟨hk1, hk2⟩ := hk
      obtain ⟨xs, n, hn, _, hlen, hxl, hf⟩ := DataW.trod_struct hu h
      obtain rfl : n = fuel := by omega
      rw [← hlen] at hk2
      obtain ⟨us, v1, c1, d1⟩ := open_fields (P := P) (w := w) (n := n) (cs := cs) fs.toList 0 hk2 fun f hm => by
        obtain ⟨i, hi, hfi⟩ := List.mem_iff_getElem.1 hm
        have hi' : i < fs.size := by simpa using hi
        have h1 := hf i f (by rw [Array.getElem?_eq_getElem hi']; rw [← hfi]; simp)
        rw [List.getElem?_eq_getElem (by omega)] at h1
        have hft := List.all_eq_true.1 hk1 f hm
        simp only [List.contains_iff_mem] at hft
        exact ih f.type _ _ hft h1
      rw [List.drop_zero] at v1 c1
      refine ⟨us, ?_, v1, c1⟩
      unfold DatF
      rw [hu]
      exact ⟨by rw [v1.1, hlen], fun f hm => by simpa using (d1 f hm).2⟩
    · cases hk
/-- A family of data, told by a list. -/
theorem all_map {α : Type} {p : α → Prop} {g : α → List Value} : ∀ (rows : List (List Value)), (∀ r ∈ rows, ∃ y, p y ∧ r = g y) → ∃ l : List α, (∀ y ∈ l, p y) ∧ rows = l.map g
  | [], _ => ⟨[], by simp, rfl⟩
  | r :: rows, h => by
    obtain ⟨y, hy, rfl⟩ := h r (by simp)
    obtain ⟨l, hl, rfl⟩ := all_map rows fun r hr => h r (List.mem_cons_of_mem _ hr)
    exact ⟨y :: l, fun z hz => by
      rcases List.mem_cons.1 hz with rfl | hz
      · exact hy
      · exact hl z hz, rfl⟩
end
end Go.Proofs.Ythekpmpcbidjiaa.U
