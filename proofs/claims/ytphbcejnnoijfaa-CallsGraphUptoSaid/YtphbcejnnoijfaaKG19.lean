import Derived.Deep.Slices
import Derived.Lib.LaidTab
import Derived.Test.YtphbcejnnoijfaaRows
import Derived.Test.YtphbcejnnoijfaaKG18
namespace Go.Proofs.Ytphbcejnnoijfaa.U
open Go Go.RowKit Go.Sort Go.ChangeShapes
set_option linter.unusedVariables false
set_option linter.unusedSimpArgs false
def packV (P : Program) (e : TypeId) (r : List Value) : Value :=
  match P.underlying e with
  | some (.struct _) => .agg ⟨r⟩
  | _ => r.headD (.bool false)
def layF (P : Program) : List Field → Nat → Nat → Bool
  | [], off, tot => off == tot
  | f :: fs, off, tot => f.offset == off && layF P fs (off + P.cellsOf f.type) tot
def okTys (P : Program) (ts : List TypeId) : Bool := ts.all fun t => match P.underlying t with
  | some .bool | some (.int _) | some .string => true
  | some (.slice e) => ts.contains e && decide (0 < P.cellsOf e)
  | some (.struct fs) => fs.toList.all (fun f => ts.contains f.type) && layF P fs.toList 0 (P.cellsOf t)
  | _ => false
def zW (w : World) : Nat → Nat → Option Value := fun r o => w.cell? ⟨r, o, none⟩
theorem spotOf_cell {w : World} {a : Addr} {v : Value} (h : w.cell? a = some v) : a.spot = none := by
  cases hsp : a.spot with
  | none => rfl
  | some s =>
    simp only [World.cell?] at h
    split at h
    · simp [hsp] at h
    · cases h
theorem cells_at {w : World} {base z : Nat} {a : Addr} {cs : List Value} (h : w.cells? base a z = some cs) : cs.length = z ∧ ∀ q v, cs[q]? = some v → w.cell? (a.add q) = some v := by
  unfold World.cells? at h
  split at h
  · have hl : cs.length = z := by simpa using Lib.mapM_length h
    refine ⟨hl, fun q v hq => ?_⟩
    have hlq := (List.getElem?_eq_some_iff.1 hq).1
    rw [hl] at hlq
    obtain ⟨v', h2, h3⟩ := Lib.mapM_at h q q (by simp [hlq])
    rw [hq] at h2
    cases h2
    exact h3
  · cases h
theorem flatMap_pos {α : Type} {c : α → List Value} {z : Nat} : ∀ (L : List α) (hz : ∀ y ∈ L, (c y).length = z) (j : Nat) (v : Value), (L.flatMap c)[j]? = some v → ∃ i q y, j = i * z + q ∧ q < z ∧ L[i]? = some y ∧ (c y)[q]? = some v
  | [], hz, j, v, h => by simp at h
  | y :: L, hz, j, v, h => by
    rw [List.flatMap_cons] at h
    have hy := hz y (by simp)
    by_cases hj : j < z
    · rw [List.getElem?_append_left (by rw [hy]; exact hj)] at h
      exact ⟨0, j, y, by omega, hj, by simp, h⟩
    · rw [List.getElem?_append_right (by rw [hy]; omega), hy] at h
      obtain ⟨i, q, y', h1, h2, h3, h4⟩ := flatMap_pos L (fun y h => hz y (List.mem_cons_of_mem _ h)) (j - z) v h
      exact ⟨i + 1, q, y', by rw [Nat.add_mul]; omega, h2, by simpa using h3, h4⟩
section
variable {H : Type} {enc : TypeId × Value → H} {P : Program} {w : World}
abbrev bz (w : World) : Bt := ⟨fun _ => none, zW w⟩
theorem layF_le {P : Program} : ∀ {fs : List Field} {off tot : Nat}, layF P fs off tot = true → off ≤ tot
  | [], off, tot, h => by simp [layF] at h; omega
  | f :: fs, off, tot, h => by
    simp only [layF, Bool.and_eq_true] at h
    have := layF_le h.2
    omega
end
def DatB (P : Program) : Nat → TypeId → List Value → Nat → Prop
  | 0, _, _, _ => False
  | n + 1, t, us, b => match P.underlying t with
    | some .bool => ∃ x, us = [.bool x]
    | some (.int k) => ∃ m, us = [.int k m] ∧ (Lit.int k m).wf = true
    | some .string => ∃ s : ByteArray, us = [.string s] ∧ s.size ≤ maxLen
    | some (.slice e) => ∃ rows : List (List Value × Nat), us = [imS ((rows.map (·.1)).map (packV P e))] ∧ rows.length ≤ maxLen ∧ (∀ r ∈ rows, r.1.length = P.cellsOf e ∧ DatB P n e r.1 r.2) ∧ (rows.map (·.2)).sum ≤ b
    | some (.struct fs) => us.length = P.cellsOf t ∧ ∃ L : List (Field × Nat), L.map (·.1) = fs.toList ∧ (∀ q ∈ L, 1 ≤ q.2 ∧ DatB P n q.1.type ((us.drop q.1.offset).take (P.cellsOf q.1.type)) q.2) ∧ 1 + (L.map (·.2)).sum ≤ b
    | _ => False
theorem cells_packB {P : Program} {n : Nat} {e : TypeId} {r : List Value} {b : Nat} (h : DatB P n e r b) : cellsOf (packV P e r) = r := by
  cases n with
  | zero => exact h.elim
  | succ n =>
    unfold DatB at h
    unfold packV
    split at h
    · rename_i ht; rw [ht]; obtain ⟨b, rfl⟩ := h; rfl
    · rename_i ht; rw [ht]; obtain ⟨m, rfl, _⟩ := h; rfl
    · rename_i ht; rw [ht]; obtain ⟨m, rfl, _⟩ := h; rfl
    · rename_i ht; rw [ht]; obtain ⟨m, rfl, _⟩ := h; rfl
    · rename_i ht; rw [ht]; rfl
    · exact h.elim
theorem bulkAll {H : Type} : ∀ l : List (DataW H), Rows.uptoBulkAll l = (l.map Rows.uptoBulk).sum
  | [] => rfl
  | d :: l => by rw [Rows.uptoBulkAll, bulkAll l, List.map_cons, List.sum_cons]
theorem bulk_pos {H : Type} (d : DataW H) : 1 ≤ Rows.uptoBulk d := by
  cases d with
  | lit l => cases l <;> simp [Rows.uptoBulk]
  | nil => simp [Rows.uptoBulk]
  | ptr d => simp [Rows.uptoBulk]
  | slice elems spare => simp [Rows.uptoBulk]
  | agg parts => simp [Rows.uptoBulk]
  | iface t d => simp [Rows.uptoBulk]
  | map entries => simp [Rows.uptoBulk]
  | held h => simp [Rows.uptoBulk]
section
variable {H : Type} {enc : TypeId × Value → H} {P : Program} {w : World}
theorem open_fieldsB {n : Nat} {cs : List Value} : ∀ (fs : List (Field × Nat)) (off : Nat), layF P (fs.map (·.1)) off cs.length = true →
    (∀ f ∈ fs, ∃ us, DatB P n f.1.type us f.2 ∧ VRs (bz w) us ((cs.drop f.1.offset).take (P.cellsOf f.1.type)) ∧ ∀ c ∈ (cs.drop f.1.offset).take (P.cellsOf f.1.type), c.oneCell' = true) →
    ∃ us, VRs (bz w) us (cs.drop off) ∧ (∀ c ∈ cs.drop off, c.oneCell' = true) ∧ ∀ f ∈ fs, off ≤ f.1.offset ∧ DatB P n f.1.type ((us.drop (f.1.offset - off)).take (P.cellsOf f.1.type)) f.2
  | [], off, h, _ => by
    have h : off = cs.length := by simpa [layF] using h
    subst h
    exact ⟨[], by simpa using VRs.nil _, by simp, fun f hf => by cases hf⟩
  | f :: fs, off, h, hf => by
    simp only [List.map_cons, layF, Bool.and_eq_true, beq_iff_eq] at h
    obtain ⟨h0, h1⟩ := h
    obtain ⟨us1, d1, v1, c1⟩ := hf f (by simp)
    rw [h0] at v1 c1
    obtain ⟨us2, v2, c2, h2⟩ := open_fieldsB fs (off + P.cellsOf f.1.type) h1 fun g hg => hf g (List.mem_cons_of_mem _ hg)
    have hle := layF_le h1
    have e : cs.drop off = (cs.drop off).take (P.cellsOf f.1.type) ++ cs.drop (off + P.cellsOf f.1.type) := by
      rw [← List.drop_drop, List.take_append_drop]
    have hl : us1.length = P.cellsOf f.1.type := by rw [v1.1]; simp; omega
    refine ⟨us1 ++ us2, by rw [e]; exact v1.app v2, fun c hc => ?_, fun g hg => ?_⟩
    · rw [e, List.mem_append] at hc
      exact hc.elim (c1 c) (c2 c)
    · rcases List.mem_cons.1 hg with rfl | hg
      · rw [h0]
        refine ⟨Nat.le_refl _, ?_⟩
        rw [Nat.sub_self, List.drop_zero, ← hl, List.take_left]
        exact d1
      · obtain ⟨q1, q2⟩ := h2 g hg
        refine ⟨by omega, ?_⟩
        rw [List.drop_append, List.drop_eq_nil_of_le (by omega), List.nil_append, hl, show g.1.offset - off - P.cellsOf f.1.type = g.1.offset - (off + P.cellsOf f.1.type) by omega]
        exact q2
theorem open_dataB {ts : List TypeId} (hts : okTys P ts = true) {base : Nat} {held : Bool} : ∀ (fuel : Nat) (t : TypeId) (cs : List Value) (x : DataW H × List MemPlace), t ∈ ts → DataW.trod enc P w base (fun _ => true) held fuel t cs = some x →
    ∃ us, DatB P fuel t us (Rows.uptoBulk x.1) ∧ VRs (bz w) us cs ∧ ∀ c ∈ cs, c.oneCell' = true := by
  intro fuel
  induction fuel with
  | zero => intro t cs x _ h; simp [DataW.trod] at h
  | succ fuel ih =>
    intro t cs x ht h
    have hk := List.all_eq_true.1 hts t ht
    split at hk
    · rename_i hu
      obtain ⟨b, rfl, rfl⟩ := DataW.trod_bool hu h
      exact ⟨[.bool b], by unfold DatB; rw [hu]; exact ⟨b, rfl⟩, .cons (.of_flat _ rfl) (.nil _), fun c hc => by rw [List.mem_singleton] at hc; subst hc; rfl⟩
    · rename_i k hu
      obtain ⟨m, rfl, rfl, hw⟩ := DataW.trod_int hu h
      exact ⟨[.int k m], by unfold DatB; rw [hu]; exact ⟨m, rfl, hw⟩, .cons (.of_flat _ rfl) (.nil _), fun c hc => by rw [List.mem_singleton] at hc; subst hc; rfl⟩
    · rename_i hu
      obtain ⟨s, rfl, rfl, hw⟩ := DataW.trod_string hu h
      exact ⟨[.string s], by unfold DatB; rw [hu]; exact ⟨s, rfl, hw⟩, .cons (.of_flat _ rfl) (.nil _), fun c hc => by rw [List.mem_singleton] at hc; subst hc; rfl⟩
    · rename_i e hu
      simp only [Bool.and_eq_true, List.contains_iff_mem, decide_eq_true_eq] at hk
      obtain ⟨he, hz0⟩ := hk
      rcases DataW.trod_slice hu h with ⟨rfl, rfl⟩ | ⟨a, len, cap, elems, rest, n, hn, rfl, rfl, hb, hlc, hcm, hel, hall, hsp, _⟩
      · exact ⟨[imS []], by unfold DatB; rw [hu]; exact ⟨[], rfl, Nat.zero_le _, (fun r hr => by cases hr), Nat.zero_le _⟩, .cons .imn (.nil _), fun c hc => by rw [List.mem_singleton] at hc; subst hc; rfl⟩
      · obtain rfl : n = fuel := by omega
        have hc1 : ∀ c ∈ [Value.slice (some a) len cap], c.oneCell' = true := fun c hc => by rw [List.mem_singleton] at hc; subst hc; rfl
        by_cases hcap : cap = 0
        · subst hcap
          obtain rfl : len = 0 := by omega
          exact ⟨[imS []], by unfold DatB; rw [hu]; exact ⟨[], rfl, Nat.zero_le _, (fun r hr => by cases hr), Nat.zero_le _⟩, .cons (.imn _) (.nil _), hc1⟩
        · have hspot : a.spot = none := by
            have one : ∀ i, (∃ y, (w.cells? base (a.add (i * P.cellsOf e)) (P.cellsOf e)).bind (DataW.trod enc P w base (fun _ => true) held n e) = some y) → i = 0 → a.spot = none := by
              rintro i ⟨y, hy⟩ rfl
              obtain ⟨cs0, h1, _⟩ := Option.bind_eq_some_iff.1 hy
              obtain ⟨h2, h3⟩ := cells_at h1
              have h4 := h3 0 cs0[0] (List.getElem?_eq_getElem (by omega))
              have := spotOf_cell h4
              simpa [Addr.add] using this
            by_cases hl0 : len = 0
            · obtain ⟨q1, q2⟩ := hsp rfl
              have := q2 0 (by omega)
              exact one 0 ⟨rest[0], by rw [hl0] at this; simpa [List.getElem?_eq_getElem (show 0 < rest.length by omega)] using this⟩ rfl
            · have := hall 0 (by omega)
              exact one 0 ⟨elems[0], by simpa [List.getElem?_eq_getElem (show 0 < elems.length by omega)] using this⟩ rfl
          obtain ⟨r, off, sp⟩ := a
          simp only at hspot
          subst hspot
          have ex : ∀ i : Nat, ∃ y : List Value × List Value, i < len → w.cells? base ((⟨r, off, none⟩ : Addr).add (i * P.cellsOf e)) (P.cellsOf e) = some y.2 ∧ DatB P n e y.1 ((elems[i]?.map fun d => Rows.uptoBulk d.1).getD 0) ∧ VRs (bz w) y.1 y.2 ∧ ∀ c ∈ y.2, c.oneCell' = true := fun i => by
            by_cases hi : i < len
            · have := hall i hi
              rw [List.getElem?_eq_getElem (by omega)] at this
              obtain ⟨cs', h1, h2⟩ := Option.bind_eq_some_iff.1 this
              obtain ⟨us', d1, v1, c1⟩ := ih e cs' _ he h2
              exact ⟨(us', cs'), fun _ => ⟨h1, by rw [List.getElem?_eq_getElem (show i < elems.length by omega)]; exact d1, v1, c1⟩⟩
            · exact ⟨([], []), fun h => absurd h hi⟩
          obtain ⟨Y, hY⟩ := Classical.axiomOfChoice ex
          have hY2 : ∀ i ∈ List.range len, (Y i).2.length = P.cellsOf e := fun i hi => (cells_at (hY i (List.mem_range.1 hi)).1).1
          have hY1 : ∀ i ∈ List.range len, (Y i).1.length = P.cellsOf e := fun i hi => by rw [(hY i (List.mem_range.1 hi)).2.2.1.1]; exact hY2 i hi
          have hxs : cellsAll (((List.range len).map fun i => (Y i).1).map (packV P e)) = (List.range len).flatMap fun i => (Y i).1 := by
            rw [cellsAll, List.map_map, List.flatMap_map]
            rw [List.flatMap_def, List.flatMap_def]
            congr 1
            refine List.map_congr_left fun i hi => ?_
            exact cells_packB (hY i (List.mem_range.1 hi)).2.1
          have hfl : ∀ (f : Nat → List Value), (∀ i ∈ List.range len, (f i).length = P.cellsOf e) → ((List.range len).flatMap f).length = len * P.cellsOf e := fun f hf => by
            rw [List.length_flatMap, List.map_congr_left hf, List.map_const', List.sum_replicate_nat, List.length_range]
          refine ⟨[imS (((List.range len).map fun i => (Y i).1).map (packV P e))], by
            unfold DatB; rw [hu]
            refine ⟨(List.range len).map fun i => ((Y i).1, (elems[i]?.map fun d => Rows.uptoBulk d.1).getD 0), by rw [List.map_map, List.map_map, List.map_map]; rfl, by simp; omega, fun r hr => ?_, ?_⟩
            · obtain ⟨i, hi, rfl⟩ := List.mem_map.1 hr
              exact ⟨hY1 i hi, (hY i (List.mem_range.1 hi)).2.1⟩
            · have e1 : (((List.range len).map fun i => ((Y i).1, (elems[i]?.map fun d => Rows.uptoBulk d.1).getD 0)).map (·.2)) = (elems.map (·.1)).map Rows.uptoBulk := by
                rw [List.map_map, List.map_map]
                refine List.ext_getElem (by simp [hel]) fun i h1 h2 => ?_
                have hi : i < elems.length := by simpa using h2
                simp [List.getElem?_eq_getElem hi]
              rw [e1]
              show _ ≤ Rows.uptoBulk (.slice (elems.map (·.1)) (rest.map (·.1)))
              rw [Rows.uptoBulk, bulkAll]
              omega, .cons ?_ (.nil _), hc1⟩
          have hlen : (((List.range len).map fun i => (Y i).1).map (packV P e)).length = len := by simp
          have hV := VR.ims (β := bz w) (((List.range len).map fun i => (Y i).1).map (packV P e)) ((List.range len).flatMap fun i => (Y i).2) (P.cellsOf e) r off cap (fun x hx => by
            obtain ⟨y, hy, rfl⟩ := List.mem_map.1 hx
            obtain ⟨i, hi, rfl⟩ := List.mem_map.1 hy
            rw [cells_packB (hY i (List.mem_range.1 hi)).2.1]
            exact hY1 i hi) (by rw [hlen]; exact hlc) (by rw [hxs, hfl _ hY1, hfl _ hY2]) (fun j v hj => by
            obtain ⟨i, q, y, rfl, hq, hi, hv⟩ := flatMap_pos _ hY2 j v hj
            have hil := (List.getElem?_eq_some_iff.1 hi).1
            simp only [List.length_range] at hil
            rw [List.getElem?_range hil] at hi
            cases hi
            have := (cells_at (hY i hil).1).2 q v hv
            rw [add_at, add_at] at this
            show w.cell? _ = _
            rw [← Nat.add_assoc]
            exact this) (fun j u v hju hjv => by
            rw [hxs] at hju
            obtain ⟨i, q, y, rfl, hq, hi, hv⟩ := flatMap_pos _ hY1 j u hju
            obtain ⟨i', q', y', e', hq', hi', hv'⟩ := flatMap_pos _ hY2 _ v hjv
            have hil := (List.getElem?_eq_some_iff.1 hi).1
            have hil' := (List.getElem?_eq_some_iff.1 hi').1
            simp only [List.length_range] at hil hil'
            rw [List.getElem?_range hil] at hi
            rw [List.getElem?_range hil'] at hi'
            cases hi
            cases hi'
            have ei : i = i' := by
              have h1 : (i * P.cellsOf e + q) / P.cellsOf e = i := by rw [Nat.mul_comm, Nat.mul_add_div hz0, Nat.div_eq_of_lt hq]; omega
              have h2 : (i' * P.cellsOf e + q') / P.cellsOf e = i' := by rw [Nat.mul_comm, Nat.mul_add_div hz0, Nat.div_eq_of_lt hq']; omega
              rw [← h1, e', h2]
            subst ei
            obtain rfl : q = q' := by omega
            exact (hY i hil).2.2.1.2 q u v hv hv') (fun v hv => by
            obtain ⟨i, hi, hv⟩ := List.mem_flatMap.1 hv
            exact (hY i (List.mem_range.1 hi)).2.2.2 v hv)
          rw [hlen] at hV
          exact hV
    · rename_i fs hu
      simp only [Bool.and_eq_true] at hk
      obtain ⟨hk1, hk2⟩ := hk
      obtain ⟨xs, n, hn, rfl, hlen, hxl, hf⟩ := DataW.trod_struct hu h
      obtain rfl : n = fuel := by omega
      rw [← hlen] at hk2
      have hzl : fs.toList.length = (xs.map fun y => Rows.uptoBulk y.1).length := by simp [hxl]
      have hz1 : (fs.toList.zip (xs.map fun y => Rows.uptoBulk y.1)).map (·.1) = fs.toList := List.map_fst_zip (by omega)
      have hz2 : (fs.toList.zip (xs.map fun y => Rows.uptoBulk y.1)).map (·.2) = xs.map fun y => Rows.uptoBulk y.1 := List.map_snd_zip (by omega)
      obtain ⟨us, v1, c1, d1⟩ := open_fieldsB (P := P) (w := w) (n := n) (cs := cs) (fs.toList.zip (xs.map fun y => Rows.uptoBulk y.1)) 0 (by rw [hz1]; exact hk2) fun q hm => by
        obtain ⟨i, hi, hfi⟩ := List.mem_iff_getElem.1 hm
        have hi0 : i < fs.toList.length := by simp at hi ⊢; omega
        have hi' : i < fs.size := by simpa using hi0
        have hix : i < xs.length := by omega
        rw [List.getElem_zip] at hfi
        subst hfi
        have h1 := hf i fs.toList[i] (by rw [Array.getElem?_eq_getElem hi']; simp)
        rw [List.getElem?_eq_getElem hix] at h1
        have hft := List.all_eq_true.1 hk1 fs.toList[i] (List.getElem_mem hi0)
        simp only [List.contains_iff_mem] at hft
        obtain ⟨us, e1, e2⟩ := ih fs.toList[i].type _ _ hft h1
        exact ⟨us, by simpa using e1, e2⟩
      rw [List.drop_zero] at v1 c1
      refine ⟨us, ?_, v1, c1⟩
      unfold DatB
      rw [hu]
      refine ⟨by rw [v1.1, hlen], _, hz1, fun f hm => ⟨?_, by simpa using (d1 f hm).2⟩, ?_⟩
      · obtain ⟨y, _, hy⟩ := List.mem_map.1 (hz2 ▸ List.mem_map_of_mem (f := Prod.snd) hm)
        rw [← hy]
        exact bulk_pos _
      rw [hz2]
      show _ ≤ Rows.uptoBulk (.agg (xs.map (·.1)))
      rw [Rows.uptoBulk, bulkAll, List.map_map]
      exact Nat.le_of_eq (Nat.add_comm _ _)
    · cases hk
theorem all_mapB {α : Type} {p : α → Prop} {sz : α → Nat} {g : α → List Value} : ∀ (rows : List (List Value × Nat)), (∀ r ∈ rows, ∃ y, (p y ∧ sz y ≤ r.2) ∧ r.1 = g y) → ∃ l : List α, (∀ y ∈ l, p y) ∧ rows.map (·.1) = l.map g ∧ (l.map sz).sum ≤ (rows.map (·.2)).sum
  | [], _ => ⟨[], by simp, rfl, Nat.le_refl _⟩
  | r :: rows, h => by
    obtain ⟨y, ⟨hy, h1⟩, h2⟩ := h r (by simp)
    obtain ⟨l, hl, h3, h4⟩ := all_mapB rows fun r hr => h r (List.mem_cons_of_mem _ hr)
    refine ⟨y :: l, fun z hz => ?_, by rw [List.map_cons, List.map_cons, h2, h3], by rw [List.map_cons, List.map_cons, List.sum_cons, List.sum_cons]; omega⟩
    rcases List.mem_cons.1 hz with rfl | hz
    · exact hy
    · exact hl z hz
end
end Go.Proofs.Ytphbcejnnoijfaa.U
