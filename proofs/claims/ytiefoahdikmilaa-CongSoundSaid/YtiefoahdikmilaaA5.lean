/- What the evaluation says of the operations of a region whose order is fixed holds of them. No condition. -/
import Derived.Test.YtiefoahdikmilaaA4
namespace Go.Proofs.Ytiefoahdikmilaa
open Go Go.RowKit Go.Sort
set_option linter.unusedVariables false
set_option linter.unusedSimpArgs false

variable {P : Program} {F : Facts} {ids : List Nat} {fr : List AV} {own : List (List AV)} {a : Act} {o : Oper} {w0 w : World}

/-- What is known when the call has come here. -/
structure Holds (w0 : World) (F : Facts) (ids : List Nat) (fr : List AV) (own : List (List AV)) (a : Act) (w : World) : Prop where
  mem : Mem F ids own w
  fr : FrIs ids fr a.tmps
  dfr : a.defers = []
  nodup : ids.Nodup
  ge : ∀ b ∈ ids, w0.heap.size ≤ b
  dis : ∀ (b o : Nat) (x : Value), F b o = some x → b ∉ ids
  below : Below w0.heap.size w0 w

theorem Holds.put {x : AV} {u : Value} (h : Holds w0 F ids fr own a w) (hx : x.Is ids u) (d : Option Tmp) : Holds w0 F ids (putL d fr x) own (a.put d u) w :=
  ⟨h.mem, h.fr.put hx d, (by cases d <;> exact h.dfr), h.nodup, h.ge, h.dis, h.below⟩
theorem Holds.later {w' : World} (h : Holds w0 F ids fr own a w) (hb : Below w.heap.size w w') : Holds w0 F ids fr own a w' :=
  ⟨h.mem.below hb, h.fr, h.dfr, h.nodup, h.ge, h.dis, h.below.trans (hb.mono h.below.size)⟩
theorem Holds.fr' {fr' : List AV} (h : Holds w0 F ids fr own a w) (hf : FrIs ids fr' a.tmps) : Holds w0 F ids fr' own a w :=
  ⟨h.mem, hf, h.dfr, h.nodup, h.ge, h.dis, h.below⟩
theorem Mem.ids_lt (h : Mem F ids own w) {b : Nat} (hb : b ∈ ids) : b < w.heap.size := by
  obtain ⟨k, hk, rfl⟩ := List.getElem_of_mem hb
  obtain ⟨b', xs, T, h1, h2, _⟩ := h.blk k _ (List.getElem?_eq_getElem (by rw [← h.len]; exact hk))
  rw [List.getElem?_eq_getElem hk] at h1
  cases h1
  exact heap_lt h2
theorem isv_cells (ids : List Nat) (cells : List Value) : FrIs ids (cells.map AV.v) cells.toArray :=
  ⟨by simp, fun i x hx => by
    simp only [List.getElem?_map, Option.map_eq_some_iff] at hx
    obtain ⟨u, hu, rfl⟩ := hx
    exact ⟨u, by simpa using hu, rfl⟩⟩

/-- A block that has been laid anew. -/
theorem Mem.new (h : Mem F ids own w) {b : Nat} {cells : List AV} {xs : Array Value} {T : TypeId} (hb : w.heap[b]? = some (.cells xs T (0, 0))) (hc : FrIs (ids ++ [b]) cells xs) : Mem F (ids ++ [b]) (own ++ [cells]) w := by
  refine ⟨by simp [h.len], fun k c hk => ?_, h.sat⟩
  by_cases hlt : k < own.length
  · rw [List.getElem?_append_left hlt] at hk
    obtain ⟨b', xs', T', h1, h2, h3⟩ := h.blk k c hk
    exact ⟨b', xs', T', by rw [List.getElem?_append_left (by rw [h.len]; exact hlt)]; exact h1, h2, h3.grow _⟩
  · have hk2 : k = own.length := by
      have := (List.getElem?_eq_some_iff.1 hk).1
      simp at this
      omega
    subst hk2
    simp at hk
    subst hk
    exact ⟨b, xs, T, by rw [← h.len]; simp, hb, hc⟩
theorem Holds.new (h : Holds w0 F ids fr own a w) {b : Nat} {cells : List Value} {T : TypeId} (d : Option Tmp) (hb : w.heap[b]? = some (.cells cells.toArray T (0, 0))) (hge : w0.heap.size ≤ b) (hni : b ∉ ids) (hnf : ∀ (o : Nat) (x : Value), F b o ≠ some x) :
    Holds w0 F (ids ++ [b]) (putL d fr (.p own.length 0)) (own ++ [cells.map AV.v]) (a.put d (.pointer (some ⟨b, 0, none⟩))) w := by
  have hp : (AV.p own.length 0).Is (ids ++ [b]) (.pointer (some ⟨b, 0, none⟩)) := ⟨b, by rw [← h.mem.len]; simp, rfl⟩
  refine ⟨h.mem.new hb (isv_cells _ _), (h.fr.grow [b]).put hp d, (by cases d <;> exact h.dfr), ?_, ?_, ?_, h.below⟩
  · rw [List.nodup_append]
    refine ⟨h.nodup, by simp, fun x hx y hy => ?_⟩
    simp at hy
    subst hy
    exact fun e => hni (e ▸ hx)
  · intro x hx
    rcases List.mem_append.1 hx with hx | hx
    · exact h.ge x hx
    · simp at hx; subst hx; exact hge
  · intro x o y hF hx
    rcases List.mem_append.1 hx with hx | hx
    · exact h.dis x o y hF hx
    · simp at hx; subst hx; exact hnf o y hF
theorem Sat.lt (h : Sat F w) {b o : Nat} {x : Value} (hx : F b o = some x) : b < w.heap.size := block_lt_of_cell (h b o x hx)
theorem Holds.alloc (h : Holds w0 F ids fr own a w) (cells : List Value) (T : TypeId) (d : Option Tmp) :
    Holds w0 F (ids ++ [w.heap.size]) (putL d fr (.p own.length 0)) (own ++ [cells.map AV.v]) (a.put d (.pointer (some ⟨w.heap.size, 0, none⟩))) (w.alloc (.cells cells.toArray T)) := by
  have hb : Below w.heap.size w (w.alloc (.cells cells.toArray T)) := (Below.refl _ _).alloc (Nat.le_refl _) _
  exact (h.later hb).new d (heap_new _ _) h.below.size (fun hm => Nat.lt_irrefl _ (h.mem.ids_lt hm)) (fun o x hx => Nat.lt_irrefl _ (h.mem.sat.lt hx))

theorem newK_eq (d : Option Tmp) (cells : List Value) (K : List AV → List (List AV) → Prop) : newK d fr own cells K = K (putL d fr (.p own.length 0)) (own ++ [cells.map AV.v]) := by
  simp [newK, mapvK_eq, lenK_eq, appK_eq, putK_eq]

def storeL : List AV → Nat → List AV → List AV
  | cells, _, [] => cells
  | cells, off, x :: l => storeL (cells.set off x) (off + 1) l
theorem storeK_eq : ∀ (l cells : List AV) (off : Nat) (K : List AV → Prop), storeK cells off l K = K (storeL cells off l)
  | [], cells, off, K => rfl
  | x :: l, cells, off, K => by simp [storeK, storeL, setK_eq, storeK_eq l]
theorem storeL_len : ∀ (l cells : List AV) (off : Nat), (storeL cells off l).length = cells.length
  | [], cells, off => rfl
  | x :: l, cells, off => by simp [storeL, storeL_len l]
theorem storeL_at : ∀ (l cells : List AV) (off j : Nat), off + l.length ≤ cells.length → (storeL cells off l)[j]? = if off ≤ j ∧ j < off + l.length then l[j - off]? else cells[j]?
  | [], cells, off, j, h => by simp [storeL]; intro h1 h2; omega
  | x :: l, cells, off, j, h => by
    simp only [List.length_cons] at h
    rw [storeL, storeL_at l _ _ _ (by simp; omega)]
    by_cases hj : j = off
    · subst hj
      rw [if_neg (by omega), if_pos (by simp)]
      have : j < cells.length := by omega
      simp [this]
    · by_cases h2 : off ≤ j ∧ j < off + (l.length + 1)
      · rw [if_pos (by omega), if_pos (by simpa using h2)]
        obtain ⟨k, rfl⟩ : ∃ k, j = off + 1 + k := ⟨j - off - 1, by omega⟩
        rw [show off + 1 + k - (off + 1) = k by omega, show off + 1 + k - off = k + 1 by omega]
        simp
      · rw [if_neg (by omega), if_neg (by simpa using h2), List.getElem?_set_ne (by omega)]

theorem FrIs.store {cells xs : List AV} {cur : Array Value} {vs : List Value} {off : Nat} (h : FrIs ids cells cur) (hx : FrIs ids xs vs.toArray) (hl : off + xs.length ≤ cells.length) :
    FrIs ids (storeL cells off xs) (cur.toList.take off ++ vs ++ cur.toList.drop (off + vs.length)).toArray := by
  have hlen := h.len
  have hxl : xs.length = vs.length := by simpa using hx.len
  refine ⟨by rw [storeL_len]; simp; omega, fun j x hj => ?_⟩
  rw [storeL_at _ _ _ _ hl] at hj
  have e1 : (cur.toList.take off).length = off := by simp; omega
  by_cases hr : off ≤ j ∧ j < off + xs.length
  · rw [if_pos hr] at hj
    obtain ⟨u, h1, h2⟩ := hx.at_ _ x hj
    refine ⟨u, ?_, h2⟩
    simp only [List.getElem?_toArray] at h1 ⊢
    rw [List.append_assoc, List.getElem?_append_right (by omega), e1, List.getElem?_append_left (by omega)]
    exact h1
  · rw [if_neg hr] at hj
    obtain ⟨u, h1, h2⟩ := h.at_ _ x hj
    refine ⟨u, ?_, h2⟩
    simp only [List.getElem?_toArray]
    by_cases hlt : j < off
    · rw [List.append_assoc, List.getElem?_append_left (by omega), List.getElem?_take_of_lt hlt]
      simpa using h1
    · rw [List.getElem?_append_right (by simp; omega), List.getElem?_drop]
      simp only [List.length_append, e1]
      rw [show off + vs.length + (j - (off + vs.length)) = j by omega]
      simpa using h1

theorem Holds.store {k off : Nat} {cells xs : List AV} {vs : List Value} {t : TypeId} {i : TypeInfo} {v : Value} (h : Holds w0 F ids fr own a w) {b : Nat} (hk : own[k]? = some cells) (hb : ids[k]? = some b) (hx : FrIs ids xs vs.toArray) (hl : off + xs.length ≤ cells.length)
    (hv : v.cells = vs.toArray) (hi : P.info? t = some i) (hz : vs.length = i.size) (h1 : ∀ v ∈ vs, v.oneCell' = true) :
    ∃ w', (storeVar t ⟨b, off, none⟩ v).run P w = .ok () w' ∧ Holds w0 F ids fr (own.set k (storeL cells off xs)) a w' := by
  obtain ⟨b', cur, T, q1, q2, q3⟩ := h.mem.blk k cells hk
  obtain rfl : b' = b := Option.some.inj (q1.symm.trans hb)
  have hlen := q3.len
  have hxl : xs.length = vs.length := by simpa using hx.len
  have hrun := run_storeCells_at P b' off T vs 0 cur w q2 (by omega) h1
  simp only [Nat.add_zero] at hrun
  have hlt : b' ∈ ids := List.mem_of_getElem? hb
  refine ⟨w.setRow b' (cur.toList.take off ++ vs ++ cur.toList.drop (off + vs.length)).toArray, ?_, ?_⟩
  · simp [storeVar, sizeOf, typeInfo, hi, hv, hz, hrun]
  · refine ⟨⟨by rw [List.length_set]; exact h.mem.len, fun k' c hc => ?_, fun x o y hF => ?_⟩, h.fr, h.dfr, h.nodup, h.ge, h.dis, below_setRow h.below (h.ge _ hlt) _⟩
    · by_cases hkk : k = k'
      · subst hkk
        have hkl : k < own.length := (List.getElem?_eq_some_iff.1 hk).1
        rw [List.getElem?_set_self hkl] at hc
        cases hc
        exact ⟨b', _, T, hb, setRow_heap w b' cur _ T _ q2, q3.store hx hl⟩
      · rw [List.getElem?_set_ne hkk] at hc
        obtain ⟨b2, xs2, T2, r1, r2, r3⟩ := h.mem.blk k' c hc
        have hne : b2 ≠ b' := fun e => hkk (by
          subst e
          have hkl := (List.getElem?_eq_some_iff.1 hb)
          have hkl' := (List.getElem?_eq_some_iff.1 r1)
          obtain ⟨p1, p2⟩ := hkl
          obtain ⟨p1', p2'⟩ := hkl'
          exact (List.getElem_inj h.nodup).1 (p2.trans p2'.symm))
        exact ⟨b2, xs2, T2, r1, by rw [setRow_other _ _ _ _ hne]; exact r2, r3⟩
    · rw [cell_setRow_other _ _ _ _ (fun e => h.dis x o y hF (by have : x = b' := e; rw [this]; exact hlt))]
      exact h.mem.sat x o y hF

theorem calm_step {next : Act → World → Prop} {Q : Exit → Act → World → Prop} {u : Value} (h : calmAt P o a w u) (hn : ∀ w', Below w.heap.size w w' → next (a.put o.dst u) w') : o.wp P a w next Q := by
  unfold calmAt at h
  unfold Oper.wp
  generalize (execOp a.eval o).run P w = r at *
  cases r with
  | ok n w' =>
    cases n <;> simp only [calmUpon] at h <;> simp only [Oper.upon]
    case value v =>
      obtain ⟨rfl, rfl⟩ := h
      exact hn _ (Below.refl _ _)
    case skip =>
      obtain ⟨rfl, rfl⟩ := h
      exact hn _ (Below.refl _ _)
    case enter f args =>
      obtain ⟨rfl, hc⟩ := h
      exact hc.mono fun e w'' ⟨he, hw''⟩ => by subst he; exact hn _ hw''
  | halt x w' => simp only [calmUpon] at h

theorem ValS.step {K : AV → Prop} {next : Act → World → Prop} {Q : Exit → Act → World → Prop} (h : ValS P F own fr o K) (hH : Holds w0 F ids fr own a w)
    (hn : ∀ x u w', K x → Holds w0 F ids (putL o.dst fr x) own (a.put o.dst u) w' → next (a.put o.dst u) w') : o.wp P a w next Q := by
  obtain ⟨x, hK, hy⟩ := h
  obtain ⟨u, hu, hc⟩ := hy ids a w hH.fr hH.mem
  exact calm_step (hc w hH.mem) fun w' hb => hn x u w' hK ((hH.put hu o.dst).later hb)

theorem opK_sound {K : List AV → List (List AV) → Prop} {next : Act → World → Prop} {Q : Exit → Act → World → Prop} (h : opK P F o fr own K) (hH : Holds w0 F ids fr own a w)
    (hn : ∀ ids' fr' own' a' w', Holds w0 F ids' fr' own' a' w' → K fr' own' → next a' w') : o.wp P a w next Q := by
  unfold opK at h
  split at h
  · -- alloc
    rename_i t ho
    split at h
    · rename_i cells hc
      rw [newK_eq] at h
      unfold newCells at hc
      split at hc
      · rename_i i hi
        split at hc
        · rename_i z hz
          cases hc
          have hrun : (execOp a.eval o).run P w = .ok (.value (.pointer (some ⟨w.heap.size, 0, none⟩))) (w.alloc (.cells z.cells.toList.toArray t)) := by
            simp [execOp, ho, Instr.alloc, zeroValue, typeInfo, hi, hz, newVar, newRow]
          unfold Oper.wp
          rw [hrun]
          exact hn _ _ _ _ _ (hH.alloc z.cells.toList t o.dst) h
        · cases hc
      · cases hc
    · exact h.elim
  · -- box
    rename_i t x ho
    have hrun : ∀ u, a.eval x = u → (execOp a.eval o).run P w = .ok (.value (.pointer (some ⟨w.heap.size, 0, none⟩))) (w.alloc (.cells u.cells.toList.toArray t)) := fun u hu => by
      simp [execOp, ho, Instr.box, newVar, newRow, hu]
    split at h
    · rename_i u hx
      rw [forceL_eq, newK_eq] at h
      unfold Oper.wp
      rw [hrun u (ev_is hH.fr hx)]
      exact hn _ _ _ _ _ (hH.alloc u.cells.toList t o.dst) h
    · rename_i b hx
      rw [newK_eq] at h
      unfold Oper.wp
      rw [hrun (.bool b) (ev_is hH.fr hx)]
      exact hn _ _ _ _ _ (hH.alloc [.bool b] t o.dst) h
    · exact h.elim
  · -- store
    rename_i t ax x ho
    have fin : ∀ (k off : Nat) (cells xs : List AV) (vs : List Value) (i : TypeInfo) (v : Value), ev fr ax = some (.p k off) → P.info? t = some i → own[k]? = some cells → a.eval x = v → v.cells = vs.toArray → vs.length = i.size → (∀ v ∈ vs, v.oneCell' = true) →
        FrIs ids xs vs.toArray → off + xs.length ≤ cells.length → K (putL o.dst fr (.v undef)) (own.set k (storeL cells off xs)) → o.wp P a w next Q := by
      intro k off cells xs vs i v hax hi hc hv hvc hz h1 hx hl hK
      obtain ⟨b, q1, q2⟩ := ev_is hH.fr hax
      obtain ⟨w', hrun, hH'⟩ := hH.store (P := P) (t := t) (v := v) hc q1 hx hl hvc hi hz h1
      have : (execOp a.eval o).run P w = .ok .skip w' := by
        simp [execOp, ho, Instr.storeAt, Instr.sureAddr, q2, hv, hrun]
      unfold Oper.wp
      rw [this]
      exact hn _ _ _ _ _ (hH'.put (x := .v undef) rfl o.dst) hK
    split at h
    · rename_i k off i hax hi
      split at h
      · rename_i cells hc
        rw [nth_eq] at hc
        split at h
        · rename_i u hx
          split at h
          · rename_i d1 d2 d3
            rw [forceL_eq, mapvK_eq, storeK_eq, setK_eq, putK_eq] at h
            refine fin k off cells (u.cells.toList.map .v) u.cells.toList i u hax hi hc (ev_is hH.fr hx) (by simp) (by simpa using of_decide_eq_true d1) (fun v hv => ?_) (isv_cells _ _) (by simpa using of_decide_eq_true d2) h
            have := List.all_eq_true.1 d3 v hv
            cases v <;> simp [oneC, Value.oneCell'] at this ⊢
          · exact h.elim
        · rename_i b hx
          split at h
          · rename_i d1 d2
            rw [setK_eq, setK_eq, putK_eq] at h
            refine fin k off cells [.lit b] [.bool b] i (.bool b) hax hi hc (ev_is hH.fr hx) rfl (by simpa using (of_decide_eq_true d1).symm) (fun v hv => by simp at hv; subst hv; rfl) ⟨rfl, fun j y hj => ?_⟩ (by have := of_decide_eq_true d2; simp; omega) h
            cases j with
            | zero => simp at hj; subst hj; exact ⟨.bool b, rfl, rfl⟩
            | succ j => simp at hj
          · exact h.elim
        · exact h.elim
      · exact h.elim
    · exact h.elim
  · have hv := valK_sound h
    refine hv.step hH fun x u w' hx hH' => ?_
    rw [putK_eq] at hx
    exact hn _ _ _ _ _ hH' hx

end Go.Proofs.Ytiefoahdikmilaa
