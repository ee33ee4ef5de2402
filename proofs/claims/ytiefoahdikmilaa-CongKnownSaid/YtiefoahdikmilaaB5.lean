/- What the evaluation says of an operation that lays a block anew, stores, or appends, holds of it. No condition. -/
import Derived.Test.YtiefoahdikmilaaB4
namespace Go.Proofs.Ytiefoahdikmilaa
open Go Go.RowKit Go.Sort
set_option linter.unusedVariables false
set_option linter.unusedSimpArgs false

variable {P : Program} {F : Facts} {σ : Sg} {fr : List AV} {own : List Blk} {a : Act} {o : Oper} {w0 w : World}

/-- The memory when the call has come here. -/
structure Reg (w0 : World) (F : Facts) (σ : Sg) (own : List Blk) (w : World) : Prop where
  mem : Mem w0.heap.size F σ own w
  dom : ∀ (k : Nat) (v : Value), σ k = some v → k < own.length
  inj : ∀ (k k' : Nat) (v v' : Value) (b : Nat), σ k = some v → σ k' = some v' → blkOf v = some b → blkOf v' = some b → k = k'
  ge : ∀ (k : Nat) (v : Value) (b : Nat), σ k = some v → blkOf v = some b → w0.heap.size ≤ b
  dis : ∀ (k : Nat) (v : Value) (b : Nat), σ k = some v → blkOf v = some b → ∀ (o : Nat) (x : Value), F b o ≠ some x
  below : Below w0.heap.size w0 w
structure Holds (w0 : World) (F : Facts) (σ : Sg) (fr : List AV) (own : List Blk) (a : Act) (w : World) : Prop where
  reg : Reg w0 F σ own w
  fr : FrIs σ fr a.tmps
  dfr : a.defers = []

theorem Reg.later {w' : World} (h : Reg w0 F σ own w) (hb : Below w.heap.size w w') : Reg w0 F σ own w' :=
  ⟨h.mem.below hb, h.dom, h.inj, h.ge, h.dis, h.below.trans (hb.mono h.below.size)⟩
theorem Holds.later {w' : World} (h : Holds w0 F σ fr own a w) (hb : Below w.heap.size w w') : Holds w0 F σ fr own a w' := ⟨h.reg.later hb, h.fr, h.dfr⟩
theorem Holds.put {x : AV} {u : Value} (h : Holds w0 F σ fr own a w) (hx : x.Is σ u) (d : Option Tmp) : Holds w0 F σ (putL d fr x) own (a.put d u) w :=
  ⟨h.reg, h.fr.put hx d, by cases d <;> exact h.dfr⟩
theorem Holds.fr' {fr' : List AV} (h : Holds w0 F σ fr own a w) (hf : FrIs σ fr' a.tmps) : Holds w0 F σ fr' own a w := ⟨h.reg, hf, h.dfr⟩

def Sg.set (σ : Sg) (k : Nat) (v : Value) : Sg := fun i => if i = k then some v else σ i
theorem Sg.set_same (σ : Sg) (k : Nat) (v : Value) : σ.set k v k = some v := by simp [Sg.set]
theorem Sg.set_other (σ : Sg) {k i : Nat} (v : Value) (h : i ≠ k) : σ.set k v i = σ i := by simp [Sg.set, h]
theorem Reg.le_set (h : Reg w0 F σ own w) (v : Value) : SgLe σ (σ.set own.length v) := fun k u hk => by
  rw [Sg.set_other _ _ (by have := h.dom k u hk; omega)]; exact hk
theorem SgLe.refl (σ : Sg) : SgLe σ σ := fun _ _ h => h

theorem BlkIs.grow {base : Nat} {σ' : Sg} {v : Value} {b : Blk} (h : BlkIs base w σ v b) (hs : SgLe σ σ') : BlkIs base w σ' v b := by
  cases b with
  | cells l => obtain ⟨b, xs, T, h1, h2, h3⟩ := h; exact ⟨b, xs, T, h1, h2, h3.grow hs⟩
  | row T z n xs => exact h
  | dead => trivial

theorem Sat.lt (h : Sat F w) {b o : Nat} {x : Value} (hx : F b o = some x) : b < w.heap.size := block_lt_of_cell (h b o x hx)

/-- A block that has been laid anew gets the next name. -/
theorem Reg.new (h : Reg w0 F σ own w) {v : Value} {b : Blk} {g : Nat} (hg : blkOf v = some g) (hlt : g < w.heap.size) (hge : w0.heap.size ≤ g) (hni : ∀ (k : Nat) (u : Value), σ k = some u → blkOf u ≠ some g) (hnf : ∀ (o : Nat) (x : Value), F g o ≠ some x)
    (hb : BlkIs w0.heap.size w (σ.set own.length v) v b) : Reg w0 F (σ.set own.length v) (own ++ [b]) w := by
  have hs := h.le_set v
  have old : ∀ k u, σ.set own.length v k = some u → (k = own.length ∧ u = v) ∨ (k < own.length ∧ σ k = some u) := fun k u hk => by
    by_cases he : k = own.length
    · subst he; rw [Sg.set_same] at hk; exact .inl ⟨rfl, (Option.some.inj hk).symm⟩
    · rw [Sg.set_other _ _ he] at hk; exact .inr ⟨h.dom k u hk, hk⟩
  refine ⟨⟨fun k c u hk hu => ?_, fun k u i hu hi => ?_, h.mem.sat⟩, fun k u hu => ?_, fun k k' u u' i hu hu' hi hi' => ?_, fun k u i hu hi => ?_, fun k u i hu hi => ?_, h.below⟩
  · rcases old k u hu with ⟨rfl, rfl⟩ | ⟨hlt', hu'⟩
    · rw [List.getElem?_append_right (Nat.le_refl _)] at hk
      simp at hk
      subst hk
      exact hb
    · rw [List.getElem?_append_left hlt'] at hk
      exact (h.mem.blk k c u hk hu').grow hs
  · rcases old k u hu with ⟨rfl, rfl⟩ | ⟨_, hu'⟩
    · rw [hg] at hi; cases hi; exact hlt
    · exact h.mem.lt k u i hu' hi
  · rcases old k u hu with ⟨rfl, rfl⟩ | ⟨hlt', _⟩
    · simp
    · simp; omega
  · rcases old k u hu with ⟨rfl, rfl⟩ | ⟨_, hv⟩ <;> rcases old k' u' hu' with ⟨rfl, rfl⟩ | ⟨_, hv'⟩
    · rfl
    · rw [hg] at hi; cases hi; exact absurd hi' (hni _ _ hv')
    · rw [hg] at hi'; cases hi'; exact absurd hi (hni _ _ hv)
    · exact h.inj k k' u u' i hv hv' hi hi'
  · rcases old k u hu with ⟨rfl, rfl⟩ | ⟨_, hu'⟩
    · rw [hg] at hi; cases hi; exact hge
    · exact h.ge k u i hu' hi
  · rcases old k u hu with ⟨rfl, rfl⟩ | ⟨_, hu'⟩
    · rw [hg] at hi; cases hi; exact hnf
    · exact h.dis k u i hu' hi

theorem newK_eq (d : Option Tmp) (b : Blk) (mk : Nat → AV) (K : List AV → List Blk → Prop) : newK d fr own b mk K = K (putL d fr (mk own.length)) (own ++ [b]) := by
  simp [newK, lenK_eq, appK_eq, putK_eq]

/-- What an operation lays anew, whatever world. -/
def FreshS (P : Program) (fr : List AV) (o : Oper) (K : Blk → (Nat → AV) → Prop) : Prop :=
  ∃ b mk, K b mk ∧ ∀ σ a, OpIs σ fr a o → ∃ (obj : Obj) (vf : Nat → Value), (∀ W : World, (execOp a.eval o).run P W = .ok (.value (vf W.heap.size)) (W.alloc obj)) ∧ (∀ g, blkOf (vf g) = some g) ∧
    (∀ g n (σ' : Sg), σ' n = some (vf g) → (mk n).Is σ' (vf g)) ∧ ∀ base σ' (W : World) g, SgLe σ σ' → base ≤ g → W.heap[g]? = some obj → BlkIs base W σ' (vf g) b

theorem isv_cells (σ : Sg) (cells : List Value) : FrIs σ (cells.map AV.v) cells.toArray :=
  ⟨by simp, fun i x hx => by
    simp only [List.getElem?_map, Option.map_eq_some_iff] at hx
    obtain ⟨u, hu, rfl⟩ := hx
    exact ⟨u, by simpa using hu, rfl⟩⟩
theorem one_cell {x : AV} {u : Value} (h : x.Is σ u) : FrIs σ [x] #[u] :=
  ⟨rfl, fun i y hy => by
    cases i with
    | zero => simp at hy; subst hy; exact ⟨u, rfl, h⟩
    | succ i => simp at hy⟩

theorem cellsK_sound {x : AV} {K : List AV → Prop} (h : cellsK x K) : ∃ l, K l ∧ ∀ σ u, x.Is σ u → FrIs σ l u.cells := by
  cases x with
  | v u =>
    simp only [cellsK, forceL_eq, mapvK_eq] at h
    exact ⟨_, h, fun σ u' hu => by obtain rfl : u' = u := hu; simpa using isv_cells σ u'.cells.toList⟩
  | lit b => exact ⟨_, h, fun σ u hu => by obtain rfl : u = .bool b := hu; exact one_cell (x := .lit b) rfl⟩
  | p k off => exact ⟨_, h, fun σ u hu => by have hu' := hu; obtain ⟨b, _, rfl⟩ := hu; exact one_cell hu'⟩
  | s k => exact ⟨_, h, fun σ u hu => by have hu' := hu; obtain ⟨_, ad, n, c, rfl⟩ := hu; exact one_cell hu'⟩
  | e k off => exact ⟨_, h, fun σ u hu => by have hu' := hu; obtain ⟨b, n, c, _, rfl⟩ := hu; exact one_cell hu'⟩
  | junk => exact h.elim

theorem ptr_is {vf : Nat → Value} (hv : ∀ g, vf g = .pointer (some ⟨g, 0, none⟩)) : ∀ g n (σ' : Sg), σ' n = some (vf g) → (ptrAt n).Is σ' (vf g) := fun g n σ' h => ⟨g, by rw [h, hv], hv g⟩

theorem storeV_len : ∀ (l cells : List Value) (off : Nat), (storeV cells off l).length = cells.length
  | [], cells, off => rfl
  | x :: l, cells, off => by simp [storeV, setL_eq, storeV_len l]
theorem fillX_len {place : Nat → Option (Nat × Nat)} : ∀ (ps : List (Nat × Value)) (cells l : List Value), fillX place cells ps = some l → l.length = cells.length
  | [], cells, l, h => by simp [fillX] at h; rw [h]
  | (i, v) :: ps, cells, l, h => by
    unfold fillX at h
    split at h
    · split at h
      · rw [fillX_len ps _ l h, storeV_len]
      · cases h
    · cases h
theorem repX_len (n : Nat) (z : List Value) : (repX n z).length = n * z.length := by
  induction n with
  | zero => simp [repX]
  | succ n ih => rw [repX, List.length_append, ih, Nat.add_mul]; omega
theorem repX_at : ∀ (n : Nat) (z : List Value) (i : Nat), i < n * z.length → (repX n z)[i]? = z[i % z.length]?
  | 0, z, i, h => by simp at h
  | n + 1, z, i, h => by
    rw [repX]
    by_cases hi : i < z.length
    · rw [List.getElem?_append_left hi, Nat.mod_eq_of_lt hi]
    · rw [List.getElem?_append_right (by omega), repX_at n z _ (by rw [Nat.add_mul] at h; omega), Nat.mod_eq_sub_mod (a := i) (by omega)]

/-- What is known of a slice type. -/
theorem rowInfo_spec {t e : TypeId} {z by' : Nat} (h : rowInfo P t = some (e, z, by')) : P.underlying t = some (.slice e) ∧ ∃ i v, P.info? e = some i ∧ i.zero = some v ∧ i.size = z ∧ i.bytes = by' ∧ v.cells.size = z ∧ 0 < z ∧ zeroX P e = some v.cells.toList := by
  unfold rowInfo at h
  split at h
  · rename_i e' hu
    split at h
    · rename_i i l hi hl
      split at h
      · cases h
      · rename_i z' hz
        split at h
        · rename_i hd
          cases h
          refine ⟨hu, i, ?_⟩
          have hl' := hl
          unfold zeroX at hl
          simp only [hi] at hl
          split at hl
          · rename_i v hv
            cases hl
            exact ⟨v, hi, hv, hz, rfl, by simpa using of_decide_eq_true hd, by omega, hl'⟩
          · cases hl
        · cases h
    · cases h
  · cases h

theorem run_rowX {t T : TypeId} {n z : Nat} {ps : List (Nat × Value)} {l : List Value} (h : rowX P t n ps = some (T, z, l)) : l.length = n * z ∧ n ≤ maxLen ∧ ∀ w : World, (Instr.buildSlice t n ps.toArray).run P w = .ok (.slice (some ⟨w.heap.size, 0, none⟩) n n) (w.alloc (.cells l.toArray T)) := by
  unfold rowX at h
  split at h
  · rename_i e z' by' hri
    split at h
    · rename_i l0 hz0 hd
      split at h
      · rename_i l' hf
        cases h
        obtain ⟨hu, i, v, hi, hv, hsz, hby, hvs, hpos, hzx⟩ := rowInfo_spec hri
        rw [hzx] at hz0
        cases hz0
        have hd := of_decide_eq_true hd
        have hlen := fillX_len _ _ _ hf
        rw [repX_len] at hlen
        have hl0 : v.cells.toList.length = z := by simpa using hvs
        rw [hl0] at hlen
        have hn : n ≤ n * z := Nat.le_mul_of_pos_right n hpos
        refine ⟨hlen, by unfold maxLen; omega, fun w => ?_⟩
        have hzero : (zeroValue T).run P w = .ok v w := by simp [zeroValue, typeInfo, hi, hv]
        have hrow : ((Array.range (n * z)).map fun i => v.cells[i % v.cells.size]!) = (repX n v.cells.toList).toArray := by
          apply Array.ext_getElem?
          intro i
          by_cases hi' : i < n * z
          · have hm : i % z < v.cells.size := by rw [hvs]; exact Nat.mod_lt _ hpos
            have := repX_at n v.cells.toList i (by rw [hl0]; exact hi')
            rw [hl0] at this
            simp [hi', hvs, this]
            rw [Array.getElem?_eq_getElem hm, getElem!_pos v.cells _ hm]
          · rw [Array.getElem?_eq_none (by simp; omega), Array.getElem?_eq_none (by simp [repX_len]; rw [hvs]; omega)]
        have hfs := fillX_sound (place := fun i => some (i * z, z)) ps (repX n v.cells.toList).toArray l (by simpa using hf)
        by_cases h0 : n * z = 0
        · have hn0 : n = 0 := by rcases Nat.mul_eq_zero.1 h0 with h0 | h0 <;> omega
          subst hn0
          have hfs' : Instr.fill (fun i => some (i * z, z)) #[] ps = some l.toArray := hfs
          simp [Instr.buildSlice, run_underlying hu, sizeOf, typeInfo, hi, hsz, newRow]
          rw [show (Array.map (fun (_ : Nat) => (default : Value)) (Array.range 0)) = #[] from by rw [Array.range_zero', Array.map_empty], hfs']
          rfl
        · have hle : ¬ (16777216 < n * z) := by omega
          rw [← hrow] at hfs
          simp [Instr.buildSlice, run_underlying hu, sizeOf, typeInfo, hi, hsz, hle, h0, hzero, newRow, hfs]
      · cases h
    · cases h
  · cases h

theorem freshK_sound {K : Blk → (Nat → AV) → Prop} (h : freshK P o fr K) : FreshS P fr o K := by
  unfold freshK at h
  split at h
  · rename_i t ho
    split at h
    · rename_i cells hc
      rw [forceL_eq, mapvK_eq] at h
      refine ⟨_, _, h, fun σ a _ => ?_⟩
      unfold newCells zeroX at hc
      split at hc
      · rename_i i hi
        split at hc
        · rename_i z hz
          cases hc
          refine ⟨.cells z.cells t, fun g => .pointer (some ⟨g, 0, none⟩), fun W => ?_, fun _ => rfl, ptr_is fun _ => rfl, fun base σ' W g _ _ hg => ⟨g, z.cells, t, rfl, hg, by simpa using isv_cells σ' z.cells.toList⟩⟩
          simp [execOp, ho, Instr.alloc, zeroValue, typeInfo, hi, hz, newVar, newRow]
        · cases hc
      · cases hc
    · exact h.elim
  · rename_i t x ho
    split at h
    · rename_i y hy
      obtain ⟨l, hK, hl⟩ := cellsK_sound h
      refine ⟨_, _, hK, fun σ a hop => ?_⟩
      have hx := hl σ _ (hop x (by simp [ho, Op.operands]) _ hy)
      refine ⟨.cells (a.eval x).cells t, fun g => .pointer (some ⟨g, 0, none⟩), fun W => ?_, fun _ => rfl, ptr_is fun _ => rfl, fun base σ' W g hs _ hg => ⟨g, _, t, rfl, hg, hx.grow hs⟩⟩
      simp [execOp, ho, Instr.box, newVar, newRow]
    · exact h.elim
  · rename_i t n ps ho
    split at h
    · rename_i T z l hall hrow
      split at h
      · rename_i hone
        rw [forceL_eq] at h
        obtain ⟨hlen, hmax, hrun⟩ := run_rowX hrow
        refine ⟨_, _, h, fun σ a hop => ?_⟩
        refine ⟨.cells l.toArray T, fun g => .slice (some ⟨g, 0, none⟩) n n, fun W => ?_, fun _ => rfl, fun g m σ' hg => ⟨hg, _, _, _, rfl⟩, fun base σ' W g hs hge hg => ⟨⟨hlen, .inr ⟨g, n, l.toArray, rfl, hge, hg, Nat.le_refl _, hmax, by simpa using hlen, ?_⟩⟩, fun u hu => ?_⟩⟩
        · have e : (ps.map fun (p : Nat × Operand) => (p.1, a.eval p.2)) = (partsX fr ps).toArray := by
            unfold partsX
            apply Array.ext'
            simp only [Array.toList_map]
            refine List.map_congr_left fun p hp => ?_
            rw [isx_eq (hop p.2 (by simp only [ho, Op.operands, List.mem_toArray, List.mem_map]; exact ⟨p, by simpa using hp, rfl⟩)) (by simpa using List.all_eq_true.1 hall p hp)]
          have e2 : execOp a.eval o = (do pure (.value (← Instr.buildSlice t n (ps.map fun (p : Nat × Operand) => (p.1, a.eval p.2))))) := by
            simp only [execOp, ho]
          rw [e2, e]
          simp only [Sem.run_bind, hrun W, Result.andThen_ok, Sem.run_pure]
        · simp [← hlen]
        · have := List.all_eq_true.1 hone u hu
          cases u <;> simp [oneC, Value.oneCell'] at this ⊢
      · exact h.elim
    · exact h.elim
  · exact h.elim

theorem calm_step {next : Act → World → Prop} {Q : Exit → Act → World → Prop} {u : Value} (h : calmAt P o a w u) (hn : ∀ w', Below w.heap.size w w' → next (a.put o.dst u) w') : o.wp P a w next Q := by
  unfold calmAt at h
  unfold Oper.wp
  generalize (execOp a.eval o).run P w = r at *
  cases r with
  | ok n w' =>
    cases n <;> simp only [calmUpon] at h <;> simp only [Oper.upon]
    case value v =>
      obtain ⟨rfl, rfl⟩ := h
      exact hn _ (Below.refl _ _)
    case skip =>
      obtain ⟨rfl, rfl⟩ := h
      exact hn _ (Below.refl _ _)
    case enter f args =>
      obtain ⟨rfl, hc⟩ := h
      exact hc.mono fun e w'' ⟨he, hw''⟩ => by subst he; exact hn _ hw''
  | halt x w' => simp only [calmUpon] at h

theorem ValS.step {K : AV → Prop} {next : Act → World → Prop} {Q : Exit → Act → World → Prop} (h : ValS P F own fr o K) (hH : Holds w0 F σ fr own a w)
    (hn : ∀ x u w', K x → Holds w0 F σ (putL o.dst fr x) own (a.put o.dst u) w' → next (a.put o.dst u) w') : o.wp P a w next Q := by
  obtain ⟨x, hK, hy⟩ := h
  obtain ⟨u, hu, hc⟩ := hy w0.heap.size σ a w (hH.fr.op o) hH.reg.mem
  exact calm_step (hc w hH.reg.mem) fun w' hb => hn x u w' hK ((hH.put hu o.dst).later hb)

/-- A new block is laid. -/
theorem Reg.alloc {v : Value} {b : Blk} {obj : Obj} (h : Reg w0 F σ own w) (hg : blkOf v = some w.heap.size) (hb : BlkIs w0.heap.size (w.alloc obj) (σ.set own.length v) v b) : Reg w0 F (σ.set own.length v) (own ++ [b]) (w.alloc obj) := by
  have hbl : Below w.heap.size w (w.alloc obj) := (Below.refl _ _).alloc (Nat.le_refl _) _
  exact (h.later hbl).new hg (by simp) h.below.size (fun k u hu hi => Nat.lt_irrefl _ (h.mem.lt k u _ hu hi)) (fun o x hx => Nat.lt_irrefl _ (h.mem.sat.lt hx)) hb

theorem FreshS.step {K : Blk → (Nat → AV) → Prop} {next : Act → World → Prop} {Q : Exit → Act → World → Prop} (h : FreshS P fr o K) (hH : Holds w0 F σ fr own a w)
    (hn : ∀ b mk σ' a' w', K b mk → Holds w0 F σ' (putL o.dst fr (mk own.length)) (own ++ [b]) a' w' → next a' w') : o.wp P a w next Q := by
  obtain ⟨b, mk, hK, hf⟩ := h
  obtain ⟨obj, vf, hrun, hbl, his, hblk⟩ := hf σ a (hH.fr.op o)
  unfold Oper.wp
  rw [hrun w]
  have hs := hH.reg.le_set (vf w.heap.size)
  refine hn b mk (σ.set own.length (vf w.heap.size)) _ _ hK ⟨hH.reg.alloc (hbl _) (hblk _ _ _ _ hs hH.reg.below.size (heap_new _ _)), (hH.fr.grow hs).put (his _ _ _ (Sg.set_same _ _ _)) _, by cases o.dst <;> exact hH.dfr⟩

/-- Stores. -/
def storeL : List AV → Nat → List AV → List AV
  | cells, _, [] => cells
  | cells, off, x :: l => storeL (cells.set off x) (off + 1) l
theorem storeK_eq : ∀ (l cells : List AV) (off : Nat) (K : List AV → Prop), storeK cells off l K = K (storeL cells off l)
  | [], cells, off, K => rfl
  | x :: l, cells, off, K => by simp [storeK, storeL, setK_eq, storeK_eq l]
theorem storeL_len : ∀ (l cells : List AV) (off : Nat), (storeL cells off l).length = cells.length
  | [], cells, off => rfl
  | x :: l, cells, off => by simp [storeL, storeL_len l]
theorem storeL_at : ∀ (l cells : List AV) (off j : Nat), off + l.length ≤ cells.length → (storeL cells off l)[j]? = if off ≤ j ∧ j < off + l.length then l[j - off]? else cells[j]?
  | [], cells, off, j, h => by simp [storeL]; intro h1 h2; omega
  | x :: l, cells, off, j, h => by
    simp only [List.length_cons] at h
    rw [storeL, storeL_at l _ _ _ (by simp; omega)]
    by_cases hj : j = off
    · subst hj
      rw [if_neg (by omega), if_pos (by simp)]
      have : j < cells.length := by omega
      simp [this]
    · by_cases h2 : off ≤ j ∧ j < off + (l.length + 1)
      · rw [if_pos (by omega), if_pos (by simpa using h2)]
        obtain ⟨k, rfl⟩ : ∃ k, j = off + 1 + k := ⟨j - off - 1, by omega⟩
        rw [show off + 1 + k - (off + 1) = k by omega, show off + 1 + k - off = k + 1 by omega]
        simp
      · rw [if_neg (by omega), if_neg (by simpa using h2), List.getElem?_set_ne (by omega)]
theorem storeV_at : ∀ (l cells : List Value) (off j : Nat), off + l.length ≤ cells.length → (storeV cells off l)[j]? = if off ≤ j ∧ j < off + l.length then l[j - off]? else cells[j]?
  | [], cells, off, j, h => by simp [storeV]; intro h1 h2; omega
  | x :: l, cells, off, j, h => by
    simp only [List.length_cons] at h
    rw [storeV, storeV_at l _ _ _ (by simp [setL_eq]; omega), setL_eq]
    by_cases hj : j = off
    · subst hj
      rw [if_neg (by omega), if_pos (by simp)]
      have : j < cells.length := by omega
      simp [this]
    · by_cases h2 : off ≤ j ∧ j < off + (l.length + 1)
      · rw [if_pos (by omega), if_pos (by simpa using h2)]
        obtain ⟨k, rfl⟩ : ∃ k, j = off + 1 + k := ⟨j - off - 1, by omega⟩
        rw [show off + 1 + k - (off + 1) = k by omega, show off + 1 + k - off = k + 1 by omega]
        simp
      · rw [if_neg (by omega), if_neg (by simpa using h2), List.getElem?_set_ne (by omega)]

/-- The cells behind a store. -/
def stored (cur : List Value) (off : Nat) (vs : List Value) : List Value := cur.take off ++ vs ++ cur.drop (off + vs.length)
theorem stored_len {cur vs : List Value} {off : Nat} (hl : off + vs.length ≤ cur.length) : (stored cur off vs).length = cur.length := by simp [stored]; omega
theorem stored_at {cur vs : List Value} {off : Nat} (hl : off + vs.length ≤ cur.length) (j : Nat) : (stored cur off vs)[j]? = if off ≤ j ∧ j < off + vs.length then vs[j - off]? else cur[j]? := by
  have e1 : (cur.take off).length = off := by simp; omega
  unfold stored
  by_cases hr : off ≤ j ∧ j < off + vs.length
  · rw [if_pos hr, List.append_assoc, List.getElem?_append_right (by omega), e1, List.getElem?_append_left (by omega)]
  · rw [if_neg hr]
    by_cases hlt : j < off
    · rw [List.append_assoc, List.getElem?_append_left (by omega), List.getElem?_take_of_lt hlt]
    · rw [List.getElem?_append_right (by simp; omega), List.getElem?_drop]
      simp only [List.length_append, e1]
      rw [show off + vs.length + (j - (off + vs.length)) = j by omega]
theorem storeV_stored {cur vs : List Value} {off : Nat} (hl : off + vs.length ≤ cur.length) : storeV cur off vs = stored cur off vs :=
  List.ext_getElem? fun j => by rw [storeV_at _ _ _ _ hl, stored_at hl]

theorem FrIs.store {cells xs : List AV} {cur : Array Value} {vs : List Value} {off : Nat} (h : FrIs σ cells cur) (hx : FrIs σ xs vs.toArray) (hl : off + xs.length ≤ cells.length) :
    FrIs σ (storeL cells off xs) (stored cur.toList off vs).toArray := by
  have hlen := h.len
  have hxl : xs.length = vs.length := by simpa using hx.len
  have hl2 : off + vs.length ≤ cur.toList.length := by simp; omega
  refine ⟨by rw [storeL_len]; simp [stored_len hl2]; omega, fun j x hj => ?_⟩
  rw [storeL_at _ _ _ _ hl] at hj
  simp only [List.getElem?_toArray]
  rw [stored_at hl2]
  by_cases hr : off ≤ j ∧ j < off + xs.length
  · rw [if_pos hr] at hj
    rw [if_pos (by omega)]
    obtain ⟨u, h1, h2⟩ := hx.at_ _ x hj
    exact ⟨u, by simpa using h1, h2⟩
  · rw [if_neg hr] at hj
    rw [if_neg (by omega)]
    obtain ⟨u, h1, h2⟩ := h.at_ _ x hj
    exact ⟨u, by simpa using h1, h2⟩

theorem run_store_row {t T : TypeId} {i : TypeInfo} {v : Value} {vs : List Value} {b off : Nat} {cur : Array Value} (hb : w.heap[b]? = some (.cells cur T (0, 0))) (hl : off + vs.length ≤ cur.size) (hv : v.cells = vs.toArray) (hi : P.info? t = some i) (hz : vs.length = i.size) (h1 : ∀ v ∈ vs, v.oneCell' = true) :
    (storeVar t ⟨b, off, none⟩ v).run P w = .ok () (w.setRow b (stored cur.toList off vs).toArray) := by
  have hrun := run_storeCells_at P b off T vs 0 cur w hb (by omega) h1
  simp only [Nat.add_zero] at hrun
  simp [storeVar, sizeOf, typeInfo, hi, hv, hz, hrun, stored]

/-- The own block k turns from b to b'. -/
theorem Reg.turn {k : Nat} {b : Blk} {v : Value} {g : Nat} {cs : Array Value} (h : Reg w0 F σ own w) (hv : σ k = some v) (hg : blkOf v = some g) (hb : BlkIs w0.heap.size (w.setRow g cs) σ v b) : Reg w0 F σ (own.set k b) (w.setRow g cs) := by
  refine ⟨⟨fun j c u hj hu => ?_, fun j u i hu hi => by rw [setRow_size]; exact h.mem.lt j u i hu hi, fun x o y hF => ?_⟩, fun j u hu => by rw [List.length_set]; exact h.dom j u hu, h.inj, h.ge, h.dis, below_setRow h.below (h.ge k v g hv hg) _⟩
  · by_cases hkj : k = j
    · subst hkj
      rw [hv] at hu
      cases hu
      have hlt := h.dom k v hv
      rw [List.getElem?_set_self hlt] at hj
      cases hj
      exact hb
    · rw [List.getElem?_set_ne hkj] at hj
      refine (h.mem.blk j c u hj hu).same fun i hi => setRow_other _ _ _ _ fun e => hkj ?_
      subst e
      exact h.inj k j v u _ hv hu hg hi
  · rw [cell_setRow_other _ _ _ _ (fun e => h.dis k v g hv hg o y (by have : x = g := e; rw [← this]; exact hF))]
    exact h.mem.sat x o y hF

end Go.Proofs.Ytiefoahdikmilaa
