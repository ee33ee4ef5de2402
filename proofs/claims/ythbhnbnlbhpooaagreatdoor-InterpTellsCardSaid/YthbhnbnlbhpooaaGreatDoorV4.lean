/- What the evaluation says of one operation holds of it. No condition. -/
import Derived.Test.YthbhnbnlbhpooaaGreatDoorV1
import Derived.Laws.MakeOwn
import Derived.Laws.BytesString
import Derived.MapKept
import Derived.Carry
import Derived.RangeFuncOwn
namespace Go.Proofs.YthbhnbnlbhpooaaGreatDoor
open Go Go.RowKit Go.Sort
set_option linter.unusedVariables false
set_option linter.unusedSimpArgs false

variable {P : Program} {F : Facts} {σ : Sg} {base : Nat} {fr : List AV} {own : List Blk} {a : Act} {o : Oper}

theorem valsR_are {W : World} : ∀ (l : List Value) (m : List AR) (us : List Value), ArsAre W m us → ArsAre W (valsR l m) (l ++ us)
  | [], m, us, h => h
  | x :: l, m, us, h => ⟨x, l ++ us, rfl, rfl, valsR_are l m us h⟩
theorem slP_row {base : Nat} {W : World} {T : TypeId} {z n : Nat} {xs : List Value} {u : Value} (h : W.ownsRow base T z u n xs) : SlP z n xs (memF W) u := by
  refine ⟨h.1, ?_⟩
  rcases h.2 with ⟨rfl, hn⟩ | ⟨g, cap, cur, rfl, _⟩
  · exact ⟨none, 0, by rw [hn], fun h0 => by omega⟩
  · exact ⟨_, cap, rfl, fun _ => ⟨g, 0, rfl, fun j v hj => by have := h.cells (g := g) rfl j v hj; rwa [add_at] at this⟩⟩
theorem partRow_len {z off n N : Nat} {xs : List Value} (hx : xs.length = N * z) (hle : off + n * z ≤ N * z) : (partRow z off n xs).length = n * z := by
  unfold partRow; simp; omega
theorem partRow_at {z off n : Nat} {xs : List Value} {j : Nat} {v : Value} (h : (partRow z off n xs)[j]? = some v) : xs[off + j]? = some v := by
  unfold partRow at h
  have hj := (List.getElem?_eq_some_iff.1 h).1
  simp at hj
  rw [List.getElem?_take_of_lt (by omega), List.getElem?_drop] at h
  exact h
theorem slP_part {base : Nat} {F : Facts} {W : World} {T : TypeId} {z n N k off : Nat} {xs : List Value} {m : Nm} {u : Value} (hk : σ k = some m) (h : W.ownsRow base T z m.v N xs) (hu : (AV.sub k off n).Is σ u) (hle : off + n * z ≤ N * z) : SlP z n (partRow z off n xs) (memF W) u := by
  obtain ⟨m', ad, c, h1, rfl, _, h2⟩ := hu
  rw [hk] at h1
  cases h1
  refine ⟨partRow_len h.1 hle, ad, c, rfl, fun h0 => ?_⟩
  obtain ⟨b, N', c', h3, h4⟩ := h2 h0
  refine ⟨b, off, h4, fun j v hj => ?_⟩
  have hc := h.cells (g := b) (by rw [h3]; rfl) (off + j) v (partRow_at hj)
  rwa [add_at, Nat.zero_add] at hc

theorem rowsK_sound : ∀ (l : List Operand) (m : List AR) (K : List AR → Prop), rowsK fr own l m K → ∃ args, K args ∧ ∀ base (σ : Sg) (a : Act) W us, (∀ x ∈ l, ∀ y, ev fr x = some y → y.Is σ (a.eval x)) → Mem base F σ own W → ArsAre W m us → ArsAre W args (l.map a.eval ++ us)
  | [], m, K, h => ⟨m, h, fun base σ a W us _ _ hm => hm⟩
  | x :: l, m, K, h => by
    have key : ∀ (y : AV) (r : AR), ev fr x = some y → (∀ base (σ : Sg) (a : Act) W, y.Is σ (a.eval x) → Mem base F σ own W → ArIs W r (a.eval x)) → rowsK fr own l m (fun l => K (r :: l)) → ∃ args, K args ∧ ∀ base (σ : Sg) (a : Act) W us, (∀ x' ∈ x :: l, ∀ y, ev fr x' = some y → y.Is σ (a.eval x')) → Mem base F σ own W → ArsAre W m us → ArsAre W args ((x :: l).map a.eval ++ us) := fun y r hy hr h => by
      obtain ⟨args, h1, h2⟩ := rowsK_sound l m _ h
      exact ⟨_, h1, fun base σ a W us hx hM hm => ⟨a.eval x, l.map a.eval ++ us, rfl, hr base σ a W (hx x (by simp) _ hy) hM, h2 base σ a W us (fun y hy => hx y (by simp [hy])) hM hm⟩⟩
    unfold rowsK at h
    split at h
    · rename_i u hu
      exact key _ (.v u) hu (fun base σ a W h _ => h) h
    · rename_i b hu
      exact key _ (.v (.bool b)) hu (fun base σ a W h _ => h) h
    · rename_i k hu
      split at h
      · rename_i T z n xs hc
        rw [nth_eq] at hc
        refine key _ (.r z n xs) hu (fun base σ a W h hM => ?_) h
        obtain ⟨nm, h1, h2, _⟩ := h
        have := (hM.blk k _ nm hc h1).1.1
        rw [h2] at this
        exact slP_row this
      · exact h.elim
    · rename_i k off n hu
      split at h
      · rename_i T z N xs hc
        rw [nth_eq] at hc
        obtain ⟨hob, h⟩ := h
        refine key _ (.r z n (partRow z off n xs)) hu (fun base σ a W h hM => ?_) h
        have h' := h
        obtain ⟨nm, ad, c, h1, h2, _⟩ := h
        exact slP_part (F := F) h1 (hM.blk k _ nm hc h1).1.1 h' hob
      · exact h.elim
    · rename_i k hu
      split at h
      · rename_i p hc
        rw [nth_eq] at hc
        refine key _ (.o p) hu (fun base σ a W h hM => ?_) h
        obtain ⟨nm, h1, h2⟩ := h
        have := hM.blk k _ nm hc h1
        show p (memF W) (a.eval x)
        rw [← h2]
        exact this (memF W) (fun b o x hx => hM.sat.1 b o x hx) (fun b o x _ hx => hx)
      · exact h.elim
    · exact h.elim
theorem run_enters {g : FuncId} {us : Array Value} (h : entersB P g = true) (W : World) : (callFunc g us).run P W = .ok (.enter g us) W := by
  unfold entersB at h
  split at h
  · rename_i fn hfn
    split at h
    · rename_i c hn hb
      have h1 : fn.name ≠ "runtime.NumGoroutine" := by simpa using hn
      simp [callFunc, hfn, h1, hb]
    · cases h
  · cases h
theorem ownCallK_sound {c : Call} {K : AV → List Blk → Prop} (ho : o.op = .call c) (h : ownCallK P F fr own c K) : ValS P F own fr o K := by
  unfold ownCallK at h
  split at h
  · rename_i f hcal
    split at h
    · rename_i g first captured hf
      split at h
      · rename_i hb
        obtain ⟨args, h1, h2⟩ := rowsK_sound (F := F) _ _ _ h
        rw [lenK_eq, Nat.add_zero] at h1
        obtain ⟨X, bs, hK, hd⟩ := callA_lays h1
        refine ⟨X, bs, hK, fun base σ a hfr W hbase hW => ?_⟩
        have e1 : a.eval f = .func (.func g) first captured := hfr f (by simp [ho, Op.operands, Call.operands, hcal]) _ hf
        have hargs := h2 base σ a W _ (fun x hx => hfr x (by simp only [ho, Op.operands, Call.operands, hcal]; simp at hx ⊢; simp [hx])) hW (valsR_are captured.toList [] [] rfl)
        have hall := valsR_are first.toList _ _ hargs
        have hexec : (execOp a.eval o).run P W = .ok (.enter g (first ++ c.args.map a.eval ++ captured)) W := by
          have e : execOp a.eval o = callFunc g (first ++ c.args.map a.eval ++ captured) := by
            simp only [execOp, ho, resolve, hcal, e1, Deferred.ofValue]; rfl
          rw [e, run_enters hb]
        rw [hexec]
        refine ⟨rfl, ?_⟩
        have := hd base _ σ W hbase hW.sat hall
        have e : (first.toList ++ (c.args.toList.map a.eval ++ (captured.toList ++ []))).toArray = first ++ c.args.map a.eval ++ captured := by
          apply Array.ext'; simp
        rwa [e] at this
      · exact h.elim
    · exact h.elim
  · exact h.elim

/-- Contracts for things that lie wherever they lie: out of contracts for each place where they may lie. -/
def Fam (C : List Value → Facts → Prop) : List AR → List Value → Facts → Prop
  | [], us, F => C us F
  | .v x :: l, us, F => Fam C l (us ++ [x]) F
  | .r z n xs :: l, us, F => ∀ ad b off c, (0 < n → ad = some ⟨b, off, none⟩) → xs.length = n * z → Fam C l (us ++ [.slice ad n c]) (orF F (rowF b off xs))
  | .o p :: l, us, F => ∀ (G : Facts) u, p G u → Fam C l (us ++ [u]) (orF F G)
theorem fam_are {C : List Value → Facts → Prop} {W : World} : ∀ (args : List AR) (us : List Value) (F : Facts) (vs : List Value), Fam C args us F → Sat F W → ArsAre W args vs → ∃ F', Sat F' W ∧ C (us ++ vs) F'
  | [], us, F, vs, h, hF, ha => by obtain rfl : vs = [] := ha; exact ⟨F, hF, by rw [List.append_nil]; exact h⟩
  | .v x :: l, us, F, vs, h, hF, ha => by
    obtain ⟨u, vs', rfl, rfl, h2⟩ := ha
    have := fam_are l (us ++ [u]) F vs' h hF h2
    simpa using this
  | .r z n xs :: l, us, F, vs, h, hF, ha => by
    obtain ⟨u, vs', rfl, ⟨hl, ad, c, rfl, hs⟩, h2⟩ := ha
    by_cases h0 : 0 < n
    · obtain ⟨b, off, rfl, hc⟩ := hs h0
      have := fam_are l (us ++ [_]) _ vs' (h _ b off c (fun _ => rfl) hl) ⟨fun b' o' x hx => by
        rcases hx with hx | ⟨rfl, j, rfl, hj⟩
        · exact hF.1 _ _ _ hx
        · exact hc j x hj, fun b' p hp => by
        rcases hp with hp | hp
        · exact hF.2 _ _ hp
        · exact hp.elim⟩ h2
      simpa using this
    · have hx0 : xs = [] := by
        have : n = 0 := by omega
        rw [this] at hl
        exact List.eq_nil_of_length_eq_zero (by simpa using hl)
      have := fam_are l (us ++ [_]) _ vs' (h ad 0 0 c (fun h => absurd h h0) hl) ⟨fun b' o' x hx => by
        rcases hx with hx | ⟨rfl, j, rfl, hj⟩
        · exact hF.1 _ _ _ hx
        · (rw [hx0] at hj; cases hj), fun b' p hp => by
        rcases hp with hp | hp
        · exact hF.2 _ _ hp
        · exact hp.elim⟩ h2
      simpa using this
  | .o p :: l, us, F, vs, h, hF, ha => by
    obtain ⟨u, vs', rfl, hp, h2⟩ := ha
    have := fam_are l (us ++ [u]) _ vs' (h (memF W) u hp) ⟨fun b' o' x hx => by
      rcases hx with hx | hx
      · exact hF.1 _ _ _ hx
      · exact hx, fun b' p hp => by
      rcases hp with hp | hp
      · exact hF.2 _ _ hp
      · exact hp⟩ h2
    simpa using this
theorem DenA.fam {f : FuncId} {args : List AR} {v : Value} (h : Fam (fun us F => Den P f us.toArray F v) args [] F) : DenA P f F args v :=
  ⟨fun W us hF ha => by
    obtain ⟨F', h1, h2⟩ := fam_are args [] F us h hF ha
    exact h2.out W h1⟩
/-- A contract of a function that returns fresh things, where the arguments are values. -/
structure DenV (P : Program) (f : FuncId) (F : Facts) (us : List Value) (res : List AV) (own : List Blk) : Prop where
  out : ∀ W, Sat F W → Calls P f us.toArray W fun e w' => ∃ σ vs, e = .returned (retV vs) ∧ Reg W F σ own w' ∧ (∀ k, k < own.length → σ k ≠ none) ∧ FrIs σ res vs.toArray
theorem Reg.facts {w0 w : World} {F F' : Facts} (h : Reg w0 F σ own w) (hs : Sat F' w) (ho : ∀ b, F'.at b → b < w0.heap.size) (hb : ∀ (k : Nat) (b : Blk), own[k]? = some b → (match b with | .obj _ => False | _ => True)) : Reg w0 F' σ own w :=
  ⟨⟨fun k b m hk hm => by
    have := h.mem.blk k b m hk hm
    have hb := hb k b hk
    cases b with
    | obj p => exact hb.elim
    | _ => exact this, h.mem.lt, hs⟩, h.dom, h.inj, h.ge, ho, h.below⟩
def noObj (own : List Blk) : Bool := own.all fun (b : Blk) => match b with | .obj _ => false | _ => true
theorem DenF.fam {f : FuncId} {args : List AR} {res : List AV} (hn : noObj own = true) (h : Fam (fun us F => DenV P f F us res own) args [] F) : DenF P f F args res own :=
  ⟨fun W us hF ha => by
    obtain ⟨F', h1, h2⟩ := fam_are args [] F us h hF ha
    refine (h2.out W h1).mono ?_
    rintro e w' ⟨σ, vs, he, hR, hall, hres⟩
    refine ⟨σ, vs, he, hR.facts (hF.stay fun b hb => hR.below.block b (hF.lt hb)) (fun b hb => hF.lt hb) (fun k b hk => ?_), hall, hres⟩
    · have := List.all_eq_true.1 hn b (List.mem_of_getElem? hk)
      cases b <;> simp at this ⊢⟩

theorem storeV_len : ∀ (l cells : List Value) (off : Nat), (storeV cells off l).length = cells.length
  | [], cells, off => rfl
  | x :: l, cells, off => by simp [storeV, setL_eq, storeV_len l]
theorem fillX_len {place : Nat → Option (Nat × Nat)} : ∀ (ps : List (Nat × Value)) (cells l : List Value), fillX place cells ps = some l → l.length = cells.length
  | [], cells, l, h => by simp [fillX] at h; rw [h]
  | (i, v) :: ps, cells, l, h => by
    unfold fillX at h
    split at h
    · split at h
      · rw [fillX_len ps _ l h, storeV_len]
      · cases h
    · cases h
theorem repX_len (n : Nat) (z : List Value) : (repX n z).length = n * z.length := by
  induction n with
  | zero => simp [repX]
  | succ n ih => rw [repX, List.length_append, ih, Nat.add_mul]; omega
theorem repX_at : ∀ (n : Nat) (z : List Value) (i : Nat), i < n * z.length → (repX n z)[i]? = z[i % z.length]?
  | 0, z, i, h => by simp at h
  | n + 1, z, i, h => by
    rw [repX]
    by_cases hi : i < z.length
    · rw [List.getElem?_append_left hi, Nat.mod_eq_of_lt hi]
    · rw [List.getElem?_append_right (by omega), repX_at n z _ (by rw [Nat.add_mul] at h; omega), Nat.mod_eq_sub_mod (a := i) (by omega)]

/-- What is known of a slice type. -/
theorem rowInfo_spec {t e : TypeId} {z by' : Nat} (h : rowInfo P t = some (e, z, by')) : P.underlying t = some (.slice e) ∧ ∃ i v, P.info? e = some i ∧ i.zero = some v ∧ i.size = z ∧ i.bytes = by' ∧ v.cells.size = z ∧ 0 < z ∧ zeroX P e = some v.cells.toList := by
  unfold rowInfo at h
  split at h
  · rename_i e' hu
    split at h
    · rename_i i l hi hl
      split at h
      · cases h
      · rename_i z' hz
        split at h
        · rename_i hd
          cases h
          refine ⟨hu, i, ?_⟩
          have hl' := hl
          unfold zeroX at hl
          simp only [hi] at hl
          split at hl
          · rename_i v hv
            cases hl
            exact ⟨v, hi, hv, hz, rfl, by simpa using of_decide_eq_true hd, by omega, hl'⟩
          · cases hl
        · cases h
    · cases h
  · cases h

theorem run_rowX {t T : TypeId} {n z : Nat} {ps : List (Nat × Value)} {l : List Value} (h : rowX P t n ps = some (T, z, l)) : l.length = n * z ∧ n ≤ maxLen ∧ ∀ w : World, (Instr.buildSlice t n ps.toArray).run P w = .ok (.slice (some ⟨w.heap.size, 0, none⟩) n n) (w.alloc (.cells l.toArray T)) := by
  unfold rowX at h
  split at h
  · rename_i e z' by' hri
    split at h
    · rename_i l0 hz0 hd
      split at h
      · rename_i l' hf
        cases h
        obtain ⟨hu, i, v, hi, hv, hsz, hby, hvs, hpos, hzx⟩ := rowInfo_spec hri
        rw [hzx] at hz0
        cases hz0
        have hd := of_decide_eq_true hd
        have hlen := fillX_len _ _ _ hf
        rw [repX_len] at hlen
        have hl0 : v.cells.toList.length = z := by simpa using hvs
        rw [hl0] at hlen
        have hn : n ≤ n * z := Nat.le_mul_of_pos_right n hpos
        refine ⟨hlen, by unfold maxLen; omega, fun w => ?_⟩
        have hzero : (zeroValue T).run P w = .ok v w := by simp [zeroValue, typeInfo, hi, hv]
        have hrow : ((Array.range (n * z)).map fun i => v.cells[i % v.cells.size]!) = (repX n v.cells.toList).toArray := by
          apply Array.ext_getElem?
          intro i
          by_cases hi' : i < n * z
          · have hm : i % z < v.cells.size := by rw [hvs]; exact Nat.mod_lt _ hpos
            have := repX_at n v.cells.toList i (by rw [hl0]; exact hi')
            rw [hl0] at this
            simp [hi', hvs, this]
            rw [Array.getElem?_eq_getElem hm, getElem!_pos v.cells _ hm]
          · rw [Array.getElem?_eq_none (by simp; omega), Array.getElem?_eq_none (by simp [repX_len]; rw [hvs]; omega)]
        have hfs := fillX_sound (place := fun i => some (i * z, z)) ps (repX n v.cells.toList).toArray l (by simpa using hf)
        by_cases h0 : n * z = 0
        · have hn0 : n = 0 := by rcases Nat.mul_eq_zero.1 h0 with h0 | h0 <;> omega
          subst hn0
          have hfs' : Instr.fill (fun i => some (i * z, z)) #[] ps = some l.toArray := hfs
          simp [Instr.buildSlice, run_underlying hu, sizeOf, typeInfo, hi, hsz, newRow]
          rw [show (Array.map (fun (_ : Nat) => (default : Value)) (Array.range 0)) = #[] from by rw [Array.range_zero', Array.map_empty], hfs']
          rfl
        · have hle : ¬ (16777216 < n * z) := by omega
          rw [← hrow] at hfs
          simp [Instr.buildSlice, run_underlying hu, sizeOf, typeInfo, hi, hsz, hle, h0, hzero, newRow, hfs]
      · cases h
    · cases h
  · cases h

theorem storeVK_eq : ∀ (l cells : List Value) (off : Nat) (K : List Value → Prop), storeVK cells off l K = K (storeV cells off l)
  | [], cells, off, K => rfl
  | x :: l, cells, off, K => by simp [storeVK, storeV, setK_eq, setL_eq, storeVK_eq l]
theorem fillXK_eq (place : Nat → Option (Nat × Nat)) : ∀ (ps : List (Nat × Value)) (cells : List Value) (K : Option (List Value) → Prop), fillXK place cells ps K = K (fillX place cells ps)
  | [], cells, K => rfl
  | (i, v) :: ps, cells, K => by
    unfold fillXK fillX
    split
    · rename_i off size hp
      split
      · simp only [forceL_eq, storeVK_eq]
        exact fillXK_eq place ps _ K
      · rfl
    · rfl
theorem rowK_eq (P : Program) (t : TypeId) (n : Nat) (ps : List (Nat × Value)) (K : Option (TypeId × Nat × List Value) → Prop) : rowK P t n ps K = K (rowX P t n ps) := by
  unfold rowK rowX
  split
  · split
    · rw [forceL_eq, fillXK_eq]
      split <;> simp_all
    · rfl
  · rfl
theorem isv_cells (σ : Sg) (cells : List Value) : FrIs σ (cells.map AV.v) cells.toArray :=
  ⟨by simp, fun i x hx => by
    simp only [List.getElem?_map, Option.map_eq_some_iff] at hx
    obtain ⟨u, hu, rfl⟩ := hx
    exact ⟨u, by simpa using hu, rfl⟩⟩
theorem one_cell {x : AV} {u : Value} (h : x.Is σ u) : FrIs σ [x] #[u] :=
  ⟨rfl, fun i y hy => by
    cases i with
    | zero => simp at hy; subst hy; exact ⟨u, rfl, h⟩
    | succ i => simp at hy⟩
theorem cellsK_sound {x : AV} {K : List AV → Prop} (h : cellsK x K) : ∃ l, K l ∧ ∀ σ u, x.Is σ u → FrIs σ l u.cells := by
  cases x with
  | v u =>
    simp only [cellsK, forceL_eq, mapvK_eq] at h
    exact ⟨_, h, fun σ u' hu => by obtain rfl : u' = u := hu; simpa using isv_cells σ u'.cells.toList⟩
  | lit b => exact ⟨_, h, fun σ u hu => by obtain rfl : u = .bool b := hu; exact one_cell (x := .lit b) rfl⟩
  | p k off => exact ⟨_, h, fun σ u hu => by have hu' := hu; obtain ⟨m, b, _, _, rfl⟩ := hu; exact one_cell hu'⟩
  | s k => exact ⟨_, h, fun σ u hu => by have hu' := hu; obtain ⟨m, _, _, ad, n, c, rfl⟩ := hu; exact one_cell hu'⟩
  | e k off => exact ⟨_, h, fun σ u hu => by have hu' := hu; obtain ⟨m, b, n, c, _, _, rfl⟩ := hu; exact one_cell hu'⟩
  | sub k off n => exact ⟨_, h, fun σ u hu => by have hu' := hu; obtain ⟨m, ad, c, _, rfl, _⟩ := hu; exact one_cell hu'⟩
  | t k => exact h.elim
  | junk => exact h.elim

/-- One block is laid anew. -/
theorem does_alloc {n : Nat} {X : AV} {b : Blk} {W : World} {obj : Obj} {v : Value} (h : (execOp a.eval o).run P W = .ok (.value v) (W.alloc obj))
    (hX : ∀ σ' m, SgLe σ σ' → σ' n = some m → m = ⟨v, fun g => g = W.heap.size⟩ → (W.alloc obj).heap[W.heap.size]? = some obj → X.Is σ' v ∧ BlkIs base F (W.alloc obj) σ' m b) : DoesAt P base F σ n X [b] W ((execOp a.eval o).run P W) := by
  rw [h]
  refine ⟨(Below.refl _ _).alloc (Nat.le_refl _) _, fun _ => ⟨v, fun g => g = W.heap.size⟩, fun i _ b hb => ?_, fun i j hi hj _ _ _ => ?_, fun σ' hs hν => ?_⟩
  · have : b = W.heap.size := hb
    subst this
    exact ⟨Nat.le_refl _, by simp⟩
  · simp at hi hj; omega
  · obtain ⟨h1, h2⟩ := hX σ' _ hs (hν 0 (by simp)) rfl (heap_new _ _)
    refine ⟨h1, fun i b' hb' => ?_⟩
    cases i with
    | zero => simp at hb'; subst hb'; exact h2
    | succ i => simp at hb'
theorem lens {α : Type} (l : List α) : ∀ K : Nat → Prop, lenK l 0 K = K l.length := fun K => by rw [lenK_eq, Nat.add_zero]

theorem sameNow_int {kt : TypeDesc} {k k' : IntKind} {x b : Int} (h : ∃ j, kt = .int j) : Instr.sameNow kt (.int k x) (.int k' b) = if k = k' then some (x == b) else none := by
  obtain ⟨j, rfl⟩ := h
  rfl
theorem findK_sound {kt : TypeDesc} (hkt : ∃ j, kt = .int j) {k : IntKind} {x : Int} {K : Option Value → Prop} : ∀ (es : List (Value × Value)), findK k x es K → ∃ r, K r ∧ ∀ (es' : List MapEntry) (i : Nat), (es'.map fun e => (e.key, e.val)) = es → ∃ q, Instr.findNow kt (.int k x) es' i = some q ∧ q.map (·.2) = r
  | [], h => ⟨none, h, fun es' i he => by
    obtain rfl : es' = [] := List.map_eq_nil_iff.1 he
    exact ⟨none, rfl, rfl⟩⟩
  | (.int k' b, v) :: l, h => by
    unfold findK at h
    split at h
    · rename_i hd
      obtain rfl := of_decide_eq_true hd
      by_cases hxb : x = b
      · refine ⟨_, h.t (by simpa using hxb), fun es' i he => ?_⟩
        obtain ⟨e, es'', rfl, he1, he2⟩ := List.map_eq_cons_iff.1 he
        simp only [Prod.mk.injEq] at he1
        unfold Instr.findNow
        rw [he1.1, sameNow_int hkt, if_pos rfl]
        have e1 : (x == b) = true := by simpa using hxb
        rw [e1]
        exact ⟨_, rfl, by simp [he1.2]⟩
      · obtain ⟨r, h1, h2⟩ := findK_sound hkt l (h.f (by simpa using hxb))
        refine ⟨r, h1, fun es' i he => ?_⟩
        obtain ⟨e, es'', rfl, he1, he2⟩ := List.map_eq_cons_iff.1 he
        simp only [Prod.mk.injEq] at he1
        unfold Instr.findNow
        rw [he1.1, sameNow_int hkt, if_pos rfl]
        have e1 : (x == b) = false := by simpa using hxb
        rw [e1]
        exact h2 es'' (i + 1) he2
    · exact h.elim
  | (.bool _, _) :: _, h | (.float _ _, _) :: _, h | (.complex _ _ _, _) :: _, h | (.string _, _) :: _, h | (.pointer _, _) :: _, h | (.slice _ _ _, _) :: _, h | (.map _, _) :: _, h | (.chan _, _) :: _, h | (.func _ _ _, _) :: _, h | (.nilFunc, _) :: _, h | (.iface _ _, _) :: _, h | (.nilIface, _) :: _, h | (.agg _, _) :: _, h | (.tuple _, _) :: _, h => by simp [findK] at h
theorem insK_sound {kt : TypeDesc} (hkt : ∃ j, kt = .int j) {k : IntKind} {x : Int} {K : Bool → Prop} : ∀ (es : List (Value × Value)), insK k x es K → K false ∨ (K true ∧ ∀ (es' : List MapEntry) (i : Nat), (es'.map fun e => (e.key, e.val)) = es → Instr.findNow kt (.int k x) es' i = some none)
  | [], h => .inr ⟨h, fun es' i he => by
    obtain rfl : es' = [] := List.map_eq_nil_iff.1 he
    rfl⟩
  | (.int k' b, v) :: l, h => by
    unfold insK at h
    split at h
    · rename_i hd
      obtain rfl := of_decide_eq_true hd
      by_cases hxb : x = b
      · exact .inl (h.t (by simpa using hxb))
      · rcases insK_sound hkt l (h.f (by simpa using hxb)) with h1 | ⟨h1, h2⟩
        · exact .inl h1
        · refine .inr ⟨h1, fun es' i he => ?_⟩
          obtain ⟨e, es'', rfl, he1, he2⟩ := List.map_eq_cons_iff.1 he
          simp only [Prod.mk.injEq] at he1
          unfold Instr.findNow
          rw [he1.1, sameNow_int hkt, if_pos rfl]
          have e1 : (x == b) = false := by simpa using hxb
          rw [e1]
          exact h2 es'' (i + 1) he2
    · exact h.elim
  | (.bool _, _) :: _, h | (.float _ _, _) :: _, h | (.complex _ _ _, _) :: _, h | (.string _, _) :: _, h | (.pointer _, _) :: _, h | (.slice _ _ _, _) :: _, h | (.map _, _) :: _, h | (.chan _, _) :: _, h | (.func _ _ _, _) :: _, h | (.nilFunc, _) :: _, h | (.iface _ _, _) :: _, h | (.nilIface, _) :: _, h | (.agg _, _) :: _, h | (.tuple _, _) :: _, h => by simp [insK] at h
theorem mapInfo_spec {t kt : TypeId} {z : Value} (h : mapInfo P t = some (kt, z)) : ∃ e k i, P.underlying t = some (.map kt e) ∧ P.underlying kt = some (.int k) ∧ P.info? e = some i ∧ i.zero = some z := by
  unfold mapInfo at h
  split at h
  · rename_i kt' e hu
    split at h
    · rename_i k i hk hi
      split at h
      · rename_i z' hz
        cases h
        exact ⟨e, k, i, hu, hk, hi, hz⟩
      · cases h
    · cases h
  · cases h
theorem run_checkKey_int {kt : TypeId} {j k : IntKind} {x : Int} (h : P.underlying kt = some (.int j)) (em : Bool) (W : World) : (Instr.checkKey em 10000 kt (.int k x)).run P W = .ok () W := by
  unfold Instr.checkKey
  simp [run_underlying h]
theorem foldl_push (s : ByteArray) : ∀ (l : List UInt8) (s0 : ByteArray), ((l.map fun (b : UInt8) => (b.toNat : Int)).foldl (fun r n => r.push (UInt8.ofNat n.toNat)) s0).data.toList = s0.data.toList ++ l
  | [], s0 => by simp
  | b :: l, s0 => by
    simp only [List.map_cons, List.foldl_cons]
    rw [foldl_push s l]
    simp [ByteArray.push]
theorem bytes_of (s : ByteArray) : ((s.data.toList.map fun (b : UInt8) => (b.toNat : Int)).foldl (fun r n => r.push (UInt8.ofNat n.toNat)) ByteArray.empty) = s := by
  have h := foldl_push s s.data.toList ByteArray.empty
  have h2 : ((s.data.toList.map fun (b : UInt8) => (b.toNat : Int)).foldl (fun r n => r.push (UInt8.ofNat n.toNat)) ByteArray.empty).data = s.data := by
    apply Array.ext'
    rw [h]
    rfl
  cases s
  cases hq : (List.foldl (fun r n => r.push (UInt8.ofNat n.toNat)) ByteArray.empty (List.map (fun (b : UInt8) => (b.toNat : Int)) _)) with
  | mk d => rw [hq] at h2; simp at h2; rw [h2]
theorem boundX_is {x : Option Operand} {d : Nat} {n : Int} (h : boundX fr x d = some n) (hop : ∀ y, x = some y → ∀ z, ev fr y = some z → z.Is σ (a.eval y)) : (x = none ∧ n = d) ∨ ∃ y k, x = some y ∧ a.eval y = .int k n := by
  unfold boundX at h
  split at h
  · cases h; exact .inl ⟨rfl, rfl⟩
  · rename_i y
    split at h
    · rename_i k m hy
      cases h
      exact .inr ⟨y, k, rfl, hop y rfl _ hy⟩
    · cases h

/-- What a slice expression yields. -/
theorem run_slice_part {t e : TypeId} {i : TypeInfo} (ht : P.underlying t = some (.slice e)) (hi : P.info? e = some i) {x : Operand} {lo hi' : Option Operand} {l h : Int} {ad : Option Addr} {len cap : Nat} {W : World} (ho : o.op = .slice t x lo hi' none) (hx : a.eval x = .slice ad len cap) (hlc : len ≤ cap)
    (hl : (lo = none ∧ l = ((0 : Nat) : Int)) ∨ ∃ y k, lo = some y ∧ a.eval y = .int k l) (hh : (hi' = none ∧ h = (len : Int)) ∨ ∃ y k, hi' = some y ∧ a.eval y = .int k h) (h0 : 0 ≤ l ∧ l ≤ h ∧ h ≤ len) :
    (execOp a.eval o).run P W = .ok (.value (.slice (if cap = l.toNat then ad else ad.map (·.add (l.toNat * i.size))) (h.toNat - l.toNat) (cap - l.toNat))) W := by
  obtain ⟨h1, h2, h3⟩ := h0
  have hb : (h ≤ (cap : Int)) := by omega
  have hn : 0 ≤ h := by omega
  have e2 : ((h.toNat : Nat) : Int) = h := by omega
  rcases hl with ⟨rfl, rfl⟩ | ⟨y, k, rfl, hy⟩ <;> rcases hh with ⟨rfl, rfl⟩ | ⟨y', k', rfl, hy'⟩
  · simp [execOp, ho, hx, Instr.sliceAt, run_underlying ht, Instr.slice, Instr.sliceBounds, sizeOf, typeInfo, hi]
  · simp [execOp, ho, hx, hy', Instr.sliceAt, run_underlying ht, Instr.slice, Instr.sliceBounds, Instr.sliceBound, asIntOf, sizeOf, typeInfo, hi, hn, hb]
  · simp [execOp, ho, hx, hy, Instr.sliceAt, run_underlying ht, Instr.slice, Instr.sliceBounds, Instr.sliceBound, asIntOf, sizeOf, typeInfo, hi, h1, h2]
  · simp [execOp, ho, hx, hy, hy', Instr.sliceAt, run_underlying ht, Instr.slice, Instr.sliceBounds, Instr.sliceBound, asIntOf, sizeOf, typeInfo, hi, h1, hn, hb, e2, h2]
theorem elemSize_spec {t : TypeId} {z : Nat} (h : elemSize P t = some z) : ∃ e i, P.underlying t = some (.slice e) ∧ P.info? e = some i ∧ i.size = z := by
  unfold elemSize at h
  split at h
  · rename_i e he
    split at h
    · rename_i i hi
      cases h
      exact ⟨e, i, he, hi, rfl⟩
    · cases h
  · cases h

theorem evsK_sound : ∀ {l : List Operand} {K : List AV → Prop}, evsK fr l K → ∃ m, K m ∧ ∀ (σ : Sg) (a : Act), (∀ x ∈ l, ∀ y, ev fr x = some y → y.Is σ (a.eval x)) → FrIs σ m (l.map a.eval).toArray
  | [], K, h => ⟨[], h, fun σ a _ => ⟨rfl, fun i x hx => by simp at hx⟩⟩
  | x :: l, K, h => by
    unfold evsK at h
    split at h
    · rename_i u hu
      obtain ⟨m, h1, h2⟩ := evsK_sound h
      refine ⟨_, h1, fun σ a hx => ?_⟩
      have k := h2 σ a fun y hy => hx y (by simp [hy])
      refine ⟨by have := k.len; simpa using this, fun i y hy => ?_⟩
      rcases i with _ | i
      · simp at hy
        subst hy
        exact ⟨a.eval x, by simp, hx x (by simp) _ hu⟩
      · simp at hy
        obtain ⟨v, k1, k2⟩ := k.at_ i y hy
        exact ⟨v, by simpa using k1, k2⟩
    · exact h.elim
theorem valK_sound {K : AV → List Blk → Prop} (h : valK P F o fr own K) : ValS P F own fr o K := by
  unfold valK at h
  split at h
  · -- move
    rename_i x ho
    split at h
    · rename_i u hu
      exact ⟨u, [], h, fun base σ a hfr W hb hM => does_value (u := a.eval x) (by simp [execOp, ho]) (hfr x (by simp [ho, Op.operands]) _ hu)⟩
    · exact h.elim
  · -- assign
    rename_i x ho
    split at h
    · rename_i u hu
      exact ⟨u, [], h, fun base σ a hfr W hb hM => does_value (u := a.eval x) (by simp [execOp, ho]) (hfr x (by simp [ho, Op.operands]) _ hu)⟩
    · exact h.elim
  · -- pick
    rename_i c x y ho
    have run : ∀ (a : Act) (b : Bool) W, a.eval c = .bool b → (execOp a.eval o).run P W = .ok (.value (if b then a.eval x else a.eval y)) W := fun a b W hb => by
      simp [execOp, ho, hb, asBool]
    split at h
    · rename_i b u u' hc hx hy
      cases b with
      | true => exact ⟨u, [], h.t rfl, fun base σ a hfr W hb hM => does_value (run a true W (hfr c (by simp [ho, Op.operands]) _ hc)) (hfr x (by simp [ho, Op.operands]) _ hx)⟩
      | false => exact ⟨u', [], h.f rfl, fun base σ a hfr W hb hM => does_value (run a false W (hfr c (by simp [ho, Op.operands]) _ hc)) (hfr y (by simp [ho, Op.operands]) _ hy)⟩
    · rename_i b u u' hc hx hy
      cases b with
      | true => exact ⟨u, [], h, fun base σ a hfr W hb hM => does_value (run a true W (hfr c (by simp [ho, Op.operands]) _ hc)) (hfr x (by simp [ho, Op.operands]) _ hx)⟩
      | false => exact ⟨u', [], h, fun base σ a hfr W hb hM => does_value (run a false W (hfr c (by simp [ho, Op.operands]) _ hc)) (hfr y (by simp [ho, Op.operands]) _ hy)⟩
    · exact h.elim
  · -- binOp
    rename_i op xT x y yT ho
    split at h
    · rename_i k m k' n hx hy
      split at h
      · rename_i hk
        rcases intK_sound (P := P) hk h with h | ⟨v, hv, hrun⟩
        · exact exactK_sound h
        · refine ⟨_, _, hv, fun base σ a hfr W hb hM => does_value (u := v) ?_ rfl⟩
          have e1 : a.eval x = .int k m := hfr x (by simp [ho, Op.operands]) _ hx
          have e2 : a.eval y = .int k' n := hfr y (by simp [ho, Op.operands]) _ hy
          have e3 : eqGuard op xT x y (.int k m) (.int k' n) = pure () := by unfold eqGuard; cases op <;> rfl
          simp [execOp, ho, e1, e2, e3, hrun]
      · exact exactK_sound h
    · rename_i s s' hx hy
      split at h
      · obtain ⟨hob, h⟩ := h
        refine ⟨_, _, h, fun base σ a hfr W hb hM => does_value (u := .string (s ++ s')) ?_ rfl⟩
        have e1 : a.eval x = .string s := hfr x (by simp [ho, Op.operands]) _ hx
        have e2 : a.eval y = .string s' := hfr y (by simp [ho, Op.operands]) _ hy
        have hmax : IntKind.i64.max = 9223372036854775807 := by decide
        have e3 : ¬ (IntKind.i64.max < (s.size : Int) + (s'.size : Int)) := by rw [hmax]; omega
        have e4 : (s.size : Int) + (s'.size : Int) ≤ 9223372036854775807 := by omega
        simp [execOp, ho, e1, e2, eqGuard, binOp, Op.stringOp, e3, hmax, e4]
      · exact exactK_sound h
    · rename_i xs ys hx hy
      split at h
      · obtain ⟨hok, h⟩ := h
        split at h
        · rename_i b hb
          refine ⟨_, _, h, fun base σ a hfr W _ hM => does_value (u := .bool b) ?_ rfl⟩
          have e1 : a.eval x = .agg xs := hfr x (by simp [ho, Op.operands]) _ hx
          have e2 : a.eval y = .agg ys := hfr y (by simp [ho, Op.operands]) _ hy
          have := (run_eqV hok hb x y W).1
          simp only [execOp, ho, e1, e2, Sem.run_bind, Sem.run_pure] at this ⊢
          rw [this]; rfl
        · exact h.elim
      · obtain ⟨hok, h⟩ := h
        split at h
        · rename_i b hb
          refine ⟨_, _, h, fun base σ a hfr W _ hM => does_value (u := .bool !b) ?_ rfl⟩
          have e1 : a.eval x = .agg xs := hfr x (by simp [ho, Op.operands]) _ hx
          have e2 : a.eval y = .agg ys := hfr y (by simp [ho, Op.operands]) _ hy
          have := (run_eqV hok hb x y W).2
          simp only [execOp, ho, e1, e2, Sem.run_bind, Sem.run_pure] at this ⊢
          rw [this]; rfl
        · exact h.elim
      · exact h.elim
    · rename_i u u' _ _ _ hx hy
      have bl : ∀ (a : Act) (σ : Sg) (z : Operand) (y : AV) (b : Bool), (∀ y, ev fr z = some y → y.Is σ (a.eval z)) → ev fr z = some y → boolA y = some b → a.eval z = .bool b := fun a σ z y b hfr hz hb => by
        have := hfr _ hz
        unfold boolA at hb
        split at hb
        · cases hb; exact this
        · cases hb; exact this
        · cases hb
      split at h
      · rename_i b b' hb hb' hT
        refine ⟨_, _, h, fun base σ a hfr W _ hM => does_value (u := .bool (b == b')) ?_ rfl⟩
        have q := run_equalIn_bool' (P := P) W 9999 xT b b' hT
        simp [execOp, ho, bl a σ x _ _ (hfr x (by simp [ho, Op.operands])) hx hb, bl a σ y _ _ (hfr y (by simp [ho, Op.operands])) hy hb', eqGuard, binOp, Op.equal, Op.maxDepth, q]
      · rename_i b b' hb hb' hT
        refine ⟨_, _, h, fun base σ a hfr W _ hM => does_value (u := .bool (!(b == b'))) ?_ rfl⟩
        have q := run_equalIn_bool' (P := P) W 9999 xT b b' hT
        simp [execOp, ho, bl a σ x _ _ (hfr x (by simp [ho, Op.operands])) hx hb, bl a σ y _ _ (hfr y (by simp [ho, Op.operands])) hy hb', eqGuard, binOp, Op.equal, Op.maxDepth, q]
      · exact exactK_sound h
    · exact h.elim
  · -- load
    rename_i t x ho
    have run : ∀ (a : Act) (W : World) (ad : Addr) (u : Value), a.eval x = .pointer (some ad) → (loadVar t ad).run P W = .ok u W → (execOp a.eval o).run P W = .ok (.value u) W := fun a W ad u he hr => by simp [execOp, ho, he, Instr.loadAt, Instr.sureAddr, hr]
    split at h
    · rename_i k off hx
      split at h
      · rename_i cells hc
        rw [nth_eq] at hc
        obtain ⟨y, h1, h3⟩ := loadK_sound h
        refine ⟨y, _, h1, fun base σ a hfr W hb hM => ?_⟩
        obtain ⟨m, b', q1', q2', q4⟩ := hfr x (by simp [ho, Op.operands]) _ hx
        obtain ⟨b, xs, T, q1, q2, q3, _⟩ := hM.blk k _ m hc q1'
        rw [q2'] at q1
        obtain rfl : b' = b := by simpa using q1
        obtain ⟨u, hu, hr⟩ := h3 σ W b' xs T q2 q3
        exact does_value (run a W _ u q4 hr) hu
      · rename_i xs hc
        rw [nth_eq] at hc
        obtain ⟨u, h1, h2⟩ := loadR_sound h
        refine ⟨.v u, _, h1, fun base σ a hfr W hb hM => ?_⟩
        obtain ⟨m, b', q1', q2', q4⟩ := hfr x (by simp [ho, Op.operands]) _ hx
        obtain ⟨b, T, q1, q2, _⟩ := hM.blk k _ m hc q1'
        rw [q2'] at q1
        obtain rfl : b' = b := by simpa using q1
        exact does_value (run a W _ u q4 (h2 W b' fun j v hj => cell_of q2 (by simpa using hj))) rfl
      · exact h.elim
    · rename_i k off hx
      split at h
      · rename_i T z n xs hc
        rw [nth_eq] at hc
        obtain ⟨u, h1, h2⟩ := loadR_sound h
        refine ⟨.v u, _, h1, fun base σ a hfr W hb hM => ?_⟩
        obtain ⟨m, b, n', c, q1, q2, q4⟩ := hfr x (by simp [ho, Op.operands]) _ hx
        have hr := (hM.blk k _ m hc q1).1.1
        exact does_value (run a W _ u q4 (h2 W b fun j v hj => by have := hr.cells (g := b) (by rw [q2]; rfl) j v hj; rwa [add_at, Nat.zero_add] at this)) rfl
      · exact h.elim
    · rename_i b off hx
      obtain ⟨u, h1, h2⟩ := loadF_sound h
      refine ⟨.v u, _, h1, fun base σ a hfr W hb hM => ?_⟩
      exact does_value (run a W _ u (hfr x (by simp [ho, Op.operands]) _ hx) (h2 W hM.sat)) rfl
    · exact h.elim
  · -- indexAddr
    rename_i t x i ho
    split at h
    · rename_i ad len cap k n hx hi
      split at h
      · rename_i z hz
        obtain ⟨⟨h0, h1⟩, h⟩ := h
        obtain ⟨b, off, rfl, h⟩ := h
        refine ⟨_, _, h, fun base σ a hfr W hb hM => does_value (u := .pointer (some ⟨b, off + n.toNat * z, none⟩)) ?_ rfl⟩
        have e1 : a.eval x = .slice (some ⟨b, off, none⟩) len cap := hfr x (by simp [ho, Op.operands]) _ hx
        have e2 : a.eval i = .int k n := hfr i (by simp [ho, Op.operands]) _ hi
        obtain ⟨e, inf, he, hinf, rfl⟩ := elemSize_spec hz
        simp [execOp, ho, e1, e2, Instr.indexAt, asIntOf, run_underlying he, h0, h1, sizeOf, typeInfo, hinf, add_at]
      · exact h.elim
    · rename_i k kk n hx hi
      split at h
      · rename_i T z' len xs z hc hz
        rw [nth_eq] at hc
        split at h
        · rename_i hzz
          obtain rfl : z = z' := of_decide_eq_true hzz
          obtain ⟨⟨h0, h1⟩, h⟩ := h
          refine ⟨_, _, h, fun base σ a hfr W hb hM => ?_⟩
          obtain ⟨m, q1, q2, _⟩ := hfr x (by simp [ho, Op.operands]) _ hx
          have e2 : a.eval i = .int kk n := hfr i (by simp [ho, Op.operands]) _ hi
          have hr := (hM.blk k _ m hc q1).1.1
          rcases hr.2 with ⟨_, hn⟩ | ⟨g, cap, cur, hv, _, hg, hnc, hcm, hcs, _⟩
          · subst hn; exact absurd h1 (by simp; omega)
          · obtain ⟨e, inf, he, hinf, rfl⟩ := elemSize_spec hz
            refine does_value (u := .pointer (some ⟨g, n.toNat * inf.size, none⟩)) ?_ ⟨m, g, len, cap, q1, hv, rfl⟩
            rw [q2] at hv
            simp [execOp, ho, hv, e2, Instr.indexAt, asIntOf, run_underlying he, h0, h1, sizeOf, typeInfo, hinf, add_at]
        · exact h.elim
      · exact h.elim
    · rename_i k off len kk n hx hi
      split at h
      · rename_i T z' N xs z hc hz
        rw [nth_eq] at hc
        split at h
        · rename_i hzz
          obtain rfl : z = z' := of_decide_eq_true hzz
          obtain ⟨⟨h0, h1⟩, h⟩ := h
          refine ⟨_, _, h, fun base σ a hfr W hb hM => ?_⟩
          obtain ⟨m, ad, c, q1, q2, _, q3⟩ := hfr x (by simp [ho, Op.operands]) _ hx
          have e2 : a.eval i = .int kk n := hfr i (by simp [ho, Op.operands]) _ hi
          obtain ⟨b, N', c', q4, rfl⟩ := q3 (by omega)
          obtain ⟨e, inf, he, hinf, rfl⟩ := elemSize_spec hz
          refine does_value (u := .pointer (some ⟨b, off + n.toNat * inf.size, none⟩)) ?_ ⟨m, b, N', c', q1, q4, rfl⟩
          simp [execOp, ho, q2, e2, Instr.indexAt, asIntOf, run_underlying he, h0, h1, sizeOf, typeInfo, hinf, add_at]
        · exact h.elim
      · exact h.elim
    · rename_i k off kk n hx hi
      split at h
      · rename_i len e he
        split at h
        · rename_i inf hinf
          obtain ⟨⟨h0, h1⟩, h⟩ := h
          refine ⟨_, _, h, fun base σ a hfr W hb hM => ?_⟩
          obtain ⟨m, b, q1, q2, q3⟩ := hfr x (by simp [ho, Op.operands]) _ hx
          have e2 : a.eval i = .int kk n := hfr i (by simp [ho, Op.operands]) _ hi
          refine does_value (u := .pointer (some ⟨b, off + n.toNat * inf.size, none⟩)) ?_ ⟨m, b, q1, q2, rfl⟩
          simp [execOp, ho, q3, e2, Instr.indexAt, Instr.sureAddr, asIntOf, run_underlying he, h0, h1, sizeOf, typeInfo, hinf, add_at]
        · exact h.elim
      · exact h.elim
    · exact exactK_sound h
  · -- index
    rename_i t x i ho
    split at h
    · rename_i cs k n hx hi
      split at h
      · rename_i len e hu
        split at h
        · rename_i inf _ hinf
          obtain ⟨⟨h0, h1⟩, h⟩ := h
          obtain ⟨u, hK, hp⟩ := loadR_part h
          refine ⟨_, _, hK, fun base σ a hfr W hb hM => does_value (u := u) ?_ rfl⟩
          have e1 : a.eval x = .agg cs := hfr x (by simp [ho, Op.operands]) _ hx
          have e2 : a.eval i = .int k n := hfr i (by simp [ho, Op.operands]) _ hi
          have hq := run_part hp W
          simp [execOp, ho, e1, e2, Instr.index, asIntOf, run_underlying hu, h0, h1, sizeOf, typeInfo, hinf] at hq ⊢
          simp [hq]
        · exact exactK_sound h
      · exact exactK_sound h
    · rename_i s k n hx hi
      split at h
      · rename_i hu
        obtain ⟨h0, h⟩ := h
        obtain ⟨b, hb', hK⟩ := h
        refine ⟨_, _, hK, fun base σ a hfr W hb hM => does_value (u := .int .u8 b.toNat) ?_ rfl⟩
        have e1 : a.eval x = .string s := hfr x (by simp [ho, Op.operands]) _ hx
        have e2 : a.eval i = .int k n := hfr i (by simp [ho, Op.operands]) _ hi
        simp [execOp, ho, e1, e2, Instr.index, asIntOf, run_underlying hu, h0, hb']
      · exact exactK_sound h
    · exact exactK_sound h
  · -- slice
    rename_i t x lo hi ho
    split at h
    · rename_i k z hx hz
      split at h
      · rename_i T z' len xs hc
        rw [nth_eq] at hc
        split at h
        · rename_i l hh hzz hl hhi
          obtain rfl : z = z' := of_decide_eq_true hzz
          obtain ⟨hob, h⟩ := h
          refine ⟨_, _, h, fun base σ a hfr W hb hM => ?_⟩
          obtain ⟨m, q1, q2, ad, n0, cap, q3⟩ := hfr x (by simp [ho, Op.operands]) _ hx
          obtain ⟨e, inf, he, hinf, rfl⟩ := elemSize_spec hz
          have hr := (hM.blk k _ m hc q1).1.1
          have hn0 : n0 = len ∧ len ≤ cap ∧ (0 < len → ∃ b, ad = some ⟨b, 0, none⟩) := by
            rw [q2, q3] at hr
            rcases hr.2 with ⟨hv, hn⟩ | ⟨g, cap', cur, hv, _, hg, hnc, hcm, hcs, _⟩
            · cases hv; exact ⟨hn.symm, by omega, fun h => by omega⟩
            · cases hv; exact ⟨rfl, hnc, fun _ => ⟨g, rfl⟩⟩
          obtain ⟨rfl, hlc, had⟩ := hn0
          have hrun := run_slice_part (W := W) he hinf ho q3 hlc (boundX_is (a := a) hl fun y hy => hfr y (by simp [ho, Op.operands, hy])) (boundX_is (a := a) hhi fun y hy => hfr y (by simp [ho, Op.operands, hy])) hob
          refine does_value hrun ⟨m, _, _, q1, rfl, by omega, fun h0 => ?_⟩
          obtain ⟨b, rfl⟩ := had (by omega)
          refine ⟨b, n0, cap, by rw [q2, q3], ?_⟩
          rw [if_neg (by omega)]
          simp [add_at]
        · exact h.elim
      · exact h.elim
    · rename_i k off n z hx hz
      split at h
      · rename_i T z' len xs hc
        rw [nth_eq] at hc
        split at h
        · rename_i l hh hzz hl hhi
          obtain rfl : z = z' := of_decide_eq_true hzz
          obtain ⟨hob, h⟩ := h
          refine ⟨_, _, h, fun base σ a hfr W hb hM => ?_⟩
          obtain ⟨m, ad, cap, q1, q3, hlc, q4⟩ := hfr x (by simp [ho, Op.operands]) _ hx
          obtain ⟨e, inf, he, hinf, rfl⟩ := elemSize_spec hz
          have hrun := run_slice_part (W := W) he hinf ho q3 hlc (boundX_is (a := a) hl fun y hy => hfr y (by simp [ho, Op.operands, hy])) (boundX_is (a := a) hhi fun y hy => hfr y (by simp [ho, Op.operands, hy])) hob
          refine does_value hrun ⟨m, _, _, q1, rfl, by omega, fun h0 => ?_⟩
          obtain ⟨b, N', c', q5, rfl⟩ := q4 (by omega)
          refine ⟨b, N', c', q5, ?_⟩
          rw [if_neg (by omega)]
          simp [add_at]
        · exact h.elim
      · exact h.elim
    · exact exactK_sound h
  · -- fieldAddr
    rename_i s x f ho
    split at h
    · rename_i k off fs hx hS
      split at h
      · rename_i g hg
        split at h
        · rename_i i hi
          split at h
          · exact h.elim
          · rename_i z hz
            rw [forceN_eq, Nat.zero_add] at h
            refine ⟨_, _, h, fun base σ a hfr W hb hM => ?_⟩
            obtain ⟨m, b, q1, q2, q3⟩ := hfr x (by simp [ho, Op.operands]) _ hx
            exact does_value (u := .pointer (some ⟨b, off + g.offset, none⟩)) (by simp [execOp, ho, q3, Instr.fieldAt, Instr.sureAddr, run_underlying hS, hg, fieldPlace, sizeOf, typeInfo, hi, hz, add_at]) ⟨m, b, q1, q2, rfl⟩
        · exact h.elim
      · exact h.elim
    · rename_i k off fs hx hS
      split at h
      · rename_i g hg
        split at h
        · rename_i i hi
          split at h
          · exact h.elim
          · rename_i z hz
            rw [forceN_eq, Nat.zero_add] at h
            refine ⟨_, _, h, fun base σ a hfr W hb hM => ?_⟩
            obtain ⟨m, b, n, c, q1, q2, q3⟩ := hfr x (by simp [ho, Op.operands]) _ hx
            exact does_value (u := .pointer (some ⟨b, off + g.offset, none⟩)) (by simp [execOp, ho, q3, Instr.fieldAt, Instr.sureAddr, run_underlying hS, hg, fieldPlace, sizeOf, typeInfo, hi, hz, add_at]) ⟨m, b, n, c, q1, q2, rfl⟩
        · exact h.elim
      · exact h.elim
    · exact exactK_sound h
  · -- nilCheck
    rename_i x ho
    split at h
    · rename_i k off hx
      refine ⟨_, _, h, fun base σ a hfr W hb hM => ?_⟩
      have q := hfr x (by simp [ho, Op.operands]) _ hx
      obtain ⟨m, b, q1, q2, q3⟩ := q
      exact does_value (u := .pointer (some ⟨b, off, none⟩)) (by simp [execOp, ho, q3]) ⟨m, b, q1, q2, rfl⟩
    · rename_i k off hx
      refine ⟨_, _, h, fun base σ a hfr W hb hM => ?_⟩
      obtain ⟨m, b, n, c, q1, q2, q3⟩ := hfr x (by simp [ho, Op.operands]) _ hx
      exact does_value (u := .pointer (some ⟨b, off, none⟩)) (by simp [execOp, ho, q3]) ⟨m, b, n, c, q1, q2, rfl⟩
    · exact exactK_sound h
  · -- extract
    rename_i x i ho
    split at h
    · rename_i k hx
      split at h
      · rename_i l hc
        rw [nth_eq] at hc
        split at h
        · rename_i y hy
          rw [nth_eq] at hy
          refine ⟨_, _, h, fun base σ a hfr W hb hM => ?_⟩
          obtain ⟨m, q1, q2⟩ := hfr x (by simp [ho, Op.operands]) _ hx
          obtain ⟨vs, q3, q4⟩ := hM.blk k _ m hc q1
          obtain ⟨u, q5, q6⟩ := q4.at_ i y hy
          have e1 : a.eval x = .tuple vs := by rw [← q2]; exact q3
          exact does_value (u := u) (by simp [execOp, ho, e1, Instr.extract, q5]) q6
        · exact h.elim
      · exact h.elim
    · exact exactK_sound h
  · -- convert
    rename_i src dst x ho
    split at h
    · rename_i k hx
      split at h
      · rename_i T n xs e hc hS hD
        rw [nth_eq] at hc
        split at h
        · rename_i hE
          obtain ⟨s, hs, h⟩ := h
          refine ⟨_, _, h, fun base σ a hfr W hb hM => ?_⟩
          obtain ⟨m, q1, q2, _⟩ := hfr x (by simp [ho, Op.operands]) _ hx
          have hr := (hM.blk k _ m hc q1).1.1
          refine does_value (u := .string s) ?_ rfl
          rw [q2] at hr
          have hcv : (convert src dst (a.eval x)).run P W = (Conv.bytesToString (a.eval x)).run P W := by
            rcases hr.2 with ⟨hv, _⟩ | ⟨g, cap, cur, hv, _⟩ <;> rw [hv] <;> simp [convert, run_underlying hS, run_underlying hD, run_underlying hE]
          have hxs : xs.length = n := by have := hr.1; omega
          have hb2 : (Conv.bytesToString (a.eval x)).run P W = .ok (.string s) W := by
            rcases hr.2 with ⟨hv, hn⟩ | ⟨g, cap, cur, hv, _⟩
            · rw [hv]
              have : xs = [] := List.eq_nil_of_length_eq_zero (by omega)
              rw [this] at hs
              have hsl : s.data.toList = [] := by simpa using hs.symm
              have : s = .empty := by cases s; simp at hsl; subst hsl; rfl
              rw [this]; simp [Conv.bytesToString]
            · rw [hv]
              have hl : (loadCells ⟨g, 0, none⟩ n).run P W = .ok ((s.data.toList.map fun (b : UInt8) => (b.toNat : Int)).map (Value.int .u8)).toArray W := by
                have := run_loadCells_list (P := P) W ⟨g, 0, none⟩ xs fun j v hj => hr.cells (g := g) (by rw [hv]; rfl) j v hj
                rw [hxs] at this
                rw [this, hs]
                simp
              rw [run_bytesToString W _ _ _ _ hl, bytes_of]
          simp [execOp, ho, hcv, hb2]
        · exact h.elim
      · exact h.elim
    · exact exactK_sound h
  · -- lookup
    rename_i t x i ok ho
    split at h
    · rename_i k ik n hx hi
      split at h
      · rename_i es kt z hc hmi
        rw [nth_eq] at hc
        obtain ⟨e, kk, inf, g1, g2, g3, g4⟩ := mapInfo_spec hmi
        obtain ⟨r, hr, hfind⟩ := findK_sound ⟨_, rfl⟩ es h
        have hK : ∃ u, K (.v u) [] ∧ u = (if ok then .tuple #[r.getD z, .bool r.isSome] else r.getD z) := by
          cases r <;> cases ok <;> simp only [forceV_eq] at hr <;> exact ⟨_, hr, rfl⟩
        obtain ⟨u, hu, rfl⟩ := hK
        refine ⟨_, _, hu, fun base σ a hfr W hb hM => ?_⟩
        obtain ⟨m, q1, q2⟩ := hfr x (by simp [ho, Op.operands]) _ hx
        have e2 : a.eval i = .int ik n := hfr i (by simp [ho, Op.operands]) _ hi
        obtain ⟨rr, es', cl, q3, q4, q5, _⟩ := hM.blk k _ m hc q1
        obtain ⟨q, hq, hqr⟩ := hfind es'.toList 0 q5
        have e1 : a.eval x = .map (some rr) := by rw [← q2]; exact q3
        have hf := Go.MapKept.run_findKey (P := P) (w := W) g2 hq
        refine does_value ?_ rfl
        have hz : (zeroValue e).run P W = .ok z W := by simp [zeroValue, typeInfo, g3, g4]
        have hl : (Instr.lookup t (.map (some rr)) (.int ik n) ok).run P W = .ok (if ok then .tuple #[r.getD z, .bool r.isSome] else r.getD z) W := by
          cases q with
          | none =>
            simp at hqr
            subst hqr
            cases ok <;> simp [Instr.lookup, run_underlying g1, Go.MapKept.run_getObj_map q4, run_checkKey_int g2, hf, hz]
          | some q =>
            simp at hqr
            subst hqr
            cases ok <;> simp [Instr.lookup, run_underlying g1, Go.MapKept.run_getObj_map q4, run_checkKey_int g2, hf]
        simp only [execOp, ho, e1, e2, Sem.run_bind, hl, Result.andThen_ok, Sem.run_pure]
      · exact h.elim
    · exact h.elim
  · -- call
    rename_i c ho
    split at h
    · rename_i t x hl
      have lenSpec : c.callee = .builtin .len ∧ c.args = #[x] ∧ c.argTypes = #[t] := by
        unfold lenArg at hl
        split at hl
        · rename_i hcal
          split at hl
          · rename_i t' x' ht' hx'
            cases hl
            exact ⟨hcal, by rw [← Array.toArray_toList (xs := c.args), hx'], by rw [← Array.toArray_toList (xs := c.argTypes), ht']⟩
          · cases hl
        · cases hl
      obtain ⟨hcal, hca, hct⟩ := lenSpec
      split at h
      · rename_i k hx
        split at h
        · rename_i T z n xs hc hT
          rw [nth_eq] at hc
          refine ⟨_, _, h, fun base σ a hfr W hb hM => does_value (u := .int .i64 n) ?_ rfl⟩
          obtain ⟨m, e1, e2, _⟩ := hfr x (by simp [ho, Op.operands, Call.operands, hcal, hca]) _ hx
          have hr := (hM.blk k _ m hc e1).1.1
          rw [e2] at hr
          obtain ⟨ad, cap, hv⟩ : ∃ ad cap, a.eval x = .slice ad n cap := by
            rcases hr.2 with ⟨hv, hn⟩ | ⟨g, cap, cur, hv, _⟩
            · exact ⟨none, 0, by rw [hn]; exact hv⟩
            · exact ⟨_, _, hv⟩
          unfold isSlice at hT
          split at hT
          · rename_i e he
            simp [execOp, ho, resolve, hcal, invoke, builtin, hca, hct, Builtin.len_, run_underlying he, hv, goInt]
          · cases hT
        · exact h.elim
      · rename_i k off n hx
        split at h
        · rename_i hT
          refine ⟨_, _, h, fun base σ a hfr W hb hM => does_value (u := .int .i64 n) ?_ rfl⟩
          obtain ⟨m, ad, cap, e1, hv, _⟩ := hfr x (by simp [ho, Op.operands, Call.operands, hcal, hca]) _ hx
          unfold isSlice at hT
          split at hT
          · rename_i e he
            simp [execOp, ho, resolve, hcal, invoke, builtin, hca, hct, Builtin.len_, run_underlying he, hv, goInt]
          · cases hT
        · exact h.elim
      · exact exactK_sound h
    · split at h
      · rename_i hall
        split at h
        · rename_i g us he
          rw [forceL_eq] at h
          obtain ⟨v, hv, k⟩ := h
          rw [forceV_eq] at k
          refine ⟨_, _, k, fun base σ a hfr W _ _ => does_value ?_ rfl⟩
          unfold extCall at he
          split at he
          · rename_i f hcal
            split at he
            · rename_i g' first captured hf
              split at he
              · split at he
                · simp only [Option.some.injEq, Prod.mk.injEq] at he
                  obtain ⟨rfl, rfl⟩ := he
                  have e1 : a.eval f = .func (.func g') first captured := hfr f (by simp [ho, Op.operands, Call.operands, hcal]) _ hf
                  have e2 : c.args.toList.map (evx fr) = c.args.toList.map a.eval := List.map_congr_left fun x hx => (isx_eq (hfr x (by simp only [ho, Op.operands, Call.operands, hcal]; simp at hx ⊢; simp [hx])) (List.all_eq_true.1 hall x hx)).symm
                  have e : execOp a.eval o = callFunc g' (first ++ c.args.map a.eval ++ captured) := by
                    simp only [execOp, ho, resolve, hcal, e1, Deferred.ofValue]; rfl
                  have ea : (first.toList ++ (c.args.toList.map (evx fr) ++ captured.toList)).toArray = first ++ c.args.map a.eval ++ captured := by
                    rw [e2]; apply Array.ext'; simp
                  rw [e, ← ea]
                  exact hv W
                · cases he
              · cases he
            · cases he
          · cases he
        · exact exactK_sound h
      · exact ownCallK_sound ho h
  · -- build
    rename_i t ps ho
    split at h
    · rename_i hx
      split at h
      · rename_i l hl
        rw [forceL_eq] at h
        refine ⟨_, _, h, fun base σ a hfr W hb hM => does_value (u := .agg l.toArray) ?_ rfl⟩
        have hrun := run_buildX hl W
        have e : (ps.map fun (p : Nat × Operand) => (p.1, a.eval p.2)) = (partsX fr ps).toArray := by
          unfold partsX
          apply Array.ext'
          simp only [Array.toList_map]
          refine List.map_congr_left fun p hp => ?_
          rw [isx_eq (hfr p.2 (by simp only [ho, Op.operands, List.mem_toArray, List.mem_map]; exact ⟨p, by simpa using hp, rfl⟩)) (by simpa using List.all_eq_true.1 hx p hp)]
        have e2 : execOp a.eval o = (do pure (.value (← Instr.build t (ps.map fun (p : Nat × Operand) => (p.1, a.eval p.2))))) := by
          simp only [execOp, ho]
        rw [e2, e]
        simp only [Sem.run_bind, hrun, Result.andThen_ok, Sem.run_pure]
      · exact h.elim
    · exact h.elim
  · -- alloc
    rename_i t ho
    split at h
    · rename_i cells hc
      have key : ∃ i z, P.info? t = some i ∧ i.zero = some z ∧ z.cells.toList = cells := by
        unfold zeroX at hc
        split at hc
        · rename_i i hi
          split at hc
          · rename_i z hz
            cases hc
            exact ⟨i, z, hi, hz, rfl⟩
          · cases hc
        · cases hc
      obtain ⟨i, z, hi, hz, rfl⟩ := key
      split at h
      · rw [lens] at h
        refine ⟨_, _, h, fun base σ a hfr W hb hM => ?_⟩
        refine does_alloc (obj := .cells z.cells t) (v := .pointer (some ⟨W.heap.size, 0, none⟩)) (by simp [execOp, ho, Instr.alloc, zeroValue, typeInfo, hi, hz, newVar, newRow]) fun σ' m hs hm he hg => ?_
        subst he
        exact ⟨⟨_, W.heap.size, hm, rfl, rfl⟩, W.heap.size, t, rfl, by simpa using hg, fun _ => Iff.rfl⟩
      · rw [forceL_eq, mapvK_eq, lens] at h
        refine ⟨_, _, h, fun base σ a hfr W hb hM => ?_⟩
        refine does_alloc (obj := .cells z.cells t) (v := .pointer (some ⟨W.heap.size, 0, none⟩)) (by simp [execOp, ho, Instr.alloc, zeroValue, typeInfo, hi, hz, newVar, newRow]) fun σ' m hs hm he hg => ?_
        subst he
        exact ⟨⟨_, W.heap.size, hm, rfl, rfl⟩, W.heap.size, z.cells, t, rfl, hg, by simpa using isv_cells σ' z.cells.toList, fun _ => Iff.rfl⟩
    · exact h.elim
  · -- box
    rename_i t x ho
    split at h
    · rename_i c _ hy
      rw [lens] at h
      refine ⟨_, _, h, fun base σ a hfr W hb hM => ?_⟩
      have e1 : a.eval x = .agg c := hfr x (by simp [ho, Op.operands]) _ hy
      refine does_alloc (obj := .cells (a.eval x).cells t) (v := .pointer (some ⟨W.heap.size, 0, none⟩)) (by simp [execOp, ho, Instr.box, newVar, newRow]) fun σ' m hs hm he hg => ?_
      subst he
      refine ⟨⟨_, W.heap.size, hm, rfl, rfl⟩, W.heap.size, t, rfl, ?_, fun _ => Iff.rfl⟩
      rw [hg, e1]
      rfl
    · rename_i y hy _
      obtain ⟨l, hK, hl⟩ := cellsK_sound h
      rw [lens] at hK
      refine ⟨_, _, hK, fun base σ a hfr W hb hM => ?_⟩
      have hx := hl σ _ (hfr x (by simp [ho, Op.operands]) _ hy)
      refine does_alloc (obj := .cells (a.eval x).cells t) (v := .pointer (some ⟨W.heap.size, 0, none⟩)) (by simp [execOp, ho, Instr.box, newVar, newRow]) fun σ' m hs hm he hg => ?_
      subst he
      exact ⟨⟨_, W.heap.size, hm, rfl, rfl⟩, W.heap.size, _, t, rfl, hg, hx.grow hs, fun _ => Iff.rfl⟩
    · exact h.elim
  · -- buildSlice
    rename_i t n ps ho
    split at h
    · rename_i hall
      rw [rowK_eq] at h
      split at h
      · rename_i T z l hrow
        split at h
        · rename_i hone
          rw [forceL_eq, lens] at h
          obtain ⟨hlen, hmax, hrun⟩ := run_rowX hrow
          refine ⟨_, _, h, fun base σ a hfr W hb hM => ?_⟩
          refine does_alloc (obj := .cells l.toArray T) (v := .slice (some ⟨W.heap.size, 0, none⟩) n n) ?_ fun σ' m hs hm he hg => ?_
          · have e : (ps.map fun (p : Nat × Operand) => (p.1, a.eval p.2)) = (partsX fr ps).toArray := by
              unfold partsX
              apply Array.ext'
              simp only [Array.toList_map]
              refine List.map_congr_left fun p hp => ?_
              rw [isx_eq (hfr p.2 (by simp only [ho, Op.operands, List.mem_toArray, List.mem_map]; exact ⟨p, by simpa using hp, rfl⟩)) (by simpa using List.all_eq_true.1 hall p hp)]
            have e2 : execOp a.eval o = (do pure (.value (← Instr.buildSlice t n (ps.map fun (p : Nat × Operand) => (p.1, a.eval p.2))))) := by
              simp only [execOp, ho]
            rw [e2, e]
            simp only [Sem.run_bind, hrun W, Result.andThen_ok, Sem.run_pure]
          · subst he
            refine ⟨⟨_, hm, rfl, _, _, _, rfl⟩, ⟨⟨hlen, .inr ⟨W.heap.size, n, l.toArray, rfl, hb, hg, Nat.le_refl _, hmax, by simpa using hlen, ?_⟩⟩, fun u hu => ?_⟩, fun g => ?_⟩
            · simp [← hlen]
            · have := List.all_eq_true.1 hone u hu
              cases u <;> simp [oneC, Value.oneCell'] at this ⊢
            · simp [Value.ownBlock, eq_comm]
        · exact h.elim
      · exact h.elim
    · exact h.elim
  · -- makeSlice
    rename_i t x y ho
    split at h
    · rename_i kl n kc c e z by' hx hy hri
      split at h
      · rename_i zs hzs
        split at h
        · rename_i hone
          obtain ⟨⟨h0, h1, h2, h3⟩, h⟩ := h
          rw [lens] at h
          obtain ⟨hu, i, zv, hi, hz, hsz, hby, hvs, hpos, hzx⟩ := rowInfo_spec hri
          rw [hzx] at hzs
          cases hzs
          refine ⟨_, _, h, fun base σ a hfr W hb hM => ?_⟩
          have e1 : a.eval x = .int kl n := hfr x (by simp [ho, Op.operands]) _ hx
          have e2 : a.eval y = .int kc c := hfr y (by simp [ho, Op.operands]) _ hy
          have hc0 : 0 ≤ c := by omega
          have hmk := run_make (P := P) W t e i zv hu hi hz kl kc n c h0 h1 (by rw [hby, Int.mul_comm]; omega) (by omega)
          refine does_alloc (obj := .cells (madeCells zv.cells (c.toNat * i.size)) e) (v := .slice (some ⟨W.heap.size, 0, none⟩) n.toNat c.toNat) (by simp only [execOp, ho, e1, e2, Sem.run_bind, hmk, Result.andThen_ok, Sem.run_pure]) fun σ' m hs hm he hg => ?_
          subst he
          have hzl : zv.cells.toList.length = z := by simpa using hvs
          have hmade : (madeCells zv.cells (c.toNat * z)).toList = repX c.toNat zv.cells.toList := by
            apply List.ext_getElem?
            intro j
            by_cases hj : j < c.toNat * z
            · have hm : j % z < zv.cells.size := by rw [hvs]; exact Nat.mod_lt _ hpos
              have := repX_at c.toNat zv.cells.toList j (by rw [hzl]; exact hj)
              rw [this, hzl]
              simp [madeCells, hj, hvs]
              rw [Array.getElem?_eq_getElem hm, getElem!_pos zv.cells _ hm]
            · rw [List.getElem?_eq_none (by simp [madeCells]; omega), List.getElem?_eq_none (by rw [repX_len, hzl]; omega)]
          have htake : ∀ (p q : Nat) (l : List Value), p ≤ q → (repX q l).take (p * l.length) = repX p l := by
            intro p q l hpq
            obtain ⟨r, rfl⟩ : ∃ r, q = p + r := ⟨q - p, by omega⟩
            clear hpq
            induction p with
            | zero => simp [repX]
            | succ p ih =>
              rw [Nat.succ_add, repX, repX, Nat.succ_mul, Nat.add_comm (p * l.length)]
              rw [List.take_append, List.take_of_length_le (by omega)]
              simp [ih]
          refine ⟨⟨_, hm, rfl, _, _, _, rfl⟩, ⟨⟨by rw [repX_len, hzl], .inr ⟨W.heap.size, c.toNat, _, rfl, hb, hg, by omega, by unfold maxLen; omega, by rw [hsz, size_madeCells], ?_⟩⟩, fun u hu => ?_⟩, fun g => ?_⟩
          · rw [hsz, hmade]
            have := htake n.toNat c.toNat zv.cells.toList (by omega)
            rwa [hzl] at this
          · have hmem : u ∈ zv.cells.toList := by
              have : ∀ p, u ∈ repX p zv.cells.toList → u ∈ zv.cells.toList := fun p => by
                induction p with
                | zero => intro h; simp [repX] at h
                | succ p ih => intro h; rw [repX] at h; rcases List.mem_append.1 h with h | h; exact h; exact ih h
              exact this _ hu
            have := List.all_eq_true.1 hone u hmem
            cases u <;> simp [oneC, Value.oneCell'] at this ⊢
          · simp [Value.ownBlock, eq_comm]
        · exact h.elim
      · exact h.elim
    · exact h.elim
  · -- makeMap
    rename_i t ho
    rw [lens] at h
    refine ⟨_, _, h, fun base σ a hfr W hb hM => ?_⟩
    refine does_alloc (obj := .map #[] 0) (v := .map (some W.heap.size)) (by simp [execOp, ho, run_makeMap]) fun σ' m hs hm he hg => ?_
    subst he
    exact ⟨⟨_, hm, rfl⟩, W.heap.size, #[], 0, rfl, hg, rfl, fun _ => Iff.rfl⟩
  · -- makeFunc
    rename_i g first captured ho
    split at h
    · exact exactK_sound h
    · rename_i hc hf
      obtain ⟨l, h1, h2⟩ := evsK_sound h
      rw [forceL_eq, lens] at h1
      refine ⟨_, _, h1, fun base σ a hfr W hb hM => ?_⟩
      have hexec : (execOp a.eval o).run P W = .ok (.value (.func (.func g) (first.map a.eval) (captured.map a.eval))) W := by
        simp [execOp, ho, Instr.makeFunc]
      rw [hexec]
      refine ⟨Below.refl _ _, fun _ => ⟨.func (.func g) (first.map a.eval) (captured.map a.eval), fun _ => False⟩, fun i hi b hb => hb.elim, fun i j hi hj b hb => hb.elim, fun σ' hs hν => ?_⟩
      refine ⟨⟨_, by have := hν 0 (by simp); simpa using this, rfl⟩, fun i b hib => ?_⟩
      rcases i with _ | i
      · simp at hib
        subst hib
        refine ⟨captured.map a.eval, ?_, ?_⟩
        · have e : first.map a.eval = (first.toList.map (evx fr)).toArray := by
            apply Array.ext'
            simp only [Array.toList_map]
            refine List.map_congr_left fun x hx => ?_
            exact isx_eq (hfr x (by simp only [ho, Op.operands]; simp at hx ⊢; simp [hx])) (List.all_eq_true.1 hf x hx)
          rw [e]
        · have := (h2 σ a fun x hx => hfr x (by simp only [ho, Op.operands]; simp at hx ⊢; simp [hx])).grow hs
          have e : (captured.toList.map a.eval).toArray = captured.map a.eval := by apply Array.ext'; simp
          rwa [e] at this
      · simp at hib
    · exact h.elim
  · exact h.elim
  · exact h.elim
  · exact h.elim
  · exact exactK_sound h

/-! What the evaluation says of an operation that lays things anew, stores, or appends, holds of it. No condition. -/
variable {P : Program} {F : Facts} {σ : Sg} {fr : List AV} {own : List Blk} {a : Act} {o : Oper} {w0 w : World}

structure Holds (w0 : World) (F : Facts) (σ : Sg) (fr : List AV) (own : List Blk) (a : Act) (w : World) : Prop where
  reg : Reg w0 F σ own w
  fr : FrIs σ fr a.tmps
  dfr : a.defers = []

theorem Reg.later {w' : World} (h : Reg w0 F σ own w) (hb : Below w.heap.size w w') : Reg w0 F σ own w' :=
  ⟨h.mem.below hb, h.dom, h.inj, h.ge, h.old, h.below.trans (hb.mono h.below.size)⟩
theorem Holds.later {w' : World} (h : Holds w0 F σ fr own a w) (hb : Below w.heap.size w w') : Holds w0 F σ fr own a w' := ⟨h.reg.later hb, h.fr, h.dfr⟩
theorem Holds.put {x : AV} {u : Value} (h : Holds w0 F σ fr own a w) (hx : x.Is σ u) (d : Option Tmp) : Holds w0 F σ (putL d fr x) own (a.put d u) w :=
  ⟨h.reg, h.fr.put hx d, by cases d <;> exact h.dfr⟩
theorem Holds.fr' {fr' : List AV} (h : Holds w0 F σ fr own a w) (hf : FrIs σ fr' a.tmps) : Holds w0 F σ fr' own a w := ⟨h.reg, hf, h.dfr⟩

def Sg.set (σ : Sg) (k : Nat) (m : Nm) : Sg := fun i => if i = k then some m else σ i
theorem Sg.set_same (σ : Sg) (k : Nat) (m : Nm) : σ.set k m k = some m := by simp [Sg.set]
theorem Sg.set_other (σ : Sg) {k i : Nat} (m : Nm) (h : i ≠ k) : σ.set k m i = σ i := by simp [Sg.set, h]

/-- one list goes on from another -/
def Pre (l m : List Blk) : Prop := ∀ (k : Nat) (b : Blk), l[k]? = some b → m[k]? = some b
theorem Pre.refl (l : List Blk) : Pre l l := fun _ _ h => h
theorem Pre.trans {l m n : List Blk} (h : Pre l m) (k : Pre m n) : Pre l n := fun i b hi => k i b (h i b hi)
theorem Pre.app (l m : List Blk) : Pre l (l ++ m) := fun i c hi => by rw [List.getElem?_append_left (List.getElem?_eq_some_iff.1 hi).1]; exact hi
theorem Pre.len {l m : List Blk} (h : Pre l m) : l.length ≤ m.length := by
  cases hl : l.length with
  | zero => omega
  | succ n =>
    have : l[n]? = some (l[n]'(by omega)) := List.getElem?_eq_getElem (by omega)
    have := (List.getElem?_eq_some_iff.1 (h n _ this)).1
    omega
theorem Reg.pre {m : List Blk} (h : Reg w0 F σ own w) (hp : Pre own m) : Reg w0 F σ m w :=
  ⟨⟨fun k b x hk hx => by
    have hlt := h.dom k x hx
    have e := hp k _ (List.getElem?_eq_getElem hlt)
    rw [hk] at e
    cases e
    exact h.mem.blk k _ x (List.getElem?_eq_getElem hlt) hx, h.mem.lt, h.mem.sat⟩, fun k x hx => Nat.lt_of_lt_of_le (h.dom k x hx) hp.len, h.inj, h.ge, h.old, h.below⟩

/-- Things that are laid anew get their names. -/
theorem Reg.lay {n : Nat} {X : AV} {bs : List Blk} {u : Value} {w' : World} (h : Reg w0 F σ own w) (hk : ∀ i b, bs[i]? = some b → own[n + i]? = some b) (hn : ∀ i, i < bs.length → σ (n + i) = none) (hL : Lays w0.heap.size F σ n X bs w u w') :
    ∃ σ', SgLe σ σ' ∧ Reg w0 F σ' own w' ∧ X.Is σ' u ∧ ∀ k, (k < n ∨ n + bs.length ≤ k) → σ' k = σ k := by
  obtain ⟨hb, ν, h1, h2, h3⟩ := hL
  have R := h.later hb
  have hs : SgLe σ (fun k => if n ≤ k ∧ k < n + bs.length then some (ν (k - n)) else σ k) := fun k m hm => by
    show (if n ≤ k ∧ k < n + bs.length then some (ν (k - n)) else σ k) = some m
    by_cases hc : n ≤ k ∧ k < n + bs.length
    · have := hn (k - n) (by omega)
      rw [show n + (k - n) = k by omega, hm] at this
      cases this
    · rw [if_neg hc]; exact hm
  have old : ∀ k m, (if n ≤ k ∧ k < n + bs.length then some (ν (k - n)) else σ k) = some m → (∃ i, i < bs.length ∧ k = n + i ∧ m = ν i) ∨ σ k = some m := fun k m hm => by
    by_cases hc : n ≤ k ∧ k < n + bs.length
    · rw [if_pos hc] at hm
      exact .inl ⟨k - n, by omega, by omega, (Option.some.inj hm).symm⟩
    · rw [if_neg hc] at hm
      exact .inr hm
  obtain ⟨q1, q2⟩ := h3 _ hs fun i hi => by
    show (if n ≤ n + i ∧ n + i < n + bs.length then some (ν (n + i - n)) else σ (n + i)) = _
    rw [if_pos (by omega)]
    simp
  refine ⟨_, hs, ⟨⟨fun k b m hkb hm => ?_, fun k m g hm hg => ?_, R.mem.sat⟩, fun k m hm => ?_, fun k k' m m' g hm hm' hg hg' => ?_, fun k m g hm hg => ?_, R.old, R.below⟩, q1, fun k hk' => if_neg (by omega)⟩
  · rcases old k m hm with ⟨i, hi, rfl, rfl⟩ | hm
    · have hbi := hk i _ (List.getElem?_eq_getElem hi)
      rw [hbi] at hkb
      cases hkb
      exact q2 i _ (List.getElem?_eq_getElem hi)
    · exact (R.mem.blk k b m hkb hm).grow hs
  · rcases old k m hm with ⟨i, hi, rfl, rfl⟩ | hm
    · exact (h1 i hi g hg).2
    · exact R.mem.lt k m g hm hg
  · rcases old k m hm with ⟨i, hi, rfl, rfl⟩ | hm
    · exact (List.getElem?_eq_some_iff.1 (hk i _ (List.getElem?_eq_getElem hi))).1
    · exact R.dom k m hm
  · rcases old k m hm with ⟨i, hi, rfl, rfl⟩ | hm <;> rcases old k' m' hm' with ⟨i', hi', rfl, rfl⟩ | hm'
    · rw [h2 i i' hi hi' g hg hg']
    · have := h.mem.lt k' m' g hm' hg'
      have := (h1 i hi g hg).1
      omega
    · have := h.mem.lt k m g hm hg
      have := (h1 i' hi' g hg').1
      omega
    · exact R.inj k k' m m' g hm hm' hg hg'
  · rcases old k m hm with ⟨i, hi, rfl, rfl⟩ | hm
    · exact Nat.le_trans h.below.size (h1 i hi g hg).1
    · exact R.ge k m g hm hg

/-- An operation that comes to this: what it leaves is handed on. -/
theorem does_step {n : Nat} {X : AV} {bs : List Blk} {next : Act → World → Prop} {Q : Exit → Act → World → Prop} (h : DoesAt P w0.heap.size F σ n X bs w ((execOp a.eval o).run P w)) (hn : ∀ u w', Lays w0.heap.size F σ n X bs w u w' → next (a.put o.dst u) w') : o.wp P a w next Q := by
  unfold Oper.wp
  generalize (execOp a.eval o).run P w = r at *
  cases r with
  | ok x w' =>
    cases x <;> simp only [DoesAt] at h <;> simp only [Oper.upon]
    case value v => exact hn _ _ h
    case skip => exact hn _ _ h
    case enter f args =>
      obtain ⟨rfl, hc⟩ := h
      exact hc.mono fun e w'' ⟨u, he, hw''⟩ => by subst he; exact hn _ _ hw''
  | halt x w' => simp only [DoesAt] at h

theorem ValS.step {K : AV → List Blk → Prop} {next : Act → World → Prop} {Q : Exit → Act → World → Prop} (h : ValS P F own fr o K) (hH : Holds w0 F σ fr own a w)
    (hn : ∀ X bs σ' u w', K X bs → Holds w0 F σ' (putL o.dst fr X) (own ++ bs) (a.put o.dst u) w' → next (a.put o.dst u) w') : o.wp P a w next Q := by
  obtain ⟨X, bs, hK, hd⟩ := h
  refine does_step (hd w0.heap.size σ a (hH.fr.op o) w hH.reg.below.size hH.reg.mem) fun u w' hL => ?_
  obtain ⟨σ', hs, hR, hX, _⟩ := (hH.reg.pre (Pre.app own bs)).lay (fun i b hi => by rw [List.getElem?_append_right (by omega), Nat.add_sub_cancel_left]; exact hi) (fun i hi => by
    cases hs : σ (own.length + i) with
    | none => rfl
    | some m => have := hH.reg.dom _ m hs; omega) hL
  exact hn X bs σ' u w' hK ⟨hR, (hH.fr.grow hs).put hX _, by cases o.dst <;> exact hH.dfr⟩

/-- Stores. -/
def storeL : List AV → Nat → List AV → List AV
  | cells, _, [] => cells
  | cells, off, x :: l => storeL (cells.set off x) (off + 1) l
theorem storeK_eq : ∀ (l cells : List AV) (off : Nat) (K : List AV → Prop), storeK cells off l K = K (storeL cells off l)
  | [], cells, off, K => rfl
  | x :: l, cells, off, K => by simp [storeK, storeL, setK_eq, storeK_eq l]
theorem storeL_len : ∀ (l cells : List AV) (off : Nat), (storeL cells off l).length = cells.length
  | [], cells, off => rfl
  | x :: l, cells, off => by simp [storeL, storeL_len l]
theorem storeL_at : ∀ (l cells : List AV) (off j : Nat), off + l.length ≤ cells.length → (storeL cells off l)[j]? = if off ≤ j ∧ j < off + l.length then l[j - off]? else cells[j]?
  | [], cells, off, j, h => by simp [storeL]; intro h1 h2; omega
  | x :: l, cells, off, j, h => by
    simp only [List.length_cons] at h
    rw [storeL, storeL_at l _ _ _ (by simp; omega)]
    by_cases hj : j = off
    · subst hj
      rw [if_neg (by omega), if_pos (by simp)]
      have : j < cells.length := by omega
      simp [this]
    · by_cases h2 : off ≤ j ∧ j < off + (l.length + 1)
      · rw [if_pos (by omega), if_pos (by simpa using h2)]
        obtain ⟨k, rfl⟩ : ∃ k, j = off + 1 + k := ⟨j - off - 1, by omega⟩
        rw [show off + 1 + k - (off + 1) = k by omega, show off + 1 + k - off = k + 1 by omega]
        simp
      · rw [if_neg (by omega), if_neg (by simpa using h2), List.getElem?_set_ne (by omega)]
theorem storeV_at : ∀ (l cells : List Value) (off j : Nat), off + l.length ≤ cells.length → (storeV cells off l)[j]? = if off ≤ j ∧ j < off + l.length then l[j - off]? else cells[j]?
  | [], cells, off, j, h => by simp [storeV]; intro h1 h2; omega
  | x :: l, cells, off, j, h => by
    simp only [List.length_cons] at h
    rw [storeV, storeV_at l _ _ _ (by simp [setL_eq]; omega), setL_eq]
    by_cases hj : j = off
    · subst hj
      rw [if_neg (by omega), if_pos (by simp)]
      have : j < cells.length := by omega
      simp [this]
    · by_cases h2 : off ≤ j ∧ j < off + (l.length + 1)
      · rw [if_pos (by omega), if_pos (by simpa using h2)]
        obtain ⟨k, rfl⟩ : ∃ k, j = off + 1 + k := ⟨j - off - 1, by omega⟩
        rw [show off + 1 + k - (off + 1) = k by omega, show off + 1 + k - off = k + 1 by omega]
        simp
      · rw [if_neg (by omega), if_neg (by simpa using h2), List.getElem?_set_ne (by omega)]

/-- The cells behind a store. -/
def stored (cur : List Value) (off : Nat) (vs : List Value) : List Value := cur.take off ++ vs ++ cur.drop (off + vs.length)
theorem stored_len {cur vs : List Value} {off : Nat} (hl : off + vs.length ≤ cur.length) : (stored cur off vs).length = cur.length := by simp [stored]; omega
theorem stored_at {cur vs : List Value} {off : Nat} (hl : off + vs.length ≤ cur.length) (j : Nat) : (stored cur off vs)[j]? = if off ≤ j ∧ j < off + vs.length then vs[j - off]? else cur[j]? := by
  have e1 : (cur.take off).length = off := by simp; omega
  unfold stored
  by_cases hr : off ≤ j ∧ j < off + vs.length
  · rw [if_pos hr, List.append_assoc, List.getElem?_append_right (by omega), e1, List.getElem?_append_left (by omega)]
  · rw [if_neg hr]
    by_cases hlt : j < off
    · rw [List.append_assoc, List.getElem?_append_left (by omega), List.getElem?_take_of_lt hlt]
    · rw [List.getElem?_append_right (by simp; omega), List.getElem?_drop]
      simp only [List.length_append, e1]
      rw [show off + vs.length + (j - (off + vs.length)) = j by omega]
theorem storeV_stored {cur vs : List Value} {off : Nat} (hl : off + vs.length ≤ cur.length) : storeV cur off vs = stored cur off vs :=
  List.ext_getElem? fun j => by rw [storeV_at _ _ _ _ hl, stored_at hl]

theorem FrIs.store {cells xs : List AV} {cur : Array Value} {vs : List Value} {off : Nat} (h : FrIs σ cells cur) (hx : FrIs σ xs vs.toArray) (hl : off + xs.length ≤ cells.length) :
    FrIs σ (storeL cells off xs) (stored cur.toList off vs).toArray := by
  have hlen := h.len
  have hxl : xs.length = vs.length := by simpa using hx.len
  have hl2 : off + vs.length ≤ cur.toList.length := by simp; omega
  refine ⟨by rw [storeL_len]; simp [stored_len hl2]; omega, fun j x hj => ?_⟩
  rw [storeL_at _ _ _ _ hl] at hj
  simp only [List.getElem?_toArray]
  rw [stored_at hl2]
  by_cases hr : off ≤ j ∧ j < off + xs.length
  · rw [if_pos hr] at hj
    rw [if_pos (by omega)]
    obtain ⟨u, h1, h2⟩ := hx.at_ _ x hj
    exact ⟨u, by simpa using h1, h2⟩
  · rw [if_neg hr] at hj
    rw [if_neg (by omega)]
    obtain ⟨u, h1, h2⟩ := h.at_ _ x hj
    exact ⟨u, by simpa using h1, h2⟩

theorem run_store_row {t T : TypeId} {i : TypeInfo} {v : Value} {vs : List Value} {b off : Nat} {cur : Array Value} (hb : w.heap[b]? = some (.cells cur T (0, 0))) (hl : off + vs.length ≤ cur.size) (hv : v.cells = vs.toArray) (hi : P.info? t = some i) (hz : vs.length = i.size) (h1 : ∀ v ∈ vs, v.oneCell' = true) :
    (storeVar t ⟨b, off, none⟩ v).run P w = .ok () (w.setRow b (stored cur.toList off vs).toArray) := by
  have hrun := run_storeCells_at P b off T vs 0 cur w hb (by omega) h1
  simp only [Nat.add_zero] at hrun
  simp [storeVar, sizeOf, typeInfo, hi, hv, hz, hrun, stored]

/-- The own block k turns from b to b'. -/
theorem Reg.turn {k : Nat} {b : Blk} {m : Nm} {g : Nat} {cs : Array Value} (h : Reg w0 F σ own w) (hv : σ k = some m) (hg : m.fp g) (hb : BlkIs w0.heap.size F (w.setRow g cs) σ m b) : Reg w0 F σ (own.set k b) (w.setRow g cs) := by
  refine ⟨⟨fun j c u hj hu => ?_, fun j u i hu hi => by rw [setRow_size]; exact h.mem.lt j u i hu hi, h.mem.sat.stay fun x hx => setRow_other _ _ _ _ fun e => by have := h.old x hx; have := h.ge k m g hv hg; omega⟩, fun j u hu => by rw [List.length_set]; exact h.dom j u hu, h.inj, h.ge, h.old, below_setRow h.below (h.ge k m g hv hg) _⟩
  · by_cases hkj : k = j
    · subst hkj
      rw [hv] at hu
      cases hu
      have hlt := h.dom k m hv
      rw [List.getElem?_set_self hlt] at hj
      cases hj
      exact hb
    · rw [List.getElem?_set_ne hkj] at hj
      refine (h.mem.blk j c u hj hu).same (fun i hi => h.mem.lt j u i hu hi) fun i hi => setRow_other _ _ _ _ fun e => hkj ?_
      subst e
      exact h.inj k j m u _ hv hu hg hi

theorem killK_eq (k : Nat) : ∀ (l : List AV) (K : List AV → Prop), killK k l K = K (l.map (killA k))
  | [], K => rfl
  | x :: l, K => by
    cases x with
    | s k' => cases hd : decide (k' = k) <;> simp only [killK, hd, killA, List.map_cons, killK_eq k l]
    | e k' off => cases hd : decide (k' = k) <;> simp only [killK, hd, killA, List.map_cons, killK_eq k l]
    | sub k' off n => cases hd : decide (k' = k) <;> simp only [killK, hd, killA, List.map_cons, killK_eq k l]
    | t k' => cases hd : decide (k' = k) <;> simp only [killK, hd, killA, List.map_cons, killK_eq k l]
    | _ => simp only [killK, killA, List.map_cons, killK_eq k l]
theorem killO_eq (k : Nat) : ∀ (l : List Blk) (K : List Blk → Prop), killO k l K = K (l.map (killB k))
  | [], K => rfl
  | b :: l, K => by cases b <;> simp only [killO, killB, List.map_cons, killO_eq k l, killK_eq]

theorem killA_is {k : Nat} {m m' : Nm} {x : AV} {u : Value} (hv : σ k = some m) (hs : ∃ ad n c, m.v = .slice ad n c) (h : x.Is σ u) : (killA k x).Is (σ.set k m') u := by
  obtain ⟨ad, n, c, hm⟩ := hs
  have oth : ∀ i, i ≠ k → σ.set k m' i = σ i := fun i hi => Sg.set_other _ _ hi
  cases x with
  | v x => exact h
  | lit b => exact h
  | junk => trivial
  | p k' off =>
    obtain ⟨q, b, h1, h2, h3⟩ := h
    have hne : k' ≠ k := fun e => by subst e; rw [hv] at h1; cases h1; rw [hm] at h2; cases h2
    exact ⟨q, b, by rw [oth _ hne]; exact h1, h2, h3⟩
  | s k' =>
    by_cases he : k' = k
    · simp only [killA, he, decide_true]; trivial
    · obtain ⟨q, h1, h2⟩ := h
      simp only [killA, he, decide_false]; exact ⟨q, by rw [oth _ he]; exact h1, h2⟩
  | e k' off =>
    by_cases he : k' = k
    · simp only [killA, he, decide_true]; trivial
    · obtain ⟨q, b, m, c', h1, h2⟩ := h
      simp only [killA, he, decide_false]; exact ⟨q, b, m, c', by rw [oth _ he]; exact h1, h2⟩
  | sub k' off n =>
    by_cases he : k' = k
    · simp only [killA, he, decide_true]; trivial
    · obtain ⟨q, ad, c', h1, h2⟩ := h
      simp only [killA, he, decide_false]; exact ⟨q, ad, c', by rw [oth _ he]; exact h1, h2⟩
  | t k' =>
    by_cases he : k' = k
    · simp only [killA, he, decide_true]; trivial
    · obtain ⟨q, h1, h2⟩ := h
      simp only [killA, he, decide_false]
      exact ⟨q, by rw [oth _ he]; exact h1, h2⟩
theorem FrIs.kill {k : Nat} {m m' : Nm} {l : List AV} {tmps : Array Value} (hv : σ k = some m) (hs : ∃ ad n c, m.v = .slice ad n c) (h : FrIs σ l tmps) : FrIs (σ.set k m') (l.map (killA k)) tmps :=
  ⟨by rw [List.length_map]; exact h.len, fun i y hy => by
    simp only [List.getElem?_map, Option.map_eq_some_iff] at hy
    obtain ⟨x, hx, rfl⟩ := hy
    obtain ⟨u, h1, h2⟩ := h.at_ i x hx
    exact ⟨u, h1, killA_is hv hs h2⟩⟩

/-- An append, and where its array lies. -/
theorem run_append2 {base : Nat} {t ty e : TypeId} {i : TypeInfo} {z : Value} {size bytes : Nat} (ht : P.underlying t = some (.slice e)) (hi : P.info? e = some i) (hz : i.zero = some z) (hsize : i.size = size) (hby : i.bytes = bytes) (hzs : z.cells.size = size) (hsz : 0 < size)
    {v : Value} {n : Nat} {xs : List Value} (hown : w.ownsRow base e size v n xs) {ad : Addr} {m c : Nat} {news : List Value} (hl : news.length = m * size) (hnews : ∀ j u, news[j]? = some u → w.cell? (ad.add j) = some u) (h1 : ∀ u ∈ news, u.oneCell' = true)
    (h0 : 0 < m) (h63 : n + m ≤ maxLen) (hbytes : (n + m) * bytes ≤ 140737488355328) (hbase : base ≤ w.heap.size) :
    ∃ v' w', (Builtin.append_ #[t, t] ty #[v, .slice (some ad) m c]).run P w = .ok v' w' ∧ w'.ownsRow base e size v' (n + m) (xs ++ news) ∧ w.grownBy w' v.ownBlock ∧ ∃ g cap, v' = .slice (some ⟨g, 0, none⟩) (n + m) cap ∧ (v.ownBlock = some g ∨ w.heap.size ≤ g) := by
  obtain ⟨v', w', hr, h2, h3, _⟩ := run_append_own (P := P) w base t ty e i z size bytes ht hi hz hsize hby hzs hsz v n xs hown ad m c news hl hnews h1 h63 hbytes hbase
  refine ⟨v', w', hr, h2, h3, ?_⟩
  have hsmall : n + m ≤ 9223372036854775807 := by simp only [maxLen] at h63; omega
  subst hsize
  subst hby
  rcases hown.2 with ⟨rfl, rfl⟩ | ⟨g, cap, cur, rfl, hbg, hg, hnc, hcm, hcs, htake⟩
  · have hr2 := run_append_nil (P := P) w t ty e i z ht hi hz ad m c news hl hnews (by omega) (by omega) (by have hb := hbytes; simp only [Nat.zero_add] at hb; omega)
    rw [hr] at hr2
    cases hr2
    exact ⟨_, _, by rw [Nat.zero_add], .inr (Nat.le_refl _)⟩
  · by_cases hroom : n + m ≤ cap
    · have hfit : n * i.size + news.length ≤ cur.size := by rw [hl, hcs, ← Nat.add_mul]; exact Nat.mul_le_mul_right _ hroom
      have hr2 := run_append_room (P := P) w t ty e i ht hi g n cap cur hg ad m c news hl hnews h1 hroom hfit
      rw [hr] at hr2
      cases hr2
      exact ⟨_, _, rfl, .inl rfl⟩
    · have holds : ∀ j u, xs[j]? = some u → w.cell? ((⟨g, 0, none⟩ : Addr).add j) = some u := hown.cells (g := g) rfl
      have hr2 := run_append_grow (P := P) w t ty e i z ht hi hz ⟨g, 0, none⟩ n cap xs hown.1 holds ad m c news hl hnews (by omega) (by omega) (growslice_fits (by omega) hbytes)
      rw [hr] at hr2
      cases hr2
      exact ⟨_, _, rfl, .inr (Nat.le_refl _)⟩

theorem appArgs_spec {c : Call} {t : TypeId} {s x : Operand} (h : appArgs c = some (t, s, x)) : c.callee = .builtin .append ∧ c.argTypes = #[t, t] ∧ c.args = #[s, x] := by
  unfold appArgs at h
  split at h
  · rename_i hc
    split at h
    · rename_i t1 t2 s1 x1 ht hx
      split at h
      · rename_i hd
        obtain rfl := of_decide_eq_true hd
        cases h
        exact ⟨hc, by rw [← Array.toArray_toList (xs := c.argTypes), ht], by rw [← Array.toArray_toList (xs := c.args), hx]⟩
      · cases h
    · cases h
  · cases h

theorem blkIs_nil (w : World) (T : TypeId) (z base : Nat) : BlkIs base F w σ ⟨.slice none 0 0, fun _ => False⟩ (.row T z 0 []) :=
  ⟨⟨World.ownsRow_nil w _ T z, by simp⟩, fun g => by simp [Value.ownBlock]⟩
/-- A nil slice gets a name. -/
theorem Reg.newNil (h : Reg w0 F σ own w) (T : TypeId) (z : Nat) : ∃ σ', SgLe σ σ' ∧ σ' own.length = some ⟨.slice none 0 0, fun _ => False⟩ ∧ Reg w0 F σ' (own ++ [.row T z 0 []]) w := by
  have old : ∀ k m, σ.set own.length ⟨.slice none 0 0, fun _ => False⟩ k = some m → (k = own.length ∧ m = ⟨.slice none 0 0, fun _ => False⟩) ∨ (k < own.length ∧ σ k = some m) := fun k m hk => by
    by_cases he : k = own.length
    · subst he; rw [Sg.set_same] at hk; exact .inl ⟨rfl, (Option.some.inj hk).symm⟩
    · rw [Sg.set_other _ _ he] at hk; exact .inr ⟨h.dom k m hk, hk⟩
  have hs : SgLe σ (σ.set own.length ⟨.slice none 0 0, fun _ => False⟩) := fun k m hk => by
    rw [Sg.set_other _ _ (by have := h.dom k m hk; omega)]; exact hk
  refine ⟨_, hs, Sg.set_same _ _ _, ⟨⟨fun k c m hk hm => ?_, fun k m i hm hi => ?_, h.mem.sat⟩, fun k m hm => ?_, fun k k' m m' i hm hm' hi hi' => ?_, fun k m i hm hi => ?_, h.old, h.below⟩⟩
  · rcases old k m hm with ⟨rfl, rfl⟩ | ⟨hlt', hm'⟩
    · rw [List.getElem?_append_right (Nat.le_refl _)] at hk
      simp at hk
      subst hk
      exact blkIs_nil w T z _
    · rw [List.getElem?_append_left hlt'] at hk
      exact (h.mem.blk k c m hk hm').grow hs
  · rcases old k m hm with ⟨rfl, rfl⟩ | ⟨_, hm'⟩
    · exact hi.elim
    · exact h.mem.lt k m i hm' hi
  · rcases old k m hm with ⟨rfl, rfl⟩ | ⟨hlt', _⟩
    · simp
    · simp; omega
  · rcases old k m hm with ⟨rfl, rfl⟩ | ⟨_, hv⟩
    · exact hi.elim
    · rcases old k' m' hm' with ⟨rfl, rfl⟩ | ⟨_, hv'⟩
      · exact hi'.elim
      · exact h.inj k k' m m' i hv hv' hi hi'
  · rcases old k m hm with ⟨rfl, rfl⟩ | ⟨_, hm'⟩
    · exact hi.elim
    · exact h.ge k m i hm' hi

/-- An append of nothing. -/
theorem run_append_zero {base : Nat} {t ty e e2 : TypeId} {i : TypeInfo} {size : Nat} (ht : P.underlying t = some (.slice e)) (hi : P.info? e = some i)
    {v : Value} {n : Nat} {xs : List Value} (hown : w.ownsRow base e2 size v n xs) (ad : Option Addr) (c : Nat) :
    (Builtin.append_ #[t, t] ty #[v, .slice ad 0 c]).run P w = .ok v w := by
  rcases hown.2 with ⟨rfl, rfl⟩ | ⟨g, cap, cur, rfl, _, _, hnc, _⟩
  · cases ad <;> simp [Builtin.append_, run_underlying ht, sizeOf, typeInfo, hi, Builtin.lenOf, Builtin.firstCells, loadCells, loadCellsFrom]
  · cases ad <;> simp [Builtin.append_, run_underlying ht, sizeOf, typeInfo, hi, Builtin.lenOf, Builtin.firstCells, hnc, storeCells, loadCells, loadCellsFrom]

theorem append_step {c : Call} {t T : TypeId} {s x : Operand} {k z n m c2 : Nat} {ad : Addr} {xs news : List Value} {nm : Nm} {K : List AV → List Blk → Prop} {next : Act → World → Prop} {Q : Exit → Act → World → Prop} (ho : o.op = .call c) (happ : appArgs c = some (t, s, x)) (hH : Holds w0 F σ fr own a w)
    (hk : own[k]? = some (.row T z n xs)) (hσ : σ k = some nm) (hs : a.eval s = nm.v) (hx : a.eval x = .slice (some ad) m c2) (hl : news.length = m * z) (hnews : ∀ j u, news[j]? = some u → w.cell? (ad.add j) = some u) (h1 : ∀ y ∈ news, y.oneCell' = true) (h : appendK P t o.dst fr own k T z n m xs news K)
    (hn : ∀ σ' fr' own' a' w', Holds w0 F σ' fr' own' a' w' → K fr' own' → next a' w') : o.wp P a w next Q := by
  unfold appendK at h
  split at h
  · rename_i T' z' by' hri
    split at h
    · rename_i d1 d2
      obtain rfl := of_decide_eq_true d1
      obtain rfl := of_decide_eq_true d2
      obtain ⟨⟨hm, hb1, hb2⟩, h⟩ := h
      rw [killK_eq, killO_eq, setK_eq, putK_eq] at h
      obtain ⟨hty, i, zv, hi, hz, hsz, hby, hzs, hpos, _⟩ := rowInfo_spec hri
      obtain ⟨⟨hrow, hone⟩, hfp⟩ := hH.reg.mem.blk k _ nm hk hσ
      have hvs : ∃ ad n c, nm.v = .slice ad n c := by
        rcases hrow.2 with ⟨hv, _⟩ | ⟨g, cap, cur, hv, _⟩
        · exact ⟨_, _, _, hv⟩
        · exact ⟨_, _, _, hv⟩
      obtain ⟨v', w', hr, hown', hgr, g, cap, rfl, hloc⟩ := run_append2 (P := P) (ty := o.type) (c := c2) hty hi hz hsz hby hzs hpos hrow hl hnews h1 hm (by unfold maxLen; omega) hb1 hH.reg.below.size
      obtain ⟨hcal, hct, hca⟩ := appArgs_spec happ
      have hexec : (execOp a.eval o).run P w = .ok (.value (.slice (some ⟨g, 0, none⟩) (n + m) cap)) w' := by
        simp [execOp, ho, resolve, hcal, invoke, builtin, hca, hct, hs, hx, hr]
      unfold Oper.wp
      rw [hexec]
      have R := hH.reg
      have keep : ∀ j y i, j ≠ k → σ j = some y → y.fp i → w'.heap[i]? = w.heap[i]? := fun j y i hj hy hi => hgr.block i (R.mem.lt j y i hy hi) fun e => hj (R.inj j k y nm i hy hσ hi ((hfp i).2 e.symm))
      have old : ∀ j y, σ.set k ⟨.slice (some ⟨g, 0, none⟩) (n + m) cap, fun b => b = g⟩ j = some y → (j = k ∧ y = ⟨.slice (some ⟨g, 0, none⟩) (n + m) cap, fun b => b = g⟩) ∨ (j ≠ k ∧ σ j = some y) := fun j y hj => by
        by_cases he : j = k
        · subst he; rw [Sg.set_same] at hj; exact .inl ⟨rfl, (Option.some.inj hj).symm⟩
        · rw [Sg.set_other _ _ he] at hj; exact .inr ⟨he, hj⟩
      have apart : ∀ j y, j ≠ k → σ j = some y → ¬ y.fp g := fun j y hj hy hi => by
        rcases hloc with hl | hl
        · exact hj (R.inj j k y nm g hy hσ hi ((hfp g).2 hl))
        · have := R.mem.lt j y g hy hi; omega
      have hkl : k < own.length := R.dom k nm hσ
      refine hn (σ.set k ⟨.slice (some ⟨g, 0, none⟩) (n + m) cap, fun b => b = g⟩) _ _ _ _ ⟨⟨⟨fun j b y hj hy => ?_, fun j y i hy hi => ?_, R.mem.sat.stay fun b hF => hgr.block b (R.mem.sat.lt hF) fun e => (by
          have h2 := R.old b hF
          have h3 := R.ge k nm b hσ ((hfp b).2 e.symm)
          omega)⟩, fun j y hy => ?_, fun j j' y y' i hy hy' hi hi' => ?_, fun j y i hy hi => ?_, R.old, ?_⟩, ?_, by cases o.dst <;> exact hH.dfr⟩ h
      · rcases old j y hy with ⟨rfl, rfl⟩ | ⟨hj', hy'⟩
        · rw [List.getElem?_set_self (by simpa using hkl)] at hj
          cases hj
          exact ⟨⟨hown', fun q hq => by rcases List.mem_append.1 hq with hq | hq; exact hone q hq; exact h1 q hq⟩, fun q => by simp [Value.ownBlock, eq_comm]⟩
        · rw [List.getElem?_set_ne (Ne.symm hj'), List.getElem?_map, Option.map_eq_some_iff] at hj
          obtain ⟨b', hb', rfl⟩ := hj
          have hB := (R.mem.blk j b' y hb' hy').same (w' := w') (fun i hi => R.mem.lt j y i hy' hi) fun i hi => keep j y i hj' hy' hi
          cases b' with
          | cells l => obtain ⟨q, ys, T2, q1, q2, q3, q4⟩ := hB; exact ⟨q, ys, T2, q1, q2, q3.kill hσ hvs, q4⟩
          | comp tup l => obtain ⟨vs, q1, q2⟩ := hB; exact ⟨vs, q1, q2.kill hσ hvs⟩
          | clo g first l => obtain ⟨vs, q1, q2⟩ := hB; exact ⟨vs, q1, q2.kill hσ hvs⟩
          | arr xs => exact hB
          | row T2 z2 n2 x2 => exact hB
          | map es => exact hB
          | obj p => exact hB
          | dead => trivial
      · rcases old j y hy with ⟨rfl, rfl⟩ | ⟨hj', hy'⟩
        · have : i = g := hi
          subst this
          exact (hown'.lt i rfl).2
        · exact Nat.lt_of_lt_of_le (R.mem.lt j y i hy' hi) hgr.size
      · rw [List.length_set, List.length_map]
        rcases old j y hy with ⟨rfl, _⟩ | ⟨_, hy'⟩
        · exact hkl
        · exact R.dom j y hy'
      · rcases old j y hy with ⟨rfl, rfl⟩ | ⟨hj, hv⟩ <;> rcases old j' y' hy' with ⟨rfl, rfl⟩ | ⟨hj', hv'⟩
        · rfl
        · have : i = g := hi
          subst this
          exact absurd hi' (apart j' y' hj' hv')
        · have : i = g := hi'
          subst this
          exact absurd hi (apart j y hj hv)
        · exact R.inj j j' y y' i hv hv' hi hi'
      · rcases old j y hy with ⟨rfl, rfl⟩ | ⟨_, hy'⟩
        · have : i = g := hi
          subst this
          exact (hown'.lt i rfl).1
        · exact R.ge j y i hy' hi
      · exact R.below.grown hgr R.below.size fun i hi => (hrow.lt i hi).1
      · exact (hH.fr.kill hσ hvs).put (x := .s k) ⟨_, Sg.set_same _ _ _, rfl, _, _, _, rfl⟩ o.dst
    · exact h.elim
  · exact h.elim

theorem argsX_spec : ∀ (l : List AV) (vs : List Value), argsX l = some vs → ∀ (us : Array Value), FrIs σ l us → us.toList = vs
  | [], vs, h, us, hf => by
    simp [argsX] at h
    subst h
    have := hf.len
    simp only [List.length_nil] at this
    rw [Array.eq_empty_of_size_eq_zero this.symm]
  | x :: l, vs, h, us, hf => by
    have hlen := hf.len
    obtain ⟨u0, hu0, hx0⟩ := hf.at_ 0 x (by simp)
    have tail : FrIs σ l us.toList.tail.toArray := ⟨by simp at hlen ⊢; omega, fun i y hy => by
      obtain ⟨u, h1, h2⟩ := hf.at_ (i + 1) y (by simpa using hy)
      refine ⟨u, ?_, h2⟩
      simp only [List.getElem?_toArray, List.getElem?_tail, Array.getElem?_toList]
      exact h1⟩
    have hcons : us.toList = u0 :: us.toList.tail := by
      have h0 : us.toList[0]? = some u0 := by simpa using hu0
      cases hl : us.toList with
      | nil => rw [hl] at h0; cases h0
      | cons y ys => rw [hl] at h0; simp at h0; subst h0; rfl
    cases x with
    | v x =>
      unfold argsX at h
      cases hr : argsX l with
      | none => rw [hr] at h; cases h
      | some vs' =>
        rw [hr] at h
        cases h
        have := argsX_spec l vs' hr _ tail
        obtain rfl : u0 = x := hx0
        rw [hcons]
        simpa using this
    | lit b =>
      unfold argsX at h
      cases hr : argsX l with
      | none => rw [hr] at h; cases h
      | some vs' =>
        rw [hr] at h
        cases h
        have := argsX_spec l vs' hr _ tail
        obtain rfl : u0 = .bool b := hx0
        rw [hcons]
        simpa using this
    | p k off => simp [argsX] at h
    | s k => simp [argsX] at h
    | e k off => simp [argsX] at h
    | sub k off n => simp [argsX] at h
    | t k => simp [argsX] at h
    | junk => simp [argsX] at h

theorem oneA_cells {l : List AV} {us : Array Value} (hf : FrIs σ l us) (h : l.all oneA = true) : ∀ u ∈ us.toList, u.oneCell' = true := by
  intro u hu
  obtain ⟨i, hi, rfl⟩ := List.getElem_of_mem hu
  have hil : i < l.length := by rw [hf.len]; simpa using hi
  obtain ⟨u', h1, h2⟩ := hf.at_ i l[i] (List.getElem?_eq_getElem hil)
  have e : us.toList[i] = u' := by
    have : us.toList[i]? = some u' := by simpa using h1
    rw [List.getElem?_eq_getElem hi] at this
    exact Option.some.inj this
  rw [e]
  have hone := List.all_eq_true.1 h l[i] (List.getElem_mem hil)
  generalize l[i] = x at *
  cases x with
  | v x => obtain rfl : u' = x := h2; cases u' <;> simp [oneA, oneC, Value.oneCell'] at hone ⊢
  | lit b => obtain rfl : u' = .bool b := h2; rfl
  | p k off => obtain ⟨m, b, _, _, rfl⟩ := h2; rfl
  | s k => obtain ⟨m, _, _, ad, n, c, rfl⟩ := h2; rfl
  | e k off => obtain ⟨m, b, n, c, _, _, rfl⟩ := h2; rfl
  | sub k off n => obtain ⟨m, ad, c, _, rfl, _⟩ := h2; rfl
  | t k => simp [oneA] at hone
  | junk => simp [oneA] at hone
theorem catBK_eq : ∀ (l own : List Blk) (K : List Blk → Prop), catBK own l K = K (own ++ l)
  | [], own, K => by simp [catBK]
  | b :: l, own, K => by simp [catBK, appK_eq, catBK_eq l]
theorem putObj_below {k : Nat} {m : Nm} {g : Nat} (h : Reg w0 F σ own w) (hv : σ k = some m) (hg : m.fp g) (ob : Obj) : Below w0.heap.size w0 (w.putObj g ob) := by
  have hge := h.ge k m g hv hg
  refine h.below.grown (grownBy_putObj' w g ob) h.below.size fun i hi => ?_
  cases hi; exact hge

theorem opK_sound {K : List AV → List Blk → Prop} {next : Act → World → Prop} {Q : Exit → Act → World → Prop} (h : opK P F o fr own K) (hH : Holds w0 F σ fr own a w)
    (hn : ∀ σ' fr' own' a' w', Holds w0 F σ' fr' own' a' w' → K fr' own' → next a' w') : o.wp P a w next Q := by
  have viaVal : (valK P F o fr own fun x bs => catBK own bs fun own => putK o.dst fr x fun fr => K fr own) → o.wp P a w next Q := fun h =>
    (valK_sound h).step hH fun X bs σ' u w' hK hH' => by
      rw [catBK_eq, putK_eq] at hK
      exact hn _ _ _ _ _ hH' hK
  unfold opK at h
  split at h
  · -- store
    rename_i t ax x ho
    split at h
    · rename_i k off y i hax hx hi
      split at h
      · rename_i cells hc
        rw [nth_eq] at hc
        obtain ⟨l, h, hl⟩ := cellsK_sound h
        split at h
        · rename_i d1 d2 d3
          rw [storeK_eq, setK_eq, putK_eq] at h
          have d1 := of_decide_eq_true d1
          have d2 := of_decide_eq_true d2
          obtain ⟨m, b, q1, q2, q3⟩ := ev_is hH.fr hax
          have hcells := hl σ _ (ev_is hH.fr hx)
          obtain ⟨b', cur, T, e1, e2, e3, e4⟩ := hH.reg.mem.blk k _ m hc q1
          rw [q2] at e1
          obtain rfl : b = b' := by simpa using e1
          have hlen := hcells.len
          have hlen2 := e3.len
          have hrun := run_store_row (P := P) (w := w) (t := t) (i := i) (v := a.eval x) (vs := (a.eval x).cells.toList) (off := off) e2 (by simp; omega) (by simp) hi (by simp; omega) (oneA_cells hcells d3)
          have hexec : (execOp a.eval o).run P w = .ok .skip (w.setRow b (stored cur.toList off (a.eval x).cells.toList).toArray) := by
            simp [execOp, ho, Instr.storeAt, Instr.sureAddr, q3, hrun]
          unfold Oper.wp
          rw [hexec]
          have hB : BlkIs w0.heap.size F (w.setRow b (stored cur.toList off (a.eval x).cells.toList).toArray) σ m (.cells (storeL cells off l)) := ⟨b, _, T, q2, setRow_heap w b cur _ T _ e2, e3.store (by simpa using hcells) d2, e4⟩
          exact hn _ _ _ _ _ (Holds.put (x := .v undef) ⟨hH.reg.turn q1 ((e4 b).2 rfl) hB, hH.fr, hH.dfr⟩ rfl o.dst) h
        · exact h.elim
      · rename_i xs hc
        rw [nth_eq] at hc
        have fin : ∀ vs : List Value, (a.eval x).cells = vs.toArray → vs.length = i.size → off + vs.length ≤ xs.length → (∀ u ∈ vs, u.oneCell' = true) → (K (putL o.dst fr (.v undef)) (own.set k (.arr (storeV xs off vs)))) → o.wp P a w next Q := by
          intro vs hvs hsz hob hone h
          obtain ⟨m, b, q1, q2, q3⟩ := ev_is hH.fr hax
          obtain ⟨b', T, e1, e2, e4⟩ := hH.reg.mem.blk k _ m hc q1
          rw [q2] at e1
          obtain rfl : b = b' := by simpa using e1
          have hrun := run_store_row (P := P) (w := w) (t := t) (i := i) (v := a.eval x) (vs := vs) (off := off) e2 (by simpa using hob) hvs hi hsz hone
          have hexec : (execOp a.eval o).run P w = .ok .skip (w.setRow b (stored xs off vs).toArray) := by
            simp [execOp, ho, Instr.storeAt, Instr.sureAddr, q3, hrun]
          unfold Oper.wp
          rw [hexec]
          rw [storeV_stored hob] at h
          have hB : BlkIs w0.heap.size F (w.setRow b (stored xs off vs).toArray) σ m (.arr (stored xs off vs)) := ⟨b, T, q2, setRow_heap w b xs.toArray _ T _ e2, e4⟩
          exact hn _ _ _ _ _ (Holds.put (x := .v undef) ⟨hH.reg.turn q1 ((e4 b).2 rfl) hB, hH.fr, hH.dfr⟩ rfl o.dst) h
        split at h
        · rename_i c
          obtain ⟨⟨rfl, g1, g2, g3⟩, h⟩ := h
          rw [setK_eq, putK_eq] at h
          have e1 : a.eval x = .agg c := ev_is hH.fr hx
          refine fin c.toList (by rw [e1]; rfl) g1 (by omega) g3 ?_
          rw [storeV_stored (by omega)]
          unfold stored
          rw [List.take_zero, List.nil_append, List.drop_eq_nil_of_le (by omega), List.append_nil]
          exact h
        · obtain ⟨l, h, hl⟩ := cellsK_sound h
          split at h
          · rename_i vs d1 d2 d3
            obtain ⟨hob, h⟩ := h
            rw [setK_eq, putK_eq] at h
            have d1 := of_decide_eq_true d1
            have hcells := hl σ _ (ev_is hH.fr hx)
            have hvs := argsX_spec _ _ d2 _ hcells
            have hlen := hcells.len
            have hvl : vs.length = l.length := by rw [← hvs]; simp [hlen]
            exact fin vs (by rw [← hvs]) (by omega) hob (by rw [← hvs]; exact oneA_cells hcells d3) h
          · exact h.elim
      · exact h.elim
    · rename_i k off y i hax hx hi
      split at h
      · rename_i T z n xs hc
        rw [nth_eq] at hc
        obtain ⟨l, h, hl⟩ := cellsK_sound h
        split at h
        · rename_i vs d1 d2 d3
          obtain ⟨hob, h⟩ := h
          rw [setK_eq, putK_eq] at h
          have d1 := of_decide_eq_true d1
          obtain ⟨nm, b, m, c, q1, qv, q2⟩ := ev_is hH.fr hax
          have hcells := hl σ _ (ev_is hH.fr hx)
          have hvs := argsX_spec _ _ d2 _ hcells
          have hlen := hcells.len
          obtain ⟨⟨hrow, hone⟩, hfp⟩ := hH.reg.mem.blk k _ nm hc q1
          rcases hrow.2 with ⟨hv, _⟩ | ⟨g, cap, cur, hv, hbg, hg, hnc, hcm, hcs, htake⟩
          · rw [qv] at hv; cases hv
          · rw [qv] at hv
            cases hv
            have hxl := hrow.1
            have hvl : vs.length = l.length := by rw [← hvs]; simp [hlen]
            have hfit : off + vs.length ≤ cur.size := by rw [hcs]; have := Nat.mul_le_mul_right z hnc; omega
            have hrun := run_store_row (P := P) (w := w) (t := t) (i := i) (v := a.eval x) (vs := vs) (off := off) hg hfit (by rw [← hvs]) hi (by omega) (by rw [← hvs]; exact oneA_cells hcells d3)
            have hexec : (execOp a.eval o).run P w = .ok .skip (w.setRow b (stored cur.toList off vs).toArray) := by
              simp [execOp, ho, Instr.storeAt, Instr.sureAddr, q2, hrun]
            unfold Oper.wp
            rw [hexec]
            rw [storeV_stored hob] at h
            have hst : (stored cur.toList off vs).take (n * z) = stored xs off vs := by
              apply List.ext_getElem?
              intro j
              have hlc : off + vs.length ≤ cur.toList.length := by simpa using hfit
              by_cases hj : j < n * z
              · rw [List.getElem?_take_of_lt hj, stored_at hlc, stored_at hob]
                by_cases hr : off ≤ j ∧ j < off + vs.length
                · rw [if_pos hr, if_pos hr]
                · rw [if_neg hr, if_neg hr, ← htake, List.getElem?_take_of_lt hj]
              · rw [List.getElem?_eq_none (by simp; omega), List.getElem?_eq_none (by rw [stored_len hob]; omega)]
            have hB : BlkIs w0.heap.size F (w.setRow b (stored cur.toList off vs).toArray) σ nm (.row T z n (stored xs off vs)) := by
              refine ⟨⟨⟨by rw [stored_len hob]; exact hxl, .inr ⟨b, c, _, qv, hbg, setRow_heap w b cur _ T _ hg, hnc, hcm, ?_, ?_⟩⟩, fun u hu => ?_⟩, hfp⟩
              · simp [stored_len (cur := cur.toList) (vs := vs) (off := off) (by simpa using hfit), hcs]
              · simpa using hst
              · obtain ⟨j, hj, rfl⟩ := List.getElem_of_mem hu
                have := stored_at hob j
                rw [List.getElem?_eq_getElem hj] at this
                split at this
                · have hm := List.mem_of_getElem? this.symm
                  have key : ∀ u ∈ vs, u.oneCell' = true := by rw [← hvs]; exact oneA_cells hcells d3
                  exact key _ hm
                · exact hone _ (List.mem_of_getElem? this.symm)
            exact hn _ _ _ _ _ (Holds.put (x := .v undef) ⟨hH.reg.turn q1 ((hfp b).2 (by rw [qv]; rfl)) hB, hH.fr, hH.dfr⟩ rfl o.dst) h
        · exact h.elim
      · exact h.elim
    · exact h.elim
  · -- insert
    rename_i t mx kx x ho
    split at h
    · rename_i i ik n u mi hm hk hx hmi
      split at h
      · rename_i es hc
        rw [nth_eq] at hc
        obtain ⟨kt, zz⟩ := mi
        obtain ⟨e, kk, inf, g1, g2, g3, g4⟩ := mapInfo_spec hmi
        rcases insK_sound ⟨_, rfl⟩ es h with h | ⟨h, hfind⟩
        · exact h.elim
        · rw [appK_eq, setK_eq, putK_eq] at h
          obtain ⟨m, q1, q2⟩ := ev_is hH.fr hm
          have e2 : a.eval kx = .int ik n := ev_is hH.fr hk
          have e3 : a.eval x = u := ev_is hH.fr hx
          obtain ⟨rr, es', cl, q3, q4, q5, q6⟩ := hH.reg.mem.blk i _ m hc q1
          have e1 : a.eval mx = .map (some rr) := by rw [← q2]; exact q3
          have hf := Go.MapKept.run_findKey (P := P) (w := w) g2 (hfind es'.toList 0 q5)
          have hexec : (execOp a.eval o).run P w = .ok .skip (w.putObj rr (.map (es'.push { key := .int ik n, val := u, born := cl }) (cl + 1))) := by
            simp [execOp, ho, e1, e2, e3, Instr.mapUpdate, run_underlying g1, Go.MapKept.run_getObj_map q4, Go.MapKept.run_setObj_map _ q4, run_checkKey_int g2, hf]; rfl
          unfold Oper.wp
          rw [hexec]
          have hlt := hH.reg.mem.lt i m rr q1 ((q6 rr).2 rfl)
          refine hn _ _ _ _ _ (Holds.put (x := .v undef) ⟨?_, hH.fr, hH.dfr⟩ rfl o.dst) h
          have R := hH.reg
          refine ⟨⟨fun j c m' hj hm' => ?_, fun j m' g hm' hg => ?_, R.mem.sat.stay fun b hF => World.putObj_heap_other (by have h1 := R.old b hF; have h2 := R.ge i m rr q1 ((q6 rr).2 rfl); omega)⟩, fun j m' hm' => by rw [List.length_set]; exact R.dom j m' hm', R.inj, R.ge, R.old, putObj_below R q1 ((q6 rr).2 rfl) _⟩
          · by_cases hij : i = j
            · subst hij
              rw [q1] at hm'
              cases hm'
              rw [List.getElem?_set_self (R.dom i m q1)] at hj
              cases hj
              exact ⟨rr, _, _, q3, World.putObj_heap_same hlt, by simp [q5], q6⟩
            · rw [List.getElem?_set_ne hij] at hj
              refine (R.mem.blk j c m' hj hm').same (fun g hg => R.mem.lt j m' g hm' hg) fun g hg => World.putObj_heap_other fun e => hij ?_
              subst e
              exact R.inj i j m m' _ q1 hm' ((q6 _).2 rfl) hg
          · rw [World.putObj_size]; exact R.mem.lt j m' g hm' hg
      · exact h.elim
    · exact h.elim
  · -- call
    rename_i c ho
    split at h
    · rename_i t s x happ
      have hget : ∀ {base m z : Nat} {T : TypeId} {xs : List Value} {u : Value}, w.ownsRow base T z u m xs → 0 < m → ∃ g c2, u = .slice (some ⟨g, 0, none⟩) m c2 ∧ ∀ j v, xs[j]? = some v → w.cell? ((⟨g, 0, none⟩ : Addr).add j) = some v := fun {base m z T xs u} hu hm => by
        rcases hu.2 with ⟨_, rfl⟩ | ⟨g, cap, cur, rfl, _⟩
        · omega
        · exact ⟨_, _, rfl, hu.cells (g := g) rfl⟩
      have zero : ∀ {σ1 : Sg} {own1 : List Blk}, Holds w0 F σ1 fr own1 a w → ∀ {k : Nat} {nm : Nm} {T : TypeId} {z n c2 : Nat} {xs : List Value} {ad : Option Addr}, K (putL o.dst fr (.s k)) own1 → σ1 k = some nm → nm.v = a.eval s → (∃ ad n c, a.eval s = .slice ad n c) → own1[k]? = some (.row T z n xs) → a.eval x = .slice ad 0 c2 → (∃ q, rowInfo P t = some q) → o.wp P a w next Q := fun {σ1 own1} hH {k nm T z n c2 xs ad} hK p1 p2 p3 hc hx hri => by
        obtain ⟨⟨hrow, _⟩, _⟩ := hH.reg.mem.blk k _ nm hc p1
        obtain ⟨hcal, hct, hca⟩ := appArgs_spec happ
        rw [p2] at hrow
        obtain ⟨⟨e', z', by'⟩, hri⟩ := hri
        obtain ⟨hty, i, zv, hi, _⟩ := rowInfo_spec hri
        have hr := run_append_zero (ty := o.type) hty hi hrow ad c2
        have hexec : (execOp a.eval o).run P w = .ok (.value (a.eval s)) w := by
          simp [execOp, ho, resolve, hcal, invoke, builtin, hca, hct, hx, hr]
        unfold Oper.wp
        rw [hexec]
        exact hn _ _ _ _ _ (hH.put (x := .s k) ⟨nm, p1, p2, p3⟩ o.dst) hK
      split at h
      · rename_i k k' hs hx
        split at h
        · rename_i T z n xs T' z' m news hc hc' hkk
          rw [nth_eq] at hc hc'
          split at h
          · rename_i d1 d2
            obtain rfl := of_decide_eq_true d1
            obtain rfl := of_decide_eq_true d2
            obtain ⟨nm', q1, q2, _⟩ := ev_is hH.fr hx
            obtain ⟨nm, p1, p2, _⟩ := ev_is hH.fr hs
            obtain ⟨⟨hu, hone⟩, _⟩ := hH.reg.mem.blk k' _ nm' hc' q1
            rw [q2] at hu
            have hm : 0 < m := by
              unfold appendK at h
              split at h
              · split at h
                · exact h.ob.1
                · exact h.elim
              · exact h.elim
            obtain ⟨g, c2, hv, hcl⟩ := hget hu hm
            exact append_step ho happ hH hc p1 p2.symm hv hu.1 hcl hone h hn
          · exact h.elim
        · exact h.elim
      · rename_i k k' off m hs hx
        split at h
        · rename_i T z n xs T' z' N news qri hc hc' hkk hri
          rw [nth_eq] at hc hc'
          split at h
          · rename_i d1 d2
            obtain rfl := of_decide_eq_true d1
            obtain rfl := of_decide_eq_true d2
            obtain ⟨hob, h⟩ := h
            obtain ⟨nm', ad, c2, q1, q2, q3, q4⟩ := ev_is hH.fr hx
            obtain ⟨nm, p1, p2, p3⟩ := ev_is hH.fr hs
            obtain ⟨⟨hu, hone⟩, _⟩ := hH.reg.mem.blk k' _ nm' hc' q1
            by_cases hm : m = 0
            · have h0 := h.t (by simpa using hm)
              rw [putK_eq] at h0
              subst hm
              exact zero hH h0 p1 p2 p3 hc q2 ⟨_, hri⟩
            · have h := h.f (by simpa using hm)
              obtain ⟨b, N', c', hv, rfl⟩ := q4 (by omega)
              refine append_step ho happ hH hc p1 p2.symm q2 (partRow_len hu.1 hob) (fun j u hj => ?_) (fun y hy => ?_) h hn
              · have := hu.cells (g := b) (by rw [hv]; rfl) _ u (partRow_at hj)
                rwa [add_at, Nat.zero_add, ← add_at] at this
              · exact hone y (List.mem_of_mem_drop (List.mem_of_mem_take hy))
          · exact h.elim
        · exact h.elim
      · rename_i k ad m c2 hs hx
        split at h
        · rename_i T z n xs qri hc hri
          rw [nth_eq] at hc
          obtain ⟨nm, p1, p2, p3⟩ := ev_is hH.fr hs
          have hx' : a.eval x = .slice ad m c2 := ev_is hH.fr hx
          by_cases hm : m = 0
          · have h0 := h.t (by simpa using hm)
            rw [putK_eq] at h0
            subst hm
            exact zero hH h0 p1 p2 p3 hc hx' ⟨_, hri⟩
          · have h1 := h.f (by simpa using hm)
            clear h
            obtain ⟨b, off, rfl, h⟩ := h1
            obtain ⟨vs, q1, q2, h⟩ := h
            obtain ⟨hone, h⟩ := h
            exact append_step ho happ hH hc p1 p2.symm hx' q2 (fun j u hj => by rw [add_at]; exact hH.reg.mem.sat.1 _ _ _ (q1 j u hj)) hone h hn
        · exact h.elim
      · rename_i k' hs hx
        split at h
        · rename_i T z m news hc'
          rw [nth_eq] at hc'
          rw [lenK_eq, appK_eq, Nat.add_zero] at h
          obtain ⟨nm', q1, q2, _⟩ := ev_is hH.fr hx
          obtain ⟨⟨hu, hone⟩, _⟩ := hH.reg.mem.blk k' _ nm' hc' q1
          rw [q2] at hu
          have hm : 0 < m := by
            unfold appendK at h
            split at h
            · split at h
              · exact h.ob.1
              · exact h.elim
            · exact h.elim
          obtain ⟨g, c2, hv, hcl⟩ := hget hu hm
          obtain ⟨σ', hle, hnew, hR⟩ := hH.reg.newNil T z
          have hH' : Holds w0 F σ' fr (own ++ [.row T z 0 []]) a w := ⟨hR, hH.fr.grow hle, hH.dfr⟩
          exact append_step (k := own.length) ho happ hH' (by simp) hnew (ev_is hH.fr hs) hv hu.1 hcl hone h hn
        · exact h.elim
      · rename_i ad m c2 hs hx
        split at h
        · rename_i T z by' hri
          rw [lenK_eq, appK_eq, Nat.add_zero] at h
          have hx' : a.eval x = .slice ad m c2 := ev_is hH.fr hx
          have hs' : a.eval s = .slice none 0 0 := ev_is hH.fr hs
          obtain ⟨σ', hle, hnew, hR⟩ := hH.reg.newNil T z
          have hH' : Holds w0 F σ' fr (own ++ [.row T z 0 []]) a w := ⟨hR, hH.fr.grow hle, hH.dfr⟩
          by_cases hm : m = 0
          · have h0 := h.t (by simpa using hm)
            rw [putK_eq] at h0
            subst hm
            exact zero hH' h0 hnew hs'.symm ⟨_, _, _, hs'⟩ (show (own ++ [Blk.row T z 0 []])[own.length]? = some (.row T z 0 []) by simp) hx' ⟨_, hri⟩
          · have h1 := h.f (by simpa using hm)
            clear h
            obtain ⟨b, off, rfl, h⟩ := h1
            obtain ⟨vs, q1, q2, h⟩ := h
            obtain ⟨hone, h⟩ := h
            exact append_step (k := own.length) ho happ hH' (by simp) hnew hs' hx' q2 (fun j u hj => by rw [add_at]; exact hH.reg.mem.sat.1 _ _ _ (q1 j u hj)) hone h hn
        · exact h.elim
      · exact h.elim
    · exact viaVal h
  · exact viaVal h

end Go.Proofs.YthbhnbnlbhpooaaGreatDoor
