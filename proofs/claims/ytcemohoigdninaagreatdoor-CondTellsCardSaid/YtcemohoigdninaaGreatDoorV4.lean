/- What the evaluation says of one operation holds of it. No condition. -/
import Derived.Test.YtcemohoigdninaaGreatDoorV3
import Derived.Laws.MakeOwn
import Derived.Laws.BytesString
import Derived.MapKept
import Derived.Carry
namespace Go.Proofs.YtcemohoigdninaaGreatDoor
open Go Go.RowKit Go.Sort
set_option linter.unusedVariables false
set_option linter.unusedSimpArgs false

variable {P : Program} {F : Facts} {σ : Sg} {base : Nat} {fr : List AV} {own : List Blk} {a : Act} {o : Oper}

theorem valsR_are {W : World} : ∀ (l : List Value) (m : List AR) (us : List Value), ArsAre W m us → ArsAre W (valsR l m) (l ++ us)
  | [], m, us, h => h
  | x :: l, m, us, h => ⟨x, l ++ us, rfl, rfl, valsR_are l m us h⟩
theorem slP_row {base : Nat} {W : World} {T : TypeId} {z n : Nat} {xs : List Value} {u : Value} (h : W.ownsRow base T z u n xs) : SlP z n xs (memF W) u := by
  refine ⟨h.1, ?_⟩
  rcases h.2 with ⟨rfl, hn⟩ | ⟨g, cap, cur, rfl, _⟩
  · exact ⟨none, 0, by rw [hn], fun h0 => by omega⟩
  · exact ⟨_, cap, rfl, fun _ => ⟨g, 0, rfl, fun j v hj => by have := h.cells (g := g) rfl j v hj; rwa [add_at] at this⟩⟩
theorem partRow_len {z off n N : Nat} {xs : List Value} (hx : xs.length = N * z) (hle : off + n * z ≤ N * z) : (partRow z off n xs).length = n * z := by
  unfold partRow; simp; omega
theorem partRow_at {z off n : Nat} {xs : List Value} {j : Nat} {v : Value} (h : (partRow z off n xs)[j]? = some v) : xs[off + j]? = some v := by
  unfold partRow at h
  have hj := (List.getElem?_eq_some_iff.1 h).1
  simp at hj
  rw [List.getElem?_take_of_lt (by omega), List.getElem?_drop] at h
  exact h
theorem slP_part {base : Nat} {F : Facts} {W : World} {T : TypeId} {z n N k off : Nat} {xs : List Value} {m : Nm} {u : Value} (hk : σ k = some m) (h : W.ownsRow base T z m.v N xs) (hu : (AV.sub k off n).Is σ u) (hle : off + n * z ≤ N * z) : SlP z n (partRow z off n xs) (memF W) u := by
  obtain ⟨m', ad, c, h1, rfl, _, h2⟩ := hu
  rw [hk] at h1
  cases h1
  refine ⟨partRow_len h.1 hle, ad, c, rfl, fun h0 => ?_⟩
  obtain ⟨b, N', c', h3, h4⟩ := h2 h0
  refine ⟨b, off, h4, fun j v hj => ?_⟩
  have hc := h.cells (g := b) (by rw [h3]; rfl) (off + j) v (partRow_at hj)
  rwa [add_at, Nat.zero_add] at hc

theorem rowsK_sound : ∀ (l : List Operand) (m : List AR) (K : List AR → Prop), rowsK fr own l m K → ∃ args, K args ∧ ∀ base (σ : Sg) (a : Act) W us, (∀ x ∈ l, ∀ y, ev fr x = some y → y.Is σ (a.eval x)) → Mem base F σ own W → ArsAre W m us → ArsAre W args (l.map a.eval ++ us)
  | [], m, K, h => ⟨m, h, fun base σ a W us _ _ hm => hm⟩
  | x :: l, m, K, h => by
    have key : ∀ (y : AV) (r : AR), ev fr x = some y → (∀ base (σ : Sg) (a : Act) W, y.Is σ (a.eval x) → Mem base F σ own W → ArIs W r (a.eval x)) → rowsK fr own l m (fun l => K (r :: l)) → ∃ args, K args ∧ ∀ base (σ : Sg) (a : Act) W us, (∀ x' ∈ x :: l, ∀ y, ev fr x' = some y → y.Is σ (a.eval x')) → Mem base F σ own W → ArsAre W m us → ArsAre W args ((x :: l).map a.eval ++ us) := fun y r hy hr h => by
      obtain ⟨args, h1, h2⟩ := rowsK_sound l m _ h
      exact ⟨_, h1, fun base σ a W us hx hM hm => ⟨a.eval x, l.map a.eval ++ us, rfl, hr base σ a W (hx x (by simp) _ hy) hM, h2 base σ a W us (fun y hy => hx y (by simp [hy])) hM hm⟩⟩
    unfold rowsK at h
    split at h
    · rename_i u hu
      exact key _ (.v u) hu (fun base σ a W h _ => h) h
    · rename_i b hu
      exact key _ (.v (.bool b)) hu (fun base σ a W h _ => h) h
    · rename_i k hu
      split at h
      · rename_i T z n xs hc
        rw [nth_eq] at hc
        refine key _ (.r z n xs) hu (fun base σ a W h hM => ?_) h
        obtain ⟨nm, h1, h2, _⟩ := h
        have := (hM.blk k _ nm hc h1).1.1
        rw [h2] at this
        exact slP_row this
      · exact h.elim
    · rename_i k off n hu
      split at h
      · rename_i T z N xs hc
        rw [nth_eq] at hc
        obtain ⟨hob, h⟩ := h
        refine key _ (.r z n (partRow z off n xs)) hu (fun base σ a W h hM => ?_) h
        have h' := h
        obtain ⟨nm, ad, c, h1, h2, _⟩ := h
        exact slP_part (F := F) h1 (hM.blk k _ nm hc h1).1.1 h' hob
      · exact h.elim
    · rename_i k hu
      split at h
      · rename_i p hc
        rw [nth_eq] at hc
        refine key _ (.o p) hu (fun base σ a W h hM => ?_) h
        obtain ⟨nm, h1, h2⟩ := h
        have := hM.blk k _ nm hc h1
        show p (memF W) (a.eval x)
        rw [← h2]
        exact this (memF W) (fun b o x hx => hM.sat.1 b o x hx) (fun b o x _ hx => hx)
      · exact h.elim
    · exact h.elim
theorem run_enters {g : FuncId} {us : Array Value} (h : entersB P g = true) (W : World) : (callFunc g us).run P W = .ok (.enter g us) W := by
  unfold entersB at h
  split at h
  · rename_i fn hfn
    split at h
    · rename_i c hn hb
      have h1 : fn.name ≠ "runtime.NumGoroutine" := by simpa using hn
      simp [callFunc, hfn, h1, hb]
    · cases h
  · cases h
theorem ownCallK_sound {c : Call} {K : AV → List Blk → Prop} (ho : o.op = .call c) (h : ownCallK P F fr own c K) : ValS P F own fr o K := by
  unfold ownCallK at h
  split at h
  · rename_i f hcal
    split at h
    · rename_i g first captured hf
      split at h
      · rename_i hb
        obtain ⟨args, h1, h2⟩ := rowsK_sound (F := F) _ _ _ h
        rw [lenK_eq, Nat.add_zero] at h1
        obtain ⟨X, bs, hK, hd⟩ := callA_lays h1
        refine ⟨X, bs, hK, fun base σ a hfr W hbase hW => ?_⟩
        have e1 : a.eval f = .func (.func g) first captured := hfr f (by simp [ho, Op.operands, Call.operands, hcal]) _ hf
        have hargs := h2 base σ a W _ (fun x hx => hfr x (by simp only [ho, Op.operands, Call.operands, hcal]; simp at hx ⊢; simp [hx])) hW (valsR_are captured.toList [] [] rfl)
        have hall := valsR_are first.toList _ _ hargs
        have hexec : (execOp a.eval o).run P W = .ok (.enter g (first ++ c.args.map a.eval ++ captured)) W := by
          have e : execOp a.eval o = callFunc g (first ++ c.args.map a.eval ++ captured) := by
            simp only [execOp, ho, resolve, hcal, e1, Deferred.ofValue]; rfl
          rw [e, run_enters hb]
        rw [hexec]
        refine ⟨rfl, ?_⟩
        have := hd base _ σ W hbase hW.sat hall
        have e : (first.toList ++ (c.args.toList.map a.eval ++ (captured.toList ++ []))).toArray = first ++ c.args.map a.eval ++ captured := by
          apply Array.ext'; simp
        rwa [e] at this
      · exact h.elim
    · exact h.elim
  · exact h.elim

/-- Contracts for things that lie wherever they lie: out of contracts for each place where they may lie. -/
def Fam (C : List Value → Facts → Prop) : List AR → List Value → Facts → Prop
  | [], us, F => C us F
  | .v x :: l, us, F => Fam C l (us ++ [x]) F
  | .r z n xs :: l, us, F => ∀ ad b off c, (0 < n → ad = some ⟨b, off, none⟩) → xs.length = n * z → Fam C l (us ++ [.slice ad n c]) (orF F (rowF b off xs))
  | .o p :: l, us, F => ∀ (G : Facts) u, p G u → Fam C l (us ++ [u]) (orF F G)
theorem fam_are {C : List Value → Facts → Prop} {W : World} : ∀ (args : List AR) (us : List Value) (F : Facts) (vs : List Value), Fam C args us F → Sat F W → ArsAre W args vs → ∃ F', Sat F' W ∧ C (us ++ vs) F'
  | [], us, F, vs, h, hF, ha => by obtain rfl : vs = [] := ha; exact ⟨F, hF, by rw [List.append_nil]; exact h⟩
  | .v x :: l, us, F, vs, h, hF, ha => by
    obtain ⟨u, vs', rfl, rfl, h2⟩ := ha
    have := fam_are l (us ++ [u]) F vs' h hF h2
    simpa using this
  | .r z n xs :: l, us, F, vs, h, hF, ha => by
    obtain ⟨u, vs', rfl, ⟨hl, ad, c, rfl, hs⟩, h2⟩ := ha
    by_cases h0 : 0 < n
    · obtain ⟨b, off, rfl, hc⟩ := hs h0
      have := fam_are l (us ++ [_]) _ vs' (h _ b off c (fun _ => rfl) hl) ⟨fun b' o' x hx => by
        rcases hx with hx | ⟨rfl, j, rfl, hj⟩
        · exact hF.1 _ _ _ hx
        · exact hc j x hj, fun b' p hp => by
        rcases hp with hp | hp
        · exact hF.2 _ _ hp
        · exact hp.elim⟩ h2
      simpa using this
    · have hx0 : xs = [] := by
        have : n = 0 := by omega
        rw [this] at hl
        exact List.eq_nil_of_length_eq_zero (by simpa using hl)
      have := fam_are l (us ++ [_]) _ vs' (h ad 0 0 c (fun h => absurd h h0) hl) ⟨fun b' o' x hx => by
        rcases hx with hx | ⟨rfl, j, rfl, hj⟩
        · exact hF.1 _ _ _ hx
        · (rw [hx0] at hj; cases hj), fun b' p hp => by
        rcases hp with hp | hp
        · exact hF.2 _ _ hp
        · exact hp.elim⟩ h2
      simpa using this
  | .o p :: l, us, F, vs, h, hF, ha => by
    obtain ⟨u, vs', rfl, hp, h2⟩ := ha
    have := fam_are l (us ++ [u]) _ vs' (h (memF W) u hp) ⟨fun b' o' x hx => by
      rcases hx with hx | hx
      · exact hF.1 _ _ _ hx
      · exact hx, fun b' p hp => by
      rcases hp with hp | hp
      · exact hF.2 _ _ hp
      · exact hp⟩ h2
    simpa using this
theorem DenA.fam {f : FuncId} {args : List AR} {v : Value} (h : Fam (fun us F => Den P f us.toArray F v) args [] F) : DenA P f F args v :=
  ⟨fun W us hF ha => by
    obtain ⟨F', h1, h2⟩ := fam_are args [] F us h hF ha
    exact h2.out W h1⟩
/-- A contract of a function that returns fresh things, where the arguments are values. -/
structure DenV (P : Program) (f : FuncId) (F : Facts) (us : List Value) (res : List AV) (own : List Blk) : Prop where
  out : ∀ W, Sat F W → Calls P f us.toArray W fun e w' => ∃ σ vs, e = .returned (retV vs) ∧ Reg W F σ own w' ∧ (∀ k, k < own.length → σ k ≠ none) ∧ FrIs σ res vs.toArray
theorem Reg.facts {w0 w : World} {F F' : Facts} (h : Reg w0 F σ own w) (hs : Sat F' w) (ho : ∀ b, F'.at b → b < w0.heap.size) (hb : ∀ (k : Nat) (b : Blk), own[k]? = some b → (match b with | .obj _ => False | _ => True)) : Reg w0 F' σ own w :=
  ⟨⟨fun k b m hk hm => by
    have := h.mem.blk k b m hk hm
    have hb := hb k b hk
    cases b with
    | obj p => exact hb.elim
    | _ => exact this, h.mem.lt, hs⟩, h.dom, h.inj, h.ge, ho, h.below⟩
def noObj (own : List Blk) : Bool := own.all fun (b : Blk) => match b with | .obj _ => false | _ => true
theorem DenF.fam {f : FuncId} {args : List AR} {res : List AV} (hn : noObj own = true) (h : Fam (fun us F => DenV P f F us res own) args [] F) : DenF P f F args res own :=
  ⟨fun W us hF ha => by
    obtain ⟨F', h1, h2⟩ := fam_are args [] F us h hF ha
    refine (h2.out W h1).mono ?_
    rintro e w' ⟨σ, vs, he, hR, hall, hres⟩
    refine ⟨σ, vs, he, hR.facts (hF.stay fun b hb => hR.below.block b (hF.lt hb)) (fun b hb => hF.lt hb) (fun k b hk => ?_), hall, hres⟩
    · have := List.all_eq_true.1 hn b (List.mem_of_getElem? hk)
      cases b <;> simp at this ⊢⟩

theorem storeV_len : ∀ (l cells : List Value) (off : Nat), (storeV cells off l).length = cells.length
  | [], cells, off => rfl
  | x :: l, cells, off => by simp [storeV, setL_eq, storeV_len l]
theorem fillX_len {place : Nat → Option (Nat × Nat)} : ∀ (ps : List (Nat × Value)) (cells l : List Value), fillX place cells ps = some l → l.length = cells.length
  | [], cells, l, h => by simp [fillX] at h; rw [h]
  | (i, v) :: ps, cells, l, h => by
    unfold fillX at h
    split at h
    · split at h
      · rw [fillX_len ps _ l h, storeV_len]
      · cases h
    · cases h
theorem repX_len (n : Nat) (z : List Value) : (repX n z).length = n * z.length := by
  induction n with
  | zero => simp [repX]
  | succ n ih => rw [repX, List.length_append, ih, Nat.add_mul]; omega
theorem repX_at : ∀ (n : Nat) (z : List Value) (i : Nat), i < n * z.length → (repX n z)[i]? = z[i % z.length]?
  | 0, z, i, h => by simp at h
  | n + 1, z, i, h => by
    rw [repX]
    by_cases hi : i < z.length
    · rw [List.getElem?_append_left hi, Nat.mod_eq_of_lt hi]
    · rw [List.getElem?_append_right (by omega), repX_at n z _ (by rw [Nat.add_mul] at h; omega), Nat.mod_eq_sub_mod (a := i) (by omega)]

/-- What is known of a slice type. -/
theorem rowInfo_spec {t e : TypeId} {z by' : Nat} (h : rowInfo P t = some (e, z, by')) : P.underlying t = some (.slice e) ∧ ∃ i v, P.info? e = some i ∧ i.zero = some v ∧ i.size = z ∧ i.bytes = by' ∧ v.cells.size = z ∧ 0 < z ∧ zeroX P e = some v.cells.toList := by
  unfold rowInfo at h
  split at h
  · rename_i e' hu
    split at h
    · rename_i i l hi hl
      split at h
      · cases h
      · rename_i z' hz
        split at h
        · rename_i hd
          cases h
          refine ⟨hu, i, ?_⟩
          have hl' := hl
          unfold zeroX at hl
          simp only [hi] at hl
          split at hl
          · rename_i v hv
            cases hl
            exact ⟨v, hi, hv, hz, rfl, by simpa using of_decide_eq_true hd, by omega, hl'⟩
          · cases hl
        · cases h
    · cases h
  · cases h

theorem run_rowX {t T : TypeId} {n z : Nat} {ps : List (Nat × Value)} {l : List Value} (h : rowX P t n ps = some (T, z, l)) : l.length = n * z ∧ n ≤ maxLen ∧ ∀ w : World, (Instr.buildSlice t n ps.toArray).run P w = .ok (.slice (some ⟨w.heap.size, 0, none⟩) n n) (w.alloc (.cells l.toArray T)) := by
  unfold rowX at h
  split at h
  · rename_i e z' by' hri
    split at h
    · rename_i l0 hz0 hd
      split at h
      · rename_i l' hf
        cases h
        obtain ⟨hu, i, v, hi, hv, hsz, hby, hvs, hpos, hzx⟩ := rowInfo_spec hri
        rw [hzx] at hz0
        cases hz0
        have hd := of_decide_eq_true hd
        have hlen := fillX_len _ _ _ hf
        rw [repX_len] at hlen
        have hl0 : v.cells.toList.length = z := by simpa using hvs
        rw [hl0] at hlen
        have hn : n ≤ n * z := Nat.le_mul_of_pos_right n hpos
        refine ⟨hlen, by unfold maxLen; omega, fun w => ?_⟩
        have hzero : (zeroValue T).run P w = .ok v w := by simp [zeroValue, typeInfo, hi, hv]
        have hrow : ((Array.range (n * z)).map fun i => v.cells[i % v.cells.size]!) = (repX n v.cells.toList).toArray := by
          apply Array.ext_getElem?
          intro i
          by_cases hi' : i < n * z
          · have hm : i % z < v.cells.size := by rw [hvs]; exact Nat.mod_lt _ hpos
            have := repX_at n v.cells.toList i (by rw [hl0]; exact hi')
            rw [hl0] at this
            simp [hi', hvs, this]
            rw [Array.getElem?_eq_getElem hm, getElem!_pos v.cells _ hm]
          · rw [Array.getElem?_eq_none (by simp; omega), Array.getElem?_eq_none (by simp [repX_len]; rw [hvs]; omega)]
        have hfs := fillX_sound (place := fun i => some (i * z, z)) ps (repX n v.cells.toList).toArray l (by simpa using hf)
        by_cases h0 : n * z = 0
        · have hn0 : n = 0 := by rcases Nat.mul_eq_zero.1 h0 with h0 | h0 <;> omega
          subst hn0
          have hfs' : Instr.fill (fun i => some (i * z, z)) #[] ps = some l.toArray := hfs
          simp [Instr.buildSlice, run_underlying hu, sizeOf, typeInfo, hi, hsz, newRow]
          rw [show (Array.map (fun (_ : Nat) => (default : Value)) (Array.range 0)) = #[] from by rw [Array.range_zero', Array.map_empty], hfs']
          rfl
        · have hle : ¬ (16777216 < n * z) := by omega
          rw [← hrow] at hfs
          simp [Instr.buildSlice, run_underlying hu, sizeOf, typeInfo, hi, hsz, hle, h0, hzero, newRow, hfs]
      · cases h
    · cases h
  · cases h

theorem isv_cells (σ : Sg) (cells : List Value) : FrIs σ (cells.map AV.v) cells.toArray :=
  ⟨by simp, fun i x hx => by
    simp only [List.getElem?_map, Option.map_eq_some_iff] at hx
    obtain ⟨u, hu, rfl⟩ := hx
    exact ⟨u, by simpa using hu, rfl⟩⟩
theorem one_cell {x : AV} {u : Value} (h : x.Is σ u) : FrIs σ [x] #[u] :=
  ⟨rfl, fun i y hy => by
    cases i with
    | zero => simp at hy; subst hy; exact ⟨u, rfl, h⟩
    | succ i => simp at hy⟩
theorem cellsK_sound {x : AV} {K : List AV → Prop} (h : cellsK x K) : ∃ l, K l ∧ ∀ σ u, x.Is σ u → FrIs σ l u.cells := by
  cases x with
  | v u =>
    simp only [cellsK, forceL_eq, mapvK_eq] at h
    exact ⟨_, h, fun σ u' hu => by obtain rfl : u' = u := hu; simpa using isv_cells σ u'.cells.toList⟩
  | lit b => exact ⟨_, h, fun σ u hu => by obtain rfl : u = .bool b := hu; exact one_cell (x := .lit b) rfl⟩
  | p k off => exact ⟨_, h, fun σ u hu => by have hu' := hu; obtain ⟨m, b, _, _, rfl⟩ := hu; exact one_cell hu'⟩
  | s k => exact ⟨_, h, fun σ u hu => by have hu' := hu; obtain ⟨m, _, _, ad, n, c, rfl⟩ := hu; exact one_cell hu'⟩
  | e k off => exact ⟨_, h, fun σ u hu => by have hu' := hu; obtain ⟨m, b, n, c, _, _, rfl⟩ := hu; exact one_cell hu'⟩
  | sub k off n => exact ⟨_, h, fun σ u hu => by have hu' := hu; obtain ⟨m, ad, c, _, rfl, _⟩ := hu; exact one_cell hu'⟩
  | t k => exact h.elim
  | junk => exact h.elim

/-- One block is laid anew. -/
theorem does_alloc {n : Nat} {X : AV} {b : Blk} {W : World} {obj : Obj} {v : Value} (h : (execOp a.eval o).run P W = .ok (.value v) (W.alloc obj))
    (hX : ∀ σ' m, SgLe σ σ' → σ' n = some m → m = ⟨v, fun g => g = W.heap.size⟩ → (W.alloc obj).heap[W.heap.size]? = some obj → X.Is σ' v ∧ BlkIs base F (W.alloc obj) σ' m b) : DoesAt P base F σ n X [b] W ((execOp a.eval o).run P W) := by
  rw [h]
  refine ⟨(Below.refl _ _).alloc (Nat.le_refl _) _, fun _ => ⟨v, fun g => g = W.heap.size⟩, fun i _ b hb => ?_, fun i j hi hj _ _ _ => ?_, fun σ' hs hν => ?_⟩
  · have : b = W.heap.size := hb
    subst this
    exact ⟨Nat.le_refl _, by simp⟩
  · simp at hi hj; omega
  · obtain ⟨h1, h2⟩ := hX σ' _ hs (hν 0 (by simp)) rfl (heap_new _ _)
    refine ⟨h1, fun i b' hb' => ?_⟩
    cases i with
    | zero => simp at hb'; subst hb'; exact h2
    | succ i => simp at hb'
theorem lens {α : Type} (l : List α) : ∀ K : Nat → Prop, lenK l 0 K = K l.length := fun K => by rw [lenK_eq, Nat.add_zero]

theorem sameNow_int {kt : TypeDesc} {k k' : IntKind} {x b : Int} (h : ∃ j, kt = .int j) : Instr.sameNow kt (.int k x) (.int k' b) = if k = k' then some (x == b) else none := by
  obtain ⟨j, rfl⟩ := h
  rfl
theorem findK_sound {kt : TypeDesc} (hkt : ∃ j, kt = .int j) {k : IntKind} {x : Int} {K : Option Value → Prop} : ∀ (es : List (Value × Value)), findK k x es K → ∃ r, K r ∧ ∀ (es' : List MapEntry) (i : Nat), (es'.map fun e => (e.key, e.val)) = es → ∃ q, Instr.findNow kt (.int k x) es' i = some q ∧ q.map (·.2) = r
  | [], h => ⟨none, h, fun es' i he => by
    obtain rfl : es' = [] := List.map_eq_nil_iff.1 he
    exact ⟨none, rfl, rfl⟩⟩
  | (.int k' b, v) :: l, h => by
    unfold findK at h
    split at h
    · rename_i hd
      obtain rfl := of_decide_eq_true hd
      by_cases hxb : x = b
      · refine ⟨_, h.t (by simpa using hxb), fun es' i he => ?_⟩
        obtain ⟨e, es'', rfl, he1, he2⟩ := List.map_eq_cons_iff.1 he
        simp only [Prod.mk.injEq] at he1
        unfold Instr.findNow
        rw [he1.1, sameNow_int hkt, if_pos rfl]
        have e1 : (x == b) = true := by simpa using hxb
        rw [e1]
        exact ⟨_, rfl, by simp [he1.2]⟩
      · obtain ⟨r, h1, h2⟩ := findK_sound hkt l (h.f (by simpa using hxb))
        refine ⟨r, h1, fun es' i he => ?_⟩
        obtain ⟨e, es'', rfl, he1, he2⟩ := List.map_eq_cons_iff.1 he
        simp only [Prod.mk.injEq] at he1
        unfold Instr.findNow
        rw [he1.1, sameNow_int hkt, if_pos rfl]
        have e1 : (x == b) = false := by simpa using hxb
        rw [e1]
        exact h2 es'' (i + 1) he2
    · exact h.elim
  | (.bool _, _) :: _, h | (.float _ _, _) :: _, h | (.complex _ _ _, _) :: _, h | (.string _, _) :: _, h | (.pointer _, _) :: _, h | (.slice _ _ _, _) :: _, h | (.map _, _) :: _, h | (.chan _, _) :: _, h | (.func _ _ _, _) :: _, h | (.nilFunc, _) :: _, h | (.iface _ _, _) :: _, h | (.nilIface, _) :: _, h | (.agg _, _) :: _, h | (.tuple _, _) :: _, h => by simp [findK] at h
theorem insK_sound {kt : TypeDesc} (hkt : ∃ j, kt = .int j) {k : IntKind} {x : Int} {K : Bool → Prop} : ∀ (es : List (Value × Value)), insK k x es K → K false ∨ (K true ∧ ∀ (es' : List MapEntry) (i : Nat), (es'.map fun e => (e.key, e.val)) = es → Instr.findNow kt (.int k x) es' i = some none)
  | [], h => .inr ⟨h, fun es' i he => by
    obtain rfl : es' = [] := List.map_eq_nil_iff.1 he
    rfl⟩
  | (.int k' b, v) :: l, h => by
    unfold insK at h
    split at h
    · rename_i hd
      obtain rfl := of_decide_eq_true hd
      by_cases hxb : x = b
      · exact .inl (h.t (by simpa using hxb))
      · rcases insK_sound hkt l (h.f (by simpa using hxb)) with h1 | ⟨h1, h2⟩
        · exact .inl h1
        · refine .inr ⟨h1, fun es' i he => ?_⟩
          obtain ⟨e, es'', rfl, he1, he2⟩ := List.map_eq_cons_iff.1 he
          simp only [Prod.mk.injEq] at he1
          unfold Instr.findNow
          rw [he1.1, sameNow_int hkt, if_pos rfl]
          have e1 : (x == b) = false := by simpa using hxb
          rw [e1]
          exact h2 es'' (i + 1) he2
    · exact h.elim
  | (.bool _, _) :: _, h | (.float _ _, _) :: _, h | (.complex _ _ _, _) :: _, h | (.string _, _) :: _, h | (.pointer _, _) :: _, h | (.slice _ _ _, _) :: _, h | (.map _, _) :: _, h | (.chan _, _) :: _, h | (.func _ _ _, _) :: _, h | (.nilFunc, _) :: _, h | (.iface _ _, _) :: _, h | (.nilIface, _) :: _, h | (.agg _, _) :: _, h | (.tuple _, _) :: _, h => by simp [insK] at h
theorem mapInfo_spec {t kt : TypeId} {z : Value} (h : mapInfo P t = some (kt, z)) : ∃ e k i, P.underlying t = some (.map kt e) ∧ P.underlying kt = some (.int k) ∧ P.info? e = some i ∧ i.zero = some z := by
  unfold mapInfo at h
  split at h
  · rename_i kt' e hu
    split at h
    · rename_i k i hk hi
      split at h
      · rename_i z' hz
        cases h
        exact ⟨e, k, i, hu, hk, hi, hz⟩
      · cases h
    · cases h
  · cases h
theorem run_checkKey_int {kt : TypeId} {j k : IntKind} {x : Int} (h : P.underlying kt = some (.int j)) (em : Bool) (W : World) : (Instr.checkKey em 10000 kt (.int k x)).run P W = .ok () W := by
  unfold Instr.checkKey
  simp [run_underlying h]
theorem foldl_push (s : ByteArray) : ∀ (l : List UInt8) (s0 : ByteArray), ((l.map fun (b : UInt8) => (b.toNat : Int)).foldl (fun r n => r.push (UInt8.ofNat n.toNat)) s0).data.toList = s0.data.toList ++ l
  | [], s0 => by simp
  | b :: l, s0 => by
    simp only [List.map_cons, List.foldl_cons]
    rw [foldl_push s l]
    simp [ByteArray.push]
theorem bytes_of (s : ByteArray) : ((s.data.toList.map fun (b : UInt8) => (b.toNat : Int)).foldl (fun r n => r.push (UInt8.ofNat n.toNat)) ByteArray.empty) = s := by
  have h := foldl_push s s.data.toList ByteArray.empty
  have h2 : ((s.data.toList.map fun (b : UInt8) => (b.toNat : Int)).foldl (fun r n => r.push (UInt8.ofNat n.toNat)) ByteArray.empty).data = s.data := by
    apply Array.ext'
    rw [h]
    rfl
  cases s
  cases hq : (List.foldl (fun r n => r.push (UInt8.ofNat n.toNat)) ByteArray.empty (List.map (fun (b : UInt8) => (b.toNat : Int)) _)) with
  | mk d => rw [hq] at h2; simp at h2; rw [h2]
theorem boundX_is {x : Option Operand} {d : Nat} {n : Int} (h : boundX fr x d = some n) (hop : ∀ y, x = some y → ∀ z, ev fr y = some z → z.Is σ (a.eval y)) : (x = none ∧ n = d) ∨ ∃ y k, x = some y ∧ a.eval y = .int k n := by
  unfold boundX at h
  split at h
  · cases h; exact .inl ⟨rfl, rfl⟩
  · rename_i y
    split at h
    · rename_i k m hy
      cases h
      exact .inr ⟨y, k, rfl, hop y rfl _ hy⟩
    · cases h

/-- What a slice expression yields. -/
theorem run_slice_part {t e : TypeId} {i : TypeInfo} (ht : P.underlying t = some (.slice e)) (hi : P.info? e = some i) {x : Operand} {lo hi' : Option Operand} {l h : Int} {ad : Option Addr} {len cap : Nat} {W : World} (ho : o.op = .slice t x lo hi' none) (hx : a.eval x = .slice ad len cap) (hlc : len ≤ cap)
    (hl : (lo = none ∧ l = ((0 : Nat) : Int)) ∨ ∃ y k, lo = some y ∧ a.eval y = .int k l) (hh : (hi' = none ∧ h = (len : Int)) ∨ ∃ y k, hi' = some y ∧ a.eval y = .int k h) (h0 : 0 ≤ l ∧ l ≤ h ∧ h ≤ len) :
    (execOp a.eval o).run P W = .ok (.value (.slice (if cap = l.toNat then ad else ad.map (·.add (l.toNat * i.size))) (h.toNat - l.toNat) (cap - l.toNat))) W := by
  obtain ⟨h1, h2, h3⟩ := h0
  have hb : (h ≤ (cap : Int)) := by omega
  have hn : 0 ≤ h := by omega
  have e2 : ((h.toNat : Nat) : Int) = h := by omega
  rcases hl with ⟨rfl, rfl⟩ | ⟨y, k, rfl, hy⟩ <;> rcases hh with ⟨rfl, rfl⟩ | ⟨y', k', rfl, hy'⟩
  · simp [execOp, ho, hx, Instr.sliceAt, run_underlying ht, Instr.slice, Instr.sliceBounds, sizeOf, typeInfo, hi]
  · simp [execOp, ho, hx, hy', Instr.sliceAt, run_underlying ht, Instr.slice, Instr.sliceBounds, Instr.sliceBound, asIntOf, sizeOf, typeInfo, hi, hn, hb]
  · simp [execOp, ho, hx, hy, Instr.sliceAt, run_underlying ht, Instr.slice, Instr.sliceBounds, Instr.sliceBound, asIntOf, sizeOf, typeInfo, hi, h1, h2]
  · simp [execOp, ho, hx, hy, hy', Instr.sliceAt, run_underlying ht, Instr.slice, Instr.sliceBounds, Instr.sliceBound, asIntOf, sizeOf, typeInfo, hi, h1, hn, hb, e2, h2]
theorem elemSize_spec {t : TypeId} {z : Nat} (h : elemSize P t = some z) : ∃ e i, P.underlying t = some (.slice e) ∧ P.info? e = some i ∧ i.size = z := by
  unfold elemSize at h
  split at h
  · rename_i e he
    split at h
    · rename_i i hi
      cases h
      exact ⟨e, i, he, hi, rfl⟩
    · cases h
  · cases h

theorem valK_sound {K : AV → List Blk → Prop} (h : valK P F o fr own K) : ValS P F own fr o K := by
  unfold valK at h
  split at h
  · -- move
    rename_i x ho
    split at h
    · rename_i u hu
      exact ⟨u, [], h, fun base σ a hfr W hb hM => does_value (u := a.eval x) (by simp [execOp, ho]) (hfr x (by simp [ho, Op.operands]) _ hu)⟩
    · exact h.elim
  · -- assign
    rename_i x ho
    split at h
    · rename_i u hu
      exact ⟨u, [], h, fun base σ a hfr W hb hM => does_value (u := a.eval x) (by simp [execOp, ho]) (hfr x (by simp [ho, Op.operands]) _ hu)⟩
    · exact h.elim
  · -- pick
    rename_i c x y ho
    have run : ∀ (a : Act) (b : Bool) W, a.eval c = .bool b → (execOp a.eval o).run P W = .ok (.value (if b then a.eval x else a.eval y)) W := fun a b W hb => by
      simp [execOp, ho, hb, asBool]
    split at h
    · rename_i b u u' hc hx hy
      cases b with
      | true => exact ⟨u, [], h.t rfl, fun base σ a hfr W hb hM => does_value (run a true W (hfr c (by simp [ho, Op.operands]) _ hc)) (hfr x (by simp [ho, Op.operands]) _ hx)⟩
      | false => exact ⟨u', [], h.f rfl, fun base σ a hfr W hb hM => does_value (run a false W (hfr c (by simp [ho, Op.operands]) _ hc)) (hfr y (by simp [ho, Op.operands]) _ hy)⟩
    · rename_i b u u' hc hx hy
      cases b with
      | true => exact ⟨u, [], h, fun base σ a hfr W hb hM => does_value (run a true W (hfr c (by simp [ho, Op.operands]) _ hc)) (hfr x (by simp [ho, Op.operands]) _ hx)⟩
      | false => exact ⟨u', [], h, fun base σ a hfr W hb hM => does_value (run a false W (hfr c (by simp [ho, Op.operands]) _ hc)) (hfr y (by simp [ho, Op.operands]) _ hy)⟩
    · exact h.elim
  · -- binOp
    rename_i op xT x y yT ho
    split at h
    · rename_i k m k' n hx hy
      split at h
      · rename_i hk
        rcases intK_sound (P := P) hk h with h | ⟨v, hv, hrun⟩
        · exact exactK_sound h
        · refine ⟨_, _, hv, fun base σ a hfr W hb hM => does_value (u := v) ?_ rfl⟩
          have e1 : a.eval x = .int k m := hfr x (by simp [ho, Op.operands]) _ hx
          have e2 : a.eval y = .int k' n := hfr y (by simp [ho, Op.operands]) _ hy
          have e3 : eqGuard op xT x y (.int k m) (.int k' n) = pure () := by unfold eqGuard; cases op <;> rfl
          simp [execOp, ho, e1, e2, e3, hrun]
      · exact exactK_sound h
    · rename_i s s' hx hy
      split at h
      · obtain ⟨hob, h⟩ := h
        refine ⟨_, _, h, fun base σ a hfr W hb hM => does_value (u := .string (s ++ s')) ?_ rfl⟩
        have e1 : a.eval x = .string s := hfr x (by simp [ho, Op.operands]) _ hx
        have e2 : a.eval y = .string s' := hfr y (by simp [ho, Op.operands]) _ hy
        have hmax : IntKind.i64.max = 9223372036854775807 := by decide
        have e3 : ¬ (IntKind.i64.max < (s.size : Int) + (s'.size : Int)) := by rw [hmax]; omega
        have e4 : (s.size : Int) + (s'.size : Int) ≤ 9223372036854775807 := by omega
        simp [execOp, ho, e1, e2, eqGuard, binOp, Op.stringOp, e3, hmax, e4]
      · exact exactK_sound h
    · rename_i xs ys hx hy
      split at h
      · obtain ⟨hok, h⟩ := h
        split at h
        · rename_i b hb
          refine ⟨_, _, h, fun base σ a hfr W _ hM => does_value (u := .bool b) ?_ rfl⟩
          have e1 : a.eval x = .agg xs := hfr x (by simp [ho, Op.operands]) _ hx
          have e2 : a.eval y = .agg ys := hfr y (by simp [ho, Op.operands]) _ hy
          have := (run_eqV hok hb x y W).1
          simp only [execOp, ho, e1, e2, Sem.run_bind, Sem.run_pure] at this ⊢
          rw [this]; rfl
        · exact h.elim
      · obtain ⟨hok, h⟩ := h
        split at h
        · rename_i b hb
          refine ⟨_, _, h, fun base σ a hfr W _ hM => does_value (u := .bool !b) ?_ rfl⟩
          have e1 : a.eval x = .agg xs := hfr x (by simp [ho, Op.operands]) _ hx
          have e2 : a.eval y = .agg ys := hfr y (by simp [ho, Op.operands]) _ hy
          have := (run_eqV hok hb x y W).2
          simp only [execOp, ho, e1, e2, Sem.run_bind, Sem.run_pure] at this ⊢
          rw [this]; rfl
        · exact h.elim
      · exact h.elim
    · rename_i u u' _ _ _ hx hy
      have bl : ∀ (a : Act) (σ : Sg) (z : Operand) (y : AV) (b : Bool), (∀ y, ev fr z = some y → y.Is σ (a.eval z)) → ev fr z = some y → boolA y = some b → a.eval z = .bool b := fun a σ z y b hfr hz hb => by
        have := hfr _ hz
        unfold boolA at hb
        split at hb
        · cases hb; exact this
        · cases hb; exact this
        · cases hb
      split at h
      · rename_i b b' hb hb' hT
        refine ⟨_, _, h, fun base σ a hfr W _ hM => does_value (u := .bool (b == b')) ?_ rfl⟩
        have q := run_equalIn_bool' (P := P) W 9999 xT b b' hT
        simp [execOp, ho, bl a σ x _ _ (hfr x (by simp [ho, Op.operands])) hx hb, bl a σ y _ _ (hfr y (by simp [ho, Op.operands])) hy hb', eqGuard, binOp, Op.equal, Op.maxDepth, q]
      · rename_i b b' hb hb' hT
        refine ⟨_, _, h, fun base σ a hfr W _ hM => does_value (u := .bool (!(b == b'))) ?_ rfl⟩
        have q := run_equalIn_bool' (P := P) W 9999 xT b b' hT
        simp [execOp, ho, bl a σ x _ _ (hfr x (by simp [ho, Op.operands])) hx hb, bl a σ y _ _ (hfr y (by simp [ho, Op.operands])) hy hb', eqGuard, binOp, Op.equal, Op.maxDepth, q]
      · exact exactK_sound h
    · exact h.elim
  · -- load
    rename_i t x ho
    have run : ∀ (a : Act) (W : World) (ad : Addr) (u : Value), a.eval x = .pointer (some ad) → (loadVar t ad).run P W = .ok u W → (execOp a.eval o).run P W = .ok (.value u) W := fun a W ad u he hr => by simp [execOp, ho, he, Instr.loadAt, Instr.sureAddr, hr]
    split at h
    · rename_i k off hx
      split at h
      · rename_i cells hc
        rw [nth_eq] at hc
        obtain ⟨y, h1, h3⟩ := loadK_sound h
        refine ⟨y, _, h1, fun base σ a hfr W hb hM => ?_⟩
        obtain ⟨m, b', q1', q2', q4⟩ := hfr x (by simp [ho, Op.operands]) _ hx
        obtain ⟨b, xs, T, q1, q2, q3, _⟩ := hM.blk k _ m hc q1'
        rw [q2'] at q1
        obtain rfl : b' = b := by simpa using q1
        obtain ⟨u, hu, hr⟩ := h3 σ W b' xs T q2 q3
        exact does_value (run a W _ u q4 hr) hu
      · exact h.elim
    · rename_i k off hx
      split at h
      · rename_i T z n xs hc
        rw [nth_eq] at hc
        obtain ⟨u, h1, h2⟩ := loadR_sound h
        refine ⟨.v u, _, h1, fun base σ a hfr W hb hM => ?_⟩
        obtain ⟨m, b, n', c, q1, q2, q4⟩ := hfr x (by simp [ho, Op.operands]) _ hx
        have hr := (hM.blk k _ m hc q1).1.1
        exact does_value (run a W _ u q4 (h2 W b fun j v hj => by have := hr.cells (g := b) (by rw [q2]; rfl) j v hj; rwa [add_at, Nat.zero_add] at this)) rfl
      · exact h.elim
    · rename_i b off hx
      obtain ⟨u, h1, h2⟩ := loadF_sound h
      refine ⟨.v u, _, h1, fun base σ a hfr W hb hM => ?_⟩
      exact does_value (run a W _ u (hfr x (by simp [ho, Op.operands]) _ hx) (h2 W hM.sat)) rfl
    · exact h.elim
  · -- indexAddr
    rename_i t x i ho
    split at h
    · rename_i ad len cap k n hx hi
      split at h
      · rename_i z hz
        obtain ⟨⟨h0, h1⟩, h⟩ := h
        obtain ⟨b, off, rfl, h⟩ := h
        refine ⟨_, _, h, fun base σ a hfr W hb hM => does_value (u := .pointer (some ⟨b, off + n.toNat * z, none⟩)) ?_ rfl⟩
        have e1 : a.eval x = .slice (some ⟨b, off, none⟩) len cap := hfr x (by simp [ho, Op.operands]) _ hx
        have e2 : a.eval i = .int k n := hfr i (by simp [ho, Op.operands]) _ hi
        obtain ⟨e, inf, he, hinf, rfl⟩ := elemSize_spec hz
        simp [execOp, ho, e1, e2, Instr.indexAt, asIntOf, run_underlying he, h0, h1, sizeOf, typeInfo, hinf, add_at]
      · exact h.elim
    · rename_i k kk n hx hi
      split at h
      · rename_i T z' len xs z hc hz
        rw [nth_eq] at hc
        split at h
        · rename_i hzz
          obtain rfl : z = z' := of_decide_eq_true hzz
          obtain ⟨⟨h0, h1⟩, h⟩ := h
          refine ⟨_, _, h, fun base σ a hfr W hb hM => ?_⟩
          obtain ⟨m, q1, q2, _⟩ := hfr x (by simp [ho, Op.operands]) _ hx
          have e2 : a.eval i = .int kk n := hfr i (by simp [ho, Op.operands]) _ hi
          have hr := (hM.blk k _ m hc q1).1.1
          rcases hr.2 with ⟨_, hn⟩ | ⟨g, cap, cur, hv, _, hg, hnc, hcm, hcs, _⟩
          · subst hn; exact absurd h1 (by simp; omega)
          · obtain ⟨e, inf, he, hinf, rfl⟩ := elemSize_spec hz
            refine does_value (u := .pointer (some ⟨g, n.toNat * inf.size, none⟩)) ?_ ⟨m, g, len, cap, q1, hv, rfl⟩
            rw [q2] at hv
            simp [execOp, ho, hv, e2, Instr.indexAt, asIntOf, run_underlying he, h0, h1, sizeOf, typeInfo, hinf, add_at]
        · exact h.elim
      · exact h.elim
    · rename_i k off len kk n hx hi
      split at h
      · rename_i T z' N xs z hc hz
        rw [nth_eq] at hc
        split at h
        · rename_i hzz
          obtain rfl : z = z' := of_decide_eq_true hzz
          obtain ⟨⟨h0, h1⟩, h⟩ := h
          refine ⟨_, _, h, fun base σ a hfr W hb hM => ?_⟩
          obtain ⟨m, ad, c, q1, q2, _, q3⟩ := hfr x (by simp [ho, Op.operands]) _ hx
          have e2 : a.eval i = .int kk n := hfr i (by simp [ho, Op.operands]) _ hi
          obtain ⟨b, N', c', q4, rfl⟩ := q3 (by omega)
          obtain ⟨e, inf, he, hinf, rfl⟩ := elemSize_spec hz
          refine does_value (u := .pointer (some ⟨b, off + n.toNat * inf.size, none⟩)) ?_ ⟨m, b, N', c', q1, q4, rfl⟩
          simp [execOp, ho, q2, e2, Instr.indexAt, asIntOf, run_underlying he, h0, h1, sizeOf, typeInfo, hinf, add_at]
        · exact h.elim
      · exact h.elim
    · rename_i k off kk n hx hi
      split at h
      · rename_i len e he
        split at h
        · rename_i inf hinf
          obtain ⟨⟨h0, h1⟩, h⟩ := h
          refine ⟨_, _, h, fun base σ a hfr W hb hM => ?_⟩
          obtain ⟨m, b, q1, q2, q3⟩ := hfr x (by simp [ho, Op.operands]) _ hx
          have e2 : a.eval i = .int kk n := hfr i (by simp [ho, Op.operands]) _ hi
          refine does_value (u := .pointer (some ⟨b, off + n.toNat * inf.size, none⟩)) ?_ ⟨m, b, q1, q2, rfl⟩
          simp [execOp, ho, q3, e2, Instr.indexAt, Instr.sureAddr, asIntOf, run_underlying he, h0, h1, sizeOf, typeInfo, hinf, add_at]
        · exact h.elim
      · exact h.elim
    · exact exactK_sound h
  · -- slice
    rename_i t x lo hi ho
    split at h
    · rename_i k z hx hz
      split at h
      · rename_i T z' len xs hc
        rw [nth_eq] at hc
        split at h
        · rename_i l hh hzz hl hhi
          obtain rfl : z = z' := of_decide_eq_true hzz
          obtain ⟨hob, h⟩ := h
          refine ⟨_, _, h, fun base σ a hfr W hb hM => ?_⟩
          obtain ⟨m, q1, q2, ad, n0, cap, q3⟩ := hfr x (by simp [ho, Op.operands]) _ hx
          obtain ⟨e, inf, he, hinf, rfl⟩ := elemSize_spec hz
          have hr := (hM.blk k _ m hc q1).1.1
          have hn0 : n0 = len ∧ len ≤ cap ∧ (0 < len → ∃ b, ad = some ⟨b, 0, none⟩) := by
            rw [q2, q3] at hr
            rcases hr.2 with ⟨hv, hn⟩ | ⟨g, cap', cur, hv, _, hg, hnc, hcm, hcs, _⟩
            · cases hv; exact ⟨hn.symm, by omega, fun h => by omega⟩
            · cases hv; exact ⟨rfl, hnc, fun _ => ⟨g, rfl⟩⟩
          obtain ⟨rfl, hlc, had⟩ := hn0
          have hrun := run_slice_part (W := W) he hinf ho q3 hlc (boundX_is (a := a) hl fun y hy => hfr y (by simp [ho, Op.operands, hy])) (boundX_is (a := a) hhi fun y hy => hfr y (by simp [ho, Op.operands, hy])) hob
          refine does_value hrun ⟨m, _, _, q1, rfl, by omega, fun h0 => ?_⟩
          obtain ⟨b, rfl⟩ := had (by omega)
          refine ⟨b, n0, cap, by rw [q2, q3], ?_⟩
          rw [if_neg (by omega)]
          simp [add_at]
        · exact h.elim
      · exact h.elim
    · rename_i k off n z hx hz
      split at h
      · rename_i T z' len xs hc
        rw [nth_eq] at hc
        split at h
        · rename_i l hh hzz hl hhi
          obtain rfl : z = z' := of_decide_eq_true hzz
          obtain ⟨hob, h⟩ := h
          refine ⟨_, _, h, fun base σ a hfr W hb hM => ?_⟩
          obtain ⟨m, ad, cap, q1, q3, hlc, q4⟩ := hfr x (by simp [ho, Op.operands]) _ hx
          obtain ⟨e, inf, he, hinf, rfl⟩ := elemSize_spec hz
          have hrun := run_slice_part (W := W) he hinf ho q3 hlc (boundX_is (a := a) hl fun y hy => hfr y (by simp [ho, Op.operands, hy])) (boundX_is (a := a) hhi fun y hy => hfr y (by simp [ho, Op.operands, hy])) hob
          refine does_value hrun ⟨m, _, _, q1, rfl, by omega, fun h0 => ?_⟩
          obtain ⟨b, N', c', q5, rfl⟩ := q4 (by omega)
          refine ⟨b, N', c', q5, ?_⟩
          rw [if_neg (by omega)]
          simp [add_at]
        · exact h.elim
      · exact h.elim
    · exact exactK_sound h
  · -- fieldAddr
    rename_i s x f ho
    split at h
    · rename_i k off fs hx hS
      split at h
      · rename_i g hg
        split at h
        · rename_i i hi
          split at h
          · exact h.elim
          · rename_i z hz
            refine ⟨_, _, h, fun base σ a hfr W hb hM => ?_⟩
            obtain ⟨m, b, q1, q2, q3⟩ := hfr x (by simp [ho, Op.operands]) _ hx
            exact does_value (u := .pointer (some ⟨b, off + g.offset, none⟩)) (by simp [execOp, ho, q3, Instr.fieldAt, Instr.sureAddr, run_underlying hS, hg, fieldPlace, sizeOf, typeInfo, hi, hz, add_at]) ⟨m, b, q1, q2, rfl⟩
        · exact h.elim
      · exact h.elim
    · rename_i k off fs hx hS
      split at h
      · rename_i g hg
        split at h
        · rename_i i hi
          split at h
          · exact h.elim
          · rename_i z hz
            refine ⟨_, _, h, fun base σ a hfr W hb hM => ?_⟩
            obtain ⟨m, b, n, c, q1, q2, q3⟩ := hfr x (by simp [ho, Op.operands]) _ hx
            exact does_value (u := .pointer (some ⟨b, off + g.offset, none⟩)) (by simp [execOp, ho, q3, Instr.fieldAt, Instr.sureAddr, run_underlying hS, hg, fieldPlace, sizeOf, typeInfo, hi, hz, add_at]) ⟨m, b, n, c, q1, q2, rfl⟩
        · exact h.elim
      · exact h.elim
    · exact exactK_sound h
  · -- nilCheck
    rename_i x ho
    split at h
    · rename_i k off hx
      refine ⟨_, _, h, fun base σ a hfr W hb hM => ?_⟩
      have q := hfr x (by simp [ho, Op.operands]) _ hx
      obtain ⟨m, b, q1, q2, q3⟩ := q
      exact does_value (u := .pointer (some ⟨b, off, none⟩)) (by simp [execOp, ho, q3]) ⟨m, b, q1, q2, rfl⟩
    · rename_i k off hx
      refine ⟨_, _, h, fun base σ a hfr W hb hM => ?_⟩
      obtain ⟨m, b, n, c, q1, q2, q3⟩ := hfr x (by simp [ho, Op.operands]) _ hx
      exact does_value (u := .pointer (some ⟨b, off, none⟩)) (by simp [execOp, ho, q3]) ⟨m, b, n, c, q1, q2, rfl⟩
    · exact exactK_sound h
  · -- extract
    rename_i x i ho
    split at h
    · rename_i k hx
      split at h
      · rename_i l hc
        rw [nth_eq] at hc
        split at h
        · rename_i y hy
          rw [nth_eq] at hy
          refine ⟨_, _, h, fun base σ a hfr W hb hM => ?_⟩
          obtain ⟨m, q1, q2⟩ := hfr x (by simp [ho, Op.operands]) _ hx
          obtain ⟨vs, q3, q4⟩ := hM.blk k _ m hc q1
          obtain ⟨u, q5, q6⟩ := q4.at_ i y hy
          have e1 : a.eval x = .tuple vs := by rw [← q2]; exact q3
          exact does_value (u := u) (by simp [execOp, ho, e1, Instr.extract, q5]) q6
        · exact h.elim
      · exact h.elim
    · exact exactK_sound h
  · -- convert
    rename_i src dst x ho
    split at h
    · rename_i k hx
      split at h
      · rename_i T n xs e hc hS hD
        rw [nth_eq] at hc
        split at h
        · rename_i hE
          obtain ⟨s, hs, h⟩ := h
          refine ⟨_, _, h, fun base σ a hfr W hb hM => ?_⟩
          obtain ⟨m, q1, q2, _⟩ := hfr x (by simp [ho, Op.operands]) _ hx
          have hr := (hM.blk k _ m hc q1).1.1
          refine does_value (u := .string s) ?_ rfl
          rw [q2] at hr
          have hcv : (convert src dst (a.eval x)).run P W = (Conv.bytesToString (a.eval x)).run P W := by
            rcases hr.2 with ⟨hv, _⟩ | ⟨g, cap, cur, hv, _⟩ <;> rw [hv] <;> simp [convert, run_underlying hS, run_underlying hD, run_underlying hE]
          have hxs : xs.length = n := by have := hr.1; omega
          have hb2 : (Conv.bytesToString (a.eval x)).run P W = .ok (.string s) W := by
            rcases hr.2 with ⟨hv, hn⟩ | ⟨g, cap, cur, hv, _⟩
            · rw [hv]
              have : xs = [] := List.eq_nil_of_length_eq_zero (by omega)
              rw [this] at hs
              have hsl : s.data.toList = [] := by simpa using hs.symm
              have : s = .empty := by cases s; simp at hsl; subst hsl; rfl
              rw [this]; simp [Conv.bytesToString]
            · rw [hv]
              have hl : (loadCells ⟨g, 0, none⟩ n).run P W = .ok ((s.data.toList.map fun (b : UInt8) => (b.toNat : Int)).map (Value.int .u8)).toArray W := by
                have := run_loadCells_list (P := P) W ⟨g, 0, none⟩ xs fun j v hj => hr.cells (g := g) (by rw [hv]; rfl) j v hj
                rw [hxs] at this
                rw [this, hs]
                simp
              rw [run_bytesToString W _ _ _ _ hl, bytes_of]
          simp [execOp, ho, hcv, hb2]
        · exact h.elim
      · exact h.elim
    · exact exactK_sound h
  · -- lookup
    rename_i t x i ok ho
    split at h
    · rename_i k ik n hx hi
      split at h
      · rename_i es kt z hc hmi
        rw [nth_eq] at hc
        obtain ⟨e, kk, inf, g1, g2, g3, g4⟩ := mapInfo_spec hmi
        obtain ⟨r, hr, hfind⟩ := findK_sound ⟨_, rfl⟩ es h
        have hK : ∃ u, K (.v u) [] ∧ u = (if ok then .tuple #[r.getD z, .bool r.isSome] else r.getD z) := by
          cases r <;> cases ok <;> simp only [forceV_eq] at hr <;> exact ⟨_, hr, rfl⟩
        obtain ⟨u, hu, rfl⟩ := hK
        refine ⟨_, _, hu, fun base σ a hfr W hb hM => ?_⟩
        obtain ⟨m, q1, q2⟩ := hfr x (by simp [ho, Op.operands]) _ hx
        have e2 : a.eval i = .int ik n := hfr i (by simp [ho, Op.operands]) _ hi
        obtain ⟨rr, es', cl, q3, q4, q5, _⟩ := hM.blk k _ m hc q1
        obtain ⟨q, hq, hqr⟩ := hfind es'.toList 0 q5
        have e1 : a.eval x = .map (some rr) := by rw [← q2]; exact q3
        have hf := Go.MapKept.run_findKey (P := P) (w := W) g2 hq
        refine does_value ?_ rfl
        have hz : (zeroValue e).run P W = .ok z W := by simp [zeroValue, typeInfo, g3, g4]
        have hl : (Instr.lookup t (.map (some rr)) (.int ik n) ok).run P W = .ok (if ok then .tuple #[r.getD z, .bool r.isSome] else r.getD z) W := by
          cases q with
          | none =>
            simp at hqr
            subst hqr
            cases ok <;> simp [Instr.lookup, run_underlying g1, Go.MapKept.run_getObj_map q4, run_checkKey_int g2, hf, hz]
          | some q =>
            simp at hqr
            subst hqr
            cases ok <;> simp [Instr.lookup, run_underlying g1, Go.MapKept.run_getObj_map q4, run_checkKey_int g2, hf]
        simp only [execOp, ho, e1, e2, Sem.run_bind, hl, Result.andThen_ok, Sem.run_pure]
      · exact h.elim
    · exact h.elim
  · -- call
    rename_i c ho
    split at h
    · rename_i t x hl
      have lenSpec : c.callee = .builtin .len ∧ c.args = #[x] ∧ c.argTypes = #[t] := by
        unfold lenArg at hl
        split at hl
        · rename_i hcal
          split at hl
          · rename_i t' x' ht' hx'
            cases hl
            exact ⟨hcal, by rw [← Array.toArray_toList (xs := c.args), hx'], by rw [← Array.toArray_toList (xs := c.argTypes), ht']⟩
          · cases hl
        · cases hl
      obtain ⟨hcal, hca, hct⟩ := lenSpec
      split at h
      · rename_i k hx
        split at h
        · rename_i T z n xs hc hT
          rw [nth_eq] at hc
          refine ⟨_, _, h, fun base σ a hfr W hb hM => does_value (u := .int .i64 n) ?_ rfl⟩
          obtain ⟨m, e1, e2, _⟩ := hfr x (by simp [ho, Op.operands, Call.operands, hcal, hca]) _ hx
          have hr := (hM.blk k _ m hc e1).1.1
          rw [e2] at hr
          obtain ⟨ad, cap, hv⟩ : ∃ ad cap, a.eval x = .slice ad n cap := by
            rcases hr.2 with ⟨hv, hn⟩ | ⟨g, cap, cur, hv, _⟩
            · exact ⟨none, 0, by rw [hn]; exact hv⟩
            · exact ⟨_, _, hv⟩
          unfold isSlice at hT
          split at hT
          · rename_i e he
            simp [execOp, ho, resolve, hcal, invoke, builtin, hca, hct, Builtin.len_, run_underlying he, hv, goInt]
          · cases hT
        · exact h.elim
      · rename_i k off n hx
        split at h
        · rename_i hT
          refine ⟨_, _, h, fun base σ a hfr W hb hM => does_value (u := .int .i64 n) ?_ rfl⟩
          obtain ⟨m, ad, cap, e1, hv, _⟩ := hfr x (by simp [ho, Op.operands, Call.operands, hcal, hca]) _ hx
          unfold isSlice at hT
          split at hT
          · rename_i e he
            simp [execOp, ho, resolve, hcal, invoke, builtin, hca, hct, Builtin.len_, run_underlying he, hv, goInt]
          · cases hT
        · exact h.elim
      · exact exactK_sound h
    · split at h
      · rename_i hall
        split at h
        · rename_i g us he
          rw [forceL_eq] at h
          obtain ⟨v, hv, k⟩ := h
          rw [forceV_eq] at k
          refine ⟨_, _, k, fun base σ a hfr W _ _ => does_value ?_ rfl⟩
          unfold extCall at he
          split at he
          · rename_i f hcal
            split at he
            · rename_i g' first captured hf
              split at he
              · split at he
                · simp only [Option.some.injEq, Prod.mk.injEq] at he
                  obtain ⟨rfl, rfl⟩ := he
                  have e1 : a.eval f = .func (.func g') first captured := hfr f (by simp [ho, Op.operands, Call.operands, hcal]) _ hf
                  have e2 : c.args.toList.map (evx fr) = c.args.toList.map a.eval := List.map_congr_left fun x hx => (isx_eq (hfr x (by simp only [ho, Op.operands, Call.operands, hcal]; simp at hx ⊢; simp [hx])) (List.all_eq_true.1 hall x hx)).symm
                  have e : execOp a.eval o = callFunc g' (first ++ c.args.map a.eval ++ captured) := by
                    simp only [execOp, ho, resolve, hcal, e1, Deferred.ofValue]; rfl
                  have ea : (first.toList ++ (c.args.toList.map (evx fr) ++ captured.toList)).toArray = first ++ c.args.map a.eval ++ captured := by
                    rw [e2]; apply Array.ext'; simp
                  rw [e, ← ea]
                  exact hv W
                · cases he
              · cases he
            · cases he
          · cases he
        · exact exactK_sound h
      · exact ownCallK_sound ho h
  · -- build
    rename_i t ps ho
    split at h
    · rename_i hx
      split at h
      · rename_i l hl
        rw [forceL_eq] at h
        refine ⟨_, _, h, fun base σ a hfr W hb hM => does_value (u := .agg l.toArray) ?_ rfl⟩
        have hrun := run_buildX hl W
        have e : (ps.map fun (p : Nat × Operand) => (p.1, a.eval p.2)) = (partsX fr ps).toArray := by
          unfold partsX
          apply Array.ext'
          simp only [Array.toList_map]
          refine List.map_congr_left fun p hp => ?_
          rw [isx_eq (hfr p.2 (by simp only [ho, Op.operands, List.mem_toArray, List.mem_map]; exact ⟨p, by simpa using hp, rfl⟩)) (by simpa using List.all_eq_true.1 hx p hp)]
        have e2 : execOp a.eval o = (do pure (.value (← Instr.build t (ps.map fun (p : Nat × Operand) => (p.1, a.eval p.2))))) := by
          simp only [execOp, ho]
        rw [e2, e]
        simp only [Sem.run_bind, hrun, Result.andThen_ok, Sem.run_pure]
      · exact h.elim
    · exact h.elim
  · -- alloc
    rename_i t ho
    split at h
    · rename_i cells hc
      rw [forceL_eq, mapvK_eq, lens] at h
      refine ⟨_, _, h, fun base σ a hfr W hb hM => ?_⟩
      unfold zeroX at hc
      split at hc
      · rename_i i hi
        split at hc
        · rename_i z hz
          cases hc
          refine does_alloc (obj := .cells z.cells t) (v := .pointer (some ⟨W.heap.size, 0, none⟩)) (by simp [execOp, ho, Instr.alloc, zeroValue, typeInfo, hi, hz, newVar, newRow]) fun σ' m hs hm he hg => ?_
          subst he
          exact ⟨⟨_, W.heap.size, hm, rfl, rfl⟩, W.heap.size, z.cells, t, rfl, hg, by simpa using isv_cells σ' z.cells.toList, fun _ => Iff.rfl⟩
        · cases hc
      · cases hc
    · exact h.elim
  · -- box
    rename_i t x ho
    split at h
    · rename_i y hy
      obtain ⟨l, hK, hl⟩ := cellsK_sound h
      rw [lens] at hK
      refine ⟨_, _, hK, fun base σ a hfr W hb hM => ?_⟩
      have hx := hl σ _ (hfr x (by simp [ho, Op.operands]) _ hy)
      refine does_alloc (obj := .cells (a.eval x).cells t) (v := .pointer (some ⟨W.heap.size, 0, none⟩)) (by simp [execOp, ho, Instr.box, newVar, newRow]) fun σ' m hs hm he hg => ?_
      subst he
      exact ⟨⟨_, W.heap.size, hm, rfl, rfl⟩, W.heap.size, _, t, rfl, hg, hx.grow hs, fun _ => Iff.rfl⟩
    · exact h.elim
  · -- buildSlice
    rename_i t n ps ho
    split at h
    · rename_i T z l hall hrow
      split at h
      · rename_i hone
        rw [forceL_eq, lens] at h
        obtain ⟨hlen, hmax, hrun⟩ := run_rowX hrow
        refine ⟨_, _, h, fun base σ a hfr W hb hM => ?_⟩
        refine does_alloc (obj := .cells l.toArray T) (v := .slice (some ⟨W.heap.size, 0, none⟩) n n) ?_ fun σ' m hs hm he hg => ?_
        · have e : (ps.map fun (p : Nat × Operand) => (p.1, a.eval p.2)) = (partsX fr ps).toArray := by
            unfold partsX
            apply Array.ext'
            simp only [Array.toList_map]
            refine List.map_congr_left fun p hp => ?_
            rw [isx_eq (hfr p.2 (by simp only [ho, Op.operands, List.mem_toArray, List.mem_map]; exact ⟨p, by simpa using hp, rfl⟩)) (by simpa using List.all_eq_true.1 hall p hp)]
          have e2 : execOp a.eval o = (do pure (.value (← Instr.buildSlice t n (ps.map fun (p : Nat × Operand) => (p.1, a.eval p.2))))) := by
            simp only [execOp, ho]
          rw [e2, e]
          simp only [Sem.run_bind, hrun W, Result.andThen_ok, Sem.run_pure]
        · subst he
          refine ⟨⟨_, hm, rfl, _, _, _, rfl⟩, ⟨⟨hlen, .inr ⟨W.heap.size, n, l.toArray, rfl, hb, hg, Nat.le_refl _, hmax, by simpa using hlen, ?_⟩⟩, fun u hu => ?_⟩, fun g => ?_⟩
          · simp [← hlen]
          · have := List.all_eq_true.1 hone u hu
            cases u <;> simp [oneC, Value.oneCell'] at this ⊢
          · simp [Value.ownBlock, eq_comm]
      · exact h.elim
    · exact h.elim
  · -- makeSlice
    rename_i t x y ho
    split at h
    · rename_i kl n kc c e z by' hx hy hri
      split at h
      · rename_i zs hzs
        split at h
        · rename_i hone
          obtain ⟨⟨h0, h1, h2, h3⟩, h⟩ := h
          rw [lens] at h
          obtain ⟨hu, i, zv, hi, hz, hsz, hby, hvs, hpos, hzx⟩ := rowInfo_spec hri
          rw [hzx] at hzs
          cases hzs
          refine ⟨_, _, h, fun base σ a hfr W hb hM => ?_⟩
          have e1 : a.eval x = .int kl n := hfr x (by simp [ho, Op.operands]) _ hx
          have e2 : a.eval y = .int kc c := hfr y (by simp [ho, Op.operands]) _ hy
          have hc0 : 0 ≤ c := by omega
          have hmk := run_make (P := P) W t e i zv hu hi hz kl kc n c h0 h1 (by rw [hby, Int.mul_comm]; omega) (by omega)
          refine does_alloc (obj := .cells (madeCells zv.cells (c.toNat * i.size)) e) (v := .slice (some ⟨W.heap.size, 0, none⟩) n.toNat c.toNat) (by simp only [execOp, ho, e1, e2, Sem.run_bind, hmk, Result.andThen_ok, Sem.run_pure]) fun σ' m hs hm he hg => ?_
          subst he
          have hzl : zv.cells.toList.length = z := by simpa using hvs
          have hmade : (madeCells zv.cells (c.toNat * z)).toList = repX c.toNat zv.cells.toList := by
            apply List.ext_getElem?
            intro j
            by_cases hj : j < c.toNat * z
            · have hm : j % z < zv.cells.size := by rw [hvs]; exact Nat.mod_lt _ hpos
              have := repX_at c.toNat zv.cells.toList j (by rw [hzl]; exact hj)
              rw [this, hzl]
              simp [madeCells, hj, hvs]
              rw [Array.getElem?_eq_getElem hm, getElem!_pos zv.cells _ hm]
            · rw [List.getElem?_eq_none (by simp [madeCells]; omega), List.getElem?_eq_none (by rw [repX_len, hzl]; omega)]
          have htake : ∀ (p q : Nat) (l : List Value), p ≤ q → (repX q l).take (p * l.length) = repX p l := by
            intro p q l hpq
            obtain ⟨r, rfl⟩ : ∃ r, q = p + r := ⟨q - p, by omega⟩
            clear hpq
            induction p with
            | zero => simp [repX]
            | succ p ih =>
              rw [Nat.succ_add, repX, repX, Nat.succ_mul, Nat.add_comm (p * l.length)]
              rw [List.take_append, List.take_of_length_le (by omega)]
              simp [ih]
          refine ⟨⟨_, hm, rfl, _, _, _, rfl⟩, ⟨⟨by rw [repX_len, hzl], .inr ⟨W.heap.size, c.toNat, _, rfl, hb, hg, by omega, by unfold maxLen; omega, by rw [hsz, size_madeCells], ?_⟩⟩, fun u hu => ?_⟩, fun g => ?_⟩
          · rw [hsz, hmade]
            have := htake n.toNat c.toNat zv.cells.toList (by omega)
            rwa [hzl] at this
          · have hmem : u ∈ zv.cells.toList := by
              have : ∀ p, u ∈ repX p zv.cells.toList → u ∈ zv.cells.toList := fun p => by
                induction p with
                | zero => intro h; simp [repX] at h
                | succ p ih => intro h; rw [repX] at h; rcases List.mem_append.1 h with h | h; exact h; exact ih h
              exact this _ hu
            have := List.all_eq_true.1 hone u hmem
            cases u <;> simp [oneC, Value.oneCell'] at this ⊢
          · simp [Value.ownBlock, eq_comm]
        · exact h.elim
      · exact h.elim
    · exact h.elim
  · -- makeMap
    rename_i t ho
    rw [lens] at h
    refine ⟨_, _, h, fun base σ a hfr W hb hM => ?_⟩
    refine does_alloc (obj := .map #[] 0) (v := .map (some W.heap.size)) (by simp [execOp, ho, run_makeMap]) fun σ' m hs hm he hg => ?_
    subst he
    exact ⟨⟨_, hm, rfl⟩, W.heap.size, #[], 0, rfl, hg, rfl, fun _ => Iff.rfl⟩
  · exact h.elim
  · exact h.elim
  · exact h.elim
  · exact exactK_sound h

end Go.Proofs.YtcemohoigdninaaGreatDoor
