/- Contracts of package bitop: the iterator of a shift's counts. -/
import Derived.Test.YtljhbdgoknfkcaaGreatDoorBJ
import Derived.Test.YtljhbdgoknfkcaaGreatDoorHV
namespace Go.Proofs.YtljhbdgoknfkcaaGreatDoor
open Go Go.RowKit Go.Sort Go.Shelf
set_option linter.unusedVariables false
set_option linter.unusedSimpArgs false
attribute [local go_sem] Oper.semAt_some

/-- The counts below i that there are. -/
def cntI (f : Nat → Bool) : Nat → List (Fin 64)
  | 0 => []
  | i + 1 => if h : i < 64 then (if f i = true then cntI f i ++ [⟨i, h⟩] else cntI f i) else cntI f i
theorem cntI_yes {f : Nat → Bool} {i : Nat} (h : f i = true) (hi : i < 64) : cntI f (i + 1) = cntI f i ++ [⟨i, hi⟩] := by rw [cntI, dif_pos hi, if_pos h]
theorem cntI_no {f : Nat → Bool} {i : Nat} (h : f i = false) : cntI f (i + 1) = cntI f i := by
  rw [cntI]
  split
  · rw [if_neg (by rw [h]; decide)]
  · rfl
theorem cntI_has {f : Nat → Bool} {n j : Nat} (hj : j < 64) (hn : j < n) (h : f j = true) : (⟨j, hj⟩ : Fin 64) ∈ cntI f n := by
  induction n with
  | zero => omega
  | succ n ih =>
    rw [cntI]
    by_cases c : j = n
    · subst c
      rw [dif_pos hj, if_pos h]
      simp
    · have := ih (by omega)
      split
      · split
        · exact List.mem_append_left _ this
        · exact this
      · exact this
theorem cntI_le {f : Nat → Bool} {i n : Nat} (h : i ≤ n) : (cntI f i).length ≤ (cntI f n).length := by
  induction n with
  | zero => rw [show i = 0 by omega]; exact Nat.le_refl _
  | succ n ih =>
    by_cases c : i = n + 1
    · rw [c]; exact Nat.le_refl _
    · have := ih (by omega)
      rw [cntI]
      split
      · split
        · rw [List.length_append]; omega
        · exact this
      · exact this
theorem cntI_len (f : Nat → Bool) : ∀ n, (cntI f n).length ≤ n
  | 0 => Nat.le_refl _
  | n + 1 => by
    have := cntI_len f n
    rw [cntI]
    split
    · split
      · rw [List.length_append, List.length_singleton]; omega
      · omega
    · omega
theorem wpListIn_val {F : Fence} {n : Nat} {P : Program} {ops : Array Oper} {Q : Exit → Act → World → Prop} {rest : List Oper} {o : Oper} {a : Act} {w : World} (v : Value) (hg : o.guard = none) (hd : ∀ c, o.op ≠ .defer c) (hn : o.about P w a.eval = none) (hr : (execOp a.eval o).run P w = .ok (.value v) w)
    (h : wpListIn F n P ops Q rest (a.put o.dst v) w) : wpListIn F n P ops Q (o :: rest) a w :=
  wpListIn_plain hg fun K hK => ⟨fun f hf => (by rw [hn] at hf; cases hf), by
    have e : o.semAt F.round a.eval = execOp a.eval o := by
      cases F.round with
      | none => simp [Oper.semAt]
      | some l => exact Oper.semAt_some l _ _ hd
    rw [e, hr]; exact hK _ _ h⟩
theorem arrB_at (f : Nat → Bool) {i : Nat} (h : i < 64) : (arrB f)[i]? = some (.bool (f i)) := by simp [arrB, h]
theorem info_b64 : (Tryz.prog.info? 219).map (fun i => i.size) = some 64 := by kernel_rfl
theorem info_bool : (Tryz.prog.info? 4).map (fun i => i.size) = some 1 := by kernel_rfl
theorem load_b64 {w : World} {b : Nat} {T : TypeId} {f : Nat → Bool} (hb : w.heap[b]? = some (.cells (arrB f).toArray T (0, 0))) : (loadVar 219 ⟨b, 0, none⟩).run Tryz.prog w = .ok (.agg (arrB f).toArray) w := by
  obtain ⟨i, hi, hs⟩ := Option.map_eq_some_iff.1 info_b64
  exact run_load_agg (by kernel_rfl) hi (by rw [arrB_len, hs]) fun j v hj => cell_of hb (by rw [Nat.zero_add]; simpa using hj)
theorem index_b64 {w : World} {f : Nat → Bool} {k : Nat} (hk : k < 64) : (Instr.index 219 (.agg (arrB f).toArray) (.int .i64 (k : Int))).run Tryz.prog w = .ok (.bool (f k)) w := by
  obtain ⟨i, hi, hs⟩ := Option.map_eq_some_iff.1 info_bool
  have hu : Tryz.prog.underlying 219 = some (.array 64 4) := by kernel_rfl
  have h1 : ((k : Int)) < 64 := by omega
  have hat := arrB_at f hk
  have hp : partV Tryz.prog 4 (arrB f).toArray k = some (.bool (f k)) := by
    unfold partV
    rw [show aggT Tryz.prog 4 = some false by kernel_rfl]
    simpa using hat
  have hq := run_part hp w
  simp [Instr.index, asIntOf, run_underlying hu, h1, sizeOf, typeInfo, hi, hs] at hq ⊢
  simp [hq]
  omega
set_option maxRecDepth 100000 in
set_option maxHeartbeats 2000000 in
theorem cnt_in (n : Nat) (hn : 1 ≤ n) (l Bv : Nat) (f : Nat → Bool) (T : TypeId) (J Jx : List (Fin 64) → World → Prop)
    (hY : ∀ pre k W, J pre W → pre.length < (cntI f 64).length → YieldAt Fence.wide (n - 1) Tryz.prog l #[.int .u64 (k.val : Int)] W fun e W' => (e = .returned (.bool true) ∧ J (pre ++ [k]) W' ∧ True) ∨ (e = .returned (.bool false) ∧ Jx (pre ++ [k]) W'))
    (W : World) (hBv : W.heap[Bv]? = some (.cells (arrB f).toArray T (0, 0))) (h0 : J [] W) :
    CallsIn Fence.wide n Tryz.prog 256 #[.func (.yield l) #[] #[], .pointer (some ⟨Bv, 0, none⟩)] W fun e W' => (∃ v, e = .returned v) ∧
      ((∃ ys, ys = cntI f 64 ∧ J ys W') ∨ (∃ pre, True ∧ Jx pre W')) := by
  have hro : Fence.wide.round = none := rfl
  refine callsIn_of_wp Tryz.func256 rfl trivial ?_ hro
  simp only [Tryz.ntmps256, List.size_toArray, List.length_cons, List.length_nil, Nat.reduceAdd, Nat.reduceSub, Array.replicate_succ, Array.replicate_zero, List.push_toArray, List.append_toArray, List.nil_append, List.cons_append]
  have hl := load_b64 hBv
  gi_wp2_with (refine wpListIn_val (.agg (arrB f).toArray) rfl (by simp) rfl ?_ ?_; · (simp [execOp, Act.eval, Instr.loadAt, Instr.sureAddr, asAddr, hl]; done))
  gi_loopw [6] (fun p wr => ∃ k : Nat, p = .int .i64 (k : Int) ∧ k ≤ 64 ∧ J (cntI f k) wr)
    (fun p wr => (64 - intOf p).toNat)
  case atStart =>
    exact ⟨0, rfl, by omega, h0⟩
  case round =>
    obtain ⟨k, rfl, hk, hJs⟩ := hrel
    by_cases hkl : k < 64
    · have hx : ∀ W, (Instr.index 219 (.agg (arrB f).toArray) (.int .i64 (k : Int))).run Tryz.prog W = .ok (.bool (f k)) W := fun W => index_b64 hkl
      have hlt : (k : Int) < 64 := by omega
      have hw : wrap64 ((k : Int) + 1) = ((k + 1 : Nat) : Int) := by rw [sg_eq', sg_in _ (by omega) (by omega)]; omega
      have hu : IntKind.u64.wrap (k : Int) = (k : Int) := by rw [us_eq, us_in _ (by omega) (by omega)]
      cases hf : f k with
      | true =>
        rw [hf] at hx
        have e1 := cntI_yes hf hkl
        have hlen : (cntI f k).length < (cntI f 64).length := by
          have := cntI_le (f := f) (show k + 1 ≤ 64 by omega)
          rw [e1, List.length_append, List.length_singleton] at this
          omega
        obtain ⟨fn, tmps, assign, body, hy, hR⟩ := hY (cntI f k) ⟨k, hkl⟩ wr hJs hlen
        dsimp only at hy
        gi_wp2_with (refine wpListIn_val (.bool true) rfl (by simp) rfl ?_ ?_; · (simp [execOp, Act.eval, hx]; done))
        refine hR.mono ?_
        rintro e W3 (⟨rfl, hJ3, _⟩ | ⟨rfl, hJx3⟩)
        · rw [← e1] at hJ3
          gi_wp2
          exact ⟨⟨k + 1, by simp, by omega, hJ3⟩, by show (64 - ((k : Int) + 1)).toNat < (64 - (k : Int)).toNat; omega⟩
        · gi_wp2
          refine bodyPost_ret (results_none rfl _ _ _) rfl ?_
          exact ⟨⟨_, rfl⟩, .inr ⟨_, trivial, hJx3⟩⟩
      | false =>
        rw [hf] at hx
        have e1 := cntI_no hf
        rw [← e1] at hJs
        gi_wp2_with (first | (refine wpListIn_val (.bool false) rfl (by simp) rfl ?_ ?_; · (simp [execOp, Act.eval, hx]; done)) | (with_reducible refine And.intro (fun g (hg : none = some g) => (by cases hg)) ?_))
        exact ⟨⟨k + 1, by simp, by omega, hJs⟩, by show (64 - ((k : Int) + 1)).toNat < (64 - (k : Int)).toNat; omega⟩
    · obtain rfl : k = 64 := by omega
      gi_wp2
      go_end0
      exact ⟨⟨_, rfl⟩, .inl ⟨_, rfl, hJs⟩⟩
/-! Contracts of package bitop: shifts by a value. -/
attribute [local go_sem] Oper.semAt_some

/-! What holds of a region everywhere holds in a round. -/
theorem rows_in {P : Program} {row : String} {args : Array Value} {w : World} {R : Value → World → Prop} (rl k : Nat) (h : Rows P row args w R) : RowsIn (Fence.wide.inRound rl) k P row args w R :=
  fun c cs _ => let ⟨v, w', r, s⟩ := h c cs; ⟨v, w', r, stepsIn_wide.2 s⟩
theorem oper_in {P : Program} {o : Oper} {a : Act} {w : World} {K : Act → World → Prop} {Q : Exit → Act → World → Prop} (rl k : Nat) (hd : ∀ c, o.op ≠ .defer c) (h : o.wp P a w K Q) : o.wpIn (Fence.wide.inRound rl) k P a w K Q := by
  refine ⟨fun f _ => trivial, ?_⟩
  rw [Oper.semAt_plain _ _ _ hd]
  unfold Oper.wp at h
  generalize (execOp a.eval o).run P w = r at *
  have hn : (Fence.wide.inRound rl).depth.isSome = true → 1 ≤ k := fun q => by cases q
  cases r with
  | ok x w' =>
    cases x <;> simp only [Oper.upon] at h <;> simp only [Oper.uponIn]
    case value => exact h
    case skip => exact h
    case defer => exact h
    case enter => exact ⟨hn, CallsIn.inRound rl (callsIn_wide.2 h)⟩
    case row => exact ⟨hn, rows_in rl _ h⟩
  | halt x w' => cases x <;> simp only [Oper.upon] at h <;> simp only [Oper.uponIn]; exact h
theorem any_in {P : Program} {ops : Array Oper} {md : Region.Mode} {Q : Exit → Act → World → Prop} (rl k : Nat) (hd : ∀ (j : Nat) (o : Oper), ops[j]? = some o → ∀ c, o.op ≠ .defer c) (hQ : ¬ LetsOut Q) : ∀ (fuel : Nat) (listed : Array Bool) (a : Act) (w : World), wpAny P md ops Q fuel listed a w → wpAnyIn (Fence.wide.inRound rl) k P md ops Q fuel listed a w
  | 0, listed, a, w, h => h
  | fuel + 1, listed, a, w, h => by
    refine ⟨h.1, fun i hi => ?_⟩
    have h2 := h.2 i hi
    unfold wpOp at h2
    unfold wpOpIn
    split
    · rename_i ho
      rw [ho] at h2
      exact any_in rl k hd hQ fuel _ _ _ h2
    · rename_i o ho
      rw [ho] at h2
      dsimp only at h2
      split
      · rename_i hw
        rw [if_pos hw] at h2
        rcases h2 with h2 | h2
        · exact Oper.wpIn_mono (fun a' w' q => any_in rl k hd hQ fuel _ _ _ q) (oper_in rl k (hd i o ho) h2)
        · exact absurd h2.2 hQ
      · rename_i hw
        rw [if_neg hw] at h2
        exact ⟨fun f _ => trivial, any_in rl k hd hQ fuel _ _ _ h2⟩
/-- A region whose first n operations may come in many orders: they are told by the evaluation; behind them the others come in one. -/
theorem draw_head {P : Program} {F : Facts} {σ : Sg} {fr : List AV} {own : List Blk} {a : Act} {w0 w : World} {ops : List Oper} {Q : Exit → Act → World → Prop} {K : List AV → List Blk → Prop} (n : Nat) (hm : P.follows .mixedOrders = true) (hck : freeAt ops n = true) (hsl : slotsIn ops fr = true) (h : opsK P F ops (ops.take n ++ []) fr own K) (hH : Holds w0 F σ fr own a w)
    (hn : ∀ σ' fr' own' a' w', Holds w0 F σ' fr' own' a' w' → K fr' own' → wpList P ops.toArray Q (ops.drop n) a' w') : wpAny P .any ops.toArray Q ops.toArray.size (Array.replicate ops.toArray.size false) a { w with drawn := w.drawn + 1 } := by
  simp only [freeAt, Bool.and_eq_true, Bool.or_eq_true, decide_eq_true_eq] at hck
  obtain ⟨⟨⟨⟨hfree, hp⟩, hb⟩, htail⟩, hseq⟩ := hck
  have hnl : n ≤ ops.length := by rcases htail with e | e <;> omega
  have htl : (ops.take n).length = n := by simp; omega
  have hdl : (ops.drop n).length = ops.length - n := by simp
  have hslot : ∀ o ∈ ops, ∀ t, o.dst = some t → t < fr.length := fun o ho t ht => by
    have := List.all_eq_true.1 hsl o ho
    simp only [ht, nth_eq] at this
    obtain ⟨x, hx⟩ := Option.isSome_iff_exists.1 this
    exact (List.getElem?_eq_some_iff.1 hx).1
  obtain ⟨E, frF, ownF, S, q1, q2, q3, q4, q5, q6, q7, q8, q9⟩ := extract (ops.take n) fr own hfree (fun o ho => hslot o (List.mem_of_mem_take ho)) h
  rw [htl] at q1 q6
  have hget : ∀ j, j < n → ops.toArray[j]? = (ops.take n)[j]? := fun j hj => by simp [List.getElem?_take_of_lt hj]
  have htext : ∀ j, j ≤ n → SFof ops.toArray E (sfOf fr) (fun _ => true) j = S j := fun j hj =>
    SFof_text q5 (fun j o e hj he => (q7 j o e hj he).1) (fun j hj => hget j (by rw [htl] at hj; exact hj)) (by rw [q1, htl]) j (by rw [htl]; exact hj)
  have inv0 : HeadInv .any ops.toArray n (Array.replicate ops.toArray.size false) :=
    ⟨by simp, fun j oj _ hl => (by rw [getD_replicate_false] at hl; cases hl), fun t _ ht => Go.getD_in (by simpa using ht) (getD_replicate_false _ _)⟩
  have hcnt : ∀ m, cnt (Array.replicate ops.toArray.size false) m = m := fun m => by
    induction m with
    | zero => rfl
    | succ m ih => unfold cnt; rw [ih, getD_replicate_false]; simp
  have hR : Reg w0 F σ own { w with drawn := w.drawn + 1 } := hH.reg.later ⟨rfl, rfl, rfl, Nat.le_refl _, fun _ _ => rfl⟩
  have hRF : Reg w0 F σ ownF { w with drawn := w.drawn + 1 } := hR.pre q2
  have I0 : InvL ops.toArray E (sfOf fr) n fr.length w0 F ownF (Array.replicate ops.toArray.size false) a { w with drawn := w.drawn + 1 } σ :=
    ⟨hRF, fun t => by
      rw [SFof_cut 0 n (Nat.zero_le _) fun i _ _ _ => getD_replicate_false _ _]
      exact sf_of_fr hH.fr t, hH.fr.len.symm, hH.dfr, fun i e q hi hb _ => by
      have := (q8 i e hi).1
      cases hs : σ (e.n + q) with
      | none => rfl
      | some v => have := hR.dom _ v hs; omega⟩
  have H := any_inv (P := P) (Q := Q) (arr := ops.toArray) (ops := ops) (g := ops.length - n) rfl hp hb q1 (by simpa [and_assoc] using htail) sf_grow (fun j oj t hj hoj ht => hslot oj (by simpa using Array.mem_of_getElem? hoj) t ht)
    (fun j oj e hoj he => by
      have hjn : j < n := by have := (List.getElem?_eq_some_iff.1 he).1; omega
      rw [htext j (by omega)]
      exact (q7 j oj e (by rw [← hget j hjn]; exact hoj) he).2 ownF (.refl _)) (fun j e hj => (q8 j e hj).2) q9
    (fun listed a W σ' inv hall I => by
      have hcan := canon_of inv hall
      have hfin : Holds w0 F σ' frF ownF a W := ⟨I.reg, fr_of_sf (by rw [q4, I.size]) fun t _ => by
        have := I.slots t
        rw [SFof_same (L' := fun _ => true) n (fun i hi _ => hall i hi), htext n (Nat.le_refl _), q6] at this
        exact this, I.dfr⟩
      have hlist := hn _ _ _ _ _ hfin q3
      have := wpAny_of_seq (md := .any) (Q' := Q) (ops.drop n) n listed a W (fun j => by simp [List.getElem?_drop]) (by rw [hdl, hcan]; simpa using hseq) hlist
      rwa [hdl] at this) n (Array.replicate ops.toArray.size false) a _ σ inv0 (hcnt n) I0
  have e : n + (ops.length - n) = ops.toArray.size := by simp; omega
  rw [e] at H
  exact H
/-- What the cells of a world are. -/
def cellsF (W : World) : Facts := ⟨fun b o x => W.cell? ⟨b, o, none⟩ = some x, fun _ _ => False⟩
theorem cellsF_sat (W : World) : Sat (cellsF W) W := ⟨fun _ _ _ h => h, fun _ _ h => h.elim⟩
theorem holds_here {W : World} {F : Facts} (hS : Sat F W) (l : List Value) : Holds W F (fun _ => none) (l.map .v) [] { tmps := l.toArray, defers := [] } W :=
  ⟨⟨⟨fun k b v hk => (by simp at hk), fun k v b hv => (by cases hv), hS⟩, fun k v hv => (by cases hv), fun k k' v v' b hv => (by cases hv), fun k v b hv => (by cases hv), fun b hb => hS.lt hb, Below.refl _ _⟩, ⟨by simp, fun i x hx => by
    rw [List.getElem?_map, Option.map_eq_some_iff] at hx
    obtain ⟨u, hu, rfl⟩ := hx
    exact ⟨u, by simpa using hu, rfl⟩⟩, rfl⟩
theorem cellF1 {W : World} {b off : Nat} {x : Value} (h : W.cell? ⟨b, off, none⟩ = some x) : ∀ (j : Nat) (v : Value), [x][j]? = some v → (cellsF W) b (off + j) v := fun j v hj => by
  rcases j with _ | j
  · simp at hj; subst hj; exact h
  · simp at hj
theorem cellF4 {W : World} {b : Nat} {x0 x1 x2 x3 : Value} (h0 : W.cell? ⟨b, 0, none⟩ = some x0) (h1 : W.cell? ⟨b, 1, none⟩ = some x1) (h2 : W.cell? ⟨b, 2, none⟩ = some x2) (h3 : W.cell? ⟨b, 3, none⟩ = some x3) : ∀ (j : Nat) (v : Value), [x0, x1, x2, x3][j]? = some v → (cellsF W) b (0 + j) v := fun j v hj => by
  match j with
  | 0 => simp at hj; subst hj; exact h0
  | 1 => simp at hj; subst hj; exact h1
  | 2 => simp at hj; subst hj; exact h2
  | 3 => simp at hj; subst hj; exact h3
  | j + 4 => simp at hj
theorem appended' {W w1 : World} {n₀ B : Nat} {t e : TypeId} {size : Nat} {v v' : Value} {k m : Nat} {xs ys : List Value}
    (hv : Boxed W B t v) (hte : t ≠ e) (hrow : W.ownsRow n₀ e size v k xs) (hn₀ : n₀ ≤ W.heap.size) (hB : n₀ ≤ B)
    (hown' : w1.ownsRow n₀ e size v' m ys) (hgrow : W.grownBy w1 v.ownBlock) :
    Boxed w1 B t v ∧ Boxed (w1.setCell ⟨B, 0, none⟩ v') B t v' ∧ (w1.setCell ⟨B, 0, none⟩ v').ownsRow n₀ e size v' m ys ∧ KeepsOthers W (w1.setCell ⟨B, 0, none⟩ v') ∧ Below n₀ W (w1.setCell ⟨B, 0, none⟩ v') := by
  have hv1 : Boxed w1 B t v := hv.kept hgrow (hv.not_row hte hrow)
  refine ⟨hv1, hv1.set v', hown'.kept (grownBy_setCell' w1 B v') (.inr (hv1.not_row hte hown').symm), ?_, ?_⟩
  · refine (KeepsOthers.of_grownBy hgrow fun j o ej hj => ?_).trans (KeepsOthers.setCell _ _ _)
    rcases hrow.2 with ⟨rfl, _⟩ | ⟨g, cap, cur, rfl, _, hgb, _⟩
    · simp [Value.ownBlock] at ej
    · obtain rfl : g = j := by simpa [Value.ownBlock] using ej
      rw [hgb] at hj; cases hj; rfl
  · refine ((Below.refl n₀ W).grown hgrow hn₀ fun j ej => ?_).setCell (p := ⟨B, 0, none⟩) hB v'
    rcases hrow.2 with ⟨rfl, _⟩ | ⟨g, cap, cur, rfl, hb, _, _⟩
    · simp [Value.ownBlock] at ej
    · obtain rfl : g = j := by simpa [Value.ownBlock] using ej
      exact hb
theorem cnt_stops (n : Nat) (hn : 1 ≤ n) (Bv : Nat) (f : Nat → Bool) (T : TypeId) (w : World) (hlt : Bv < w.heap.size) (hBv : w.heap[Bv]? = some (.cells (arrB f).toArray T (0, 0))) :
    SeqStopsK Fence.wide n Tryz.prog 256 #[.pointer (some ⟨Bv, 0, none⟩)] (fun k : Fin 64 => #[.int .u64 (k.val : Int)]) (fun _ _ => True) (fun ys => ys = cntI f 64) (fun _ => True) (cntI f 64).length w := by
  intro l J Jx W hW hJ hJx hY h0
  exact cnt_in n hn l Bv f T J Jx hY W ((hW.block Bv hlt).trans hBv) h0
/-- What a call of counts leaves: the iterator, with its truths in a new block. -/
theorem counts_c (b : VV) (rb : RV b) (W : World) : Calls Tryz.prog 246 #[VVal b] W fun e w1 => ∃ B0 T, e = .returned (.func (.func 256) #[] #[.pointer (some ⟨B0, 0, none⟩)]) ∧ w1.heap[B0]? = some (.cells (arrB (bmet b)).toArray T (0, 0)) ∧ B0 < w1.heap.size ∧ Below W.heap.size W w1 := by
  refine ((counts_v b rb).out W ⟨fun _ _ _ h => h.elim, fun _ _ h => h.elim⟩).mono ?_
  rintro e w1 ⟨σ, vs, rfl, hR, hn, hf⟩
  obtain ⟨u, h1, m, hm, hu⟩ := hf.at_ 0 (.t 1) rfl
  have hl := hf.len
  obtain ⟨us, hv, hc⟩ := hR.mem.blk 1 _ m rfl hm
  obtain ⟨u2, h2, m0, B0, hm0, hv0, hu2⟩ := hc.at_ 0 (.p 0 0) rfl
  obtain ⟨B1, T, hv1, hb1, hfp⟩ := hR.mem.blk 0 _ m0 rfl hm0
  rw [hv0] at hv1
  obtain rfl : B0 = B1 := by simpa using hv1
  have evs : vs = [u] := by
    match vs, hl, h1 with
    | [x], _, h1 => simp at h1; rw [h1]
  have eus : us = #[.pointer (some ⟨B0, 0, none⟩)] := by
    have hcl := hc.len
    obtain ⟨l⟩ := us
    match l, hcl, h2 with
    | [x], _, h2 => simp at h2; rw [h2, hu2]
  refine ⟨B0, T, ?_, hb1, hR.mem.lt 0 m0 B0 hm0 ((hfp B0).2 rfl), hR.below⟩
  rw [evs, ← hu, hv, eus]
  rfl
theorem info_val : (Tryz.prog.info? 31).map (fun i => (i.zero, i.size, i.bytes)) = some (some (.agg #[.int .i64 0, .int .i64 0, .int .u64 0, .int .u64 0]), 4, 32) := by kernel_rfl
/-- Between two rounds. -/
def ShI (W0 : World) (M : Nat) (by' : Nat → VV) (pre : List (Fin 64)) (W : World) : Prop := (∃ u, Boxed W M 25 u ∧ W.ownsRow M 31 4 u pre.length (VCs (pre.map fun k => by' k.val)) ∧ True) ∧ Below M W0 W
theorem shI_own {W0 : World} {M : Nat} {by' : Nat → VV} {B : Nat} (h1 : M ≤ W0.heap.size) (h2 : M ≤ B) : OwnFrom B (ShI W0 M by') :=
  OwnFrom.and ((holdsRow_own M M _ _ 4 (fun pre : List (Fin 64) => pre.length) (fun pre => VCs (pre.map fun k => by' k.val)) (fun _ _ => True)).from B) (ownFrom_below h1 h2)
theorem cell_below {W W' : World} {b off : Nat} {v : Value} (hB : Below W.heap.size W W') (h : W.cell? ⟨b, off, none⟩ = some v) : W'.cell? ⟨b, off, none⟩ = some v := by
  have hlt : b < W.heap.size := by
    by_cases c : b < W.heap.size
    · exact c
    · have : W.heap[b]? = none := by simp; omega
      simp [World.cell?, this] at h
  have := hB.block b hlt
  simp only [World.cell?] at h ⊢
  rw [this]
  exact h
theorem cell_block {W W' : World} {b off : Nat} {v : Value} (hB : W'.heap[b]? = W.heap[b]?) (h : W.cell? ⟨b, off, none⟩ = some v) : W'.cell? ⟨b, off, none⟩ = some v := by
  simp only [World.cell?] at h ⊢
  rw [hB]
  exact h
theorem wpList_run {P : Program} {ops : Array Oper} {Q : Exit → Act → World → Prop} {rest : List Oper} {o : Oper} {a : Act} {w : World} (v : Value) (w' : World) (hg : o.guard = none) (hr : (execOp a.eval o).run P w = .ok (.value v) w') (h : wpList P ops Q rest (a.put o.dst v) w') : wpList P ops Q (o :: rest) a w :=
  wpList_plain hg fun K hK => by unfold Oper.wp; rw [hr]; exact hK _ _ h
theorem wpList_none {P : Program} {ops : Array Oper} {Q : Exit → Act → World → Prop} {rest : List Oper} {o : Oper} {a : Act} {w : World} (w' : World) (hg : o.guard = none) (hr : (execOp a.eval o).run P w = .ok .skip w') (h : wpList P ops Q rest (a.put o.dst undef) w') : wpList P ops Q (o :: rest) a w :=
  wpList_plain hg fun K hK => by unfold Oper.wp; rw [hr]; exact hK _ _ h
theorem cells_new {W : World} {xs : List Value} {T : TypeId} : ∀ (j : Nat) (u : Value), xs[j]? = some u → (W.alloc (.cells xs.toArray T)).cell? ((⟨W.heap.size, 0, none⟩ : Addr).add j) = some u := fun j u hj => by
  rw [add_at, Nat.zero_add]
  exact cell_of (World.alloc_heap_new W _) (by simpa using hj)
theorem hd_alloc {W : World} {b : Nat} {o : Obj} (o' : Obj) (h : W.heap[b]? = some o) : (W.alloc o').heap[b]? = some o := (Below.heap_alloc W o' b (Array.getElem?_eq_some_iff.1 h).1).trans h
theorem bup_rv {a : VV} (ra : RV a) (k : Nat) : RV (bup a k) := by
  have ha := ra.inn
  have ci := cup_in ha k
  unfold bup
  split
  · exact rv_one (wrap_is _)
  split
  · have wi := cwr_in ci.1 ci.2
    exact vmake_rv (x := ⟨-9223372036854775808, 9223372036854775807, (cwrapped (cup a k).1 (cup a k).2).1, (cwrapped (cup a k).1 (cup a k).2).2⟩) ⟨⟨by show (-9223372036854775808 : Int) ≤ -9223372036854775808; decide, by show (-9223372036854775808 : Int) ≤ 9223372036854775807; decide⟩, ⟨by show (-9223372036854775808 : Int) ≤ 9223372036854775807; decide, by show (9223372036854775807 : Int) ≤ 9223372036854775807; decide⟩, wi.1, wi.2⟩
  · have ii := iof_in (wrap_is (a.lo * 2 ^ k)) (wrap_is (a.hi * 2 ^ k))
    exact vmake_rv (x := ⟨(iof (slK a.lo k) (slK a.hi k)).1, (iof (slK a.lo k) (slK a.hi k)).2, (cup a k).1, (cup a k).2⟩) ⟨ii.1, ii.2, ci.1, ci.2⟩
theorem bdown_rv {a : VV} (ra : RV a) (k : Nat) : RV (bdown a k) := by
  have ha := ra.inn
  have ic : IU (cdown a k).1 ∧ IU (cdown a k).2 := by
    unfold cdown
    split
    · exact ⟨div2_iu ha.m k, div2_iu ha.r k⟩
    · exact ⟨⟨by decide, by decide⟩, by decide, by decide⟩
  unfold bdown
  split
  · exact rv_one (div2_is ha.lo _)
  · have ii := iof_in (div2_is ha.lo k) (div2_is ha.hi k)
    exact vmake_rv (x := ⟨(iof (a.lo / 2 ^ k) (a.hi / 2 ^ k)).1, (iof (a.lo / 2 ^ k) (a.hi / 2 ^ k)).2, (cdown a k).1, (cdown a k).2⟩) ⟨ii.1, ii.2, ic.1, ic.2⟩
set_option maxRecDepth 100000 in
set_option maxHeartbeats 4000000 in
theorem shiftU_in (n : Nat) (hn : 4 ≤ n) (a b : VV) (ra : RV a) (rb : RV b) (by' : Nat → VV) (hin : ∀ k : Nat, k < 64 → InV (by' k)) (hby : ∀ k : Nat, k < 64 → Den Tryz.prog 186 #[VVal a, .int .u64 (k : Int)] noFacts (VVal (by' k))) (w : World) :
    CallsIn Fence.wide n Tryz.prog 185 #[VVal a, VVal b, .func (.func 186) #[] #[]] w fun e w' => e = .returned (VVal (vjoins ((cntI (bmet b) 64).map fun k => by' k.val))) ∧ Below w.heap.size w w' := by
  have hn1 : 1 ≤ n := by omega
  have hmx := hmix
  refine callsIn_of_wp_marks Tryz.func185 rfl trivial ?_ rfl
  simp only [Tryz.ntmps185, List.size_toArray, List.length_cons, List.length_nil, Nat.reduceAdd, Nat.reduceSub, Array.replicate_succ, Array.replicate_zero, List.push_toArray, List.append_toArray, List.nil_append, List.cons_append]
  gi_wp2_with (refine ⟨trivial, ?_⟩; gi_at_call 246; refine (callsIn_wide.2 (counts_c b rb _)).mono ?_; rintro e w1 ⟨B0, T0, rfl, hB0, hlt0, hB1⟩)
  obtain ⟨W0, hW0⟩ : ∃ W0, (((((w.alloc (.cells #[.int .i64 a.lo, .int .i64 a.hi, .int .u64 a.m, .int .u64 a.r] 31)).alloc (.cells #[.int .i64 b.lo, .int .i64 b.hi, .int .u64 b.m, .int .u64 b.r] 31)).alloc (.cells #[.func (.func 186) #[] #[]] 176)).alloc (.cells #[.int .i64 0, .int .i64 0, .int .u64 0, .int .u64 0] 31)).alloc (.cells #[.slice none 0 0] 25)) = W0 := ⟨_, rfl⟩
  have hs : W0.heap.size = w.heap.size + 1 + 1 + 1 + 1 + 1 := by rw [← hW0]; simp
  have hA : W0.heap[w.heap.size]? = some (.cells #[.int .i64 a.lo, .int .i64 a.hi, .int .u64 a.m, .int .u64 a.r] 31 (0, 0)) := by
    rw [← hW0]; exact hd_alloc _ (hd_alloc _ (hd_alloc _ (hd_alloc _ (World.alloc_heap_new _ _))))
  have hY : W0.heap[w.heap.size + 1 + 1]? = some (.cells #[.func (.func 186) #[] #[]] 176 (0, 0)) := by
    rw [← hW0]
    refine hd_alloc _ (hd_alloc _ ?_)
    have := World.alloc_heap_new ((w.alloc (.cells #[.int .i64 a.lo, .int .i64 a.hi, .int .u64 a.m, .int .u64 a.r] 31)).alloc (.cells #[.int .i64 b.lo, .int .i64 b.hi, .int .u64 b.m, .int .u64 b.r] 31)) (.cells #[.func (.func 186) #[] #[]] 176)
    rwa [World.size_alloc, World.size_alloc] at this
  have hR : W0.heap[w.heap.size + 1 + 1 + 1]? = some (.cells #[.int .i64 0, .int .i64 0, .int .u64 0, .int .u64 0] 31 (0, 0)) := by
    rw [← hW0]
    refine hd_alloc _ ?_
    have := World.alloc_heap_new (((w.alloc (.cells #[.int .i64 a.lo, .int .i64 a.hi, .int .u64 a.m, .int .u64 a.r] 31)).alloc (.cells #[.int .i64 b.lo, .int .i64 b.hi, .int .u64 b.m, .int .u64 b.r] 31)).alloc (.cells #[.func (.func 186) #[] #[]] 176)) (.cells #[.int .i64 0, .int .i64 0, .int .u64 0, .int .u64 0] 31)
    rwa [World.size_alloc, World.size_alloc, World.size_alloc] at this
  have hM : Boxed W0 (w.heap.size + 1 + 1 + 1 + 1) 25 (.slice none 0 0) := by
    rw [← hW0]
    have := Boxed.new ((((w.alloc (.cells #[.int .i64 a.lo, .int .i64 a.hi, .int .u64 a.m, .int .u64 a.r] 31)).alloc (.cells #[.int .i64 b.lo, .int .i64 b.hi, .int .u64 b.m, .int .u64 b.r] 31)).alloc (.cells #[.func (.func 186) #[] #[]] 176)).alloc (.cells #[.int .i64 0, .int .i64 0, .int .u64 0, .int .u64 0] 31)) 25 (.slice none 0 0)
    rwa [World.size_alloc, World.size_alloc, World.size_alloc, World.size_alloc] at this
  have hbW : Below w.heap.size w W0 := by rw [← hW0]; exact (((((Below.refl _ w).alloc (Nat.le_refl _) _).alloc (by simp) _).alloc (by simp; omega) _).alloc (by simp; omega) _).alloc (by simp; omega) _
  have hB1 : Below W0.heap.size W0 w1 := by rw [← hW0]; exact hB1
  have hM1 : Boxed w1 (w.heap.size + 1 + 1 + 1 + 1) 25 (.slice none 0 0) := (hB1.block _ (by omega)).trans hM
  refine wpIn_rangeFunc_ownF rfl hn1 (gf := 256) (lb := #[.pointer (some ⟨B0, 0, none⟩)]) rfl trivial (enters_of Tryz.func256 (by kernel_rfl) rfl)
    (cnt_stops (n - 1) (by omega) B0 (bmet b) T0 _ hlt0 hB0) (fun _ _ => trivial)
    (fun W l o o' _ h hc _ => trivial) (Below.refl _ _) (fun _ => rfl)
    (fun pre W => ShI W0 (w.heap.size + 1 + 1 + 1 + 1) by' pre W) (fun _ _ _ => False)
    (shI_own (by omega) (by have := hB1.size; omega)) (fun _ _ _ _ _ hs' _ _ => hs') ?h0
    (fun k => { tmps := #[VVal a, VVal b, .func (.func 186) #[] #[], .pointer (some ⟨w.heap.size, 0, none⟩), .pointer (some ⟨w.heap.size + 1, 0, none⟩), .pointer (some ⟨w.heap.size + 1 + 1, 0, none⟩), .pointer (some ⟨w.heap.size + 1 + 1 + 1, 0, none⟩), .pointer (some ⟨w.heap.size + 1 + 1 + 1 + 1, 0, none⟩), .int .u64 (k.val : Int), VVal b, .func (.func 256) #[] #[.pointer (some ⟨B0, 0, none⟩)], .int .u64 (k.val : Int), undef, undef, undef, undef, undef, undef, undef, undef, undef], defers := [] }) ?assign ?body ?done ?stop
  case h0 =>
    exact ⟨⟨_, hM1, ⟨rfl, .inl ⟨rfl, rfl⟩⟩, trivial⟩, hB1.mono (by omega)⟩
  case assign =>
    intro l k W K hK
    gi_wp2
    exact hK
  case stop =>
    rintro D c pre W _ _ h _
    exact h.elim
  case body =>
    rintro l pre k W ⟨⟨u, hu, hrow, _⟩, hB⟩ hlen
    obtain ⟨i0, hi, hz0, hz1, hz2⟩ := info_parts info_val
    have hd1 : 1 ≤ n - 1 - 1 := by omega
    have hc := hu.cell
    have hf := hu.frozen
    have hz := hB.size
    have l0 : w.heap.size < W.heap.size := by omega
    have l2 : w.heap.size + 1 + 1 < W.heap.size := by omega
    have l4 : w.heap.size + 1 + 1 + 1 + 1 < W.heap.size := by omega
    have hA' := (hB.block w.heap.size (by omega)).trans hA
    have hY' := (hB.block (w.heap.size + 1 + 1) (by omega)).trans hY
    have a0 : W.cell? ⟨w.heap.size, 0, none⟩ = some (.int .i64 a.lo) := cell_of hA' rfl
    have a1 : W.cell? ⟨w.heap.size, 1, none⟩ = some (.int .i64 a.hi) := cell_of hA' rfl
    have a2 : W.cell? ⟨w.heap.size, 2, none⟩ = some (.int .u64 a.m) := cell_of hA' rfl
    have a3 : W.cell? ⟨w.heap.size, 3, none⟩ = some (.int .u64 a.r) := cell_of hA' rfl
    have ay : W.cell? ⟨w.heap.size + 1 + 1, 0, none⟩ = some (.func (.func 186) #[] #[]) := cell_of hY' rfl
    have D := hby k.val k.isLt
    have gc := grown_cell
    have D' := fun W => D.out W ⟨fun _ _ _ h => h.elim, fun _ _ h => h.elim⟩
    gi_wp2
    refine wpIn_region_any hmx (any_in l _ (by rintro j o ho c; match j, ho with | 0, ho => cases ho; simp | 1, ho => cases ho; simp | 2, ho => cases ho; simp | 3, ho => cases ho; simp | 4, ho => cases ho; simp | 5, ho => cases ho; simp | 6, ho => cases ho; simp | 7, ho => cases ho; simp) (by rintro ⟨a, w, h⟩; exact h) _ _ _ _ (draw_head (K := fun fr' own' => (nth fr' 12 = some (.v u) ∧ nth fr' 17 = some (.s 0)) ∧ nth fr' 18 = some (.v undef) ∧ nth fr' 7 = some (.v (.pointer (some ⟨w.heap.size + 1 + 1 + 1 + 1, 0, none⟩))) ∧ nth own' 0 = some (.row 31 4 1 (VC (by' k.val)))) 6 hmx (by decide +kernel) rfl ?_ (holds_here (cellsF_sat W) _) ?_))
    · simp only [List.take_succ_cons, List.take_zero, List.cons_append, List.nil_append]
      (repeat' ((conv => whnf); first | refine CallN.any _ D ?_ | refine CellsN.mk [u] (cellF1 hc) rfl ?_ | refine CellsN.mk [_] (cellF1 ay) rfl ?_ | refine CellsN.mk [.int .i64 a.lo, .int .i64 a.hi, .int .u64 a.m, .int .u64 a.r] (cellF4 a0 a1 a2 a3) rfl ?_ | refine AdN.mk _ _ rfl ?_ | refine DrawN.a (Ob.mk (by decide +kernel) ?_) | refine DrawN.c (Ob.mk (by decide +kernel) ?_) | refine DrawN.b (Ob.mk (by decide +kernel) ?_) | refine Ob.mk (by kernel_rfl) ?_ | (refine Br.mk (fun h => ?_) (fun h => ?_) <;> (first | (exfalso; exact Bool.false_ne_true h) | (exfalso; exact Bool.false_ne_true h.symm) | skip)) | refine SeqN.go ?_)); all_goals (conv => whnf)
      exact ⟨⟨rfl, rfl⟩, rfl, rfl, rfl⟩
    · rintro σ' fr' own' a' w2 hH ⟨⟨h12, h17⟩, h18, h7, h0⟩
      have hB2 := hH.reg.below
      have hg2 : W.grownBy w2 none := ⟨hB2.os, hB2.tape, hB2.output, hB2.size, fun k hk _ => hB2.block k hk⟩
      have hu2 := hu.kept hg2 (by simp)
      have hrow2 := hrow.kept (row := none) hg2 (by cases hq : u.ownBlock <;> simp)
      have hzw := hB2.size
      rw [nth_eq] at h12 h17 h7 h0 h18
      obtain ⟨u12, e12, r12⟩ := hH.fr.at_ 12 _ h12
      obtain rfl : u12 = u := r12
      obtain ⟨u17, e17, m, hm, r17, _⟩ := hH.fr.at_ 17 _ h17
      obtain ⟨u7, e7, r7⟩ := hH.fr.at_ 7 _ h7
      obtain ⟨⟨hX, hone⟩, _⟩ := hH.reg.mem.blk 0 _ m h0 hm
      obtain ⟨gx, cx, hgx⟩ := ownsRow_succ hX
      rw [hgx] at hX r17
      have hk64 := k.isLt
      have hN := cntI_len (bmet b) 64
      have v12 : a'.eval (.tmp 12) = u12 := by simp [Act.eval, e12]
      have v17 : a'.eval (.tmp 17) = .slice (some ⟨gx, 0, none⟩) (0 + 1) cx := by simp [Act.eval, e17, ← r17]
      refine wpList_append_own _ rfl _ _ 25 rfl (w.heap.size + 1 + 1 + 1 + 1) 31 i0 (.agg #[.int .i64 0, .int .i64 0, .int .u64 0, .int .u64 0]) 4 32 Tryz.underlying25 hi hz0 hz1 hz2 rfl (by decide) _ _ _ v12 hrow2 ⟨gx, 0, none⟩ 1 cx (VC (by' k.val)) v17 rfl (hX.cells rfl) (by simp [VC, Value.oneCell']) (Nat.le_trans (show pre.length + 1 ≤ 1001 by omega) (by decide)) (by omega) (by omega) ?_
      intro v' w3 hown' hgrow _
      obtain ⟨g', cap', rfl⟩ := ownsRow_succ hown'
      obtain ⟨hv1, hv2, hr2, hk2, hb2⟩ := appended' hu2 (by decide) hrow2 (by omega) (by omega) hown' hgrow
      have hc1 := hv1.cell
      have hf1 := hv1.frozen
      have v7 : (a'.put (some 18) (.slice (some ⟨g', 0, none⟩) (pre.length + 1) cap')).eval (.tmp 7) = .pointer (some ⟨w.heap.size + 1 + 1 + 1 + 1, 0, none⟩) := by have r7 : u7 = .pointer (some ⟨w.heap.size + 1 + 1 + 1 + 1, 0, none⟩) := r7; rw [Act.eval_put (by intro d hd; cases hd; simp)]; simp [Act.eval, e7, r7]
      have v18 : (a'.put (some 18) (.slice (some ⟨g', 0, none⟩) (pre.length + 1) cap')).eval (.tmp 18) = .slice (some ⟨g', 0, none⟩) (pre.length + 1) cap' := by
        have hl18 : 18 < a'.tmps.size := by
          rw [← hH.fr.len]
          exact (List.getElem?_eq_some_iff.1 h18).1
        simp [Act.eval, Act.put, hl18]
      refine wpList_none (w3.setCell ⟨w.heap.size + 1 + 1 + 1 + 1, 0, none⟩ (.slice (some ⟨g', 0, none⟩) (pre.length + 1) cap')) rfl (by simp only [execOp, v7, v18]; go_simp; trace_state) ?_
      refine wpList_nil ?_
      refine ⟨KeepsOthers.trans ⟨hB2.size, fun k o h _ => (hB2.block k (Array.getElem?_eq_some_iff.1 h).1).trans h⟩ hk2, trivial, ⟨_, hv2, ?_, trivial⟩, (hB.trans (hB2.mono (by omega))).trans hb2⟩
      rw [List.length_append, List.length_singleton, List.map_append, VCs_app, List.map_singleton, VCs_one]
      exact hr2
  case done =>
    rintro D ys W hD rfl ⟨⟨u, hu, hrow, _⟩, hB⟩ hK
    have hc := hu.cell
    have hz := hB.size
    have hL : ((cntI (bmet b) 64).map fun k => by' k.val).length = (cntI (bmet b) 64).length := List.length_map _
    have hJ := vJoin_d ((cntI (bmet b) 64).map fun k => by' k.val) (fun p hp => by obtain ⟨k, _, rfl⟩ := List.mem_map.1 hp; exact hin k.val k.isLt) (by have := cntI_len (bmet b) 64; rw [hL]; omega)
    rw [hL] at hJ
    have hAr : ArsAre W [.r 4 (cntI (bmet b) 64).length (VCs ((cntI (bmet b) 64).map fun k => by' k.val))] [u] := by
      refine ⟨u, [], rfl, ⟨?_, ?_⟩, rfl⟩
      · rw [VCs_len, hL]
      · rcases hrow.2 with ⟨rfl, h0⟩ | ⟨g, cap, cur, rfl, _⟩
        · exact ⟨none, 0, by rw [h0], fun h => by omega⟩
        · refine ⟨_, cap, rfl, fun _ => ⟨g, 0, rfl, fun j v hv => ?_⟩⟩
          have := hrow.cells rfl j v hv
          rw [add_at] at this
          exact this
    have J := hJ.out W [u] ⟨fun _ _ _ h => h.elim, fun _ _ h => h.elim⟩ hAr
    have hR' := (hB.block (w.heap.size + 1 + 1 + 1) (by omega)).trans hR
    gi_wp2_with (refine ⟨trivial, ?_⟩; gi_at_call 62; refine (callsIn_wide.2 J).mono ?_; rintro e w3 ⟨rfl, hB3⟩; have hR3 := (hB3.block (w.heap.size + 1 + 1 + 1) (by omega)).trans hR'; have r0 : w3.cell? ⟨w.heap.size + 1 + 1 + 1, 0, none⟩ = some (.int .i64 0) := cell_of hR3 rfl; have r1 : w3.cell? ⟨w.heap.size + 1 + 1 + 1, 1, none⟩ = some (.int .i64 0) := cell_of hR3 rfl; have r2 : w3.cell? ⟨w.heap.size + 1 + 1 + 1, 2, none⟩ = some (.int .u64 0) := cell_of hR3 rfl; have r3 : w3.cell? ⟨w.heap.size + 1 + 1 + 1, 3, none⟩ = some (.int .u64 0) := cell_of hR3 rfl; have rf : ∀ o, w3.frozen? ⟨w.heap.size + 1 + 1 + 1, o, none⟩ = false := fun o => by simp [World.frozen?, hR3])
    generalize hV : vjoins ((cntI (bmet b) 64).map fun k => by' k.val) = V at *
    have hneD : D ≠ w.heap.size + 1 + 1 + 1 := by have := hB1.size; omega
    have hltD : D < W.heap.size := (Array.getElem?_eq_some_iff.1 hK).1
    have hR4 : ((((w3.setCell ⟨w.heap.size + 1 + 1 + 1, 0, none⟩ (.int .i64 V.lo)).setCell ⟨w.heap.size + 1 + 1 + 1, 1, none⟩ (.int .i64 V.hi)).setCell ⟨w.heap.size + 1 + 1 + 1, 2, none⟩ (.int .u64 V.m)).setCell ⟨w.heap.size + 1 + 1 + 1, 3, none⟩ (.int .u64 V.r)).heap[w.heap.size + 1 + 1 + 1]? = some (.cells #[.int .i64 V.lo, .int .i64 V.hi, .int .u64 V.m, .int .u64 V.r] 31 (0, 0)) := by
      simp [World.setCell, Array.getElem?_modify, hR3]
    have hK4 : ((((w3.setCell ⟨w.heap.size + 1 + 1 + 1, 0, none⟩ (.int .i64 V.lo)).setCell ⟨w.heap.size + 1 + 1 + 1, 1, none⟩ (.int .i64 V.hi)).setCell ⟨w.heap.size + 1 + 1 + 1, 2, none⟩ (.int .u64 V.m)).setCell ⟨w.heap.size + 1 + 1 + 1, 3, none⟩ (.int .u64 V.r)).heap[D]? = some (.deferred (some [])) := by
      rw [Below.heap_setCell _ _ _ D hneD, Below.heap_setCell _ _ _ D hneD, Below.heap_setCell _ _ _ D hneD, Below.heap_setCell _ _ _ D hneD, hB3.block D hltD]
      exact hK
    have hB4 : Below w.heap.size w ((((w3.setCell ⟨w.heap.size + 1 + 1 + 1, 0, none⟩ (.int .i64 V.lo)).setCell ⟨w.heap.size + 1 + 1 + 1, 1, none⟩ (.int .i64 V.hi)).setCell ⟨w.heap.size + 1 + 1 + 1, 2, none⟩ (.int .u64 V.m)).setCell ⟨w.heap.size + 1 + 1 + 1, 3, none⟩ (.int .u64 V.r)) := by
      have q := ((hbW.trans (hB.mono (by omega))).trans (hB3.mono (by omega)))
      exact (((q.setCell (p := ⟨w.heap.size + 1 + 1 + 1, 0, none⟩) (show w.heap.size ≤ w.heap.size + 1 + 1 + 1 by omega) _).setCell (p := ⟨w.heap.size + 1 + 1 + 1, 1, none⟩) (show w.heap.size ≤ w.heap.size + 1 + 1 + 1 by omega) _).setCell (p := ⟨w.heap.size + 1 + 1 + 1, 2, none⟩) (show w.heap.size ≤ w.heap.size + 1 + 1 + 1 by omega) _).setCell (p := ⟨w.heap.size + 1 + 1 + 1, 3, none⟩) (show w.heap.size ≤ w.heap.size + 1 + 1 + 1 by omega) _
    generalize ((((w3.setCell ⟨w.heap.size + 1 + 1 + 1, 0, none⟩ (.int .i64 V.lo)).setCell ⟨w.heap.size + 1 + 1 + 1, 1, none⟩ (.int .i64 V.hi)).setCell ⟨w.heap.size + 1 + 1 + 1, 2, none⟩ (.int .u64 V.m)).setCell ⟨w.heap.size + 1 + 1 + 1, 3, none⟩ (.int .u64 V.r)) = w4 at *
    refine ⟨by simp, .inl ⟨_, _, rfl, run_takeDeferred hK4, ?_⟩⟩
    have hR5 := (World.putObj_heap_other (o := .deferred none) (Ne.symm hneD)).trans hR4
    obtain ⟨iv, hiv, hz0, hz1, hz2⟩ := info_parts info_val
    have hl := run_load_agg (P := Tryz.prog) (t := 31) (w := w4.putObj D (.deferred none)) (b := w.heap.size + 1 + 1 + 1) (off := 0) (vs := VC V) (by kernel_rfl) hiv (by rw [hz1]; rfl) (fun j v hj => cell_of hR5 (by rw [Nat.zero_add]; exact (by simpa [VC] using hj)))
    refine ⟨VVal V, ?_, rfl, hB4.trans (belowK_b (w := w) (Nat.le_refl _) w4 D _ _ (by have := hB1.size; omega) hK4 rfl rfl)⟩
    simp [results, Tryz.results185, asAddr, hl, VC]
theorem shiftU_d (a b : VV) (ra : RV a) (rb : RV b) : Den Tryz.prog 185 #[VVal a, VVal b, .func (.func 186) #[] #[]] noFacts (VVal (vjoins ((cntI (bmet b) 64).map fun k => bup a k.val))) :=
  ⟨fun W _ => callsIn_wide.1 (shiftU_in 4 (Nat.le_refl _) a b ra rb (bup a) (fun k hk => (bup_rv ra k).inn) (fun k hk => up_d a ra k hk) W)⟩
set_option maxRecDepth 100000 in
theorem row1_d (a b : VV) (ra : RV a) (rb : RV b) : Den Tryz.prog 184 #[VVal a, VVal b] noFacts (VVal (vjoins ((cntI (bmet b) 64).map fun k => bup a k.val))) := by
  refine den_of_body (args := [VVal a, VVal b]) hmix Tryz.func184 ?_
  have S := shiftU_d a b ra rb
  generalize vjoins ((cntI (bmet b) 64).map fun k => bup a k.val) = V at *
  (repeat' ((conv => whnf); first | refine CallN.any _ S ?_ | refine AdN.mk _ _ rfl ?_ | refine DrawN.a (Ob.mk (by decide +kernel) ?_) | refine DrawN.c (Ob.mk (by decide +kernel) ?_) | refine DrawN.b (Ob.mk (by decide +kernel) ?_) | refine Ob.mk (by kernel_rfl) ?_ | (refine Br.mk (fun h => ?_) (fun h => ?_) <;> (first | (exfalso; exact Bool.false_ne_true h) | (exfalso; exact Bool.false_ne_true h.symm) | skip)) | refine SeqN.go ?_)); all_goals (conv => whnf)
  rfl
/-! Contracts of package bitop: shifts down by a value. -/
attribute [local go_sem] Oper.semAt_some

set_option maxRecDepth 100000 in
set_option maxHeartbeats 4000000 in
theorem shiftD_in (n : Nat) (hn : 4 ≤ n) (a b : VV) (ra : RV a) (rb : RV b) (by' : Nat → VV) (hin : ∀ k : Nat, k < 64 → InV (by' k)) (hby : ∀ k : Nat, k < 64 → Den Tryz.prog 188 #[VVal a, .int .u64 (k : Int)] noFacts (VVal (by' k))) (w : World) :
    CallsIn Fence.wide n Tryz.prog 185 #[VVal a, VVal b, .func (.func 188) #[] #[]] w fun e w' => e = .returned (VVal (vjoins ((cntI (bmet b) 64).map fun k => by' k.val))) ∧ Below w.heap.size w w' := by
  have hn1 : 1 ≤ n := by omega
  have hmx := hmix
  refine callsIn_of_wp_marks Tryz.func185 rfl trivial ?_ rfl
  simp only [Tryz.ntmps185, List.size_toArray, List.length_cons, List.length_nil, Nat.reduceAdd, Nat.reduceSub, Array.replicate_succ, Array.replicate_zero, List.push_toArray, List.append_toArray, List.nil_append, List.cons_append]
  gi_wp2_with (refine ⟨trivial, ?_⟩; gi_at_call 246; refine (callsIn_wide.2 (counts_c b rb _)).mono ?_; rintro e w1 ⟨B0, T0, rfl, hB0, hlt0, hB1⟩)
  obtain ⟨W0, hW0⟩ : ∃ W0, (((((w.alloc (.cells #[.int .i64 a.lo, .int .i64 a.hi, .int .u64 a.m, .int .u64 a.r] 31)).alloc (.cells #[.int .i64 b.lo, .int .i64 b.hi, .int .u64 b.m, .int .u64 b.r] 31)).alloc (.cells #[.func (.func 188) #[] #[]] 176)).alloc (.cells #[.int .i64 0, .int .i64 0, .int .u64 0, .int .u64 0] 31)).alloc (.cells #[.slice none 0 0] 25)) = W0 := ⟨_, rfl⟩
  have hs : W0.heap.size = w.heap.size + 1 + 1 + 1 + 1 + 1 := by rw [← hW0]; simp
  have hA : W0.heap[w.heap.size]? = some (.cells #[.int .i64 a.lo, .int .i64 a.hi, .int .u64 a.m, .int .u64 a.r] 31 (0, 0)) := by
    rw [← hW0]; exact hd_alloc _ (hd_alloc _ (hd_alloc _ (hd_alloc _ (World.alloc_heap_new _ _))))
  have hY : W0.heap[w.heap.size + 1 + 1]? = some (.cells #[.func (.func 188) #[] #[]] 176 (0, 0)) := by
    rw [← hW0]
    refine hd_alloc _ (hd_alloc _ ?_)
    have := World.alloc_heap_new ((w.alloc (.cells #[.int .i64 a.lo, .int .i64 a.hi, .int .u64 a.m, .int .u64 a.r] 31)).alloc (.cells #[.int .i64 b.lo, .int .i64 b.hi, .int .u64 b.m, .int .u64 b.r] 31)) (.cells #[.func (.func 188) #[] #[]] 176)
    rwa [World.size_alloc, World.size_alloc] at this
  have hR : W0.heap[w.heap.size + 1 + 1 + 1]? = some (.cells #[.int .i64 0, .int .i64 0, .int .u64 0, .int .u64 0] 31 (0, 0)) := by
    rw [← hW0]
    refine hd_alloc _ ?_
    have := World.alloc_heap_new (((w.alloc (.cells #[.int .i64 a.lo, .int .i64 a.hi, .int .u64 a.m, .int .u64 a.r] 31)).alloc (.cells #[.int .i64 b.lo, .int .i64 b.hi, .int .u64 b.m, .int .u64 b.r] 31)).alloc (.cells #[.func (.func 188) #[] #[]] 176)) (.cells #[.int .i64 0, .int .i64 0, .int .u64 0, .int .u64 0] 31)
    rwa [World.size_alloc, World.size_alloc, World.size_alloc] at this
  have hM : Boxed W0 (w.heap.size + 1 + 1 + 1 + 1) 25 (.slice none 0 0) := by
    rw [← hW0]
    have := Boxed.new ((((w.alloc (.cells #[.int .i64 a.lo, .int .i64 a.hi, .int .u64 a.m, .int .u64 a.r] 31)).alloc (.cells #[.int .i64 b.lo, .int .i64 b.hi, .int .u64 b.m, .int .u64 b.r] 31)).alloc (.cells #[.func (.func 188) #[] #[]] 176)).alloc (.cells #[.int .i64 0, .int .i64 0, .int .u64 0, .int .u64 0] 31)) 25 (.slice none 0 0)
    rwa [World.size_alloc, World.size_alloc, World.size_alloc, World.size_alloc] at this
  have hbW : Below w.heap.size w W0 := by rw [← hW0]; exact (((((Below.refl _ w).alloc (Nat.le_refl _) _).alloc (by simp) _).alloc (by simp; omega) _).alloc (by simp; omega) _).alloc (by simp; omega) _
  have hB1 : Below W0.heap.size W0 w1 := by rw [← hW0]; exact hB1
  have hM1 : Boxed w1 (w.heap.size + 1 + 1 + 1 + 1) 25 (.slice none 0 0) := (hB1.block _ (by omega)).trans hM
  refine wpIn_rangeFunc_ownF rfl hn1 (gf := 256) (lb := #[.pointer (some ⟨B0, 0, none⟩)]) rfl trivial (enters_of Tryz.func256 (by kernel_rfl) rfl)
    (cnt_stops (n - 1) (by omega) B0 (bmet b) T0 _ hlt0 hB0) (fun _ _ => trivial)
    (fun W l o o' _ h hc _ => trivial) (Below.refl _ _) (fun _ => rfl)
    (fun pre W => ShI W0 (w.heap.size + 1 + 1 + 1 + 1) by' pre W) (fun _ _ _ => False)
    (shI_own (by omega) (by have := hB1.size; omega)) (fun _ _ _ _ _ hs' _ _ => hs') ?h0
    (fun k => { tmps := #[VVal a, VVal b, .func (.func 188) #[] #[], .pointer (some ⟨w.heap.size, 0, none⟩), .pointer (some ⟨w.heap.size + 1, 0, none⟩), .pointer (some ⟨w.heap.size + 1 + 1, 0, none⟩), .pointer (some ⟨w.heap.size + 1 + 1 + 1, 0, none⟩), .pointer (some ⟨w.heap.size + 1 + 1 + 1 + 1, 0, none⟩), .int .u64 (k.val : Int), VVal b, .func (.func 256) #[] #[.pointer (some ⟨B0, 0, none⟩)], .int .u64 (k.val : Int), undef, undef, undef, undef, undef, undef, undef, undef, undef], defers := [] }) ?assign ?body ?done ?stop
  case h0 =>
    exact ⟨⟨_, hM1, ⟨rfl, .inl ⟨rfl, rfl⟩⟩, trivial⟩, hB1.mono (by omega)⟩
  case assign =>
    intro l k W K hK
    gi_wp2
    exact hK
  case stop =>
    rintro D c pre W _ _ h _
    exact h.elim
  case body =>
    rintro l pre k W ⟨⟨u, hu, hrow, _⟩, hB⟩ hlen
    obtain ⟨i0, hi, hz0, hz1, hz2⟩ := info_parts info_val
    have hd1 : 1 ≤ n - 1 - 1 := by omega
    have hc := hu.cell
    have hf := hu.frozen
    have hz := hB.size
    have l0 : w.heap.size < W.heap.size := by omega
    have l2 : w.heap.size + 1 + 1 < W.heap.size := by omega
    have l4 : w.heap.size + 1 + 1 + 1 + 1 < W.heap.size := by omega
    have hA' := (hB.block w.heap.size (by omega)).trans hA
    have hY' := (hB.block (w.heap.size + 1 + 1) (by omega)).trans hY
    have a0 : W.cell? ⟨w.heap.size, 0, none⟩ = some (.int .i64 a.lo) := cell_of hA' rfl
    have a1 : W.cell? ⟨w.heap.size, 1, none⟩ = some (.int .i64 a.hi) := cell_of hA' rfl
    have a2 : W.cell? ⟨w.heap.size, 2, none⟩ = some (.int .u64 a.m) := cell_of hA' rfl
    have a3 : W.cell? ⟨w.heap.size, 3, none⟩ = some (.int .u64 a.r) := cell_of hA' rfl
    have ay : W.cell? ⟨w.heap.size + 1 + 1, 0, none⟩ = some (.func (.func 188) #[] #[]) := cell_of hY' rfl
    have D := hby k.val k.isLt
    have gc := grown_cell
    have D' := fun W => D.out W ⟨fun _ _ _ h => h.elim, fun _ _ h => h.elim⟩
    gi_wp2
    refine wpIn_region_any hmx (any_in l _ (by rintro j o ho c; match j, ho with | 0, ho => cases ho; simp | 1, ho => cases ho; simp | 2, ho => cases ho; simp | 3, ho => cases ho; simp | 4, ho => cases ho; simp | 5, ho => cases ho; simp | 6, ho => cases ho; simp | 7, ho => cases ho; simp) (by rintro ⟨a, w, h⟩; exact h) _ _ _ _ (draw_head (K := fun fr' own' => (nth fr' 12 = some (.v u) ∧ nth fr' 17 = some (.s 0)) ∧ nth fr' 18 = some (.v undef) ∧ nth fr' 7 = some (.v (.pointer (some ⟨w.heap.size + 1 + 1 + 1 + 1, 0, none⟩))) ∧ nth own' 0 = some (.row 31 4 1 (VC (by' k.val)))) 6 hmx (by decide +kernel) rfl ?_ (holds_here (cellsF_sat W) _) ?_))
    · simp only [List.take_succ_cons, List.take_zero, List.cons_append, List.nil_append]
      (repeat' ((conv => whnf); first | refine CallN.any _ D ?_ | refine CellsN.mk [u] (cellF1 hc) rfl ?_ | refine CellsN.mk [_] (cellF1 ay) rfl ?_ | refine CellsN.mk [.int .i64 a.lo, .int .i64 a.hi, .int .u64 a.m, .int .u64 a.r] (cellF4 a0 a1 a2 a3) rfl ?_ | refine AdN.mk _ _ rfl ?_ | refine DrawN.a (Ob.mk (by decide +kernel) ?_) | refine DrawN.c (Ob.mk (by decide +kernel) ?_) | refine DrawN.b (Ob.mk (by decide +kernel) ?_) | refine Ob.mk (by kernel_rfl) ?_ | (refine Br.mk (fun h => ?_) (fun h => ?_) <;> (first | (exfalso; exact Bool.false_ne_true h) | (exfalso; exact Bool.false_ne_true h.symm) | skip)) | refine SeqN.go ?_)); all_goals (conv => whnf)
      exact ⟨⟨rfl, rfl⟩, rfl, rfl, rfl⟩
    · rintro σ' fr' own' a' w2 hH ⟨⟨h12, h17⟩, h18, h7, h0⟩
      have hB2 := hH.reg.below
      have hg2 : W.grownBy w2 none := ⟨hB2.os, hB2.tape, hB2.output, hB2.size, fun k hk _ => hB2.block k hk⟩
      have hu2 := hu.kept hg2 (by simp)
      have hrow2 := hrow.kept (row := none) hg2 (by cases hq : u.ownBlock <;> simp)
      have hzw := hB2.size
      rw [nth_eq] at h12 h17 h7 h0 h18
      obtain ⟨u12, e12, r12⟩ := hH.fr.at_ 12 _ h12
      obtain rfl : u12 = u := r12
      obtain ⟨u17, e17, m, hm, r17, _⟩ := hH.fr.at_ 17 _ h17
      obtain ⟨u7, e7, r7⟩ := hH.fr.at_ 7 _ h7
      obtain ⟨⟨hX, hone⟩, _⟩ := hH.reg.mem.blk 0 _ m h0 hm
      obtain ⟨gx, cx, hgx⟩ := ownsRow_succ hX
      rw [hgx] at hX r17
      have hk64 := k.isLt
      have hN := cntI_len (bmet b) 64
      have v12 : a'.eval (.tmp 12) = u12 := by simp [Act.eval, e12]
      have v17 : a'.eval (.tmp 17) = .slice (some ⟨gx, 0, none⟩) (0 + 1) cx := by simp [Act.eval, e17, ← r17]
      refine wpList_append_own _ rfl _ _ 25 rfl (w.heap.size + 1 + 1 + 1 + 1) 31 i0 (.agg #[.int .i64 0, .int .i64 0, .int .u64 0, .int .u64 0]) 4 32 Tryz.underlying25 hi hz0 hz1 hz2 rfl (by decide) _ _ _ v12 hrow2 ⟨gx, 0, none⟩ 1 cx (VC (by' k.val)) v17 rfl (hX.cells rfl) (by simp [VC, Value.oneCell']) (Nat.le_trans (show pre.length + 1 ≤ 1001 by omega) (by decide)) (by omega) (by omega) ?_
      intro v' w3 hown' hgrow _
      obtain ⟨g', cap', rfl⟩ := ownsRow_succ hown'
      obtain ⟨hv1, hv2, hr2, hk2, hb2⟩ := appended' hu2 (by decide) hrow2 (by omega) (by omega) hown' hgrow
      have hc1 := hv1.cell
      have hf1 := hv1.frozen
      have v7 : (a'.put (some 18) (.slice (some ⟨g', 0, none⟩) (pre.length + 1) cap')).eval (.tmp 7) = .pointer (some ⟨w.heap.size + 1 + 1 + 1 + 1, 0, none⟩) := by have r7 : u7 = .pointer (some ⟨w.heap.size + 1 + 1 + 1 + 1, 0, none⟩) := r7; rw [Act.eval_put (by intro d hd; cases hd; simp)]; simp [Act.eval, e7, r7]
      have v18 : (a'.put (some 18) (.slice (some ⟨g', 0, none⟩) (pre.length + 1) cap')).eval (.tmp 18) = .slice (some ⟨g', 0, none⟩) (pre.length + 1) cap' := by
        have hl18 : 18 < a'.tmps.size := by
          rw [← hH.fr.len]
          exact (List.getElem?_eq_some_iff.1 h18).1
        simp [Act.eval, Act.put, hl18]
      refine wpList_none (w3.setCell ⟨w.heap.size + 1 + 1 + 1 + 1, 0, none⟩ (.slice (some ⟨g', 0, none⟩) (pre.length + 1) cap')) rfl (by simp only [execOp, v7, v18]; go_simp; trace_state) ?_
      refine wpList_nil ?_
      refine ⟨KeepsOthers.trans ⟨hB2.size, fun k o h _ => (hB2.block k (Array.getElem?_eq_some_iff.1 h).1).trans h⟩ hk2, trivial, ⟨_, hv2, ?_, trivial⟩, (hB.trans (hB2.mono (by omega))).trans hb2⟩
      rw [List.length_append, List.length_singleton, List.map_append, VCs_app, List.map_singleton, VCs_one]
      exact hr2
  case done =>
    rintro D ys W hD rfl ⟨⟨u, hu, hrow, _⟩, hB⟩ hK
    have hc := hu.cell
    have hz := hB.size
    have hL : ((cntI (bmet b) 64).map fun k => by' k.val).length = (cntI (bmet b) 64).length := List.length_map _
    have hJ := vJoin_d ((cntI (bmet b) 64).map fun k => by' k.val) (fun p hp => by obtain ⟨k, _, rfl⟩ := List.mem_map.1 hp; exact hin k.val k.isLt) (by have := cntI_len (bmet b) 64; rw [hL]; omega)
    rw [hL] at hJ
    have hAr : ArsAre W [.r 4 (cntI (bmet b) 64).length (VCs ((cntI (bmet b) 64).map fun k => by' k.val))] [u] := by
      refine ⟨u, [], rfl, ⟨?_, ?_⟩, rfl⟩
      · rw [VCs_len, hL]
      · rcases hrow.2 with ⟨rfl, h0⟩ | ⟨g, cap, cur, rfl, _⟩
        · exact ⟨none, 0, by rw [h0], fun h => by omega⟩
        · refine ⟨_, cap, rfl, fun _ => ⟨g, 0, rfl, fun j v hv => ?_⟩⟩
          have := hrow.cells rfl j v hv
          rw [add_at] at this
          exact this
    have J := hJ.out W [u] ⟨fun _ _ _ h => h.elim, fun _ _ h => h.elim⟩ hAr
    have hR' := (hB.block (w.heap.size + 1 + 1 + 1) (by omega)).trans hR
    gi_wp2_with (refine ⟨trivial, ?_⟩; gi_at_call 62; refine (callsIn_wide.2 J).mono ?_; rintro e w3 ⟨rfl, hB3⟩; have hR3 := (hB3.block (w.heap.size + 1 + 1 + 1) (by omega)).trans hR'; have r0 : w3.cell? ⟨w.heap.size + 1 + 1 + 1, 0, none⟩ = some (.int .i64 0) := cell_of hR3 rfl; have r1 : w3.cell? ⟨w.heap.size + 1 + 1 + 1, 1, none⟩ = some (.int .i64 0) := cell_of hR3 rfl; have r2 : w3.cell? ⟨w.heap.size + 1 + 1 + 1, 2, none⟩ = some (.int .u64 0) := cell_of hR3 rfl; have r3 : w3.cell? ⟨w.heap.size + 1 + 1 + 1, 3, none⟩ = some (.int .u64 0) := cell_of hR3 rfl; have rf : ∀ o, w3.frozen? ⟨w.heap.size + 1 + 1 + 1, o, none⟩ = false := fun o => by simp [World.frozen?, hR3])
    generalize hV : vjoins ((cntI (bmet b) 64).map fun k => by' k.val) = V at *
    have hneD : D ≠ w.heap.size + 1 + 1 + 1 := by have := hB1.size; omega
    have hltD : D < W.heap.size := (Array.getElem?_eq_some_iff.1 hK).1
    have hR4 : ((((w3.setCell ⟨w.heap.size + 1 + 1 + 1, 0, none⟩ (.int .i64 V.lo)).setCell ⟨w.heap.size + 1 + 1 + 1, 1, none⟩ (.int .i64 V.hi)).setCell ⟨w.heap.size + 1 + 1 + 1, 2, none⟩ (.int .u64 V.m)).setCell ⟨w.heap.size + 1 + 1 + 1, 3, none⟩ (.int .u64 V.r)).heap[w.heap.size + 1 + 1 + 1]? = some (.cells #[.int .i64 V.lo, .int .i64 V.hi, .int .u64 V.m, .int .u64 V.r] 31 (0, 0)) := by
      simp [World.setCell, Array.getElem?_modify, hR3]
    have hK4 : ((((w3.setCell ⟨w.heap.size + 1 + 1 + 1, 0, none⟩ (.int .i64 V.lo)).setCell ⟨w.heap.size + 1 + 1 + 1, 1, none⟩ (.int .i64 V.hi)).setCell ⟨w.heap.size + 1 + 1 + 1, 2, none⟩ (.int .u64 V.m)).setCell ⟨w.heap.size + 1 + 1 + 1, 3, none⟩ (.int .u64 V.r)).heap[D]? = some (.deferred (some [])) := by
      rw [Below.heap_setCell _ _ _ D hneD, Below.heap_setCell _ _ _ D hneD, Below.heap_setCell _ _ _ D hneD, Below.heap_setCell _ _ _ D hneD, hB3.block D hltD]
      exact hK
    have hB4 : Below w.heap.size w ((((w3.setCell ⟨w.heap.size + 1 + 1 + 1, 0, none⟩ (.int .i64 V.lo)).setCell ⟨w.heap.size + 1 + 1 + 1, 1, none⟩ (.int .i64 V.hi)).setCell ⟨w.heap.size + 1 + 1 + 1, 2, none⟩ (.int .u64 V.m)).setCell ⟨w.heap.size + 1 + 1 + 1, 3, none⟩ (.int .u64 V.r)) := by
      have q := ((hbW.trans (hB.mono (by omega))).trans (hB3.mono (by omega)))
      exact (((q.setCell (p := ⟨w.heap.size + 1 + 1 + 1, 0, none⟩) (show w.heap.size ≤ w.heap.size + 1 + 1 + 1 by omega) _).setCell (p := ⟨w.heap.size + 1 + 1 + 1, 1, none⟩) (show w.heap.size ≤ w.heap.size + 1 + 1 + 1 by omega) _).setCell (p := ⟨w.heap.size + 1 + 1 + 1, 2, none⟩) (show w.heap.size ≤ w.heap.size + 1 + 1 + 1 by omega) _).setCell (p := ⟨w.heap.size + 1 + 1 + 1, 3, none⟩) (show w.heap.size ≤ w.heap.size + 1 + 1 + 1 by omega) _
    generalize ((((w3.setCell ⟨w.heap.size + 1 + 1 + 1, 0, none⟩ (.int .i64 V.lo)).setCell ⟨w.heap.size + 1 + 1 + 1, 1, none⟩ (.int .i64 V.hi)).setCell ⟨w.heap.size + 1 + 1 + 1, 2, none⟩ (.int .u64 V.m)).setCell ⟨w.heap.size + 1 + 1 + 1, 3, none⟩ (.int .u64 V.r)) = w4 at *
    refine ⟨by simp, .inl ⟨_, _, rfl, run_takeDeferred hK4, ?_⟩⟩
    have hR5 := (World.putObj_heap_other (o := .deferred none) (Ne.symm hneD)).trans hR4
    obtain ⟨iv, hiv, hz0, hz1, hz2⟩ := info_parts info_val
    have hl := run_load_agg (P := Tryz.prog) (t := 31) (w := w4.putObj D (.deferred none)) (b := w.heap.size + 1 + 1 + 1) (off := 0) (vs := VC V) (by kernel_rfl) hiv (by rw [hz1]; rfl) (fun j v hj => cell_of hR5 (by rw [Nat.zero_add]; exact (by simpa [VC] using hj)))
    refine ⟨VVal V, ?_, rfl, hB4.trans (belowK_b (w := w) (Nat.le_refl _) w4 D _ _ (by have := hB1.size; omega) hK4 rfl rfl)⟩
    simp [results, Tryz.results185, asAddr, hl, VC]
theorem shiftD_d (a b : VV) (ra : RV a) (rb : RV b) : Den Tryz.prog 185 #[VVal a, VVal b, .func (.func 188) #[] #[]] noFacts (VVal (vjoins ((cntI (bmet b) 64).map fun k => bdown a k.val))) :=
  ⟨fun W _ => callsIn_wide.1 (shiftD_in 4 (Nat.le_refl _) a b ra rb (bdown a) (fun k hk => (bdown_rv ra k).inn) (fun k hk => down_d a ra k hk) W)⟩
set_option maxRecDepth 100000 in
theorem row2_d (a b : VV) (ra : RV a) (rb : RV b) : Den Tryz.prog 187 #[VVal a, VVal b] noFacts (VVal (vjoins ((cntI (bmet b) 64).map fun k => bdown a k.val))) := by
  refine den_of_body (args := [VVal a, VVal b]) hmix Tryz.func187 ?_
  have S := shiftD_d a b ra rb
  generalize vjoins ((cntI (bmet b) 64).map fun k => bdown a k.val) = V at *
  (repeat' ((conv => whnf); first | refine CallN.any _ S ?_ | refine AdN.mk _ _ rfl ?_ | refine DrawN.a (Ob.mk (by decide +kernel) ?_) | refine DrawN.c (Ob.mk (by decide +kernel) ?_) | refine DrawN.b (Ob.mk (by decide +kernel) ?_) | refine Ob.mk (by kernel_rfl) ?_ | (refine Br.mk (fun h => ?_) (fun h => ?_) <;> (first | (exfalso; exact Bool.false_ne_true h) | (exfalso; exact Bool.false_ne_true h.symm) | skip)) | refine SeqN.go ?_)); all_goals (conv => whnf)
  rfl
end Go.Proofs.YtljhbdgoknfkcaaGreatDoor
