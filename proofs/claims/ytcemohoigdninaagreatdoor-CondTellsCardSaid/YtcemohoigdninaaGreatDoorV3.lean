/- What the evaluation says of one operation that leaves the world as it is holds of it. No condition. -/
import Derived.Test.YtcemohoigdninaaGreatDoorV2
import Derived.ChangeKeysEq
import Derived.Laws.StructEq
namespace Go.Proofs.YtcemohoigdninaaGreatDoor
open Go Go.RowKit Go.Sort
set_option linter.unusedVariables false
set_option linter.unusedSimpArgs false

variable {P : Program} {F : Facts} {σ : Sg} {fr : List AV} {own : List Blk} {a : Act} {o : Oper}

theorem add_at (b off n : Nat) : (⟨b, off, none⟩ : Addr).add n = ⟨b, off + n, none⟩ := Addr.add_lit b off n

theorem takeX_sound : ∀ (n : Nat) (l : List AV) (K : List Value → Prop), takeX l n K → ∃ vs : List Value, vs.length = n ∧ K vs ∧ ∀ (j : Nat) (v : Value), vs[j]? = some v → ∃ x, l[j]? = some x ∧ ∀ σ u, x.Is σ u → u = v
  | 0, l, K, h => ⟨[], rfl, by cases l <;> exact h, fun j v hj => by simp at hj⟩
  | n + 1, [], K, h => by simp [takeX] at h
  | n + 1, x :: l, K, h => by
    have key : ∀ v0 : Value, (∀ σ u, x.Is σ u → u = v0) → takeX l n (fun l => K (v0 :: l)) → ∃ vs : List Value, vs.length = n + 1 ∧ K vs ∧ ∀ (j : Nat) (v : Value), vs[j]? = some v → ∃ x', (x :: l)[j]? = some x' ∧ ∀ σ u, x'.Is σ u → u = v := by
      intro v0 hv0 h
      obtain ⟨vs, h1, h2, h3⟩ := takeX_sound n l _ h
      refine ⟨v0 :: vs, by simp [h1], h2, fun j v hj => ?_⟩
      cases j with
      | zero =>
        simp at hj
        subst hj
        exact ⟨x, by simp, hv0⟩
      | succ j =>
        obtain ⟨y, k1, k2⟩ := h3 j v (by simpa using hj)
        exact ⟨y, by simpa using k1, k2⟩
    cases x with
    | v x => exact key x (fun _ _ h => h) h
    | lit b => exact key (.bool b) (fun _ _ h => h) h
    | p k off => simp [takeX] at h
    | s k => simp [takeX] at h
    | e k off => simp [takeX] at h
    | sub k off n => simp [takeX] at h
    | t k => simp [takeX] at h
    | junk => simp [takeX] at h

theorem run_load_agg {t : TypeId} {i : TypeInfo} {w : World} {b off : Nat} {vs : List Value} (hA : aggT P t = some true) (hi : P.info? t = some i) (hl : vs.length = i.size) (h : ∀ (j : Nat) (v : Value), vs[j]? = some v → w.cell? ⟨b, off + j, none⟩ = some v) :
    (loadVar t ⟨b, off, none⟩).run P w = .ok (.agg vs.toArray) w := by
  have hc := run_loadCells_list (P := P) w ⟨b, off, none⟩ vs (fun j v hj => by rw [add_at]; exact h j v hj)
  rw [hl] at hc
  simp [loadVar, run_isAgg hA, sizeOf, typeInfo, hi, hc]
theorem run_load_cell {t : TypeId} {w : World} {b off : Nat} {v : Value} (hA : aggT P t = some false) (h : w.cell? ⟨b, off, none⟩ = some v) : (loadVar t ⟨b, off, none⟩).run P w = .ok v w := by
  simp [loadVar, run_isAgg hA, h]

theorem cell_of {w : World} {b off : Nat} {xs : Array Value} {T : TypeId} {v : Value} (h : w.heap[b]? = some (.cells xs T (0, 0))) (hv : xs[off]? = some v) : w.cell? ⟨b, off, none⟩ = some v := by
  simp [World.cell?, h, hv]

theorem loadK_sound {t : TypeId} {cells : List AV} {off : Nat} {K : AV → Prop} (h : loadK P t cells off K) : ∃ x, K x ∧ ∀ (σ : Sg) (w : World) (b : Nat) (xs : Array Value) (T : TypeId), w.heap[b]? = some (.cells xs T (0, 0)) → FrIs σ cells xs →
    ∃ u, x.Is σ u ∧ (loadVar t ⟨b, off, none⟩).run P w = .ok u w := by
  unfold loadK at h
  split at h
  · rename_i hA
    split at h
    · rename_i i hi
      rw [dropL_eq] at h
      obtain ⟨vs, h1, h2, h3⟩ := takeX_sound _ _ _ h
      refine ⟨_, h2, fun σ w b xs T hb hfr => ⟨_, rfl, run_load_agg hA hi h1 fun j v hj => ?_⟩⟩
      obtain ⟨x, k1, k2⟩ := h3 j v hj
      rw [List.getElem?_drop] at k1
      obtain ⟨u, q1, q2⟩ := hfr.at_ _ x k1
      rw [k2 σ u q2] at q1
      exact cell_of hb q1
    · exact h.elim
  · rename_i hA
    have key : ∀ x : AV, nth cells off = some x → ∀ (σ : Sg) (w : World) (b : Nat) (xs : Array Value) (T : TypeId), w.heap[b]? = some (.cells xs T (0, 0)) → FrIs σ cells xs → ∃ u, x.Is σ u ∧ (loadVar t ⟨b, off, none⟩).run P w = .ok u w := by
      intro x hx σ w b xs T hb hfr
      rw [nth_eq] at hx
      obtain ⟨u, q1, q2⟩ := hfr.at_ _ x hx
      exact ⟨u, q2, run_load_cell hA (cell_of hb q1)⟩
    split at h
    all_goals first | exact h.elim | (rename_i hx; exact ⟨_, h, key _ hx⟩)
  · exact h.elim

theorem loadF_sound {t : TypeId} {b off : Nat} {K : AV → Prop} (h : loadF P t F b off K) : ∃ u, K (.v u) ∧ ∀ (w : World), Sat F w → (loadVar t ⟨b, off, none⟩).run P w = .ok u w := by
  unfold loadF at h
  split at h
  · rename_i hA
    split at h
    · rename_i i hi
      obtain ⟨vs, h1, h2, h3⟩ := h
      exact ⟨_, h3, fun w hs => run_load_agg hA hi h2 fun j v hj => hs.1 _ _ _ (h1 j v hj)⟩
    · exact h.elim
  · rename_i hA
    obtain ⟨vs, h1, h2, h3⟩ := h
    split at h3
    · rename_i x
      exact ⟨_, h3, fun w hs => run_load_cell hA (hs.1 _ _ _ (by have := h1 0 x rfl; rwa [Nat.add_zero] at this))⟩
    · exact h3.elim
  · exact h.elim

theorem loadR_sound {t : TypeId} {xs : List Value} {off : Nat} {K : AV → Prop} (h : loadR P t xs off K) : ∃ u, K (.v u) ∧ ∀ (w : World) (b : Nat), (∀ (j : Nat) (v : Value), xs[j]? = some v → w.cell? ⟨b, j, none⟩ = some v) → (loadVar t ⟨b, off, none⟩).run P w = .ok u w := by
  unfold loadR at h
  split at h
  · rename_i hA
    split at h
    · rename_i i hi
      obtain ⟨vs, h1, h2, h3⟩ := h
      refine ⟨_, h3, fun w b hc => run_load_agg hA hi h2 fun j v hj => hc _ _ ?_⟩
      rw [← h1] at hj
      have hjl := (List.getElem?_eq_some_iff.1 hj).1
      rw [List.getElem?_take_of_lt (by simp at hjl; omega), List.getElem?_drop] at hj
      exact hj
    · exact h.elim
  · rename_i hA
    obtain ⟨vs, h1, h2, h3⟩ := h
    split at h3
    · rename_i x
      refine ⟨_, h3, fun w b hc => run_load_cell hA (hc _ _ ?_)⟩
      have hj : ((xs.drop off).take 1)[0]? = some x := by rw [h1]; rfl
      rw [List.getElem?_take_of_lt (by omega), List.getElem?_drop] at hj
      simpa using hj
    · exact h3.elim
  · exact h.elim

theorem intK_sound {op : BinOp} {k k' : IntKind} {m n : Int} {K : Value → Prop} {E : Prop} (hk : (isShift op || decide (k = k')) = true) (h : intK op k m n K E) : E ∨ ∃ v, K v ∧ ∀ w t, (binOp op t (.int k m) (.int k' n)).run P w = .ok v w := by
  cases op <;> simp only [intK] at h <;> simp [isShift] at hk
  case shl => exact .inr ⟨_, h.k, fun w t => by simp [binOp, Op.shift, Int.not_lt.2 h.ob]⟩
  case shr => exact .inr ⟨_, h.k, fun w t => by simp [binOp, Op.shift, Int.not_lt.2 h.ob]⟩
  all_goals subst hk
  case quo => exact .inr ⟨_, h.k, fun w t => by simp [binOp, Op.intDiv, h.ob]⟩
  case rem => exact .inr ⟨_, h.k, fun w t => by simp [binOp, Op.intDiv, h.ob]⟩
  all_goals first
    | exact .inl h
    | exact .inr ⟨_, h, fun w t => by simp [binOp, Op.intArith, Op.intCmp]⟩

theorem run_part {t : TypeId} {cs : Array Value} {off : Nat} {v : Value} (h : partV P t cs off = some v) (w : World) : (part t cs off).run P w = .ok v w := by
  unfold partV at h
  split at h
  · rename_i hA
    split at h
    · rename_i i hi
      cases h
      simp [part, run_isAgg hA, sizeOf, typeInfo, hi]
    · cases h
  · rename_i hA
    simp [part, run_isAgg hA, h]
  · cases h
theorem andO_some {x y : Option Bool} {b : Bool} (h : andO x y = some b) : ∃ c d, x = some c ∧ y = some d ∧ b = (c && d) := by
  cases x <;> cases y <;> simp [andO] at h
  exact ⟨_, _, rfl, rfl, h.symm⟩
theorem eqFs_sound {d e : Nat} {eq : TypeId → Value → Value → Option Bool} (heq : ∀ t x y b w, eqTy P d t = true → eq t x y = some b → (Op.equalIn (d + e) t x y).run P w = .ok b w) {xs ys : Array Value} : ∀ (fs : List Field) (b : Bool) (w : World), (fs.all fun f => eqTy P d f.type) = true →
    eqFs P eq xs ys fs = some b → (Op.eqFields (d + e) xs ys fs).run P w = .ok b w
  | [], b, w, _, h => by simp [eqFs] at h; subst h; simp [Op.eqFields]
  | f :: fs, b, w, ht, h => by
    simp only [List.all_cons, Bool.and_eq_true] at ht
    unfold eqFs at h
    unfold Op.eqFields
    cases hn : (f.name != "_") with
    | false =>
      simp only [hn] at h
      have : ¬ f.name ≠ "_" := by simpa using hn
      rw [if_neg this]
      exact eqFs_sound heq fs b w ht.2 h
    | true =>
      simp only [hn] at h
      have hne : f.name ≠ "_" := by simpa using hn
      rw [if_pos hne]
      split at h
      · rename_i u v hu hv
        simp only [Sem.run_bind, run_part hu, run_part hv, Result.andThen_ok]
        split at h
        · have := heq _ _ _ _ w ht.1 h
          simp only [this, Result.andThen_ok]
          cases b <;> simp [Op.eqFields]
        · obtain ⟨c, g, h1, h2, rfl⟩ := andO_some h
          have q1 := heq _ _ _ _ w ht.1 h1
          have q2 := eqFs_sound heq fs g w ht.2 h2
          simp only [q1, Result.andThen_ok]
          cases c
          · simp
          · simpa using q2
      · cases h
theorem eqIs_sound {d e : Nat} {eq : TypeId → Value → Value → Option Bool} (heq : ∀ t x y b w, eqTy P d t = true → eq t x y = some b → (Op.equalIn (d + e) t x y).run P w = .ok b w) {xs ys : Array Value} {t : TypeId} {z : Nat} (ht : eqTy P d t = true) : ∀ (is : List Nat) (b : Bool) (w : World),
    eqIs P eq t z xs ys is = some b → (Op.eqItems (d + e) t z xs ys is).run P w = .ok b w
  | [], b, w, h => by simp [eqIs] at h; subst h; simp [Op.eqItems]
  | i :: is, b, w, h => by
    unfold eqIs at h
    unfold Op.eqItems
    split at h
    · rename_i u v hu hv
      simp only [Sem.run_bind, run_part hu, run_part hv, Result.andThen_ok]
      split at h
      · have := heq _ _ _ _ w ht h
        simp only [this, Result.andThen_ok]
        cases b <;> simp [Op.eqItems]
      · obtain ⟨c, g, h1, h2, rfl⟩ := andO_some h
        have q1 := heq _ _ _ _ w ht h1
        have q2 := eqIs_sound heq ht is g w h2
        simp only [q1, Result.andThen_ok]
        cases c
        · simp
        · simpa using q2
    · cases h
theorem eqV_sound (e : Nat) : ∀ (d : Nat) (t : TypeId) (x y : Value) (b : Bool) (w : World), eqTy P d t = true → eqV P d t x y = some b → (Op.equalIn (d + e) t x y).run P w = .ok b w
  | 0, t, x, y, b, w, _, h => by simp [eqV] at h
  | d + 1, t, x, y, b, w, ht, h => by
    rw [show d + 1 + e = d + e + 1 by omega]
    unfold eqV at h
    split at h
    · rename_i k0 k m k' n hu
      split at h
      · rename_i hk
        obtain rfl := of_decide_eq_true hk
        cases h
        exact run_equalIn_int w _ t _ _ _ _ hu
      · cases h
    · rename_i m n hu
      cases h
      exact run_equalIn_bool' w _ t _ _ hu
    · rename_i m n hu
      cases h
      exact run_equalIn_string w _ t _ _ hu
    · rename_i fs xs ys hu
      unfold eqTy at ht
      simp only [hu, Bool.and_eq_true, Bool.not_eq_true'] at ht
      have hf : P.fieldsOf t = fs := by unfold Program.fieldsOf; rw [hu]
      rw [run_equalIn_struct w _ t xs ys (by rw [hf]; exact hu) ht.1, hf]
      exact eqFs_sound (fun t x y b w => eqV_sound e d t x y b w) fs.toList b w ht.2 h
    · rename_i m el xs ys hu
      unfold eqTy at ht
      simp only [hu] at ht
      split at h
      · rename_i i hi
        have hz : P.cellsOf el = i.size := by simp [Program.cellsOf, hi]
        rw [run_equalIn_array w _ xs ys hu hi, hz]
        exact eqIs_sound (fun t x y b w => eqV_sound e d t x y b w) ht (List.range m) b w h
      · cases h
    · cases h

theorem run_eqV {t : TypeId} {xs ys : Array Value} {b : Bool} (hok : eqOk P t = true) (h : eqV P eqDeep t (.agg xs) (.agg ys) = some b) (x y : Operand) (w : World) :
    ((do eqGuard .eql t x y (.agg xs) (.agg ys); binOp .eql t (.agg xs) (.agg ys)) : Sem Value).run P w = .ok (.bool b) w ∧ ((do eqGuard .neq t x y (.agg xs) (.agg ys); binOp .neq t (.agg xs) (.agg ys)) : Sem Value).run P w = .ok (.bool !b) w := by
  simp only [eqOk, Bool.and_eq_true, Bool.not_eq_true'] at hok
  have h2 : (Op.equalIn 10000 t (.agg xs) (.agg ys)).run P w = .ok b w := eqV_sound 9988 eqDeep t _ _ b w hok.1 h
  constructor
  · simp only [Sem.run_bind, run_eqGuard_agg w _ t x y xs ys hok.2, Result.andThen_ok, run_eql_struct, h2]
  · simp only [Sem.run_bind, run_eqGuard_agg w _ t x y xs ys hok.2, Result.andThen_ok, run_neq_struct, h2]

theorem storeV_toList : ∀ (vs : List Value) (cs : Array Value) (off i : Nat), ((vs.zipIdx i).foldl (fun cs (x : Value × Nat) => cs.setIfInBounds (off + x.2) x.1) cs).toList = storeV cs.toList (off + i) vs
  | [], cs, off, i => by simp [storeV]
  | v :: vs, cs, off, i => by
    simp only [List.zipIdx_cons, List.foldl_cons]
    rw [storeV_toList vs _ off (i + 1)]
    simp [storeV, setL_eq', Nat.add_assoc]
where setL_eq' : ∀ (l : List Value) (n : Nat) (x : Value), setL l n x = l.set n x := fun l n x => setL_eq x l n
theorem fillX_sound {place : Nat → Option (Nat × Nat)} : ∀ (ps : List (Nat × Value)) (cells : Array Value) (l : List Value), fillX place cells.toList ps = some l → Instr.fill place cells ps = some l.toArray
  | [], cells, l, h => by simp [fillX] at h; subst h; simp [Instr.fill]
  | (i, v) :: ps, cells, l, h => by
    unfold fillX at h
    unfold Instr.fill
    split at h
    · rename_i off size hp
      rw [hp]
      simp only
      split at h
      · rename_i h1 h2
        have h1 := of_decide_eq_true h1
        have h2 := of_decide_eq_true h2
        rw [if_neg (by simp only [Array.length_toList] at h2; simp [h1]; omega)]
        refine fillX_sound ps _ l ?_
        rw [← Array.foldl_toList, Array.toList_zipIdx, storeV_toList]
        exact h
      · cases h
    · cases h

theorem run_zeroX {t : TypeId} {z : List Value} (h : zeroX P t = some z) (w : World) : ∃ v, (zeroValue t).run P w = .ok v w ∧ v.cells.toList = z := by
  unfold zeroX at h
  split at h
  · rename_i i hi
    split at h
    · rename_i v hv
      cases h
      exact ⟨v, by simp [zeroValue, typeInfo, hi, hv], rfl⟩
    · cases h
  · cases h

theorem run_places (w : World) : ∀ (fs : List Field), (fs.all fun f => (P.info? f.type).isSome) = true → (fs.mapM fun (f : Field) => (do pure (f.offset, ← sizeOf f.type) : Sem (Nat × Nat))).run P w = .ok (fs.map fun f => (f.offset, ((P.info? f.type).map (·.size)).getD 0)) w
  | [], _ => by simp
  | f :: fs, h => by
    simp only [List.all_cons, Bool.and_eq_true] at h
    obtain ⟨i, hi⟩ := Option.isSome_iff_exists.1 h.1
    have := run_places w fs h.2
    have h1 : (sizeOf f.type).run P w = .ok i.size w := by simp [sizeOf, typeInfo, hi]
    rw [List.mapM_cons]
    simp only [Sem.run_bind, this, Sem.run_pure, Result.andThen_ok, h1, hi, List.map_cons, Option.map_some, Option.getD_some]

theorem run_buildX {t : TypeId} {ps : List (Nat × Value)} {l : List Value} (h : buildX P t ps = some l) (w : World) : (Instr.build t ps.toArray).run P w = .ok (.agg l.toArray) w := by
  unfold buildX at h
  split at h
  · rename_i fs z hu hz
    split at h
    · rename_i hall
      obtain ⟨v, hv, hvz⟩ := run_zeroX hz w
      have hpl := run_places (P := P) w fs.toList hall
      have hplace : placeX P fs = fun i => (fs.toList.map fun f => (f.offset, ((P.info? f.type).map (·.size)).getD 0)).toArray[i]? := by
        funext i
        unfold placeX
        cases hf : fs[i]? with
        | none => simp [hf]
        | some f =>
          have := List.all_eq_true.1 hall f (by simpa using Array.mem_of_getElem? hf)
          obtain ⟨g, hg⟩ := Option.isSome_iff_exists.1 this
          simp [hf, hg]
      rw [← hvz, hplace] at h
      have := fillX_sound ps _ l h
      simp only [Instr.build, Sem.run_bind, hv, run_underlying hu, Result.andThen_ok, Array.mapM_eq_mapM_toList, Sem.run_map, hpl, this]
      rfl
    · cases h
  · rename_i n e z hu hz
    split at h
    · rename_i g hg
      obtain ⟨v, hv, hvz⟩ := run_zeroX hz w
      rw [← hvz] at h
      have := fillX_sound ps _ l h
      have h1 : (sizeOf e).run P w = .ok g.size w := by simp [sizeOf, typeInfo, hg]
      simp only [Instr.build, Sem.run_bind, hv, run_underlying hu, Result.andThen_ok, h1, this]
      rfl
    · cases h
  · cases h

end Go.Proofs.YtcemohoigdninaaGreatDoor
