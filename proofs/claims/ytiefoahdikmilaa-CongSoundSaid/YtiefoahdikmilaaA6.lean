/- What the evaluation says of a region's operations holds of them, whether its order is fixed or drawn. No condition but the closed check that is named. -/
import Derived.Test.YtiefoahdikmilaaA5
namespace Go.Proofs.Ytiefoahdikmilaa
open Go Go.RowKit Go.Sort
set_option linter.unusedVariables false
set_option linter.unusedSimpArgs false

variable {P : Program} {F : Facts} {ids : List Nat} {fr : List AV} {own : List (List AV)} {a : Act} {o : Oper} {w0 w : World}

theorem FrIs.relit {d : Nat} {b : Bool} {x : AV} (h : FrIs ids fr a.tmps) (hd : nth fr d = some x) (hx : ∀ u, x.Is ids u → u = .bool b) : FrIs ids (fr.set d (.lit b)) a.tmps := by
  rw [nth_eq] at hd
  refine ⟨by rw [List.length_set]; exact h.len, fun i y hy => ?_⟩
  rw [List.getElem?_set] at hy
  by_cases he : d = i
  · subst he
    have hlt := (List.getElem?_eq_some_iff.1 hd).1
    simp only [if_true, hlt] at hy
    cases hy
    obtain ⟨u, h1, h2⟩ := h.at_ _ _ hd
    exact ⟨u, h1, hx u h2⟩
  · rw [if_neg he] at hy
    exact h.at_ i y hy

theorem guardK_sound {ops : List Oper} {yes no : List AV → Prop} (h : guardK ops o fr yes no) (hf : FrIs ids fr a.tmps) :
    (∃ fr', FrIs ids fr' a.tmps ∧ Region.wanted o (yielded ops.toArray a.tmps) = true ∧ yes fr') ∨ (∃ fr', FrIs ids fr' a.tmps ∧ Region.wanted o (yielded ops.toArray a.tmps) = false ∧ no fr') := by
  unfold guardK at h
  split at h
  · rename_i hg
    exact .inl ⟨fr, hf, by simp [Region.wanted, hg], h⟩
  · rename_i j want hg
    split at h
    · rename_i d hd
      have hslot : (ops.toArray[j]?).bind (·.dst) = some d := by
        unfold guardSlot at hd
        rw [nth_eq] at hd
        split at hd
        · rename_i oj hoj; simp [hoj, hd]
        · cases hd
      have hy : ∀ x u, nth fr d = some x → a.tmps[d]? = some u → yielded ops.toArray a.tmps j = match u with | .bool b => some b | _ => none := fun x u _ hu => by
        unfold yielded
        rw [hslot]
        simp only [Option.bind_some, hu]
        cases u <;> rfl
      have wan : ∀ x b, nth fr d = some x → (∀ u, x.Is ids u → u = .bool b) → Region.wanted o (yielded ops.toArray a.tmps) = (b == want) := fun x b hx hb => by
        obtain ⟨u, h1, h2⟩ := hf.at_ d x (by rw [← nth_eq]; exact hx)
        have := hb u h2
        subst this
        simp only [Region.wanted, hg, hy x _ hx h1]
        cases b <;> cases want <;> rfl
      split at h
      · rename_i b hx
        have hb : ∀ u, (AV.v (.bool b)).Is ids u → u = .bool b := fun u h => h
        have hr := hf.relit hx hb
        have hw := wan _ b hx hb
        simp only [setK_eq] at h
        split at h <;> cases b
        · exact .inr ⟨_, hr, hw, h.f rfl⟩
        · exact .inl ⟨_, hr, hw, h.t rfl⟩
        · exact .inl ⟨_, hr, hw, h.f rfl⟩
        · exact .inr ⟨_, hr, hw, h.t rfl⟩
      · rename_i b hx
        have hw := wan _ b hx (fun u h => h)
        split at h
        · exact .inl ⟨_, hf, hw, h⟩
        · exact .inl ⟨_, hf, hw, h⟩
        · rename_i n1 n2
          refine .inr ⟨_, hf, ?_, h⟩
          rw [hw]
          cases b <;> cases want <;> first | rfl | exact absurd rfl (n1 rfl) | exact absurd rfl (n2 rfl) | (exfalso; exact n1 rfl rfl) | (exfalso; exact n2 rfl rfl)
      · rename_i vs hx
        obtain ⟨u, h1, h2⟩ := hf.at_ d _ (by rw [← nth_eq]; exact hx)
        obtain rfl : u = .tuple vs := h2
        exact .inr ⟨_, hf, by simp [Region.wanted, hg, hy _ _ hx h1], h⟩
      · exact h.elim
    · rename_i hd
      refine .inr ⟨_, hf, ?_, h⟩
      have : yielded ops.toArray a.tmps j = none := by
        unfold yielded
        unfold guardSlot at hd
        rw [nth_eq] at hd
        split at hd
        · rename_i oj hoj; simp [hoj, hd]
        · rename_i hoj; simp [hoj]
      simp [Region.wanted, hg, this]

theorem opsK_sound {ops : List Oper} {Q : Exit → Act → World → Prop} {K : List AV → List (List AV) → Prop} : ∀ (l : List Oper) (ids : List Nat) (fr : List AV) (own : List (List AV)) (a : Act) (w : World), opsK P F ops l fr own K → Holds w0 F ids fr own a w →
    (∀ ids' fr' own' a' w', Holds w0 F ids' fr' own' a' w' → K fr' own' → Q .normal a' w') → wpList P ops.toArray Q l a w
  | [], ids, fr, own, a, w, h, hH, hn => hn _ _ _ _ _ hH h
  | o :: l, ids, fr, own, a, w, h, hH, hn => by
    unfold opsK at h
    unfold wpList
    rcases guardK_sound h hH.fr with ⟨fr', hf, hw, h⟩ | ⟨fr', hf, hw, h⟩
    · rw [if_pos hw]
      exact .inl (opK_sound h (hH.fr' hf) fun ids' fr' own' a' w' hH' hK => opsK_sound l _ _ _ _ _ hK hH' hn)
    · rw [if_neg (by rw [hw]; simp)]
      rw [putK_eq] at h
      exact opsK_sound l _ _ _ _ _ h ((hH.fr' hf).put (x := .v undef) rfl o.dst) hn

/-- Operations that may come in any order. -/
def calmable (o : Oper) : Bool :=
  match o.op with
  | .alloc _ => false
  | .box _ _ => false
  | .store _ _ _ => false
  | _ => true

theorem opK_calm {K : List AV → List (List AV) → Prop} (hc : calmable o = true) (h : opK P F o fr own K) : valK P F o fr own fun x => putK o.dst fr x fun fr => K fr own := by
  unfold calmable at hc
  unfold opK at h
  split at hc
  · cases hc
  · cases hc
  · cases hc
  · rename_i h1 h2 h3
    split at h
    · exact absurd (by assumption) (h1 _)
    · exact absurd (by assumption) (h2 _ _)
    · exact absurd (by assumption) (h3 _ _ _)
    · exact h

/-- The calm operations at a region's head. -/
theorem calm_sound {ops : List Oper} {K : List AV → List (List AV) → Prop} {rest : List Oper} : ∀ (l : List Oper) (ids : List Nat) (fr : List AV) (a : Act), l.all calmable = true → opsK P F ops (l ++ rest) fr own K → FrIs ids fr a.tmps → a.defers = [] → Mem F ids own w →
    wpCalm P ops.toArray w (fun a' => ∃ fr', FrIs ids fr' a'.tmps ∧ a'.defers = [] ∧ opsK P F ops rest fr' own K) l a
  | [], ids, fr, a, _, h, hf, hd, hM => ⟨fr, hf, hd, h⟩
  | o :: l, ids, fr, a, hc, h, hf, hd, hM => by
    simp only [List.all_cons, Bool.and_eq_true] at hc
    simp only [List.cons_append] at h
    unfold opsK at h
    unfold wpCalm
    rcases guardK_sound h hf with ⟨fr', hf', hw, h⟩ | ⟨fr', hf', hw, h⟩
    · rw [if_pos hw]
      obtain ⟨x, hK, hy⟩ := valK_sound (opK_calm hc.1 h)
      rw [putK_eq] at hK
      obtain ⟨u, hu, hcalm⟩ := hy ids a w hf' hM
      exact ⟨u, fun p => hcalm _ (hM.below (below_regrown w p.d p.os)), calm_sound l ids _ _ hc.2 hK (hf'.put hu o.dst) (by cases o.dst <;> exact hd) hM⟩
    · rw [if_neg (by rw [hw]; simp)]
      rw [putK_eq] at h
      exact calm_sound l ids _ _ hc.2 h (hf'.put (x := .v undef) (u := undef) rfl o.dst) (by cases o.dst <;> exact hd) hM

theorem wpQuiet_of_calm {ops : Array Oper} {Q : Act → Prop} : ∀ (l : List Oper) (a : Act), wpCalm P ops w Q l a → wpQuiet P ops (fun w' => ∃ p : Regrown, w' = grow (redrawn w p.d) p.os) Q l a
  | [], a, h => h
  | o :: l, a, h => by
    unfold wpCalm at h
    unfold wpQuiet
    split at h
    · rename_i hw
      rw [if_pos hw]
      obtain ⟨v, h1, h2⟩ := h
      refine ⟨v, fun w' hw' => ?_, wpQuiet_of_calm l _ h2⟩
      obtain ⟨p, rfl⟩ := hw'
      have h3 := h1 p
      unfold calmAt at h3
      unfold Oper.quietAt
      generalize (execOp a.eval o).run P (grow (redrawn w p.d) p.os) = r at *
      cases r with
      | ok n w' =>
        cases n <;> simp only [calmUpon] at h3 <;> simp only [Oper.quietUpon]
        case value u => exact h3
        case skip => exact h3
        case enter fn args => exact ⟨h3.1, Calls.regrown_of h3.2⟩
      | halt x w' => simp only [calmUpon] at h3
    · rename_i hw
      rw [if_neg hw]
      exact wpQuiet_of_calm l _ h

/-- A new variable. -/
def isNew (P : Program) (o : Oper) : Bool :=
  match o.op with
  | .alloc t => (newCells P t).isSome && o.guard.isNone && o.dst.isSome
  | _ => false
def newSlots (l : List Oper) : List Tmp := l.map fun o => o.dst.getD 0
def nodupB : List Nat → Bool
  | [] => true
  | x :: l => !l.contains x && nodupB l
theorem nodupB_spec : ∀ l : List Nat, nodupB l = true → l.Nodup
  | [], _ => List.nodup_nil
  | x :: l, h => by
    simp only [nodupB, Bool.and_eq_true, Bool.not_eq_true'] at h
    exact List.nodup_cons.2 ⟨by simpa using h.1, nodupB_spec l h.2⟩
def drawAt (P : Program) (ops : List Oper) (m k : Nat) : Bool :=
  (ops.take m).all calmable && ((ops.drop m).take k).all (isNew P) && decide (((ops.drop m).take k).length = k) && nodupB (newSlots ((ops.drop m).take k)) && newCheck ops.toArray m (m + k) (newSlots ((ops.drop m).take k))
def drawCheck (P : Program) (ops : List Oper) : Bool :=
  (ops.all calmable && Region.lexB .any ops.toArray) || (List.range (ops.length + 1)).any fun m => drawAt P ops m ((ops.drop m).takeWhile (isNew P)).length
def slotsIn (P : Program) (ops : List Oper) (fr : List AV) : Bool :=
  ops.all fun o => !isNew P o || (match o.dst with | some d => (nth fr d).isSome | none => false)
def drawK (P : Program) (F : Facts) (ops : List Oper) (fr : List AV) (own : List (List AV)) (K : List AV → List (List AV) → Prop) : Prop :=
  Ob (drawCheck P ops = true) <| match slotsIn P ops fr with
    | true => opsK P F ops ops fr own K
    | false => False

/-- What a new variable's block holds. -/
def newObj' (P : Program) (o : Oper) : Obj :=
  match o.op with
  | .alloc t => match newCells P t with
    | some cells => .cells cells.toArray t
    | none => .cells #[] 0
  | _ => .cells #[] 0

theorem isNew_run {o : Oper} (h : isNew P o = true) : ∃ t cells, o.op = .alloc t ∧ newCells P t = some cells ∧ o.guard = none ∧ (∃ d, o.dst = some d) ∧ newObj' P o = .cells cells.toArray t ∧
    ∀ (a : Act) (w : World), (execOp a.eval o).run P w = .ok (.value (ptr w.heap.size)) (w.alloc (.cells cells.toArray t)) := by
  unfold isNew at h
  split at h
  · rename_i t ho
    simp only [Bool.and_eq_true] at h
    obtain ⟨⟨h1, h2⟩, h3⟩ := h
    obtain ⟨cells, hc⟩ := Option.isSome_iff_exists.1 h1
    obtain ⟨d, hd⟩ := Option.isSome_iff_exists.1 h3
    refine ⟨t, cells, ho, hc, by simpa using h2, ⟨d, hd⟩, by simp [newObj', ho, hc], fun a w => ?_⟩
    unfold newCells at hc
    split at hc
    · rename_i i hi
      split at hc
      · rename_i z hz
        cases hc
        simp [execOp, ho, Instr.alloc, zeroValue, typeInfo, hi, hz, newVar, newRow, ptr]
      · cases hc
    · cases hc
  · cases h

theorem new_sound {ops : List Oper} {S : Nat → Tmp} {b : Nat → Nat} {K : List AV → List (List AV) → Prop} {rest : List Oper} : ∀ (l : List Oper) (i : Nat) (ids : List Nat) (fr : List AV) (own : List (List AV)) (a : Act), l.all (isNew P) = true →
    (∀ j o, l[j]? = some o → o.dst = some (S (i + j)) ∧ w.heap[b (i + j)]? = some (newObj' P o)) → (∀ j ∈ List.range' i l.length, w0.heap.size ≤ b j ∧ b j ∉ ids ∧ ∀ (o : Nat) (x : Value), F (b j) o ≠ some x) →
    (∀ j ∈ List.range' i l.length, ∀ k ∈ List.range' i l.length, j ≠ k → b j ≠ b k) → opsK P F ops (l ++ rest) fr own K → Holds w0 F ids fr own a w →
    ∃ ids' fr' own', Holds w0 F ids' fr' own' (putAll S b (List.range' i l.length) a) w ∧ opsK P F ops rest fr' own' K
  | [], i, ids, fr, own, a, _, _, _, _, h, hH => ⟨ids, fr, own, hH, h⟩
  | o :: l, i, ids, fr, own, a, hc, hl, hb, hne, h, hH => by
    simp only [List.all_cons, Bool.and_eq_true] at hc
    obtain ⟨t, cells, ho, hcl, hg, _, hobj, _⟩ := isNew_run hc.1
    simp only [List.cons_append] at h
    unfold opsK at h
    simp only [guardK, hg] at h
    unfold opK at h
    simp only [ho, hcl, newK_eq] at h
    have h0 := hl 0 o (by simp)
    simp only [Nat.add_zero] at h0
    have hmem : i ∈ List.range' i (o :: l).length := by simp [List.mem_range'_1]
    obtain ⟨g1, g2, g3⟩ := hb i hmem
    have hH' := hH.new o.dst (b := b i) (T := t) (cells := cells) (by rw [h0.2, hobj]) g1 g2 g3
    rw [List.length_cons, List.range'_succ]
    have e : a.put o.dst (.pointer (some ⟨b i, 0, none⟩)) = a.put (some (S i)) (ptr (b i)) := by rw [h0.1]; rfl
    rw [e] at hH'
    have hin : ∀ j ∈ List.range' (i + 1) l.length, j ∈ List.range' i (o :: l).length := fun j hj => by
      rw [List.mem_range'_1] at hj ⊢
      simp only [List.length_cons]
      omega
    refine new_sound l (i + 1) _ _ _ _ hc.2 (fun j o' hj => by have := hl (j + 1) o' (by simpa using hj); rwa [show i + (j + 1) = i + 1 + j by omega] at this) (fun j hj => ?_) (fun j hj k hk hjk => hne j (hin j hj) k (hin k hk) hjk) h hH'
    obtain ⟨q1, q2, q3⟩ := hb j (hin j hj)
    refine ⟨q1, fun hm => ?_, q3⟩
    rcases List.mem_append.1 hm with hm | hm
    · exact q2 hm
    · simp at hm
      have := List.mem_range'_1.1 hj
      exact hne j (hin j hj) i hmem (by omega) hm

theorem draw_sound {ops : List Oper} {id : Nat} {Q : Exit → Act → World → Prop} {K : List AV → List (List AV) → Prop} (hm : P.follows .mixedOrders = true) (h : drawK P F ops fr own K) (hH : Holds w0 F ids fr own a w)
    (hn : ∀ ids' fr' own' a' w', Holds w0 F ids' fr' own' a' w' → K fr' own' → Q .normal a' w') : (Code.region id ops.toArray true).wp P Q a w := by
  obtain ⟨hck, h⟩ := h
  split at h
  · rename_i hsl
    simp only [drawCheck, Bool.or_eq_true, Bool.and_eq_true, List.any_eq_true] at hck
    rcases hck with ⟨hc, hB⟩ | ⟨m, _, hd⟩
    · refine wp_all_below hm hB (wpQuiet_of_calm _ _ ?_)
      have := calm_sound (rest := []) (K := K) ops ids fr a hc (by simpa using h) hH.fr hH.dfr hH.mem
      refine wpCalm_mono (fun a' ⟨fr', hf, hdf, hk⟩ w' hb => ?_) _ _ this
      exact hn ids fr' own a' w' ⟨hH.mem.below hb, hf, hdf, hH.nodup, hH.ge, hH.dis, hH.below.trans (hb.mono hH.below.size)⟩ hk
    · generalize ((ops.drop m).takeWhile (isNew P)).length = k at hd
      simp only [drawAt, Bool.and_eq_true, decide_eq_true_eq] at hd
      obtain ⟨⟨⟨⟨hc, hnew⟩, hlen⟩, hnd⟩, hB⟩ := hd
      have hnd' := nodupB_spec _ hnd
      have hsplit : ops = ops.take m ++ (((ops.drop m).take k) ++ ops.drop (m + k)) := by
        rw [← List.drop_drop, List.take_append_drop, List.take_append_drop]
      have hget : ∀ i ∈ List.range' m (m + k - m), ∃ o, ops[i]? = some o ∧ isNew P o = true ∧ o.dst = some ((newSlots ((ops.drop m).take k)).getD (i - m) 0) ∧ ((ops.drop m).take k)[i - m]? = some o := fun i hi => by
        have hi' := List.mem_range'_1.1 hi
        have hlt : i - m < ((ops.drop m).take k).length := by omega
        refine ⟨((ops.drop m).take k)[i - m], ?_, List.all_eq_true.1 hnew _ (List.getElem_mem hlt), ?_, List.getElem?_eq_getElem hlt⟩
        · rw [← List.getElem?_eq_getElem hlt, List.getElem?_take_of_lt (by omega), List.getElem?_drop]
          congr 1
          omega
        · obtain ⟨_, _, _, _, _, ⟨d, hdd⟩, _⟩ := isNew_run (List.all_eq_true.1 hnew _ (List.getElem_mem hlt))
          rw [hdd]
          simp only [newSlots, List.getD, List.getElem?_map, List.getElem?_eq_getElem hlt, Option.map_some, Option.getD_some, hdd]
      have hslen : (newSlots ((ops.drop m).take k)).length = k := by simp only [newSlots, List.length_map]; exact hlen
      refine wp_new (Z := fun i => match ((ops.drop m).take k)[i - m]? with | some o => newObj' P o | none => .cells #[] 0) m (m + k) (newSlots ((ops.drop m).take k)) hm (Nat.le_add_right _ _) ?_ (by rw [hslen]; omega) ?_ ?_ hB ?_
      · intro i hi
        obtain ⟨o, h1, h2, h3, h4⟩ := hget i hi
        obtain ⟨t, cells, ho, hcl, hg, _, hobj, hrun⟩ := isNew_run h2
        refine ⟨o, h1, h3, hg, fun a w => ?_⟩
        simp only [h4, hobj]
        exact hrun a w
      · intro i hi j hj he
        have hi' := List.mem_range'_1.1 hi
        have hj' := List.mem_range'_1.1 hj
        have l1 : i - m < (newSlots ((ops.drop m).take k)).length := by omega
        have l2 : j - m < (newSlots ((ops.drop m).take k)).length := by omega
        simp only [List.getD, List.getElem?_eq_getElem l1, List.getElem?_eq_getElem l2, Option.getD_some] at he
        have := (List.getElem_inj hnd').1 he
        omega
      · intro i hi
        obtain ⟨o, h1, h2, h3, h4⟩ := hget i hi
        have hmo : o ∈ ops := List.mem_of_getElem? h1
        have := List.all_eq_true.1 hsl o hmo
        simp only [h2, h3, Bool.not_true, Bool.false_or] at this
        obtain ⟨x, hx⟩ := Option.isSome_iff_exists.1 this
        rw [nth_eq] at hx
        rw [← hH.fr.len]
        exact (List.getElem?_eq_some_iff.1 hx).1
      · have h' : opsK P F ops (ops.take m ++ (((ops.drop m).take k) ++ ops.drop (m + k))) fr own K := by rw [← hsplit]; exact h
        have := calm_sound (ops.take m) ids fr a hc h' hH.fr hH.dfr hH.mem
        refine wpCalm_mono (fun a' ⟨fr', hf, hdf, hk⟩ b w' hge hne hb hblk => ?_) _ _ this
        have hH' : Holds w0 F ids fr' own a' w' := ⟨hH.mem.below hb, hf, hdf, hH.nodup, hH.ge, hH.dis, hH.below.trans (hb.mono hH.below.size)⟩
        have hkk : m + k - m = k := by omega
        rw [hkk] at hge hne hblk ⊢
        obtain ⟨ids2, fr2, own2, hH2, hk2⟩ := new_sound (S := fun i => (newSlots ((ops.drop m).take k)).getD (i - m) 0) (b := b) (w0 := w0) (w := w') ((ops.drop m).take k) m ids fr' own a' hnew (fun j o hj => by
            have hj2 := (List.getElem?_eq_some_iff.1 hj).1
            have hmem : m + j ∈ List.range' m (m + k - m) := List.mem_range'_1.2 (by omega)
            obtain ⟨o', q1, q2, q3, q4⟩ := hget (m + j) hmem
            have e : m + j - m = j := by omega
            rw [e] at q4
            obtain rfl : o' = o := Option.some.inj (q4.symm.trans hj)
            refine ⟨q3, ?_⟩
            have := hblk (m + j) (by rw [hkk] at hmem; exact hmem)
            simp only [e, hj] at this
            exact this) (fun j hj => by
            rw [hlen] at hj
            have hg := hge j hj
            exact ⟨Nat.le_trans hH.below.size hg, fun hm => by have := hH.mem.ids_lt hm; omega, fun o x hx => by have := hH.mem.sat.lt hx; omega⟩) (fun j hj i hi hji => by rw [hlen] at hj hi; exact hne j hj i hi hji) hk hH'
        rw [hlen] at hH2
        have hdrop : ops.drop (m + k) = ops.drop (m + k) := rfl
        exact opsK_sound (ops := ops) _ _ _ _ _ _ hk2 hH2 hn
  · exact h.elim

end Go.Proofs.Ytiefoahdikmilaa
