/- What the evaluation says of a function's body holds of the function's calls. No condition but the closed checks that are named. -/
import Derived.Test.YtiefoahdikmilaaB7
import Derived.Deep.LoopGhost
import Derived.Scope
namespace Go.Proofs.Ytiefoahdikmilaa
open Go Go.RowKit Go.Sort
set_option linter.unusedVariables false
set_option linter.unusedSimpArgs false

section
variable {P : Program} {F : Facts} {σ : Sg} {fr : List AV} {own : List Blk} {a : Act} {o : Oper} {w0 w : World} {arr : Array Oper} {h : Nat} {listed : Array Bool}

/-- How many of the head's operations are still to come. -/
def cnt (listed : Array Bool) : Nat → Nat
  | 0 => 0
  | n + 1 => cnt listed n + if listed.getD n false = true then 0 else 1
theorem cnt_set {j : Nat} (hj : listed.getD j false = false) (hs : j < listed.size) : ∀ n, cnt listed n = cnt (listed.setIfInBounds j true) n + if j < n then 1 else 0
  | 0 => by simp [cnt]
  | n + 1 => by
    unfold cnt
    rw [cnt_set hj hs n]
    by_cases he : j = n
    · subst he
      have e1 : (listed.setIfInBounds j true).getD j false = true := by simp [hs]
      rw [hj, e1]
      simp
    · rw [getD_set_ne false he]
      have e2 : (if j < n then 1 else 0) = (if j < n + 1 then 1 else 0) := by split <;> split <;> omega
      rw [e2]
      omega
theorem cnt_zero : ∀ n, cnt listed n = 0 → ∀ i, i < n → listed.getD i false = true
  | n + 1, h, i, hi => by
    unfold cnt at h
    by_cases he : i = n
    · subst he
      cases hl : listed.getD i false with
      | true => rfl
      | false => rw [hl] at h; simp at h
    · exact cnt_zero n (by omega) i (by omega)
theorem cnt_first : ∀ n, 0 < cnt listed n → ∃ i, i < n ∧ listed.getD i false = false ∧ ∀ k, k < i → listed.getD k false = true
  | n + 1, h => by
    by_cases h0 : 0 < cnt listed n
    · obtain ⟨i, h1, h2, h3⟩ := cnt_first n h0
      exact ⟨i, by omega, h2, h3⟩
    · have hz := cnt_zero (listed := listed) n (by omega)
      unfold cnt at h
      cases hl : listed.getD n false with
      | true => rw [hl] at h; simp at h; omega
      | false => exact ⟨n, by omega, hl, hz⟩

def canon (m h : Nat) : Array Bool := ((List.range m).map fun i => decide (i < h)).toArray
theorem canon_of (inv : HeadInv .any arr h listed) (hall : ∀ i, i < h → listed.getD i false = true) : listed = canon arr.size h := by
  have hs := inv.size
  apply Array.ext_getElem?
  intro i
  by_cases hi : i < arr.size
  · have hc : (canon arr.size h)[i]? = some (decide (i < h)) := by simp [canon, hi]
    rw [hc]
    have hi' : i < listed.size := by omega
    by_cases hih : i < h
    · have := hall i hih
      simp [hi'] at this
      simp [hi', this, hih]
    · have := inv.tail i (by omega) hi
      simp [hi'] at this
      simp [hi', this, hih]
  · rw [Array.getElem?_eq_none (by omega), Array.getElem?_eq_none (by simp [canon]; omega)]

theorem any_inv {ops : List Oper} {E : List Ent} {S0 : SF} {N g : Nat} {ownF : List Blk} {Q : Exit → Act → World → Prop} (harr : arr = ops.toArray) (hp : pairB arr h = true) (hb : backB arr h = true) (hlen : E.length = h)
    (htail : h = arr.size ∨ (h < arr.size ∧ Region.sinkB .any arr h = true ∧ Region.chainB .any arr h = true))
    (hS0 : ∀ t σ σ' u, SgLe σ σ' → S0 t σ u → S0 t σ' u) (hd : ∀ j oj t, j < h → arr[j]? = some oj → oj.dst = some t → t < N)
    (hg : ∀ j oj e, arr[j]? = some oj → E[j]? = some e → GoodE P F ops oj (SFof arr E S0 (fun _ => true) j) e ownF) (hlab : ∀ (j : Nat) (e : Ent) (b : Blk) (k : Nat), E[j]? = some e → e.blk = some (b, k) → ownF[k]? = some b)
    (huniq : ∀ (i j : Nat) (e e' : Ent) (b b' : Blk) (k : Nat), E[i]? = some e → E[j]? = some e' → e.blk = some (b, k) → e'.blk = some (b', k) → i = j)
    (hend : ∀ listed a W σ, HeadInv .any arr h listed → (∀ i, i < h → listed.getD i false = true) → InvL arr E S0 h N w0 F ownF listed a W σ → wpAny P .any arr Q g listed a W) :
    ∀ (f : Nat) (listed : Array Bool) (a : Act) (W : World) (σ : Sg), HeadInv .any arr h listed → cnt listed h = f → InvL arr E S0 h N w0 F ownF listed a W σ → wpAny P .any arr Q (f + g) listed a W := by
  have hle : h ≤ arr.size := by rcases htail with e | e <;> omega
  intro f
  induction f with
  | zero => intro listed a W σ inv hc I; rw [Nat.zero_add]; exact hend _ _ _ σ inv (cnt_zero h hc) I
  | succ f ih =>
    intro listed a W σ inv hc I
    rw [Nat.succ_add]
    obtain ⟨i, hi, hun, hbef⟩ := cnt_first h (show 0 < cnt listed h by omega)
    have hri : i ∈ Region.ready .any arr listed := by
      have hia : i < arr.size := by omega
      refine mem_ready.2 ⟨getD_in (by rw [inv.size]; exact hia) hun, arr[i], by simp [hia], fun e he hbe => ?_⟩
      have h1 := List.all_eq_true.1 hb i (List.mem_range.2 hi)
      rw [Array.getElem?_eq_getElem hia] at h1
      simp only at h1
      have h2 := Array.all_eq_true_iff_forall_mem.1 h1 e he
      simp only [hbe, Bool.not_true, Bool.false_or, decide_eq_true_eq] at h2
      exact hbef _ h2
    refine ⟨fun h0 => (by rw [h0] at hri; cases hri), fun j hj => ?_⟩
    obtain ⟨hju, oj, hoj, _⟩ := mem_ready.1 hj
    have hja := (Array.getElem?_eq_some_iff.1 hoj).1
    have hjh : j < h := by
      rcases htail with e | ⟨e1, e2, e3⟩
      · omega
      · exact Nat.lt_of_not_le fun hle' => tail_waits e2 e3 e1 inv _ i rfl hi (getD_in (by rw [inv.size]; omega) hun) j hle' hj
    have hje : E[j]? = some E[j] := List.getElem?_eq_getElem (by omega)
    refine inv_step harr hp inv hj hjh hoj hje (hg j oj _ hoj hje) hS0 (fun t ht => hd j oj t hjh hoj ht) (fun b k hb => hlab j _ b k hje hb) (fun i e' b b' k hi hb hb' => huniq i j e' _ b' b k hi hje hb' hb) I fun a' W' σ' _ I' => ?_
    refine ih _ _ _ σ' (inv.set hj hjh) ?_ I'
    have := cnt_set (getD_both hju) (by rw [inv.size]; exact hja) h
    rw [if_pos hjh] at this
    omega

/-- the closed check of a region that draws its order: its first h operations come in any order, the rest in one -/
def freeAt (ops : List Oper) (h : Nat) : Bool :=
  (ops.take h).all freeOp && pairB ops.toArray h && backB ops.toArray h && (decide (h = ops.length) || (decide (h < ops.length) && Region.sinkB .any ops.toArray h && Region.chainB .any ops.toArray h)) &&
    Region.seqB .any ops.toArray (ops.length - h) h (canon ops.length h)
def drawCheck (ops : List Oper) : Bool := (List.range (ops.length + 1)).any fun k => decide (k ≤ ops.length) && freeAt ops (ops.length - k)
def slotsIn (ops : List Oper) (fr : List AV) : Bool :=
  ops.all fun o => match o.dst with | some d => (nth fr d).isSome | none => true
def drawK (P : Program) (F : Facts) (ops : List Oper) (fr : List AV) (own : List Blk) (K : List AV → List Blk → Prop) : Prop :=
  Ob (drawCheck ops = true) <| match slotsIn ops fr with
    | true => opsK P F ops ops fr own K
    | false => False

theorem guardK_sound {ops : List Oper} {yes no : List AV → Prop} (h : guardK ops o fr yes no) (hf : FrIs σ fr a.tmps) :
    (∃ fr', FrIs σ fr' a.tmps ∧ Region.wanted o (yielded ops.toArray a.tmps) = true ∧ yes fr') ∨ (∃ fr', FrIs σ fr' a.tmps ∧ Region.wanted o (yielded ops.toArray a.tmps) = false ∧ no fr') := by
  obtain ⟨fr', wd, hsf, hlen, h, hw⟩ := guardK_sf h
  have hf' : FrIs σ fr' a.tmps := fr_of_sf (by rw [hlen]; exact hf.len) fun t _ => by rw [hsf]; exact sf_of_fr hf t
  have hw' := hw σ a fun t _ => sf_of_fr hf t
  cases wd with
  | true => exact .inl ⟨fr', hf', hw', by simpa using h⟩
  | false => exact .inr ⟨fr', hf', hw', by simpa using h⟩

theorem opsK_sound {ops : List Oper} {Q : Exit → Act → World → Prop} {K : List AV → List Blk → Prop} : ∀ (l : List Oper) (σ : Sg) (fr : List AV) (own : List Blk) (a : Act) (w : World), opsK P F ops l fr own K → Holds w0 F σ fr own a w →
    (∀ σ' fr' own' a' w', Holds w0 F σ' fr' own' a' w' → K fr' own' → Q .normal a' w') → wpList P ops.toArray Q l a w
  | [], σ, fr, own, a, w, h, hH, hn => hn _ _ _ _ _ hH h
  | o :: l, σ, fr, own, a, w, h, hH, hn => by
    unfold opsK at h
    unfold wpList
    rcases guardK_sound h hH.fr with ⟨fr', hf, hw, h⟩ | ⟨fr', hf, hw, h⟩
    · rw [if_pos hw]
      exact .inl (opK_sound h (hH.fr' hf) fun σ' fr' own' a' w' hH' hK => opsK_sound l _ _ _ _ _ hK hH' hn)
    · rw [if_neg (by rw [hw]; simp)]
      rw [putK_eq] at h
      exact opsK_sound l _ _ _ _ _ h ((hH.fr' hf).put (x := .v undef) rfl o.dst) hn

theorem draw_sound {ops : List Oper} {id : Nat} {Q : Exit → Act → World → Prop} {K : List AV → List Blk → Prop} (hm : P.follows .mixedOrders = true) (h : drawK P F ops fr own K) (hH : Holds w0 F σ fr own a w)
    (hn : ∀ σ' fr' own' a' w', Holds w0 F σ' fr' own' a' w' → K fr' own' → Q .normal a' w') : (Code.region id ops.toArray true).wp P Q a w := by
  obtain ⟨hck, h⟩ := h
  split at h
  · rename_i hsl
    simp only [drawCheck, List.any_eq_true, Bool.and_eq_true, decide_eq_true_eq] at hck
    obtain ⟨k, _, hkl, hck⟩ := hck
    generalize ops.length - k = n at hck
    simp only [freeAt, Bool.and_eq_true, Bool.or_eq_true, decide_eq_true_eq] at hck
    obtain ⟨⟨⟨⟨hfree, hp⟩, hb⟩, htail⟩, hseq⟩ := hck
    have hnl : n ≤ ops.length := by rcases htail with e | e <;> omega
    have htl : (ops.take n).length = n := by simp; omega
    have hdl : (ops.drop n).length = ops.length - n := by simp
    have hslot : ∀ o ∈ ops, ∀ t, o.dst = some t → t < fr.length := fun o ho t ht => by
      have := List.all_eq_true.1 hsl o ho
      simp only [ht, nth_eq] at this
      obtain ⟨x, hx⟩ := Option.isSome_iff_exists.1 this
      exact (List.getElem?_eq_some_iff.1 hx).1
    have h' : opsK P F ops (ops.take n ++ ops.drop n) fr own K := by rw [List.take_append_drop]; exact h
    obtain ⟨E, frF, ownF, S, q1, q2, q2', q3, q4, q5, q6, q7, q8, q9⟩ := extract (ops.take n) fr own hfree (fun o ho => hslot o (List.mem_of_mem_take ho)) h'
    rw [htl] at q1 q6
    have hget : ∀ j, j < n → ops.toArray[j]? = (ops.take n)[j]? := fun j hj => by simp [List.getElem?_take_of_lt hj]
    have htext : ∀ j, j ≤ n → SFof ops.toArray E (sfOf fr) (fun _ => true) j = S j := fun j hj =>
      SFof_text q5 (fun j o e hj he => (q7 j o e hj he).1) (fun j hj => hget j (by rw [htl] at hj; exact hj)) (by rw [q1, htl]) j (by rw [htl]; exact hj)
    refine wp_region_any hm ?_
    have inv0 : HeadInv .any ops.toArray n (Array.replicate ops.toArray.size false) :=
      ⟨by simp, fun j oj _ hl => (by rw [getD_replicate_false] at hl; cases hl), fun t _ ht => getD_in (by simpa using ht) (getD_replicate_false _ _)⟩
    have hcnt : ∀ m, cnt (Array.replicate ops.toArray.size false) m = m := fun m => by
      induction m with
      | zero => rfl
      | succ m ih => unfold cnt; rw [ih, getD_replicate_false]; simp
    have hR : Reg w0 F σ own { w with drawn := w.drawn + 1 } := hH.reg.later ⟨rfl, rfl, rfl, Nat.le_refl _, fun _ _ => rfl⟩
    have hRF : Reg w0 F σ ownF { w with drawn := w.drawn + 1 } := ⟨⟨fun k b v hk hv => by
        have hlt := hR.dom k v hv
        have : own[k]? = some own[k] := List.getElem?_eq_getElem hlt
        have e := q2 k _ this
        rw [hk] at e
        cases e
        exact hR.mem.blk k _ v this hv, hR.mem.lt, hR.mem.sat⟩, fun k v hv => Nat.lt_of_lt_of_le (hR.dom k v hv) q2', hR.inj, hR.ge, hR.dis, hR.below⟩
    have I0 : InvL ops.toArray E (sfOf fr) n fr.length w0 F ownF (Array.replicate ops.toArray.size false) a { w with drawn := w.drawn + 1 } σ :=
      ⟨hRF, fun t => by
        rw [SFof_cut 0 n (Nat.zero_le _) fun i _ _ _ => getD_replicate_false _ _]
        exact sf_of_fr hH.fr t, hH.fr.len.symm, hH.dfr, fun i e b k hi hb _ => by
        have := (q8 i e b k hi hb).1
        cases hs : σ k with
        | none => rfl
        | some v => have := hR.dom k v hs; omega⟩
    have H := any_inv (P := P) (Q := Q) (arr := ops.toArray) (ops := ops) (g := ops.length - n) rfl hp hb q1 (by simpa [and_assoc] using htail) sf_grow (fun j oj t hj hoj ht => hslot oj (by simpa using Array.mem_of_getElem? hoj) t ht)
      (fun j oj e hoj he => by
        have hjn : j < n := by have := (List.getElem?_eq_some_iff.1 he).1; omega
        rw [htext j (by omega)]
        exact (q7 j oj e (by rw [← hget j hjn]; exact hoj) he).2 ownF (.refl _)) (fun j e b k hj hb => (q8 j e b k hj hb).2) q9
      (fun listed a W σ' inv hall I => by
        have hcan := canon_of inv hall
        have hfin : Holds w0 F σ' frF ownF a W := ⟨I.reg, fr_of_sf (by rw [q4, I.size]) fun t _ => by
          have := I.slots t
          rw [SFof_same (L' := fun _ => true) n (fun i hi _ => hall i hi), htext n (Nat.le_refl _), q6] at this
          exact this, I.dfr⟩
        have hlist := opsK_sound (Q := Q) (ops := ops) (ops.drop n) _ _ _ _ _ q3 hfin hn
        have := wpAny_of_seq (md := .any) (Q' := Q) (ops.drop n) n listed a W (fun j => by simp [List.getElem?_drop]) (by rw [hdl, hcan]; simpa using hseq) hlist
        rwa [hdl] at this) n (Array.replicate ops.toArray.size false) a _ σ inv0 (hcnt n) I0
    have e : n + (ops.length - n) = ops.toArray.size := by simp; omega
    rw [e] at H
    exact H
  · exact h.elim
end

section
variable {P : Program} {F : Facts} {σ : Sg} {fr : List AV} {own : List Blk} {a : Act} {o : Oper} {w0 w : World} {arr : Array Oper} {h : Nat} {listed : Array Bool}

/-- Less is known of some blocks: only that they are there. -/
def WkB (b c : Blk) : Prop := b = c ∨ ∃ l, c = .cells l ∧ b = .cells (List.replicate l.length .junk)
def Wk (own m : List Blk) : Prop := ∀ (k : Nat) (b : Blk), own[k]? = some b → ∃ c, m[k]? = some c ∧ WkB b c
theorem junk_is {l : List AV} {us : Array Value} (hf : FrIs σ l us) : FrIs σ (List.replicate l.length .junk) us :=
  ⟨by rw [List.length_replicate]; exact hf.len, fun i x hx => by
    have hi := (List.getElem?_eq_some_iff.1 hx).1
    simp only [List.length_replicate] at hi
    obtain ⟨u, h1, _⟩ := hf.at_ i _ (List.getElem?_eq_getElem hi)
    rw [List.getElem?_replicate, if_pos hi] at hx
    cases hx
    exact ⟨u, h1, trivial⟩⟩
theorem Mem.wk {base : Nat} {own m : List Blk} (h : Mem base F σ m w) (hw : Wk own m) : Mem base F σ own w := by
  refine ⟨fun k b v hk hv => ?_, h.lt, h.sat⟩
  obtain ⟨c, hc, hb⟩ := hw k b hk
  have hB := h.blk k c v hc hv
  rcases hb with rfl | ⟨l, rfl, rfl⟩
  · exact hB
  · obtain ⟨i, xs, T, h1, h2, h3⟩ := hB
    exact ⟨i, xs, T, h1, h2, junk_is h3⟩

/-- The stores into new variables that a region that draws its order makes: the operation, the block, the cells. -/
abbrev Ini := List (Nat × Nat × List AV)
def ownAt : Ini → List Blk → (Nat → Bool) → List Blk
  | [], own, _ => own
  | (s, k, l) :: I, own, L => ownAt I (if L s = true then own.set k (.cells l) else own) L
def iniKeys (I : Ini) : List Nat := I.map fun x => x.2.1

theorem ownAt_len (L : Nat → Bool) : ∀ (I : Ini) (own : List Blk), (ownAt I own L).length = own.length
  | [], own => rfl
  | (s, k, l) :: I, own => by unfold ownAt; rw [ownAt_len L I]; split <;> simp
theorem ownAt_other (L : Nat → Bool) {i : Nat} : ∀ (I : Ini) (own : List Blk), i ∉ iniKeys I → (ownAt I own L)[i]? = own[i]?
  | [], own, _ => rfl
  | (s, k, l) :: I, own, h => by
    simp only [iniKeys, List.map_cons, List.mem_cons, not_or] at h
    unfold ownAt
    rw [ownAt_other L I _ h.2]
    split
    · rw [List.getElem?_set_ne (Ne.symm h.1)]
    · rfl
theorem ownAt_same {L L' : Nat → Bool} : ∀ (I : Ini) (own : List Blk), (∀ x ∈ I, L x.1 = L' x.1) → ownAt I own L = ownAt I own L'
  | [], own, _ => rfl
  | (s, k, l) :: I, own, h => by
    unfold ownAt
    rw [h (s, k, l) (by simp), ownAt_same I _ fun x hx => h x (by simp [hx])]
theorem ownAt_get (L : Nat → Bool) {s k : Nat} {l : List AV} : ∀ (I : Ini) (own : List Blk), (iniKeys I).Nodup → (s, k, l) ∈ I → k < own.length → (ownAt I own L)[k]? = if L s = true then some (.cells l) else own[k]?
  | (s', k', l') :: I, own, hn, hm, hk => by
    simp only [iniKeys, List.map_cons, List.nodup_cons] at hn
    unfold ownAt
    rcases List.mem_cons.1 hm with e | hm
    · cases e
      rw [ownAt_other L I _ hn.1]
      split
      · rw [List.getElem?_set_self hk]
      · rfl
    · have hne : k ≠ k' := fun e => hn.1 (e ▸ List.mem_map.2 ⟨(s, k, l), hm, rfl⟩)
      rw [ownAt_get L I _ hn.2 hm (by split <;> simpa using hk)]
      split
      · rfl
      · split
        · rw [List.getElem?_set_ne (Ne.symm hne)]
        · rfl
theorem ownAt_flip {L L' : Nat → Bool} {s k : Nat} {l : List AV} (I : Ini) (own : List Blk) (hn : (iniKeys I).Nodup) (hm : (s, k, l) ∈ I) (hk : k < own.length) (hu : ∀ x ∈ I, x.1 = s → x = (s, k, l)) (hs : L' s = true) (ho : ∀ i, i ≠ s → L' i = L i) :
    ownAt I own L' = (ownAt I own L).set k (.cells l) := by
  apply List.ext_getElem?
  intro i
  by_cases hi : i = k
  · subst hi
    rw [ownAt_get L' I own hn hm hk, if_pos hs, List.getElem?_set_self (by rw [ownAt_len]; exact hk)]
  · rw [List.getElem?_set_ne (Ne.symm hi)]
    by_cases hin : i ∈ iniKeys I
    · obtain ⟨⟨s', k', l'⟩, hm', rfl⟩ := List.mem_map.1 hin
      by_cases hlt : k' < own.length
      · rw [ownAt_get L' I own hn hm' hlt, ownAt_get L I own hn hm' hlt]
        have hss : s' ≠ s := fun e => by
          have := hu _ hm' e
          cases this
          exact hi rfl
        rw [ho s' hss]
      · rw [List.getElem?_eq_none (by rw [ownAt_len]; simpa using hlt), List.getElem?_eq_none (by rw [ownAt_len]; simpa using hlt)]
    · rw [ownAt_other L' I own hin, ownAt_other L I own hin]

/-- A store into a new variable. -/
def GoodI (P : Program) (ops : List Oper) (o : Oper) (S : SF) (k : Nat) (l : List AV) : Prop :=
  ∀ (σ : Sg) (a : Act), (∀ t ∈ o.looksAt ops.toArray, S t σ (a.tmps.getD t undef)) → Region.wanted o (yielded ops.toArray a.tmps) = true ∧
    ∃ b, σ k = some (.pointer (some ⟨b, 0, none⟩)) ∧ ∀ (W : World) (xs : Array Value) (T : TypeId), W.heap[b]? = some (.cells xs T (0, 0)) → xs.size = l.length → ∃ ys, FrIs σ l ys ∧ (execOp a.eval o).run P W = .ok .skip (W.setRow b ys)

structure InvB (arr : Array Oper) (E : List Ent) (S0 : SF) (h N : Nat) (w0 : World) (F : Facts) (I : Ini) (own0 : List Blk) (listed : Array Bool) (a : Act) (W : World) (σ : Sg) : Prop where
  inv : InvL arr E S0 h N w0 F (ownAt I own0 fun i => listed.getD i false) listed a W σ
  st : ∀ s k l, (s, k, l) ∈ I → listed.getD s false = true → σ k ≠ none

def isJ : AV → Bool
  | .junk => true
  | _ => false
def junks : List AV → (List AV → Prop) → Prop
  | [], K => K []
  | _ :: l, K => junks l fun l => K (.junk :: l)
theorem junks_eq : ∀ (l : List AV) (K : List AV → Prop), junks l K = K (List.replicate l.length .junk)
  | [], K => rfl
  | x :: l, K => by simp [junks, junks_eq l, List.replicate_succ]
theorem isJ_all {c : List AV} (h : c.all isJ = true) : c = List.replicate c.length .junk :=
  List.ext_getElem (by simp) fun i h1 h2 => by
    have := List.all_eq_true.1 h c[i] (List.getElem_mem h1)
    rw [List.getElem_replicate]
    cases hc : c[i] <;> simp [hc, isJ] at this ⊢

/-- An operation of a region whose operations come in any order: what it lays anew is not looked at before the region's end, and may be stored into once. -/
def headOp (P : Program) (F : Facts) (o : Oper) (fr : List AV) (own : List Blk) (K : List AV → List Blk → Option (Nat × List AV) → Prop) : Prop :=
  match o.op with
  | .alloc _ => freshK P o fr fun b mk => match b with
    | .cells l => junks l fun l => newK o.dst fr own (.cells l) mk fun fr own => K fr own none
    | _ => False
  | .store t ax x => match ev fr ax, ev fr x, P.info? t with
    | some (.p k off), some y, some i => match nth own k with
      | some (.cells c) => cellsK y fun l => match decide (l.length = i.size), decide (l.length = c.length), l.all oneA, c.all isJ, decide (off = 0) with
        | true, true, true, true, true => putK o.dst fr (.v undef) fun fr => K fr own (some (k, l))
        | _, _, _, _, _ => False
      | _ => False
    | _, _, _ => False
  | _ => match freeOp o with
    | true => opK P F o fr own fun fr own => K fr own none
    | false => False
def headK (P : Program) (F : Facts) (ops : List Oper) : List Oper → Nat → List AV → List Blk → Ini → (List AV → List Blk → Ini → Prop) → Prop
  | [], _, fr, own, I, K => K fr own I
  | o :: l, j, fr, own, I, K => guardK ops o fr (fun fr => headOp P F o fr own fun fr own e => match e with
    | none => headK P F ops l (j + 1) fr own I K
    | some (k, c) => match I.any fun x => decide (x.2.1 = k) with
      | false => headK P F ops l (j + 1) fr own ((j, k, c) :: I) K
      | true => False) (fun fr => putK o.dst fr (.v undef) fun fr => headK P F ops l (j + 1) fr own I K)
def applyI : Ini → List Blk → (List Blk → Prop) → Prop
  | [], own, K => K own
  | (_, k, l) :: I, own, K => setK own k (.cells l) fun own => applyI I own K
theorem applyI_eq : ∀ (I : Ini) (own : List Blk) (K : List Blk → Prop), applyI I own K = K (ownAt I own fun _ => true)
  | [], own, K => rfl
  | (s, k, l) :: I, own, K => by simp [applyI, ownAt, setK_eq, applyI_eq I]

structure IniOk (I : Ini) (own : List Blk) (j : Nat) : Prop where
  nd : (iniKeys I).Nodup
  uq : ∀ x ∈ I, ∀ y ∈ I, x.1 = y.1 → x = y
  lt : ∀ x ∈ I, x.1 < j
  jk : ∀ s k l, (s, k, l) ∈ I → own[k]? = some (.cells (List.replicate l.length .junk))

theorem headOp_sound {K : List AV → List Blk → Option (Nat × List AV) → Prop} (h : headOp P F o fr own K) :
    (∃ X, ValS P F own fr o (fun x => x = X) ∧ K (putL o.dst fr X) own none) ∨ (∃ b mk, FreshS P fr o (fun b' mk' => b' = b ∧ mk' = mk) ∧ K (putL o.dst fr (mk own.length)) (own ++ [b]) none) ∨
    (∃ k l, own[k]? = some (.cells (List.replicate l.length .junk)) ∧ K (putL o.dst fr (.v undef)) own (some (k, l)) ∧ ∀ (σ : Sg) (a : Act), OpIs σ fr a o → ∃ b, σ k = some (.pointer (some ⟨b, 0, none⟩)) ∧
      ∀ (W : World) (xs : Array Value) (T : TypeId), W.heap[b]? = some (.cells xs T (0, 0)) → xs.size = l.length → ∃ ys, FrIs σ l ys ∧ (execOp a.eval o).run P W = .ok .skip (W.setRow b ys)) := by
  unfold headOp at h
  split at h
  · obtain ⟨b, mk, hK, hy⟩ := freshK_sound h
    split at hK
    · rename_i l
      simp only [junks_eq, newK_eq] at hK
      refine .inr (.inl ⟨_, mk, ⟨_, _, ⟨rfl, rfl⟩, fun σ a hop => ?_⟩, hK⟩)
      obtain ⟨obj, vf, h1, h2, h3, h4⟩ := hy σ a hop
      refine ⟨obj, vf, h1, h2, h3, fun base σ' W g hs hg hW => ?_⟩
      obtain ⟨i, xs, T, q1, q2, q3⟩ := h4 base σ' W g hs hg hW
      exact ⟨i, xs, T, q1, q2, junk_is q3⟩
    · exact hK.elim
  · rename_i t ax x ho
    split at h
    · rename_i k off y i hax hx hi
      split at h
      · rename_i c hc
        rw [nth_eq] at hc
        obtain ⟨l, hh, hl⟩ := cellsK_sound h
        clear h
        split at hh
        · rename_i d1 d2 d3 d4 d5
          rw [putK_eq] at hh
          have d1 := of_decide_eq_true d1
          have d2 := of_decide_eq_true d2
          obtain rfl := of_decide_eq_true d5
          have hc' : own[k]? = some (.cells (List.replicate l.length .junk)) := by rw [hc, isJ_all d4]; simp [d2]
          refine .inr (.inr ⟨k, l, hc', hh, fun σ a hop => ?_⟩)
          obtain ⟨b, q1, q2⟩ := hop ax (by simp [ho, Op.operands]) _ hax
          have hcells := hl σ _ (hop x (by simp [ho, Op.operands]) _ hx)
          have hlen := hcells.len
          refine ⟨b, q1, fun W xs T hW hxs => ⟨(a.eval x).cells, hcells, ?_⟩⟩
          have hrun := run_store_row (P := P) (w := W) (t := t) (i := i) (v := a.eval x) (vs := (a.eval x).cells.toList) (off := 0) hW (by simp; omega) (by simp) hi (by simp; omega) (oneA_cells hcells d3)
          have hst : (stored xs.toList 0 (a.eval x).cells.toList).toArray = (a.eval x).cells := by
            apply Array.ext'
            simp only [stored, List.take_zero, List.nil_append]
            rw [List.drop_eq_nil_of_le (by simp; omega)]
            simp
          rw [hst] at hrun
          simp [execOp, ho, Instr.storeAt, Instr.sureAddr, q2, hrun]
        · exact hh.elim
      · exact h.elim
    · exact h.elim
  · split at h
    · rename_i hf
      rcases opK_free hf h with q | q
      · exact .inl q
      · exact .inr (.inl q)
    · exact h.elim

def EntOk (P : Program) (F : Facts) (ops : List Oper) (o : Oper) (S : SF) (e : Ent) (ownF : List Blk) (I : Ini) (s : Nat) : Prop :=
  (GoodE P F ops o S e ownF ∧ ∀ x ∈ I, x.1 ≠ s) ∨ (e.blk = none ∧ e.X = .v undef ∧ ∃ k l, (s, k, l) ∈ I ∧ GoodI P ops o S k l)

theorem extractB {ops : List Oper} {K : List AV → List Blk → Ini → Prop} : ∀ (l : List Oper) (j0 : Nat) (fr : List AV) (own : List Blk) (I0 : Ini), (∀ o ∈ l, ∀ t, o.dst = some t → t < fr.length) → IniOk I0 own j0 → headK P F ops l j0 fr own I0 K →
    ∃ (E : List Ent) (frF : List AV) (ownF : List Blk) (I : Ini) (S : Nat → SF), E.length = l.length ∧ Pre own ownF ∧ own.length ≤ ownF.length ∧ K frF ownF I ∧ frF.length = fr.length ∧ S 0 = sfOf fr ∧ S l.length = sfOf frF ∧
      (∀ (j : Nat) (o : Oper) (e : Ent), l[j]? = some o → E[j]? = some e → S (j + 1) = updS (S j) o.dst e.X ∧ EntOk P F ops o (S j) e ownF I (j0 + j)) ∧
      (∀ (j : Nat) (e : Ent) (b : Blk) (k : Nat), E[j]? = some e → e.blk = some (b, k) → own.length ≤ k ∧ ownF[k]? = some b) ∧
      (∀ (i j : Nat) (e e' : Ent) (b b' : Blk) (k : Nat), E[i]? = some e → E[j]? = some e' → e.blk = some (b, k) → e'.blk = some (b', k) → i = j) ∧
      IniOk I ownF (j0 + l.length) ∧ (∀ x ∈ I0, x ∈ I) ∧ (∀ x ∈ I, x ∈ I0 ∨ j0 ≤ x.1)
  | [], j0, fr, own, I0, _, hI, h => ⟨[], fr, own, I0, fun _ => sfOf fr, rfl, .refl _, Nat.le_refl _, h, rfl, rfl, rfl, fun j o e hj => by simp at hj, fun j e b k hj => by simp at hj, fun i j e e' b b' k hi => by simp at hi, hI, fun _ h => h, fun _ h => .inl h⟩
  | o :: l, j0, fr, own, I0, hd, hI, h => by
    unfold headK at h
    obtain ⟨fr1, wd, hsf, hlen, h, hwan⟩ := guardK_sf h
    have hd0 : ∀ t, o.dst = some t → t < fr1.length := fun t ht => by rw [hlen]; exact hd o (by simp) t ht
    have main : ∃ (e : Ent) (own1 : List Blk) (I1 : Ini), Pre own own1 ∧ own.length ≤ own1.length ∧ headK P F ops l (j0 + 1) (putL o.dst fr1 e.X) own1 I1 K ∧ IniOk I1 own1 (j0 + 1) ∧ (∀ x ∈ I0, x ∈ I1) ∧ (∀ x ∈ I1, x ∈ I0 ∨ j0 ≤ x.1) ∧
        (((∀ ownG, Pre own1 ownG → GoodE P F ops o (sfOf fr) e ownG) ∧ I1 = I0) ∨ (e.blk = none ∧ e.X = .v undef ∧ ∃ k l, (j0, k, l) ∈ I1 ∧ GoodI P ops o (sfOf fr) k l)) ∧ (∀ b k, e.blk = some (b, k) → own.length ≤ k ∧ k < own1.length ∧ own1[k]? = some b) := by
      have ok0 : IniOk I0 own (j0 + 1) := ⟨hI.nd, hI.uq, fun x hx => by have := hI.lt x hx; omega, hI.jk⟩
      cases wd with
      | false =>
        simp only [Bool.false_eq_true, if_false, putK_eq] at h
        exact ⟨⟨.v undef, false, none⟩, own, I0, .refl _, Nat.le_refl _, h, ok0, fun _ h => h, fun _ h => .inl h, .inl ⟨fun ownG _ base σ a W hM hS => ⟨hwan σ a hS, rfl⟩, rfl⟩, fun b k hb => by cases hb⟩
      | true =>
        simp only [if_true] at h
        rcases headOp_sound h with ⟨X, ⟨x, rfl, hy⟩, hK⟩ | ⟨b, mk, ⟨b', mk', ⟨rfl, rfl⟩, hy⟩, hK⟩ | ⟨k, c, hk, hK, hy⟩
        · refine ⟨⟨x, true, none⟩, own, I0, .refl _, Nat.le_refl _, hK, ok0, fun _ h => h, fun _ h => .inl h, .inl ⟨fun ownG hp base σ a W hM hS => ⟨hwan σ a hS, ?_⟩, rfl⟩, fun b k hb => by cases hb⟩
          obtain ⟨u, hu, hcalm⟩ := hy base σ a W (looks_op hsf.symm hS) (hM.pre hp)
          exact ⟨u, hu, fun W' hW' => hcalm W' (hW'.pre hp)⟩
        · refine ⟨⟨mk' own.length, true, some (b', own.length)⟩, own ++ [b'], I0, .app _ _, by simp, hK, ⟨ok0.nd, ok0.uq, ok0.lt, fun s k l hm => Pre.app own b' k _ (ok0.jk s k l hm)⟩, fun _ h => h, fun _ h => .inl h, .inl ⟨fun ownG hp base σ a W hM hS => ⟨hwan σ a hS, ?_⟩, rfl⟩, fun b k hb => by cases hb; exact ⟨Nat.le_refl _, by simp, by simp⟩⟩
          obtain ⟨obj, vf, h1, h2, h3, h4⟩ := hy σ a (looks_op hsf.symm hS)
          exact ⟨obj, vf, h1, h2, fun g σ' hg => h3 g _ σ' hg, h4⟩
        · simp only at hK
          split at hK
          · rename_i hnew
            have hnk : k ∉ iniKeys I0 := fun hin => by
              obtain ⟨x, hx, rfl⟩ := List.mem_map.1 hin
              have := List.any_eq_false.1 hnew x hx
              simp at this
            refine ⟨⟨.v undef, true, none⟩, own, (j0, k, c) :: I0, .refl _, Nat.le_refl _, hK, ⟨?_, fun x hx y hy e => ?_, fun x hx => ?_, fun s k' l' hm => ?_⟩, fun _ h => List.mem_cons_of_mem _ h, fun x hx => ?_, .inr ⟨rfl, rfl, k, c, by simp, fun σ a hS => ⟨hwan σ a hS, hy σ a (looks_op hsf.symm hS)⟩⟩, fun b k hb => by cases hb⟩
            · exact List.nodup_cons.2 ⟨hnk, hI.nd⟩
            · rcases List.mem_cons.1 hx with rfl | hx <;> rcases List.mem_cons.1 hy with rfl | hy
              · rfl
              · have := hI.lt y hy; simp only at e; omega
              · have := hI.lt x hx; simp only at e; omega
              · exact hI.uq x hx y hy e
            · rcases List.mem_cons.1 hx with rfl | hx
              · exact Nat.lt_succ_self _
              · exact ok0.lt x hx
            · rcases List.mem_cons.1 hm with e | hm
              · cases e; exact hk
              · exact hI.jk s k' l' hm
            · rcases List.mem_cons.1 hx with rfl | hx
              · exact .inr (Nat.le_refl _)
              · exact .inl hx
          · exact hK.elim
    obtain ⟨e, own1, I1, hp1, hl1, hK1, hI1, hI01, hI10, hgood, hblk⟩ := main
    have hput : (putL o.dst fr1 e.X).length = fr.length := by cases o.dst <;> simp [putL, setL_eq, hlen]
    obtain ⟨E, frF, ownF, I, S, q1, q2, q2', q3, q4, q5, q6, q7, q8, q9, q10, q11, q12⟩ := extractB l (j0 + 1) (putL o.dst fr1 e.X) own1 I1 (fun o' ho' t ht => by rw [hput]; exact hd o' (by simp [ho']) t ht) hI1 hK1
    refine ⟨e :: E, frF, ownF, I, fun n => match n with | 0 => sfOf fr | n + 1 => S n, by simp [q1], hp1.trans q2, by omega, q3, by rw [q4, hput], rfl, by simpa using q6, fun j o' e' hj he => ?_, fun j e' b k hj hb => ?_, fun i j e1 e2 b b' k hi hj hb hb' => ?_, (show j0 + 1 + l.length = j0 + (o :: l).length by simp; omega) ▸ q10, fun x hx => q11 x (hI01 x hx), fun x hx => ?_⟩
    · cases j with
      | zero =>
        simp at hj he
        subst hj
        subst he
        refine ⟨by show S 0 = _; rw [q5, sf_put hd0, hsf], ?_⟩
        rcases hgood with ⟨g1, rfl⟩ | ⟨g1, g2, k, l', g3, g4⟩
        · refine .inl ⟨g1 ownF q2, fun x hx => ?_⟩
          rcases q12 x hx with hx | hx
          · have := hI.lt x hx; omega
          · omega
        · exact .inr ⟨g1, g2, k, l', q11 _ g3, g4⟩
      | succ j =>
        have := q7 j o' e' (by simpa using hj) (by simpa using he)
        rw [show j0 + (j + 1) = j0 + 1 + j by omega]
        exact this
    · cases j with
      | zero =>
        simp at hj
        subst hj
        obtain ⟨k1, k2, k3⟩ := hblk b k hb
        exact ⟨k1, q2 k b k3⟩
      | succ j =>
        obtain ⟨k1, k2⟩ := q8 j e' b k (by simpa using hj) hb
        exact ⟨by omega, k2⟩
    · cases i with
      | zero =>
        cases j with
        | zero => rfl
        | succ j =>
          simp at hi
          subst hi
          have k1 := (hblk b k hb).2.1
          have k2 := (q8 j e2 b' k (by simpa using hj) hb').1
          omega
      | succ i =>
        cases j with
        | zero =>
          simp at hj
          subst hj
          have k1 := (hblk b' k hb').2.1
          have k2 := (q8 i e1 b k (by simpa using hi) hb).1
          omega
        | succ j => exact congrArg (· + 1) (q9 i j e1 e2 b b' k (by simpa using hi) (by simpa using hj) hb hb')
    · rcases q12 x hx with hx | hx
      · exact hI10 x hx
      · exact .inr (by omega)

theorem ownAt_wk (L : Nat → Bool) {I : Ini} {own : List Blk} {j : Nat} (ok : IniOk I own j) : Wk own (ownAt I own L) := fun k b hb => by
  by_cases hin : k ∈ iniKeys I
  · obtain ⟨⟨s, k', l⟩, hm, rfl⟩ := List.mem_map.1 hin
    have hj := ok.jk s k' l hm
    have hlt := (List.getElem?_eq_some_iff.1 hj).1
    rw [hj] at hb
    cases hb
    rw [ownAt_get L I own ok.nd hm hlt]
    split
    · exact ⟨_, rfl, .inr ⟨l, rfl, rfl⟩⟩
    · exact ⟨_, hj, .inl rfl⟩
  · exact ⟨b, by rw [ownAt_other L I own hin]; exact hb, .inl rfl⟩
theorem GoodE.wk {ops : List Oper} {S : SF} {e : Ent} {own m : List Blk} (h : GoodE P F ops o S e own) (hw : Wk own m) : GoodE P F ops o S e m := fun base σ a W hM hS => by
  obtain ⟨h1, h2⟩ := h base σ a W (hM.wk hw) hS
  refine ⟨h1, ?_⟩
  cases hd : e.wd with
  | false => rw [hd] at h2; exact h2
  | true =>
    rw [hd] at h2
    cases hb : e.blk with
    | none =>
      rw [hb] at h2
      obtain ⟨u, hu, hcalm⟩ := h2
      exact ⟨u, hu, fun W' hW' => hcalm W' (hW'.wk hw)⟩
    | some bk => rw [hb] at h2; exact h2

theorem inv_put {E : List Ent} {S0 : SF} {N j : Nat} {oj : Oper} {e : Ent} {own1 own2 : List Blk} {W W' : World} {σ' : Sg} {u : Value} (hp : pairB arr h = true) (inv : HeadInv .any arr h listed) (hj : j ∈ Region.ready .any arr listed) (hjh : j < h) (hoj : arr[j]? = some oj) (he : E[j]? = some e)
    (hS0 : ∀ t σ σ' u, SgLe σ σ' → S0 t σ u → S0 t σ' u) (hd : ∀ t, oj.dst = some t → t < N) (I : InvL arr E S0 h N w0 F own1 listed a W σ) (hs : SgLe σ σ') (hu : e.X.Is σ' u) (hR : Reg w0 F σ' own2 W')
    (hl : ∀ (i : Nat) (e' : Ent) (b : Blk) (k : Nat), E[i]? = some e' → e'.blk = some (b, k) → i ≠ j → listed.getD i false = false → σ' k = none) : InvL arr E S0 h N w0 F own2 (listed.setIfInBounds j true) (a.put oj.dst u) W' σ' := by
  have hX : entX E j = e.X := by unfold entX; rw [he]
  refine ⟨hR, fun t => ?_, by rw [put_size]; exact I.size, by cases oj.dst <;> exact I.dfr, fun i e' b k hi hb hli => ?_⟩
  · rw [SFof_after hp inv hj hjh hoj t]
    by_cases hdt : oj.dst = some t
    · rw [if_pos hdt, hX, hdt]
      have hlt : t < a.tmps.size := by rw [I.size]; exact hd t hdt
      have := put_self (a := a) (v := u) hlt
      simpa [this] using hu
    · rw [if_neg hdt]
      have := put_other (a := a) (x := oj.dst) (v := u) (s := t) hdt
      have e2 : (a.put oj.dst u).tmps.getD t undef = a.tmps.getD t undef := by simp [this]
      rw [e2]
      exact SFof_grow hS0 hs h (I.slots t)
  · by_cases hij : i = j
    · subst hij
      have hlt : i < listed.size := by rw [inv.size]; exact (Array.getElem?_eq_some_iff.1 hoj).1
      simp [hlt] at hli
    · exact hl i e' b k hi hb hij (by rwa [getD_set_ne false (Ne.symm hij)] at hli)

/-- One step of a region whose operations come in any order. -/
theorem inv_stepB {ops : List Oper} {E : List Ent} {S0 : SF} {N j : Nat} {oj : Oper} {e : Ent} {own0 : List Blk} {I : Ini} {W : World} {Q : Exit → Act → World → Prop} {K : Act → World → Prop} (harr : arr = ops.toArray) (hp : pairB arr h = true) (inv : HeadInv .any arr h listed) (hj : j ∈ Region.ready .any arr listed) (hjh : j < h) (hoj : arr[j]? = some oj) (he : E[j]? = some e)
    (hg : EntOk P F ops oj (SFof arr E S0 (fun _ => true) j) e own0 I j) (ok : IniOk I own0 h) (hS0 : ∀ t σ σ' u, SgLe σ σ' → S0 t σ u → S0 t σ' u) (hd : ∀ t, oj.dst = some t → t < N) (hlab : ∀ (b : Blk) (k : Nat), e.blk = some (b, k) → own0[k]? = some b)
    (huniq : ∀ (i : Nat) (e' : Ent) (b b' : Blk) (k : Nat), E[i]? = some e' → e.blk = some (b, k) → e'.blk = some (b', k) → i = j) (B : InvB arr E S0 h N w0 F I own0 listed a W σ)
    (hK : ∀ a' W' σ', InvB arr E S0 h N w0 F I own0 (listed.setIfInBounds j true) a' W' σ' → K a' W') : wpOp P arr Q j K a W := by
  have hun := getD_both (mem_ready.1 hj).1
  have hlt : j < listed.size := by rw [inv.size]; exact (Array.getElem?_eq_some_iff.1 hoj).1
  have hset : (listed.setIfInBounds j true).getD j false = true := by simp [hlt]
  have hoth : ∀ i, i ≠ j → (listed.setIfInBounds j true).getD i false = listed.getD i false := fun i hi => getD_set_ne false (Ne.symm hi)
  rcases hg with ⟨hg, hni⟩ | ⟨hb, hX, k, l, hm, hg⟩
  · have same : ownAt I own0 (fun i => (listed.setIfInBounds j true).getD i false) = ownAt I own0 (fun i => listed.getD i false) := ownAt_same I own0 fun x hx => hoth _ (hni x hx)
    refine inv_step harr hp inv hj hjh hoj he (hg.wk (ownAt_wk _ ok)) hS0 hd (fun b k hb => ?_) huniq B.inv fun a' W' σ' hs I' => hK a' W' σ' ⟨by rw [same]; exact I', fun s k l hm hl => ?_⟩
    · by_cases hin : k ∈ iniKeys I
      · obtain ⟨⟨s, k', l⟩, hm, rfl⟩ := List.mem_map.1 hin
        have h0 := hlab b k' hb
        rw [ownAt_get _ I own0 ok.nd hm (List.getElem?_eq_some_iff.1 h0).1]
        rw [if_neg]
        · exact h0
        · intro hl
          exact B.st s k' l hm hl (B.inv.lab j e b k' he hb hun)
      · rw [ownAt_other _ I own0 hin]; exact hlab b k hb
    · rw [hoth s (hni _ hm)] at hl
      cases hv : σ k with
      | none => exact absurd hv (B.st s k l hm hl)
      | some v => rw [hs k v hv]; simp
  · have hjk := ok.jk j k l hm
    have hkl := (List.getElem?_eq_some_iff.1 hjk).1
    obtain ⟨hwan, b, hσ, hrun⟩ := hg σ a fun t ht => by
      have := B.inv.slots t
      rw [SFof_ready hp inv hj hjh hoj (by rw [harr]; exact ht)] at this
      exact this
    rw [← harr] at hwan
    have hat : (ownAt I own0 fun i => listed.getD i false)[k]? = some (.cells (List.replicate l.length .junk)) := by
      rw [ownAt_get _ I own0 ok.nd hm hkl, if_neg (by rw [hun]; simp)]; exact hjk
    obtain ⟨b', xs, T, e1, e2, e3⟩ := B.inv.reg.mem.blk k _ _ hat hσ
    obtain rfl : b = b' := by simpa using e1
    obtain ⟨ys, hys, hr⟩ := hrun W xs T e2 (by have := e3.len; simpa using this.symm)
    have hR : Reg w0 F σ ((ownAt I own0 fun i => listed.getD i false).set k (.cells l)) (W.setRow b ys) := B.inv.reg.turn hσ rfl ⟨b, ys, T, rfl, setRow_heap W b xs ys T _ e2, hys⟩
    rw [← ownAt_flip (L' := fun i => (listed.setIfInBounds j true).getD i false) I own0 ok.nd hm hkl (fun x hx e => ok.uq x hx _ hm e) hset hoth] at hR
    unfold wpOp
    simp only [hoj]
    rw [hwan, if_pos rfl]
    left
    unfold Oper.wp
    rw [hr]
    refine hK _ _ σ ⟨inv_put hp inv hj hjh hoj he hS0 hd B.inv (.refl _) (by rw [hX]; rfl) hR fun i e' b k hi hb _ hli => B.inv.lab i e' b k hi hb hli, fun s k' l' hm' hl => ?_⟩
    by_cases hs : s = j
    · have := ok.uq _ hm' _ hm hs
      cases this
      rw [hσ]; simp
    · rw [hoth s hs] at hl
      exact B.st s k' l' hm' hl

theorem any_invB {ops : List Oper} {E : List Ent} {S0 : SF} {N : Nat} {own0 : List Blk} {I : Ini} {Q : Exit → Act → World → Prop} (harr : arr = ops.toArray) (hsz : arr.size = h) (hp : pairB arr h = true) (hb : backB arr h = true) (hlen : E.length = h)
    (hS0 : ∀ t σ σ' u, SgLe σ σ' → S0 t σ u → S0 t σ' u) (hd : ∀ (j : Nat) (oj : Oper) (t : Tmp), arr[j]? = some oj → oj.dst = some t → t < N) (ok : IniOk I own0 h)
    (hg : ∀ j oj e, arr[j]? = some oj → E[j]? = some e → EntOk P F ops oj (SFof arr E S0 (fun _ => true) j) e own0 I j) (hlab : ∀ (j : Nat) (e : Ent) (b : Blk) (k : Nat), E[j]? = some e → e.blk = some (b, k) → own0[k]? = some b)
    (huniq : ∀ (i j : Nat) (e e' : Ent) (b b' : Blk) (k : Nat), E[i]? = some e → E[j]? = some e' → e.blk = some (b, k) → e'.blk = some (b', k) → i = j)
    (hend : ∀ listed a W σ, (∀ i, i < h → listed.getD i false = true) → InvB arr E S0 h N w0 F I own0 listed a W σ → Q .normal a W) :
    ∀ (f : Nat) (listed : Array Bool) (a : Act) (W : World) (σ : Sg), HeadInv .any arr h listed → cnt listed h = f → InvB arr E S0 h N w0 F I own0 listed a W σ → wpAny P .any arr Q f listed a W := by
  intro f
  induction f with
  | zero =>
    intro listed a W σ inv hc B
    have hall := cnt_zero h hc
    refine ⟨?_, hend _ _ _ σ hall B⟩
    apply List.eq_nil_iff_forall_not_mem.2
    intro j hj
    obtain ⟨hju, oj, hoj, _⟩ := mem_ready.1 hj
    have hja := (Array.getElem?_eq_some_iff.1 hoj).1
    have := hall j (by omega)
    rw [getD_both hju] at this
    cases this
  | succ f ih =>
    intro listed a W σ inv hc B
    obtain ⟨i, hi, hun, hbef⟩ := cnt_first h (show 0 < cnt listed h by omega)
    have hri : i ∈ Region.ready .any arr listed := by
      have hia : i < arr.size := by omega
      refine mem_ready.2 ⟨getD_in (by rw [inv.size]; exact hia) hun, arr[i], by simp [hia], fun e he hbe => ?_⟩
      have h1 := List.all_eq_true.1 hb i (List.mem_range.2 hi)
      rw [Array.getElem?_eq_getElem hia] at h1
      simp only at h1
      have h2 := Array.all_eq_true_iff_forall_mem.1 h1 e he
      simp only [hbe, Bool.not_true, Bool.false_or, decide_eq_true_eq] at h2
      exact hbef _ h2
    refine ⟨fun h0 => (by rw [h0] at hri; cases hri), fun j hj => ?_⟩
    obtain ⟨hju, oj, hoj, _⟩ := mem_ready.1 hj
    have hja := (Array.getElem?_eq_some_iff.1 hoj).1
    have hjh : j < h := by omega
    have hje : E[j]? = some E[j] := List.getElem?_eq_getElem (by omega)
    refine inv_stepB harr hp inv hj hjh hoj hje (hg j oj _ hoj hje) ok hS0 (fun t ht => hd j oj t hoj ht) (fun b k hb => hlab j _ b k hje hb) (fun i e' b b' k hi hb hb' => huniq i j e' _ b' b k hi hje hb' hb) B fun a' W' σ' I' => ?_
    refine ih _ _ _ σ' (inv.set hj hjh) ?_ I'
    have := cnt_set (getD_both hju) (by rw [inv.size]; exact hja) h
    rw [if_pos hjh] at this
    omega

/-- the closed check of a region whose operations come in any order -/
def freeB (ops : List Oper) : Bool := pairB ops.toArray ops.length && backB ops.toArray ops.length
def drawB (P : Program) (F : Facts) (ops : List Oper) (fr : List AV) (own : List Blk) (K : List AV → List Blk → Prop) : Prop :=
  Ob (freeB ops = true) <| match slotsIn ops fr with
    | true => headK P F ops ops 0 fr own [] fun fr own I => applyI I own fun own => K fr own
    | false => False
inductive DrawN (A B : Prop) : Prop where
  | a (h : A) : DrawN A B
  | b (h : B) : DrawN A B

theorem drawB_sound {ops : List Oper} {id : Nat} {Q : Exit → Act → World → Prop} {K : List AV → List Blk → Prop} (hm : P.follows .mixedOrders = true) (h : drawB P F ops fr own K) (hH : Holds w0 F σ fr own a w)
    (hn : ∀ σ' fr' own' a' w', Holds w0 F σ' fr' own' a' w' → K fr' own' → Q .normal a' w') : (Code.region id ops.toArray true).wp P Q a w := by
  obtain ⟨hck, h⟩ := h
  split at h
  · rename_i hsl
    simp only [freeB, Bool.and_eq_true] at hck
    obtain ⟨hp, hb⟩ := hck
    have hslot : ∀ o ∈ ops, ∀ t, o.dst = some t → t < fr.length := fun o ho t ht => by
      have := List.all_eq_true.1 hsl o ho
      simp only [ht, nth_eq] at this
      obtain ⟨x, hx⟩ := Option.isSome_iff_exists.1 this
      exact (List.getElem?_eq_some_iff.1 hx).1
    obtain ⟨E, frF, own0, I, S, q1, q2, q2', q3, q4, q5, q6, q7, q8, q9, q10, _, _⟩ := extractB ops 0 fr own [] hslot ⟨List.nodup_nil, fun x hx => (by cases hx), fun x hx => (by cases hx), fun s k l hm => (by cases hm)⟩ h
    rw [applyI_eq] at q3
    rw [Nat.zero_add] at q10
    have hget : ∀ j : Nat, ops.toArray[j]? = ops[j]? := fun j => by simp
    have htext : ∀ j, j ≤ ops.length → SFof ops.toArray E (sfOf fr) (fun _ => true) j = S j := fun j hj =>
      SFof_text q5 (fun j o e hj he => (q7 j o e hj he).1) (fun j hj => hget j) q1 j hj
    refine wp_region_any hm ?_
    have inv0 : HeadInv .any ops.toArray ops.length (Array.replicate ops.toArray.size false) :=
      ⟨by simp, fun j oj _ hl => (by rw [getD_replicate_false] at hl; cases hl), fun t _ ht => getD_in (by simpa using ht) (getD_replicate_false _ _)⟩
    have hcnt : ∀ m, cnt (Array.replicate ops.toArray.size false) m = m := fun m => by
      induction m with
      | zero => rfl
      | succ m ih => unfold cnt; rw [ih, getD_replicate_false]; simp
    have hR : Reg w0 F σ own { w with drawn := w.drawn + 1 } := hH.reg.later ⟨rfl, rfl, rfl, Nat.le_refl _, fun _ _ => rfl⟩
    have e0 : (ownAt I own0 fun i => (Array.replicate ops.toArray.size false).getD i false) = own0 := by
      have : ∀ (I : Ini) (own : List Blk), ownAt I own (fun i => (Array.replicate ops.toArray.size false).getD i false) = own := fun I => by
        induction I with
        | nil => intro own; rfl
        | cons x I ih => intro own; obtain ⟨s, k, l⟩ := x; unfold ownAt; simp only [getD_replicate_false, Bool.false_eq_true, if_false]; simpa only [getD_replicate_false] using ih own
      exact this I own0
    have hRF : Reg w0 F σ (ownAt I own0 fun i => (Array.replicate ops.toArray.size false).getD i false) { w with drawn := w.drawn + 1 } := by
      rw [e0]
      exact ⟨⟨fun k b v hk hv => by
        have hlt := hR.dom k v hv
        have : own[k]? = some own[k] := List.getElem?_eq_getElem hlt
        have e := q2 k _ this
        rw [hk] at e
        cases e
        exact hR.mem.blk k _ v this hv, hR.mem.lt, hR.mem.sat⟩, fun k v hv => Nat.lt_of_lt_of_le (hR.dom k v hv) q2', hR.inj, hR.ge, hR.dis, hR.below⟩
    have I0 : InvB ops.toArray E (sfOf fr) ops.length fr.length w0 F I own0 (Array.replicate ops.toArray.size false) a { w with drawn := w.drawn + 1 } σ :=
      ⟨⟨hRF, fun t => by
        rw [SFof_cut 0 ops.length (Nat.zero_le _) fun i _ _ _ => getD_replicate_false _ _]
        exact sf_of_fr hH.fr t, hH.fr.len.symm, hH.dfr, fun i e b k hi hb _ => by
        have := (q8 i e b k hi hb).1
        cases hs : σ k with
        | none => rfl
        | some v => have := hR.dom k v hs; omega⟩, fun s k l _ hl => (by rw [getD_replicate_false] at hl; cases hl)⟩
    have H := any_invB (P := P) (Q := Q) (arr := ops.toArray) (ops := ops) (h := ops.length) rfl (by simp) hp hb q1 sf_grow (fun j oj t hoj ht => hslot oj (by simpa using Array.mem_of_getElem? hoj) t ht) q10
      (fun j oj e hoj he => by
        have hjn : j < ops.length := by have := (List.getElem?_eq_some_iff.1 he).1; omega
        rw [htext j (by omega)]
        have := (q7 j oj e (by rw [← hget j]; exact hoj) he).2
        rwa [Nat.zero_add] at this) (fun j e b k hj hb => (q8 j e b k hj hb).2) q9
      (fun listed a W σ' hall B => by
        refine hn σ' frF _ a W ⟨?_, fr_of_sf (by rw [q4, B.inv.size]) fun t _ => ?_, B.inv.dfr⟩ q3
        · have := B.inv.reg
          rwa [ownAt_same (L' := fun _ => true) I own0 fun x hx => hall x.1 (q10.lt x hx)] at this
        · have := B.inv.slots t
          rw [SFof_same (L' := fun _ => true) ops.length (fun i hi _ => hall i hi), htext _ (Nat.le_refl _), q6] at this
          exact this) ops.length (Array.replicate ops.toArray.size false) a _ σ inv0 (hcnt _) I0
    simpa using H
  · exact h.elim

end

/-- What is known, told with less. -/
def leA (n : Nat) (x y : AV) : Prop :=
  match y with
  | .junk => True
  | .v u => match x with
    | .v u' => u' = u
    | .lit b => u = .bool b
    | _ => False
  | .lit b => match x with
    | .v u' => u' = .bool b
    | .lit b' => b' = b
    | _ => False
  | .p k off => match x with
    | .p k' off' => k' = k ∧ off' = off ∧ k < n
    | _ => False
  | .s k => match x with
    | .s k' => k' = k ∧ k < n
    | _ => False
  | .e k off => match x with
    | .e k' off' => k' = k ∧ off' = off ∧ k < n
    | _ => False
def leL (n : Nat) : List AV → List AV → Prop
  | [], [] => True
  | x :: l, y :: m => leA n x y ∧ leL n l m
  | _, _ => False
def leB (n : Nat) (b c : Blk) : Prop :=
  match c with
  | .dead => True
  | .cells m => match b with
    | .cells l => leL n l m
    | _ => False
  | .row T z k xs => match b with
    | .row T' z' k' xs' => T' = T ∧ z' = z ∧ k' = k ∧ xs' = xs
    | _ => False
def leO (n : Nat) : List Blk → List Blk → Prop
  | _, [] => True
  | c :: l, d :: m => leB n c d ∧ leO n l m
  | _, _ => False
def leS (fr : List AV) (own : List Blk) (fr' : List AV) (own' : List Blk) : Prop :=
  lenK own' 0 fun n => leL n fr fr' ∧ leO n own own'

/-- The slots in the mask are forgotten. -/
def junkK (m : Nat) : List AV → Nat → (List AV → Prop) → Prop
  | [], _, K => K []
  | x :: l, i, K => match Nat.testBit m i with
    | true => junkK m l (i + 1) fun l => K (.junk :: l)
    | false => junkK m l (i + 1) fun l => K (x :: l)
def junkL (m : Nat) : List AV → Nat → List AV
  | [], _ => []
  | x :: l, i => match Nat.testBit m i with
    | true => .junk :: junkL m l (i + 1)
    | false => x :: junkL m l (i + 1)
theorem junkK_eq (m : Nat) : ∀ (l : List AV) (i : Nat) (K : List AV → Prop), junkK m l i K = K (junkL m l i)
  | [], i, K => rfl
  | x :: l, i, K => by
    unfold junkK junkL
    cases Nat.testBit m i <;> simp [junkK_eq m l]
def updL : List AV → List (Nat × AV) → List AV
  | fr, [] => fr
  | fr, (n, x) :: l => updL (setL fr n x) l
def forceA : List AV → (List AV → Prop) → Prop
  | [], K => K []
  | x :: l, K => match x with
    | .v u => forceA l fun l => K (.v u :: l)
    | .lit b => forceA l fun l => K (.lit b :: l)
    | .p k off => forceA l fun l => K (.p k off :: l)
    | .s k => forceA l fun l => K (.s k :: l)
    | .e k off => forceA l fun l => K (.e k off :: l)
    | .junk => forceA l fun l => K (.junk :: l)
theorem forceA_eq : ∀ (l : List AV) (K : List AV → Prop), forceA l K = K l
  | [], K => rfl
  | x :: l, K => by cases x <;> simp [forceA, forceA_eq l]
/-- The slots that a piece of code writes. -/
def opWrites : List Oper → Nat
  | [] => 0
  | o :: l => match o.dst with
    | some d => 2 ^ d ||| opWrites l
    | none => opWrites l
def writes : Code → Nat
  | .region _ ops _ => opWrites ops.toList
  | .seq a b => writes a ||| writes b
  | .cond _ a b => writes a ||| writes b
  | .block _ c => writes c
  | .loop c => writes c
  | .scope c => writes c
  | _ => 0
inductive RoundN {α : Type} (I : α → List AV × List Blk) (μ : α → Nat) (n : Nat) (fr : List AV) (own : List Blk) : Prop where
  | mk (y : α) (hlt : μ y < n) (hle : leS fr own (I y).1 (I y).2) : RoundN I μ n fr own
/-- A loop: the slots that it writes are told anew, by what is handed on from round to round. -/
inductive LoopN (W : Nat) (fr : List AV) (own : List Blk) (body : List AV → List Blk → (Exit → List AV → List Blk → Prop) → Prop) (K : Exit → List AV → List Blk → Prop) : Prop where
  | mk (α : Type) (s : α → List (Nat × AV)) (o : α → List Blk) (μ : α → Nat) (x : α) (h0 : junkK W fr 0 fun fr0 => leS fr own (updL fr0 (s x)) (o x))
      (hr : junkK W fr 0 fun fr0 => ∀ x, forceA (updL fr0 (s x)) fun fr1 => body fr1 (o x) fun e fr own => match e with
        | .normal => RoundN (fun y => (updL fr0 (s y), o y)) μ (μ x) fr own
        | e => K e fr own) : LoopN W fr own body K

/-- A branch that may come back: what follows may be told once for all ways. -/
def isIf : Code → Bool
  | .seq (.region _ _ _) (.cond _ _ _) => true
  | .seq (.region _ _ _) (.block _ _) => true
  | .cond _ _ _ => true
  | .block _ _ => true
  | _ => false
inductive EndN {α : Type} (I : α → List AV × List Blk) (fr : List AV) (own : List Blk) : Prop where
  | mk (y : α) (hle : leS fr own (I y).1 (I y).2) : EndN I fr own
inductive SeqN (W : Nat) (A : List AV → List Blk → (Exit → List AV → List Blk → Prop) → Prop) (B : List AV → List Blk → Prop) (K : Exit → List AV → List Blk → Prop) : List AV → List Blk → Prop where
  | go {fr : List AV} {own : List Blk} (h : A fr own fun e fr own => match e with
      | .normal => B fr own
      | e => K e fr own) : SeqN W A B K fr own
  | cut {fr : List AV} {own : List Blk} (α : Type) (s : α → List (Nat × AV)) (o : α → List Blk) (hA : junkK W fr 0 fun fr0 => A fr own fun e fr own => match e with
      | .normal => EndN (fun x => (updL fr0 (s x), o x)) fr own
      | e => K e fr own) (hB : junkK W fr 0 fun fr0 => ∀ x, forceA (updL fr0 (s x)) fun fr1 => B fr1 (o x)) : SeqN W A B K fr own
  | nil {fr : List AV} {own : List Blk} (t : Nat) (T : TypeId) (z : Nat) (hx : nth fr t = some (.v (.slice none 0 0))) (k : SeqN W A B K (fr.set t (.s own.length)) (own ++ [.row T z 0 []])) : SeqN W A B K fr own

/-- A nil slice that will grow: it is told as one of the call's own. -/
theorem SeqN.nilRow {W : Nat} {A : List AV → List Blk → (Exit → List AV → List Blk → Prop) → Prop} {B : List AV → List Blk → Prop} {K : Exit → List AV → List Blk → Prop} {fr : List AV} {own : List Blk} (t : Nat) (T : TypeId) (z : Nat) (hx : nth fr t = some (.v (.slice none 0 0)))
    (k : lenK own 0 fun n => appK own (.row T z 0 []) fun own => setK fr t (.s n) fun fr => SeqN W A B K fr own) : SeqN W A B K fr own := by
  rw [lenK_eq, appK_eq, setK_eq, Nat.add_zero] at k
  exact .nil t T z hx k

theorem SeqN.join {W : Nat} {A : List AV → List Blk → (Exit → List AV → List Blk → Prop) → Prop} {B : List AV → List Blk → Prop} {K : Exit → List AV → List Blk → Prop} {fr : List AV} {own : List Blk}
    (hA : junkK W fr 0 fun fr0 => A fr own fun e fr own' => match e with
      | .normal => EndN (fun (_ : Unit) => (fr0, own)) fr own'
      | e => K e fr own') (hB : junkK W fr 0 fun fr0 => B fr0 own) : SeqN W A B K fr own := by
  simp only [junkK_eq] at hA hB
  refine .cut Unit (fun _ => []) (fun _ => own) ?_ ?_
  · rw [junkK_eq]; exact hA
  · rw [junkK_eq]; intro _; rw [forceA_eq]; exact hB

def codeK (P : Program) (F : Facts) : Code → List AV → List Blk → (Exit → List AV → List Blk → Prop) → Prop
  | .skip, fr, own, K => K .normal fr own
  | .region _ ops draw, fr, own, K => match draw with
    | false => opsK P F ops.toList ops.toList fr own fun fr own => K .normal fr own
    | true => DrawN (drawK P F ops.toList fr own fun fr own => K .normal fr own) (drawB P F ops.toList fr own fun fr own => K .normal fr own)
  | .seq a b, fr, own, K => match isIf a with
    | true => SeqN (writes a) (codeK P F a) (fun fr own => codeK P F b fr own K) K fr own
    | false => codeK P F a fr own fun e fr own => match e with
      | .normal => codeK P F b fr own K
      | e => K e fr own
  | .cond c a b, fr, own, K => match ev fr c with
    | some (.v (.bool t)) => Br t (codeK P F a fr own K) (codeK P F b fr own K)
    | some (.lit t) => match t with
      | true => codeK P F a fr own K
      | false => codeK P F b fr own K
    | _ => False
  | .block id c, fr, own, K => codeK P F c fr own fun e fr own => match e with
    | .exit id' => match decide (id' = id) with
      | true => K .normal fr own
      | false => K (.exit id') fr own
    | e => K e fr own
  | .loop c, fr, own, K => LoopN (writes c) fr own (codeK P F c) K
  | .exit id, fr, own, K => K (.exit id) fr own
  | .ret, fr, own, K => K .ret fr own
  | .label _, fr, own, K => K .normal fr own
  | .scope c, fr, own, K => codeK P F c fr own fun e fr own => match e with
    | .goto _ => False
    | e => K e fr own
  | _, _, _, _ => False

def padK : Nat → (List AV → Prop) → Prop
  | 0, K => K []
  | n + 1, K => padK n fun l => K (.v undef :: l)
def catK : List Value → List AV → (List AV → Prop) → Prop
  | [], l, K => K l
  | x :: xs, l, K => catK xs l fun l => K (.v x :: l)
def bodyK (P : Program) (F : Facts) (fn : Func) (args : List Value) (R : Value → Prop) : Prop :=
  match fn.body with
  | some c => padK (fn.ntmps - args.length) fun l => catK args l fun fr => codeK P F c fr [] fun e fr own => match e with
    | .normal => resK P fr own fn.results.toList fun l => R (retV l)
    | .ret => resK P fr own fn.results.toList fun l => R (retV l)
    | _ => False
  | none => False

theorem padK_eq : ∀ (n : Nat) (K : List AV → Prop), padK n K = K (List.replicate n (.v undef))
  | 0, K => rfl
  | n + 1, K => by simp [padK, padK_eq n, List.replicate_succ]
theorem catK_eq : ∀ (xs : List Value) (l : List AV) (K : List AV → Prop), catK xs l K = K (xs.map .v ++ l)
  | [], l, K => rfl
  | x :: xs, l, K => by simp [catK, catK_eq xs]

variable {P : Program} {F : Facts} {σ : Sg} {fr : List AV} {own : List Blk} {a : Act} {w0 w : World}

/-- Only the first n names. -/
def Sg.cut (σ : Sg) (n : Nat) : Sg := fun k => if k < n then σ k else none
theorem Sg.cut_lt (σ : Sg) {n k : Nat} (h : k < n) : σ.cut n k = σ k := by simp [Sg.cut, h]
theorem Sg.cut_some {σ : Sg} {n k : Nat} {v : Value} (h : σ.cut n k = some v) : k < n ∧ σ k = some v := by
  unfold Sg.cut at h
  split at h
  · exact ⟨by assumption, h⟩
  · cases h

theorem leA_sound {n : Nat} {x y : AV} {u : Value} (h : leA n x y) (hx : x.Is σ u) : y.Is (σ.cut n) u := by
  unfold leA at h
  cases y with
  | junk => trivial
  | v z =>
    cases x <;> simp only at h
    · subst h; exact hx
    · subst h; exact hx
  | lit b =>
    cases x <;> simp only at h
    · subst h; exact hx
    · subst h; exact hx
  | p k off =>
    cases x <;> simp only at h
    obtain ⟨rfl, rfl, hk⟩ := h
    obtain ⟨b, h1, h2⟩ := hx
    exact ⟨b, by rw [Sg.cut_lt _ hk]; exact h1, h2⟩
  | s k =>
    cases x <;> simp only at h
    obtain ⟨rfl, hk⟩ := h
    exact ⟨by rw [Sg.cut_lt _ hk]; exact hx.1, hx.2⟩
  | e k off =>
    cases x <;> simp only at h
    obtain ⟨rfl, rfl, hk⟩ := h
    obtain ⟨b, m, c, h1, h2⟩ := hx
    exact ⟨b, m, c, by rw [Sg.cut_lt _ hk]; exact h1, h2⟩
theorem leL_len {n : Nat} : ∀ (l m : List AV), leL n l m → l.length = m.length
  | [], [], _ => rfl
  | x :: l, y :: m, h => by simp [leL_len l m h.2]
  | [], _ :: _, h => h.elim
  | _ :: _, [], h => h.elim
theorem leL_at {n : Nat} : ∀ (l m : List AV), leL n l m → ∀ (i : Nat) (y : AV), m[i]? = some y → ∃ x, l[i]? = some x ∧ leA n x y
  | [], [], _, i, y, hy => by simp at hy
  | x :: l, z :: m, h, 0, y, hy => by simp at hy; subst hy; exact ⟨x, by simp, h.1⟩
  | x :: l, z :: m, h, i + 1, y, hy => by
    obtain ⟨x', h1, h2⟩ := leL_at l m h.2 i y (by simpa using hy)
    exact ⟨x', by simpa using h1, h2⟩
  | [], _ :: _, h, _, _, _ => h.elim
  | _ :: _, [], h, _, _, _ => h.elim
theorem leL_sound {n : Nat} {l m : List AV} {tmps : Array Value} (h : leL n l m) (hf : FrIs σ l tmps) : FrIs (σ.cut n) m tmps :=
  ⟨(leL_len l m h).symm.trans hf.len, fun i y hy => by
    obtain ⟨x, h1, h2⟩ := leL_at l m h i y hy
    obtain ⟨u, h3, h4⟩ := hf.at_ i x h1
    exact ⟨u, h3, leA_sound h2 h4⟩⟩
theorem leO_len {n : Nat} : ∀ (l m : List Blk), leO n l m → m.length ≤ l.length
  | _, [], _ => by simp
  | c :: l, d :: m, h => by simp [leO_len l m h.2]
  | [], _ :: _, h => h.elim
theorem leO_at {n : Nat} : ∀ (l m : List Blk), leO n l m → ∀ (i : Nat) (d : Blk), m[i]? = some d → ∃ c, l[i]? = some c ∧ leB n c d
  | _, [], _, i, d, hd => by simp at hd
  | c :: l, e :: m, h, 0, d, hd => by simp at hd; subst hd; exact ⟨c, by simp, h.1⟩
  | c :: l, e :: m, h, i + 1, d, hd => by
    obtain ⟨x', h1, h2⟩ := leO_at l m h.2 i d (by simpa using hd)
    exact ⟨x', by simpa using h1, h2⟩
  | [], _ :: _, h, _, _, _ => h.elim

theorem leS_sound {fr' : List AV} {own' : List Blk} (h : leS fr own fr' own') (hH : Holds w0 F σ fr own a w) : Holds w0 F (σ.cut own'.length) fr' own' a w := by
  unfold leS at h
  rw [lenK_eq, Nat.add_zero] at h
  obtain ⟨h1, h2⟩ := h
  have R := hH.reg
  refine ⟨⟨⟨fun k d v hk hv => ?_, fun k v b hv hb => R.mem.lt k v b (Sg.cut_some hv).2 hb, R.mem.sat⟩, fun k v hv => (Sg.cut_some hv).1, fun k k' v v' b hv hv' hb hb' => R.inj k k' v v' b (Sg.cut_some hv).2 (Sg.cut_some hv').2 hb hb', fun k v b hv hb => R.ge k v b (Sg.cut_some hv).2 hb, fun k v b hv hb => R.dis k v b (Sg.cut_some hv).2 hb, R.below⟩, leL_sound h1 hH.fr, hH.dfr⟩
  obtain ⟨c, q1, q2⟩ := leO_at _ _ h2 k d hk
  have hB := R.mem.blk k c v q1 (Sg.cut_some hv).2
  unfold leB at q2
  cases d with
  | dead => trivial
  | cells m =>
    cases c <;> simp only at q2
    obtain ⟨b, xs, T, r1, r2, r3⟩ := hB
    exact ⟨b, xs, T, r1, r2, leL_sound q2 r3⟩
  | row T z k xs =>
    cases c <;> simp only at q2
    obtain ⟨rfl, rfl, rfl, rfl⟩ := q2
    exact hB

theorem codeK_sound (hm : P.follows .mixedOrders = true) : ∀ (c : Code) (σ : Sg) (fr : List AV) (own : List Blk) (K : Exit → List AV → List Blk → Prop) (Q : Exit → Act → World → Prop) (a : Act) (w : World), codeK P F c fr own K → Holds w0 F σ fr own a w →
    (∀ e σ' fr' own' a' w', Holds w0 F σ' fr' own' a' w' → K e fr' own' → Q e a' w') → c.wp P Q a w := by
  intro c
  induction c with
  | skip => intro σ fr own K Q a w h hH hn; exact wp_skip (hn _ _ _ _ _ _ hH h)
  | region id ops draw =>
    intro σ fr own K Q a w h hH hn
    cases draw with
    | false => exact wp_region_list (by have := opsK_sound (Q := Q) _ _ _ _ _ _ h hH (fun σ' fr' own' a' w' hH' hK => hn _ _ _ _ _ _ hH' hK); simpa using this)
    | true =>
      rcases h with h | h
      · have := draw_sound (id := id) (Q := Q) hm h hH (fun σ' fr' own' a' w' hH' hK => hn _ _ _ _ _ _ hH' hK); simpa using this
      · have := drawB_sound (id := id) (Q := Q) hm h hH (fun σ' fr' own' a' w' hH' hK => hn _ _ _ _ _ _ hH' hK); simpa using this
  | seq x y ihx ihy =>
    intro σ fr own K Q a w h hH hn
    unfold codeK at h
    split at h
    · rename_i hif
      clear hif
      generalize hW : writes x = W at h
      clear hW
      induction h generalizing σ with
      | @go fr own h =>
        refine wp_seq (ihx _ _ _ _ _ _ _ h hH fun e σ' fr' own' a' w' hH' hK => ?_)
        cases e with
        | normal => exact ihy _ _ _ _ _ _ _ hK hH' hn
        | _ => exact hn _ _ _ _ _ _ hH' hK
      | @cut fr own α s o hA hB =>
        simp only [junkK_eq, forceA_eq] at hA hB
        refine wp_seq (ihx _ _ _ _ _ _ _ hA hH fun e σ' fr' own' a' w' hH' hK => ?_)
        cases e with
        | normal =>
          obtain ⟨z, hle⟩ := hK
          exact ihy _ _ _ _ _ _ _ (hB z) (leS_sound hle hH') hn
        | _ => exact hn _ _ _ _ _ _ hH' hK
      | @nil fr own t T z hx k ih =>
        have hle := hH.reg.le_set (.slice none 0 0)
        refine ih (σ.set own.length (.slice none 0 0)) ⟨hH.reg.newNil T z, ?_, hH.dfr⟩
        have hg := hH.fr.grow hle
        rw [nth_eq] at hx
        refine ⟨by rw [List.length_set]; exact hg.len, fun i y hy => ?_⟩
        by_cases he : t = i
        · subst he
          have hlt := (List.getElem?_eq_some_iff.1 hx).1
          rw [List.getElem?_set_self hlt] at hy
          cases hy
          obtain ⟨u, h1, h2⟩ := hg.at_ t _ hx
          obtain rfl : u = .slice none 0 0 := h2
          exact ⟨_, h1, Sg.set_same _ _ _, none, 0, 0, rfl⟩
        · rw [List.getElem?_set_ne he] at hy
          exact hg.at_ i y hy
    · refine wp_seq (ihx _ _ _ _ _ _ _ h hH fun e σ' fr' own' a' w' hH' hK => ?_)
      cases e with
      | normal => exact ihy _ _ _ _ _ _ _ hK hH' hn
      | _ => exact hn _ _ _ _ _ _ hH' hK
  | cond c x y ihx ihy =>
    intro σ fr own K Q a w h hH hn
    unfold codeK at h
    split at h
    · rename_i t hc
      exact wp_cond_split (ev_is hH.fr hc) (fun ht => ihx _ _ _ _ _ _ _ (h.t ht) hH hn) (fun ht => ihy _ _ _ _ _ _ _ (h.f ht) hH hn)
    · rename_i t hc
      cases t with
      | true => exact wp_cond_true (ev_is hH.fr hc) (ihx _ _ _ _ _ _ _ h hH hn)
      | false => exact wp_cond_false (ev_is hH.fr hc) (ihy _ _ _ _ _ _ _ h hH hn)
    · exact h.elim
  | block id c ih =>
    intro σ fr own K Q a w h hH hn
    refine wp_block (ih _ _ _ _ _ _ _ h hH fun e σ' fr' own' a' w' hH' hK => ?_)
    cases e with
    | exit id' =>
      simp only [Exit.inBlock]
      by_cases he : id' = id
      · simp only [he, decide_true] at hK
        rw [if_pos he]
        exact hn _ _ _ _ _ _ hH' hK
      · simp only [he, decide_false] at hK
        rw [if_neg he]
        exact hn _ _ _ _ _ _ hH' hK
    | _ => exact hn _ _ _ _ _ _ hH' hK
  | loop c ih =>
    intro σ fr own K Q a w h hH hn
    obtain ⟨α, s, o, μ, x, h0, hr⟩ := h
    simp only [junkK_eq, forceA_eq] at h0 hr
    refine wp_loop_ghost (fun n a w => ∃ x σ, μ x = n ∧ Holds w0 F σ (updL (junkL (writes c) fr 0) (s x)) (o x) a w) (μ x) ⟨x, _, rfl, leS_sound h0 hH⟩ ?_
    rintro n a w ⟨x, σ, rfl, hH⟩
    refine ih _ _ _ _ _ _ _ (hr x) hH fun e σ' fr' own' a' w' hH' hK => ?_
    cases e with
    | normal =>
      obtain ⟨y, hy, hle⟩ := hK
      exact ⟨μ y, hy, y, _, rfl, leS_sound hle hH'⟩
    | _ => exact hn _ _ _ _ _ _ hH' hK
  | exit id => intro σ fr own K Q a w h hH hn; exact wp_exit (hn _ _ _ _ _ _ hH h)
  | ret => intro σ fr own K Q a w h hH hn; exact wp_ret (hn _ _ _ _ _ _ hH h)
  | label l => intro σ fr own K Q a w h hH hn; exact wp_label (hn _ _ _ _ _ _ hH h)
  | scope c ih =>
    intro σ fr own K Q a w h hH hn
    refine wp_scope_straight (ih _ _ _ _ _ _ _ h hH fun e σ' fr' own' a' w' hH' hK => ?_)
    cases e with
    | goto l => exact hK
    | _ => exact hn _ _ _ _ _ _ hH' hK
  | _ => intro σ fr own K Q a w h hH hn; exact h.elim

def resF (a : Act) (r : ResultVar) : Sem Value :=
  match r with
  | .tmp t => pure (a.tmps.getD t undef)
  | .cell x t => do loadVar t (← asAddr (a.tmps.getD x undef))
theorem resF_cons {r : ResultVar} {rs : List ResultVar} {u : Value} {vs : List Value} (h1 : (resF a r).run P w = .ok u w) (h2 : (rs.mapM (resF a)).run P w = .ok vs w) : ((r :: rs).mapM (resF a)).run P w = .ok (u :: vs) w := by
  rw [List.mapM_cons]
  simp only [Sem.run_bind, h1, Result.andThen_ok, h2, Sem.run_pure]

theorem resK_sound : ∀ (rs : List ResultVar) (K : List Value → Prop), resK P fr own rs K → Holds w0 F σ fr own a w → ∃ vs, K vs ∧ (rs.mapM (resF a)).run P w = .ok vs w
  | [], K, h, hH => ⟨[], h, by simp⟩
  | .tmp t :: rs, K, h, hH => by
    have key : ∀ (x : AV) (u : Value), nth fr t = some x → (∀ z, x.Is σ z → z = u) → (resF a (.tmp t)).run P w = .ok u w := fun x u hx hu => by
      rw [nth_eq] at hx
      obtain ⟨z, h1, h2⟩ := hH.fr.at_ t x hx
      simp [resF, h1, hu z h2]
    unfold resK at h
    split at h
    · rename_i u hu
      obtain ⟨vs, h1, h2⟩ := resK_sound rs _ h hH
      exact ⟨_, h1, resF_cons (key _ u hu (fun z hz => hz)) h2⟩
    · rename_i b hu
      obtain ⟨vs, h1, h2⟩ := resK_sound rs _ h hH
      exact ⟨_, h1, resF_cons (key _ (.bool b) hu (fun z hz => hz)) h2⟩
    · exact h.elim
  | .cell x t :: rs, K, h, hH => by
    unfold resK at h
    split at h
    · rename_i k off hx
      split at h
      · rename_i cells hc
        rw [nth_eq] at hx hc
        obtain ⟨y, h1, h2, h3⟩ := loadK_sound h
        obtain ⟨z, q1, q2⟩ := hH.fr.at_ x _ hx
        obtain ⟨b, r1, rfl⟩ := q2
        obtain ⟨b', xs, T, s1, s2, s3⟩ := hH.reg.mem.blk k _ _ hc r1
        obtain rfl : b = b' := by simpa using s1
        obtain ⟨u, hu, hrun⟩ := h3 σ w b xs T s2 s3
        have hr : (resF a (.cell x t)).run P w = .ok u w := by simp [resF, q1, asAddr, hrun]
        cases y with
        | v u' =>
          obtain rfl : u = u' := hu
          obtain ⟨vs, g1, g2⟩ := resK_sound rs _ h1 hH
          exact ⟨_, g1, resF_cons hr g2⟩
        | lit b =>
          obtain rfl : u = .bool b := hu
          obtain ⟨vs, g1, g2⟩ := resK_sound rs _ h1 hH
          exact ⟨_, g1, resF_cons hr g2⟩
        | p k off => exact h1.elim
        | s k => exact h1.elim
        | e k off => exact h1.elim
        | junk => exact h1.elim
      · exact h.elim
    · exact h.elim

theorem run_results {fn : Func} {vs : List Value} (h : (fn.results.toList.mapM (resF a)).run P w = .ok vs w) : (results fn a.tmps).run P w = .ok (retV vs) w := by
  have e : results fn a.tmps = (do let vs ← fn.results.mapM (resF a); pure (if h : vs.size = 1 then vs[0] else .tuple vs)) := rfl
  rw [e, Array.mapM_eq_mapM_toList]
  simp only [Sem.run_bind, Sem.run_map, h, Result.andThen_ok]
  match vs with
  | [] => rfl
  | [u] => rfl
  | u :: u' :: l => simp [retV]

/-- THE LAW. -/
theorem den_of_body {f : FuncId} {fn : Func} {args : List Value} {v : Value} (hm : P.follows .mixedOrders = true) (hf : P.funcs[f]? = some fn) (h : bodyK P F fn args (fun u => u = v)) : Den P f args.toArray F v := by
  constructor
  intro W hF
  unfold bodyK at h
  split at h
  · rename_i c hc
    rw [padK_eq, catK_eq] at h
    refine calls_of_wp hf hc (codeK_sound (w0 := W) hm c (fun _ => none) _ _ _ _ _ _ h ?_ fun e σ' fr' own' a' w' hH hK => ?_)
    · refine ⟨⟨⟨fun k b v hk => (by simp at hk), fun k v b hv => (by cases hv), hF⟩, fun k v hv => (by cases hv), fun k k' v v' b hv => (by cases hv), fun k v b hv => (by cases hv), fun k v b hv => (by cases hv), Below.refl _ _⟩, ⟨by simp, fun i x hx => ?_⟩, rfl⟩
      by_cases hi : i < args.length
      · rw [List.getElem?_append_left (by simpa using hi)] at hx
        simp only [List.getElem?_map, Option.map_eq_some_iff] at hx
        obtain ⟨u, hu, rfl⟩ := hx
        refine ⟨u, ?_, rfl⟩
        rw [Array.getElem?_append_left (by simpa using hi)]
        simpa using hu
      · rw [List.getElem?_append_right (by simp; omega)] at hx
        rw [Array.getElem?_append_right (by simp; omega)]
        simp only [List.length_map, List.getElem?_replicate] at hx
        split at hx
        · rename_i hlt
          cases hx
          exact ⟨undef, by simp [Array.getElem?_replicate]; omega, rfl⟩
        · cases hx
    · have fin : resK P fr' own' fn.results.toList (fun l => retV l = v) → bodyPost P fn (fun e w' => e = .returned v ∧ Below W.heap.size W w') .normal a' w' := fun hr => by
        obtain ⟨vs, h1, h2⟩ := resK_sound _ _ hr hH
        exact ⟨hH.dfr, _, run_results h2, by rw [h1], hH.reg.below⟩
      cases e with
      | normal => exact fin hK
      | ret => exact fin hK
      | _ => exact hK.elim
  · exact h.elim

end Go.Proofs.Ytiefoahdikmilaa
