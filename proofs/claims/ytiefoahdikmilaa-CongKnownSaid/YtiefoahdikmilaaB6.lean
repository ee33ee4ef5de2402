/- What the evaluation says of an operation holds of it. No condition. -/
import Derived.Test.YtiefoahdikmilaaB5
namespace Go.Proofs.Ytiefoahdikmilaa
open Go Go.RowKit Go.Sort
set_option linter.unusedVariables false
set_option linter.unusedSimpArgs false

variable {P : Program} {F : Facts} {σ : Sg} {fr : List AV} {own : List Blk} {a : Act} {o : Oper} {w0 w : World}

theorem killK_eq (k : Nat) : ∀ (l : List AV) (K : List AV → Prop), killK k l K = K (l.map (killA k))
  | [], K => rfl
  | x :: l, K => by
    cases x with
    | s k' => cases hd : decide (k' = k) <;> simp only [killK, hd, killA, List.map_cons, killK_eq k l]
    | e k' off => cases hd : decide (k' = k) <;> simp only [killK, hd, killA, List.map_cons, killK_eq k l]
    | _ => simp only [killK, killA, List.map_cons, killK_eq k l]
theorem killO_eq (k : Nat) : ∀ (l : List Blk) (K : List Blk → Prop), killO k l K = K (l.map (killB k))
  | [], K => rfl
  | b :: l, K => by cases b <;> simp only [killO, killB, List.map_cons, killO_eq k l, killK_eq]

theorem killA_is {k : Nat} {v v' : Value} {x : AV} {u : Value} (hv : σ k = some v) (hs : ∃ ad n c, v = .slice ad n c) (h : x.Is σ u) : (killA k x).Is (σ.set k v') u := by
  obtain ⟨ad, n, c, rfl⟩ := hs
  have oth : ∀ i, i ≠ k → σ.set k v' i = σ i := fun i hi => Sg.set_other _ _ hi
  cases x with
  | v x => exact h
  | lit b => exact h
  | junk => trivial
  | p k' off =>
    obtain ⟨b, h1, h2⟩ := h
    have hne : k' ≠ k := fun e => by subst e; rw [hv] at h1; cases h1
    exact ⟨b, by rw [oth _ hne]; exact h1, h2⟩
  | s k' =>
    by_cases he : k' = k
    · simp only [killA, he, decide_true]; trivial
    · simp only [killA, he, decide_false]; exact ⟨by rw [oth _ he]; exact h.1, h.2⟩
  | e k' off =>
    by_cases he : k' = k
    · simp only [killA, he, decide_true]; trivial
    · obtain ⟨b, m, c', h1, h2⟩ := h
      simp only [killA, he, decide_false]; exact ⟨b, m, c', by rw [oth _ he]; exact h1, h2⟩
theorem FrIs.kill {k : Nat} {v v' : Value} {l : List AV} {tmps : Array Value} (hv : σ k = some v) (hs : ∃ ad n c, v = .slice ad n c) (h : FrIs σ l tmps) : FrIs (σ.set k v') (l.map (killA k)) tmps :=
  ⟨by rw [List.length_map]; exact h.len, fun i y hy => by
    simp only [List.getElem?_map, Option.map_eq_some_iff] at hy
    obtain ⟨x, hx, rfl⟩ := hy
    obtain ⟨u, h1, h2⟩ := h.at_ i x hx
    exact ⟨u, h1, killA_is hv hs h2⟩⟩

/-- An append, and where its array lies. -/
theorem run_append2 {base : Nat} {t ty e : TypeId} {i : TypeInfo} {z : Value} {size bytes : Nat} (ht : P.underlying t = some (.slice e)) (hi : P.info? e = some i) (hz : i.zero = some z) (hsize : i.size = size) (hby : i.bytes = bytes) (hzs : z.cells.size = size) (hsz : 0 < size)
    {v : Value} {n : Nat} {xs : List Value} (hown : w.ownsRow base e size v n xs) {ad : Addr} {m c : Nat} {news : List Value} (hl : news.length = m * size) (hnews : ∀ j u, news[j]? = some u → w.cell? (ad.add j) = some u) (h1 : ∀ u ∈ news, u.oneCell' = true)
    (h0 : 0 < m) (h63 : n + m ≤ maxLen) (hbytes : (n + m) * bytes ≤ 140737488355328) (hbase : base ≤ w.heap.size) :
    ∃ v' w', (Builtin.append_ #[t, t] ty #[v, .slice (some ad) m c]).run P w = .ok v' w' ∧ w'.ownsRow base e size v' (n + m) (xs ++ news) ∧ w.grownBy w' v.ownBlock ∧ ∃ g cap, v' = .slice (some ⟨g, 0, none⟩) (n + m) cap ∧ (v.ownBlock = some g ∨ w.heap.size ≤ g) := by
  obtain ⟨v', w', hr, h2, h3, _⟩ := run_append_own (P := P) w base t ty e i z size bytes ht hi hz hsize hby hzs hsz v n xs hown ad m c news hl hnews h1 h63 hbytes hbase
  refine ⟨v', w', hr, h2, h3, ?_⟩
  have hsmall : n + m ≤ 9223372036854775807 := by simp only [maxLen] at h63; omega
  subst hsize
  subst hby
  rcases hown.2 with ⟨rfl, rfl⟩ | ⟨g, cap, cur, rfl, hbg, hg, hnc, hcm, hcs, htake⟩
  · have hr2 := run_append_nil (P := P) w t ty e i z ht hi hz ad m c news hl hnews (by omega) (by omega) (by have hb := hbytes; simp only [Nat.zero_add] at hb; omega)
    rw [hr] at hr2
    cases hr2
    exact ⟨_, _, by rw [Nat.zero_add], .inr (Nat.le_refl _)⟩
  · by_cases hroom : n + m ≤ cap
    · have hfit : n * i.size + news.length ≤ cur.size := by rw [hl, hcs, ← Nat.add_mul]; exact Nat.mul_le_mul_right _ hroom
      have hr2 := run_append_room (P := P) w t ty e i ht hi g n cap cur hg ad m c news hl hnews h1 hroom hfit
      rw [hr] at hr2
      cases hr2
      exact ⟨_, _, rfl, .inl rfl⟩
    · have holds : ∀ j u, xs[j]? = some u → w.cell? ((⟨g, 0, none⟩ : Addr).add j) = some u := hown.cells (g := g) rfl
      have hr2 := run_append_grow (P := P) w t ty e i z ht hi hz ⟨g, 0, none⟩ n cap xs hown.1 holds ad m c news hl hnews (by omega) (by omega) (growslice_fits (by omega) hbytes)
      rw [hr] at hr2
      cases hr2
      exact ⟨_, _, rfl, .inr (Nat.le_refl _)⟩

theorem appArgs_spec {c : Call} {t : TypeId} {s x : Operand} (h : appArgs c = some (t, s, x)) : c.callee = .builtin .append ∧ c.argTypes = #[t, t] ∧ c.args = #[s, x] := by
  unfold appArgs at h
  split at h
  · rename_i hc
    split at h
    · rename_i t1 t2 s1 x1 ht hx
      split at h
      · rename_i hd
        obtain rfl := of_decide_eq_true hd
        cases h
        exact ⟨hc, by rw [← Array.toArray_toList (xs := c.argTypes), ht], by rw [← Array.toArray_toList (xs := c.args), hx]⟩
      · cases h
    · cases h
  · cases h

theorem Reg.newNil (h : Reg w0 F σ own w) (T : TypeId) (z : Nat) : Reg w0 F (σ.set own.length (.slice none 0 0)) (own ++ [.row T z 0 []]) w := by
  have hs := h.le_set (.slice none 0 0)
  have old : ∀ k u, σ.set own.length (.slice none 0 0) k = some u → (k = own.length ∧ u = .slice none 0 0) ∨ (k < own.length ∧ σ k = some u) := fun k u hk => by
    by_cases he : k = own.length
    · subst he; rw [Sg.set_same] at hk; exact .inl ⟨rfl, (Option.some.inj hk).symm⟩
    · rw [Sg.set_other _ _ he] at hk; exact .inr ⟨h.dom k u hk, hk⟩
  refine ⟨⟨fun k c u hk hu => ?_, fun k u i hu hi => ?_, h.mem.sat⟩, fun k u hu => ?_, fun k k' u u' i hu hu' hi hi' => ?_, fun k u i hu hi => ?_, fun k u i hu hi => ?_, h.below⟩
  · rcases old k u hu with ⟨rfl, rfl⟩ | ⟨hlt', hu'⟩
    · rw [List.getElem?_append_right (Nat.le_refl _)] at hk
      simp at hk
      subst hk
      exact ⟨World.ownsRow_nil w _ T z, by simp⟩
    · rw [List.getElem?_append_left hlt'] at hk
      exact (h.mem.blk k c u hk hu').grow hs
  · rcases old k u hu with ⟨rfl, rfl⟩ | ⟨_, hu'⟩
    · cases hi
    · exact h.mem.lt k u i hu' hi
  · rcases old k u hu with ⟨rfl, rfl⟩ | ⟨hlt', _⟩
    · simp
    · simp; omega
  · rcases old k u hu with ⟨rfl, rfl⟩ | ⟨_, hv⟩
    · cases hi
    · rcases old k' u' hu' with ⟨rfl, rfl⟩ | ⟨_, hv'⟩
      · cases hi'
      · exact h.inj k k' u u' i hv hv' hi hi'
  · rcases old k u hu with ⟨rfl, rfl⟩ | ⟨_, hu'⟩
    · cases hi
    · exact h.ge k u i hu' hi
  · rcases old k u hu with ⟨rfl, rfl⟩ | ⟨_, hu'⟩
    · cases hi
    · exact h.dis k u i hu' hi

theorem append_step {c : Call} {t T : TypeId} {s x : Operand} {k z n m : Nat} {xs news : List Value} {v u : Value} {K : List AV → List Blk → Prop} {next : Act → World → Prop} {Q : Exit → Act → World → Prop} (ho : o.op = .call c) (happ : appArgs c = some (t, s, x)) (hH : Holds w0 F σ fr own a w)
    (hk : own[k]? = some (.row T z n xs)) (hσ : σ k = some v) (hs : a.eval s = v) (hx : a.eval x = u) (hu : w.ownsRow w0.heap.size T z u m news) (h1 : ∀ y ∈ news, y.oneCell' = true) (h : appendK P t o.dst fr own k T z n m xs news K)
    (hn : ∀ σ' fr' own' a' w', Holds w0 F σ' fr' own' a' w' → K fr' own' → next a' w') : o.wp P a w next Q := by
  unfold appendK at h
  split at h
  · rename_i T' z' by' hri
    split at h
    · rename_i d1 d2
      obtain rfl := of_decide_eq_true d1
      obtain rfl := of_decide_eq_true d2
      obtain ⟨⟨hm, hb1, hb2⟩, h⟩ := h
      rw [killK_eq, killO_eq, setK_eq, putK_eq] at h
      obtain ⟨hty, i, zv, hi, hz, hsz, hby, hzs, hpos, _⟩ := rowInfo_spec hri
      obtain ⟨hrow, hone⟩ := hH.reg.mem.blk k _ v hk hσ
      have hvs : ∃ ad n c, v = .slice ad n c := by
        rcases hrow.2 with ⟨rfl, _⟩ | ⟨g, cap, cur, rfl, _⟩
        · exact ⟨_, _, _, rfl⟩
        · exact ⟨_, _, _, rfl⟩
      obtain ⟨g2, c2, rfl⟩ : ∃ g2 c2, u = .slice (some ⟨g2, 0, none⟩) m c2 := by
        rcases hu.2 with ⟨_, rfl⟩ | ⟨g, cap, cur, rfl, _⟩
        · omega
        · exact ⟨_, _, rfl⟩
      obtain ⟨v', w', hr, hown', hgr, g, cap, rfl, hloc⟩ := run_append2 (P := P) (ty := o.type) (c := c2) hty hi hz hsz hby hzs hpos hrow hu.1 (hu.cells (g := g2) rfl) h1 hm (by unfold maxLen; omega) hb1 hH.reg.below.size
      obtain ⟨hcal, hct, hca⟩ := appArgs_spec happ
      have hexec : (execOp a.eval o).run P w = .ok (.value (.slice (some ⟨g, 0, none⟩) (n + m) cap)) w' := by
        simp [execOp, ho, resolve, hcal, invoke, builtin, hca, hct, hs, hx, hr]
      unfold Oper.wp
      rw [hexec]
      have R := hH.reg
      have keep : ∀ j y i, j ≠ k → σ j = some y → blkOf y = some i → w'.heap[i]? = w.heap[i]? := fun j y i hj hy hi => hgr.block i (R.mem.lt j y i hy hi) fun e => hj (R.inj j k y v i hy hσ hi (ownBlock_blkOf e.symm))
      have old : ∀ j y, σ.set k (.slice (some ⟨g, 0, none⟩) (n + m) cap) j = some y → (j = k ∧ y = .slice (some ⟨g, 0, none⟩) (n + m) cap) ∨ (j ≠ k ∧ σ j = some y) := fun j y hj => by
        by_cases he : j = k
        · subst he; rw [Sg.set_same] at hj; exact .inl ⟨rfl, (Option.some.inj hj).symm⟩
        · rw [Sg.set_other _ _ he] at hj; exact .inr ⟨he, hj⟩
      have apart : ∀ j y, j ≠ k → σ j = some y → blkOf y ≠ some g := fun j y hj hy hi => by
        rcases hloc with hl | hl
        · exact hj (R.inj j k y v g hy hσ hi (ownBlock_blkOf hl))
        · have := R.mem.lt j y g hy hi; omega
      have hkl : k < own.length := R.dom k v hσ
      refine hn (σ.set k (.slice (some ⟨g, 0, none⟩) (n + m) cap)) _ _ _ _ ⟨⟨⟨fun j b y hj hy => ?_, fun j y i hy hi => ?_, fun b q y hF => ?_⟩, fun j y hy => ?_, fun j j' y y' i hy hy' hi hi' => ?_, fun j y i hy hi => ?_, fun j y i hy hi => ?_, ?_⟩, ?_, by cases o.dst <;> exact hH.dfr⟩ h
      · rcases old j y hy with ⟨rfl, rfl⟩ | ⟨hj', hy'⟩
        · rw [List.getElem?_set_self (by simpa using hkl)] at hj
          cases hj
          exact ⟨hown', fun q hq => by rcases List.mem_append.1 hq with hq | hq; exact hone q hq; exact h1 q hq⟩
        · rw [List.getElem?_set_ne (Ne.symm hj'), List.getElem?_map, Option.map_eq_some_iff] at hj
          obtain ⟨b', hb', rfl⟩ := hj
          have hB := (R.mem.blk j b' y hb' hy').same (w' := w') fun i hi => keep j y i hj' hy' hi
          cases b' with
          | cells l => obtain ⟨q, ys, T2, q1, q2, q3⟩ := hB; exact ⟨q, ys, T2, q1, q2, q3.kill hσ hvs⟩
          | row T2 z2 n2 x2 => exact hB
          | dead => trivial
      · rcases old j y hy with ⟨rfl, rfl⟩ | ⟨hj', hy'⟩
        · cases hi; exact (hown'.lt g rfl).2
        · exact Nat.lt_of_lt_of_le (R.mem.lt j y i hy' hi) hgr.size
      · have hc := R.mem.sat b q y hF
        have hbl := block_lt_of_cell hc
        rw [World.cell?_of_block (w := w) (w' := w') (a := ⟨b, q, none⟩) (hgr.block b hbl fun e => R.dis k v b hσ (ownBlock_blkOf e.symm) q y hF)]
        exact hc
      · rw [List.length_set, List.length_map]
        rcases old j y hy with ⟨rfl, _⟩ | ⟨_, hy'⟩
        · exact hkl
        · exact R.dom j y hy'
      · rcases old j y hy with ⟨rfl, rfl⟩ | ⟨hj, hv⟩ <;> rcases old j' y' hy' with ⟨rfl, rfl⟩ | ⟨hj', hv'⟩
        · rfl
        · cases hi; exact absurd hi' (apart j' y' hj' hv')
        · cases hi'; exact absurd hi (apart j y hj hv)
        · exact R.inj j j' y y' i hv hv' hi hi'
      · rcases old j y hy with ⟨rfl, rfl⟩ | ⟨_, hy'⟩
        · cases hi; exact (hown'.lt g rfl).1
        · exact R.ge j y i hy' hi
      · rcases old j y hy with ⟨rfl, rfl⟩ | ⟨_, hy'⟩
        · cases hi
          intro q y hF
          rcases hloc with hl | hl
          · exact R.dis j v g hσ (ownBlock_blkOf hl) q y hF
          · exact absurd (R.mem.sat.lt hF) (Nat.not_lt.2 hl)
        · exact R.dis j y i hy' hi
      · exact R.below.grown hgr R.below.size fun i hi => (hrow.lt i hi).1
      · exact (hH.fr.kill hσ hvs).put (x := .s k) ⟨Sg.set_same _ _ _, _, _, _, rfl⟩ o.dst
    · exact h.elim
  · exact h.elim

theorem argsX_spec : ∀ (l : List AV) (vs : List Value), argsX l = some vs → ∀ (us : Array Value), FrIs σ l us → us.toList = vs
  | [], vs, h, us, hf => by
    simp [argsX] at h
    subst h
    have := hf.len
    simp only [List.length_nil] at this
    rw [Array.eq_empty_of_size_eq_zero this.symm]
  | x :: l, vs, h, us, hf => by
    have hlen := hf.len
    obtain ⟨u0, hu0, hx0⟩ := hf.at_ 0 x (by simp)
    have tail : FrIs σ l us.toList.tail.toArray := ⟨by simp at hlen ⊢; omega, fun i y hy => by
      obtain ⟨u, h1, h2⟩ := hf.at_ (i + 1) y (by simpa using hy)
      refine ⟨u, ?_, h2⟩
      simp only [List.getElem?_toArray, List.getElem?_tail, Array.getElem?_toList]
      exact h1⟩
    have hcons : us.toList = u0 :: us.toList.tail := by
      have h0 : us.toList[0]? = some u0 := by simpa using hu0
      cases hl : us.toList with
      | nil => rw [hl] at h0; cases h0
      | cons y ys => rw [hl] at h0; simp at h0; subst h0; rfl
    cases x with
    | v x =>
      unfold argsX at h
      cases hr : argsX l with
      | none => rw [hr] at h; cases h
      | some vs' =>
        rw [hr] at h
        cases h
        have := argsX_spec l vs' hr _ tail
        obtain rfl : u0 = x := hx0
        rw [hcons]
        simpa using this
    | lit b =>
      unfold argsX at h
      cases hr : argsX l with
      | none => rw [hr] at h; cases h
      | some vs' =>
        rw [hr] at h
        cases h
        have := argsX_spec l vs' hr _ tail
        obtain rfl : u0 = .bool b := hx0
        rw [hcons]
        simpa using this
    | p k off => simp [argsX] at h
    | s k => simp [argsX] at h
    | e k off => simp [argsX] at h
    | junk => simp [argsX] at h

theorem oneA_cells {l : List AV} {us : Array Value} (hf : FrIs σ l us) (h : l.all oneA = true) : ∀ u ∈ us.toList, u.oneCell' = true := by
  intro u hu
  obtain ⟨i, hi, rfl⟩ := List.getElem_of_mem hu
  have hil : i < l.length := by rw [hf.len]; simpa using hi
  obtain ⟨u', h1, h2⟩ := hf.at_ i l[i] (List.getElem?_eq_getElem hil)
  have e : us.toList[i] = u' := by
    have : us.toList[i]? = some u' := by simpa using h1
    rw [List.getElem?_eq_getElem hi] at this
    exact Option.some.inj this
  rw [e]
  have hone := List.all_eq_true.1 h l[i] (List.getElem_mem hil)
  generalize l[i] = x at *
  cases x with
  | v x => obtain rfl : u' = x := h2; cases u' <;> simp [oneA, oneC, Value.oneCell'] at hone ⊢
  | lit b => obtain rfl : u' = .bool b := h2; rfl
  | p k off => obtain ⟨b, _, rfl⟩ := h2; rfl
  | s k => obtain ⟨_, ad, n, c, rfl⟩ := h2; rfl
  | e k off => obtain ⟨b, n, c, _, rfl⟩ := h2; rfl
  | junk => simp [oneA] at hone

theorem opK_sound {K : List AV → List Blk → Prop} {next : Act → World → Prop} {Q : Exit → Act → World → Prop} (h : opK P F o fr own K) (hH : Holds w0 F σ fr own a w)
    (hn : ∀ σ' fr' own' a' w', Holds w0 F σ' fr' own' a' w' → K fr' own' → next a' w') : o.wp P a w next Q := by
  unfold opK at h
  split at h
  · simp only [newK_eq] at h
    exact (freshK_sound h).step hH fun b mk σ' a' w' hK hH' => hn _ _ _ _ _ hH' hK
  · simp only [newK_eq] at h
    exact (freshK_sound h).step hH fun b mk σ' a' w' hK hH' => hn _ _ _ _ _ hH' hK
  · simp only [newK_eq] at h
    exact (freshK_sound h).step hH fun b mk σ' a' w' hK hH' => hn _ _ _ _ _ hH' hK
  · -- store
    rename_i t ax x ho
    split at h
    · rename_i k off y i hax hx hi
      split at h
      · rename_i cells hc
        rw [nth_eq] at hc
        obtain ⟨l, h, hl⟩ := cellsK_sound h
        split at h
        · rename_i d1 d2 d3
          rw [storeK_eq, setK_eq, putK_eq] at h
          have d1 := of_decide_eq_true d1
          have d2 := of_decide_eq_true d2
          obtain ⟨b, q1, q2⟩ := ev_is hH.fr hax
          have hcells := hl σ _ (ev_is hH.fr hx)
          obtain ⟨b', cur, T, e1, e2, e3⟩ := hH.reg.mem.blk k _ _ hc q1
          obtain rfl : b = b' := by simpa using e1
          have hlen := hcells.len
          have hlen2 := e3.len
          have hrun := run_store_row (P := P) (w := w) (t := t) (i := i) (v := a.eval x) (vs := (a.eval x).cells.toList) (off := off) e2 (by simp; omega) (by simp) hi (by simp; omega) (oneA_cells hcells d3)
          have hexec : (execOp a.eval o).run P w = .ok .skip (w.setRow b (stored cur.toList off (a.eval x).cells.toList).toArray) := by
            simp [execOp, ho, Instr.storeAt, Instr.sureAddr, q2, hrun]
          unfold Oper.wp
          rw [hexec]
          have hB : BlkIs w0.heap.size (w.setRow b (stored cur.toList off (a.eval x).cells.toList).toArray) σ (.pointer (some ⟨b, 0, none⟩)) (.cells (storeL cells off l)) := ⟨b, _, T, rfl, setRow_heap w b cur _ T _ e2, e3.store (by simpa using hcells) d2⟩
          exact hn _ _ _ _ _ (Holds.put (x := .v undef) ⟨hH.reg.turn q1 rfl hB, hH.fr, hH.dfr⟩ rfl o.dst) h
        · exact h.elim
      · exact h.elim
    · rename_i k off y i hax hx hi
      split at h
      · rename_i T z n xs hc
        rw [nth_eq] at hc
        obtain ⟨l, h, hl⟩ := cellsK_sound h
        split at h
        · rename_i vs d1 d2 d3
          obtain ⟨hob, h⟩ := h
          rw [setK_eq, putK_eq] at h
          have d1 := of_decide_eq_true d1
          obtain ⟨b, m, c, q1, q2⟩ := ev_is hH.fr hax
          have hcells := hl σ _ (ev_is hH.fr hx)
          have hvs := argsX_spec _ _ d2 _ hcells
          have hlen := hcells.len
          obtain ⟨hrow, hone⟩ := hH.reg.mem.blk k _ _ hc q1
          rcases hrow.2 with ⟨hv, _⟩ | ⟨g, cap, cur, hv, hbg, hg, hnc, hcm, hcs, htake⟩
          · cases hv
          · cases hv
            have hxl := hrow.1
            have hvl : vs.length = l.length := by rw [← hvs]; simp [hlen]
            have hfit : off + vs.length ≤ cur.size := by rw [hcs]; have := Nat.mul_le_mul_right z hnc; omega
            have hrun := run_store_row (P := P) (w := w) (t := t) (i := i) (v := a.eval x) (vs := vs) (off := off) hg hfit (by rw [← hvs]) hi (by omega) (by rw [← hvs]; exact oneA_cells hcells d3)
            have hexec : (execOp a.eval o).run P w = .ok .skip (w.setRow b (stored cur.toList off vs).toArray) := by
              simp [execOp, ho, Instr.storeAt, Instr.sureAddr, q2, hrun]
            unfold Oper.wp
            rw [hexec]
            rw [storeV_stored hob] at h
            have hst : (stored cur.toList off vs).take (n * z) = stored xs off vs := by
              apply List.ext_getElem?
              intro j
              have hlc : off + vs.length ≤ cur.toList.length := by simpa using hfit
              by_cases hj : j < n * z
              · rw [List.getElem?_take_of_lt hj, stored_at hlc, stored_at hob]
                by_cases hr : off ≤ j ∧ j < off + vs.length
                · rw [if_pos hr, if_pos hr]
                · rw [if_neg hr, if_neg hr, ← htake, List.getElem?_take_of_lt hj]
              · rw [List.getElem?_eq_none (by simp; omega), List.getElem?_eq_none (by rw [stored_len hob]; omega)]
            have hB : BlkIs w0.heap.size (w.setRow b (stored cur.toList off vs).toArray) σ (.slice (some ⟨b, 0, none⟩) n c) (.row T z n (stored xs off vs)) := by
              refine ⟨⟨by rw [stored_len hob]; exact hxl, .inr ⟨b, c, _, rfl, hbg, setRow_heap w b cur _ T _ hg, hnc, hcm, ?_, ?_⟩⟩, fun u hu => ?_⟩
              · simp [stored_len (cur := cur.toList) (vs := vs) (off := off) (by simpa using hfit), hcs]
              · simpa using hst
              · obtain ⟨j, hj, rfl⟩ := List.getElem_of_mem hu
                have := stored_at hob j
                rw [List.getElem?_eq_getElem hj] at this
                split at this
                · have hm := List.mem_of_getElem? this.symm
                  have key : ∀ u ∈ vs, u.oneCell' = true := by rw [← hvs]; exact oneA_cells hcells d3
                  exact key _ hm
                · exact hone _ (List.mem_of_getElem? this.symm)
            exact hn _ _ _ _ _ (Holds.put (x := .v undef) ⟨hH.reg.turn q1 rfl hB, hH.fr, hH.dfr⟩ rfl o.dst) h
        · exact h.elim
      · exact h.elim
    · exact h.elim
  · -- call
    rename_i c ho
    split at h
    · rename_i t s x happ
      split at h
      · rename_i k k' hs hx
        split at h
        · rename_i T z n xs T' z' m news hc hc' hkk
          rw [nth_eq] at hc hc'
          split at h
          · rename_i d1 d2
            obtain rfl := of_decide_eq_true d1
            obtain rfl := of_decide_eq_true d2
            obtain ⟨hu, hone⟩ := hH.reg.mem.blk k' _ _ hc' (ev_is hH.fr hx).1
            exact append_step ho happ hH hc (ev_is hH.fr hs).1 rfl rfl hu hone h hn
          · exact h.elim
        · exact h.elim
      · rename_i k' hs hx
        split at h
        · rename_i T z m news hc'
          rw [nth_eq] at hc'
          rw [lenK_eq, appK_eq, Nat.add_zero] at h
          obtain ⟨hu, hone⟩ := hH.reg.mem.blk k' _ _ hc' (ev_is hH.fr hx).1
          have hle := hH.reg.le_set (.slice none 0 0)
          have hH' : Holds w0 F (σ.set own.length (.slice none 0 0)) fr (own ++ [.row T z 0 []]) a w := ⟨hH.reg.newNil T z, hH.fr.grow hle, hH.dfr⟩
          exact append_step (k := own.length) ho happ hH' (by simp) (Sg.set_same _ _ _) (ev_is hH.fr hs) rfl hu hone h hn
        · exact h.elim
      · exact h.elim
    · have hv := valK_sound h
      refine hv.step hH fun x u w' hx hH' => ?_
      rw [putK_eq] at hx
      exact hn _ _ _ _ _ hH' hx
  · have hv := valK_sound h
    refine hv.step hH fun x u w' hx hH' => ?_
    rw [putK_eq] at hx
    exact hn _ _ _ _ _ hH' hx

end Go.Proofs.Ytiefoahdikmilaa
