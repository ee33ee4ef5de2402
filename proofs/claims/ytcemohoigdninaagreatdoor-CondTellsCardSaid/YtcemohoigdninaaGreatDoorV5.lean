/- What the evaluation says of an operation that lays things anew, stores, or appends, holds of it. No condition. -/
import Derived.Test.YtcemohoigdninaaGreatDoorV4
import Derived.RangeFuncOwn
namespace Go.Proofs.YtcemohoigdninaaGreatDoor
open Go Go.RowKit Go.Sort
set_option linter.unusedVariables false
set_option linter.unusedSimpArgs false

variable {P : Program} {F : Facts} {σ : Sg} {fr : List AV} {own : List Blk} {a : Act} {o : Oper} {w0 w : World}

structure Holds (w0 : World) (F : Facts) (σ : Sg) (fr : List AV) (own : List Blk) (a : Act) (w : World) : Prop where
  reg : Reg w0 F σ own w
  fr : FrIs σ fr a.tmps
  dfr : a.defers = []

theorem Reg.later {w' : World} (h : Reg w0 F σ own w) (hb : Below w.heap.size w w') : Reg w0 F σ own w' :=
  ⟨h.mem.below hb, h.dom, h.inj, h.ge, h.old, h.below.trans (hb.mono h.below.size)⟩
theorem Holds.later {w' : World} (h : Holds w0 F σ fr own a w) (hb : Below w.heap.size w w') : Holds w0 F σ fr own a w' := ⟨h.reg.later hb, h.fr, h.dfr⟩
theorem Holds.put {x : AV} {u : Value} (h : Holds w0 F σ fr own a w) (hx : x.Is σ u) (d : Option Tmp) : Holds w0 F σ (putL d fr x) own (a.put d u) w :=
  ⟨h.reg, h.fr.put hx d, by cases d <;> exact h.dfr⟩
theorem Holds.fr' {fr' : List AV} (h : Holds w0 F σ fr own a w) (hf : FrIs σ fr' a.tmps) : Holds w0 F σ fr' own a w := ⟨h.reg, hf, h.dfr⟩

def Sg.set (σ : Sg) (k : Nat) (m : Nm) : Sg := fun i => if i = k then some m else σ i
theorem Sg.set_same (σ : Sg) (k : Nat) (m : Nm) : σ.set k m k = some m := by simp [Sg.set]
theorem Sg.set_other (σ : Sg) {k i : Nat} (m : Nm) (h : i ≠ k) : σ.set k m i = σ i := by simp [Sg.set, h]

/-- one list goes on from another -/
def Pre (l m : List Blk) : Prop := ∀ (k : Nat) (b : Blk), l[k]? = some b → m[k]? = some b
theorem Pre.refl (l : List Blk) : Pre l l := fun _ _ h => h
theorem Pre.trans {l m n : List Blk} (h : Pre l m) (k : Pre m n) : Pre l n := fun i b hi => k i b (h i b hi)
theorem Pre.app (l m : List Blk) : Pre l (l ++ m) := fun i c hi => by rw [List.getElem?_append_left (List.getElem?_eq_some_iff.1 hi).1]; exact hi
theorem Pre.len {l m : List Blk} (h : Pre l m) : l.length ≤ m.length := by
  cases hl : l.length with
  | zero => omega
  | succ n =>
    have : l[n]? = some (l[n]'(by omega)) := List.getElem?_eq_getElem (by omega)
    have := (List.getElem?_eq_some_iff.1 (h n _ this)).1
    omega
theorem Reg.pre {m : List Blk} (h : Reg w0 F σ own w) (hp : Pre own m) : Reg w0 F σ m w :=
  ⟨⟨fun k b x hk hx => by
    have hlt := h.dom k x hx
    have e := hp k _ (List.getElem?_eq_getElem hlt)
    rw [hk] at e
    cases e
    exact h.mem.blk k _ x (List.getElem?_eq_getElem hlt) hx, h.mem.lt, h.mem.sat⟩, fun k x hx => Nat.lt_of_lt_of_le (h.dom k x hx) hp.len, h.inj, h.ge, h.old, h.below⟩

/-- Things that are laid anew get their names. -/
theorem Reg.lay {n : Nat} {X : AV} {bs : List Blk} {u : Value} {w' : World} (h : Reg w0 F σ own w) (hk : ∀ i b, bs[i]? = some b → own[n + i]? = some b) (hn : ∀ i, i < bs.length → σ (n + i) = none) (hL : Lays w0.heap.size F σ n X bs w u w') :
    ∃ σ', SgLe σ σ' ∧ Reg w0 F σ' own w' ∧ X.Is σ' u ∧ ∀ k, (k < n ∨ n + bs.length ≤ k) → σ' k = σ k := by
  obtain ⟨hb, ν, h1, h2, h3⟩ := hL
  have R := h.later hb
  have hs : SgLe σ (fun k => if n ≤ k ∧ k < n + bs.length then some (ν (k - n)) else σ k) := fun k m hm => by
    show (if n ≤ k ∧ k < n + bs.length then some (ν (k - n)) else σ k) = some m
    by_cases hc : n ≤ k ∧ k < n + bs.length
    · have := hn (k - n) (by omega)
      rw [show n + (k - n) = k by omega, hm] at this
      cases this
    · rw [if_neg hc]; exact hm
  have old : ∀ k m, (if n ≤ k ∧ k < n + bs.length then some (ν (k - n)) else σ k) = some m → (∃ i, i < bs.length ∧ k = n + i ∧ m = ν i) ∨ σ k = some m := fun k m hm => by
    by_cases hc : n ≤ k ∧ k < n + bs.length
    · rw [if_pos hc] at hm
      exact .inl ⟨k - n, by omega, by omega, (Option.some.inj hm).symm⟩
    · rw [if_neg hc] at hm
      exact .inr hm
  obtain ⟨q1, q2⟩ := h3 _ hs fun i hi => by
    show (if n ≤ n + i ∧ n + i < n + bs.length then some (ν (n + i - n)) else σ (n + i)) = _
    rw [if_pos (by omega)]
    simp
  refine ⟨_, hs, ⟨⟨fun k b m hkb hm => ?_, fun k m g hm hg => ?_, R.mem.sat⟩, fun k m hm => ?_, fun k k' m m' g hm hm' hg hg' => ?_, fun k m g hm hg => ?_, R.old, R.below⟩, q1, fun k hk' => if_neg (by omega)⟩
  · rcases old k m hm with ⟨i, hi, rfl, rfl⟩ | hm
    · have hbi := hk i _ (List.getElem?_eq_getElem hi)
      rw [hbi] at hkb
      cases hkb
      exact q2 i _ (List.getElem?_eq_getElem hi)
    · exact (R.mem.blk k b m hkb hm).grow hs
  · rcases old k m hm with ⟨i, hi, rfl, rfl⟩ | hm
    · exact (h1 i hi g hg).2
    · exact R.mem.lt k m g hm hg
  · rcases old k m hm with ⟨i, hi, rfl, rfl⟩ | hm
    · exact (List.getElem?_eq_some_iff.1 (hk i _ (List.getElem?_eq_getElem hi))).1
    · exact R.dom k m hm
  · rcases old k m hm with ⟨i, hi, rfl, rfl⟩ | hm <;> rcases old k' m' hm' with ⟨i', hi', rfl, rfl⟩ | hm'
    · rw [h2 i i' hi hi' g hg hg']
    · have := h.mem.lt k' m' g hm' hg'
      have := (h1 i hi g hg).1
      omega
    · have := h.mem.lt k m g hm hg
      have := (h1 i' hi' g hg').1
      omega
    · exact R.inj k k' m m' g hm hm' hg hg'
  · rcases old k m hm with ⟨i, hi, rfl, rfl⟩ | hm
    · exact Nat.le_trans h.below.size (h1 i hi g hg).1
    · exact R.ge k m g hm hg

/-- An operation that comes to this: what it leaves is handed on. -/
theorem does_step {n : Nat} {X : AV} {bs : List Blk} {next : Act → World → Prop} {Q : Exit → Act → World → Prop} (h : DoesAt P w0.heap.size F σ n X bs w ((execOp a.eval o).run P w)) (hn : ∀ u w', Lays w0.heap.size F σ n X bs w u w' → next (a.put o.dst u) w') : o.wp P a w next Q := by
  unfold Oper.wp
  generalize (execOp a.eval o).run P w = r at *
  cases r with
  | ok x w' =>
    cases x <;> simp only [DoesAt] at h <;> simp only [Oper.upon]
    case value v => exact hn _ _ h
    case skip => exact hn _ _ h
    case enter f args =>
      obtain ⟨rfl, hc⟩ := h
      exact hc.mono fun e w'' ⟨u, he, hw''⟩ => by subst he; exact hn _ _ hw''
  | halt x w' => simp only [DoesAt] at h

theorem ValS.step {K : AV → List Blk → Prop} {next : Act → World → Prop} {Q : Exit → Act → World → Prop} (h : ValS P F own fr o K) (hH : Holds w0 F σ fr own a w)
    (hn : ∀ X bs σ' u w', K X bs → Holds w0 F σ' (putL o.dst fr X) (own ++ bs) (a.put o.dst u) w' → next (a.put o.dst u) w') : o.wp P a w next Q := by
  obtain ⟨X, bs, hK, hd⟩ := h
  refine does_step (hd w0.heap.size σ a (hH.fr.op o) w hH.reg.below.size hH.reg.mem) fun u w' hL => ?_
  obtain ⟨σ', hs, hR, hX, _⟩ := (hH.reg.pre (Pre.app own bs)).lay (fun i b hi => by rw [List.getElem?_append_right (by omega), Nat.add_sub_cancel_left]; exact hi) (fun i hi => by
    cases hs : σ (own.length + i) with
    | none => rfl
    | some m => have := hH.reg.dom _ m hs; omega) hL
  exact hn X bs σ' u w' hK ⟨hR, (hH.fr.grow hs).put hX _, by cases o.dst <;> exact hH.dfr⟩

/-- Stores. -/
def storeL : List AV → Nat → List AV → List AV
  | cells, _, [] => cells
  | cells, off, x :: l => storeL (cells.set off x) (off + 1) l
theorem storeK_eq : ∀ (l cells : List AV) (off : Nat) (K : List AV → Prop), storeK cells off l K = K (storeL cells off l)
  | [], cells, off, K => rfl
  | x :: l, cells, off, K => by simp [storeK, storeL, setK_eq, storeK_eq l]
theorem storeL_len : ∀ (l cells : List AV) (off : Nat), (storeL cells off l).length = cells.length
  | [], cells, off => rfl
  | x :: l, cells, off => by simp [storeL, storeL_len l]
theorem storeL_at : ∀ (l cells : List AV) (off j : Nat), off + l.length ≤ cells.length → (storeL cells off l)[j]? = if off ≤ j ∧ j < off + l.length then l[j - off]? else cells[j]?
  | [], cells, off, j, h => by simp [storeL]; intro h1 h2; omega
  | x :: l, cells, off, j, h => by
    simp only [List.length_cons] at h
    rw [storeL, storeL_at l _ _ _ (by simp; omega)]
    by_cases hj : j = off
    · subst hj
      rw [if_neg (by omega), if_pos (by simp)]
      have : j < cells.length := by omega
      simp [this]
    · by_cases h2 : off ≤ j ∧ j < off + (l.length + 1)
      · rw [if_pos (by omega), if_pos (by simpa using h2)]
        obtain ⟨k, rfl⟩ : ∃ k, j = off + 1 + k := ⟨j - off - 1, by omega⟩
        rw [show off + 1 + k - (off + 1) = k by omega, show off + 1 + k - off = k + 1 by omega]
        simp
      · rw [if_neg (by omega), if_neg (by simpa using h2), List.getElem?_set_ne (by omega)]
theorem storeV_at : ∀ (l cells : List Value) (off j : Nat), off + l.length ≤ cells.length → (storeV cells off l)[j]? = if off ≤ j ∧ j < off + l.length then l[j - off]? else cells[j]?
  | [], cells, off, j, h => by simp [storeV]; intro h1 h2; omega
  | x :: l, cells, off, j, h => by
    simp only [List.length_cons] at h
    rw [storeV, storeV_at l _ _ _ (by simp [setL_eq]; omega), setL_eq]
    by_cases hj : j = off
    · subst hj
      rw [if_neg (by omega), if_pos (by simp)]
      have : j < cells.length := by omega
      simp [this]
    · by_cases h2 : off ≤ j ∧ j < off + (l.length + 1)
      · rw [if_pos (by omega), if_pos (by simpa using h2)]
        obtain ⟨k, rfl⟩ : ∃ k, j = off + 1 + k := ⟨j - off - 1, by omega⟩
        rw [show off + 1 + k - (off + 1) = k by omega, show off + 1 + k - off = k + 1 by omega]
        simp
      · rw [if_neg (by omega), if_neg (by simpa using h2), List.getElem?_set_ne (by omega)]

/-- The cells behind a store. -/
def stored (cur : List Value) (off : Nat) (vs : List Value) : List Value := cur.take off ++ vs ++ cur.drop (off + vs.length)
theorem stored_len {cur vs : List Value} {off : Nat} (hl : off + vs.length ≤ cur.length) : (stored cur off vs).length = cur.length := by simp [stored]; omega
theorem stored_at {cur vs : List Value} {off : Nat} (hl : off + vs.length ≤ cur.length) (j : Nat) : (stored cur off vs)[j]? = if off ≤ j ∧ j < off + vs.length then vs[j - off]? else cur[j]? := by
  have e1 : (cur.take off).length = off := by simp; omega
  unfold stored
  by_cases hr : off ≤ j ∧ j < off + vs.length
  · rw [if_pos hr, List.append_assoc, List.getElem?_append_right (by omega), e1, List.getElem?_append_left (by omega)]
  · rw [if_neg hr]
    by_cases hlt : j < off
    · rw [List.append_assoc, List.getElem?_append_left (by omega), List.getElem?_take_of_lt hlt]
    · rw [List.getElem?_append_right (by simp; omega), List.getElem?_drop]
      simp only [List.length_append, e1]
      rw [show off + vs.length + (j - (off + vs.length)) = j by omega]
theorem storeV_stored {cur vs : List Value} {off : Nat} (hl : off + vs.length ≤ cur.length) : storeV cur off vs = stored cur off vs :=
  List.ext_getElem? fun j => by rw [storeV_at _ _ _ _ hl, stored_at hl]

theorem FrIs.store {cells xs : List AV} {cur : Array Value} {vs : List Value} {off : Nat} (h : FrIs σ cells cur) (hx : FrIs σ xs vs.toArray) (hl : off + xs.length ≤ cells.length) :
    FrIs σ (storeL cells off xs) (stored cur.toList off vs).toArray := by
  have hlen := h.len
  have hxl : xs.length = vs.length := by simpa using hx.len
  have hl2 : off + vs.length ≤ cur.toList.length := by simp; omega
  refine ⟨by rw [storeL_len]; simp [stored_len hl2]; omega, fun j x hj => ?_⟩
  rw [storeL_at _ _ _ _ hl] at hj
  simp only [List.getElem?_toArray]
  rw [stored_at hl2]
  by_cases hr : off ≤ j ∧ j < off + xs.length
  · rw [if_pos hr] at hj
    rw [if_pos (by omega)]
    obtain ⟨u, h1, h2⟩ := hx.at_ _ x hj
    exact ⟨u, by simpa using h1, h2⟩
  · rw [if_neg hr] at hj
    rw [if_neg (by omega)]
    obtain ⟨u, h1, h2⟩ := h.at_ _ x hj
    exact ⟨u, by simpa using h1, h2⟩

theorem run_store_row {t T : TypeId} {i : TypeInfo} {v : Value} {vs : List Value} {b off : Nat} {cur : Array Value} (hb : w.heap[b]? = some (.cells cur T (0, 0))) (hl : off + vs.length ≤ cur.size) (hv : v.cells = vs.toArray) (hi : P.info? t = some i) (hz : vs.length = i.size) (h1 : ∀ v ∈ vs, v.oneCell' = true) :
    (storeVar t ⟨b, off, none⟩ v).run P w = .ok () (w.setRow b (stored cur.toList off vs).toArray) := by
  have hrun := run_storeCells_at P b off T vs 0 cur w hb (by omega) h1
  simp only [Nat.add_zero] at hrun
  simp [storeVar, sizeOf, typeInfo, hi, hv, hz, hrun, stored]

/-- The own block k turns from b to b'. -/
theorem Reg.turn {k : Nat} {b : Blk} {m : Nm} {g : Nat} {cs : Array Value} (h : Reg w0 F σ own w) (hv : σ k = some m) (hg : m.fp g) (hb : BlkIs w0.heap.size F (w.setRow g cs) σ m b) : Reg w0 F σ (own.set k b) (w.setRow g cs) := by
  refine ⟨⟨fun j c u hj hu => ?_, fun j u i hu hi => by rw [setRow_size]; exact h.mem.lt j u i hu hi, h.mem.sat.stay fun x hx => setRow_other _ _ _ _ fun e => by have := h.old x hx; have := h.ge k m g hv hg; omega⟩, fun j u hu => by rw [List.length_set]; exact h.dom j u hu, h.inj, h.ge, h.old, below_setRow h.below (h.ge k m g hv hg) _⟩
  · by_cases hkj : k = j
    · subst hkj
      rw [hv] at hu
      cases hu
      have hlt := h.dom k m hv
      rw [List.getElem?_set_self hlt] at hj
      cases hj
      exact hb
    · rw [List.getElem?_set_ne hkj] at hj
      refine (h.mem.blk j c u hj hu).same (fun i hi => h.mem.lt j u i hu hi) fun i hi => setRow_other _ _ _ _ fun e => hkj ?_
      subst e
      exact h.inj k j m u _ hv hu hg hi

theorem killK_eq (k : Nat) : ∀ (l : List AV) (K : List AV → Prop), killK k l K = K (l.map (killA k))
  | [], K => rfl
  | x :: l, K => by
    cases x with
    | s k' => cases hd : decide (k' = k) <;> simp only [killK, hd, killA, List.map_cons, killK_eq k l]
    | e k' off => cases hd : decide (k' = k) <;> simp only [killK, hd, killA, List.map_cons, killK_eq k l]
    | sub k' off n => cases hd : decide (k' = k) <;> simp only [killK, hd, killA, List.map_cons, killK_eq k l]
    | t k' => cases hd : decide (k' = k) <;> simp only [killK, hd, killA, List.map_cons, killK_eq k l]
    | _ => simp only [killK, killA, List.map_cons, killK_eq k l]
theorem killO_eq (k : Nat) : ∀ (l : List Blk) (K : List Blk → Prop), killO k l K = K (l.map (killB k))
  | [], K => rfl
  | b :: l, K => by cases b <;> simp only [killO, killB, List.map_cons, killO_eq k l, killK_eq]

theorem killA_is {k : Nat} {m m' : Nm} {x : AV} {u : Value} (hv : σ k = some m) (hs : ∃ ad n c, m.v = .slice ad n c) (h : x.Is σ u) : (killA k x).Is (σ.set k m') u := by
  obtain ⟨ad, n, c, hm⟩ := hs
  have oth : ∀ i, i ≠ k → σ.set k m' i = σ i := fun i hi => Sg.set_other _ _ hi
  cases x with
  | v x => exact h
  | lit b => exact h
  | junk => trivial
  | p k' off =>
    obtain ⟨q, b, h1, h2, h3⟩ := h
    have hne : k' ≠ k := fun e => by subst e; rw [hv] at h1; cases h1; rw [hm] at h2; cases h2
    exact ⟨q, b, by rw [oth _ hne]; exact h1, h2, h3⟩
  | s k' =>
    by_cases he : k' = k
    · simp only [killA, he, decide_true]; trivial
    · obtain ⟨q, h1, h2⟩ := h
      simp only [killA, he, decide_false]; exact ⟨q, by rw [oth _ he]; exact h1, h2⟩
  | e k' off =>
    by_cases he : k' = k
    · simp only [killA, he, decide_true]; trivial
    · obtain ⟨q, b, m, c', h1, h2⟩ := h
      simp only [killA, he, decide_false]; exact ⟨q, b, m, c', by rw [oth _ he]; exact h1, h2⟩
  | sub k' off n =>
    by_cases he : k' = k
    · simp only [killA, he, decide_true]; trivial
    · obtain ⟨q, ad, c', h1, h2⟩ := h
      simp only [killA, he, decide_false]; exact ⟨q, ad, c', by rw [oth _ he]; exact h1, h2⟩
  | t k' =>
    by_cases he : k' = k
    · simp only [killA, he, decide_true]; trivial
    · obtain ⟨q, h1, h2⟩ := h
      simp only [killA, he, decide_false]
      exact ⟨q, by rw [oth _ he]; exact h1, h2⟩
theorem FrIs.kill {k : Nat} {m m' : Nm} {l : List AV} {tmps : Array Value} (hv : σ k = some m) (hs : ∃ ad n c, m.v = .slice ad n c) (h : FrIs σ l tmps) : FrIs (σ.set k m') (l.map (killA k)) tmps :=
  ⟨by rw [List.length_map]; exact h.len, fun i y hy => by
    simp only [List.getElem?_map, Option.map_eq_some_iff] at hy
    obtain ⟨x, hx, rfl⟩ := hy
    obtain ⟨u, h1, h2⟩ := h.at_ i x hx
    exact ⟨u, h1, killA_is hv hs h2⟩⟩

/-- An append, and where its array lies. -/
theorem run_append2 {base : Nat} {t ty e : TypeId} {i : TypeInfo} {z : Value} {size bytes : Nat} (ht : P.underlying t = some (.slice e)) (hi : P.info? e = some i) (hz : i.zero = some z) (hsize : i.size = size) (hby : i.bytes = bytes) (hzs : z.cells.size = size) (hsz : 0 < size)
    {v : Value} {n : Nat} {xs : List Value} (hown : w.ownsRow base e size v n xs) {ad : Addr} {m c : Nat} {news : List Value} (hl : news.length = m * size) (hnews : ∀ j u, news[j]? = some u → w.cell? (ad.add j) = some u) (h1 : ∀ u ∈ news, u.oneCell' = true)
    (h0 : 0 < m) (h63 : n + m ≤ maxLen) (hbytes : (n + m) * bytes ≤ 140737488355328) (hbase : base ≤ w.heap.size) :
    ∃ v' w', (Builtin.append_ #[t, t] ty #[v, .slice (some ad) m c]).run P w = .ok v' w' ∧ w'.ownsRow base e size v' (n + m) (xs ++ news) ∧ w.grownBy w' v.ownBlock ∧ ∃ g cap, v' = .slice (some ⟨g, 0, none⟩) (n + m) cap ∧ (v.ownBlock = some g ∨ w.heap.size ≤ g) := by
  obtain ⟨v', w', hr, h2, h3, _⟩ := run_append_own (P := P) w base t ty e i z size bytes ht hi hz hsize hby hzs hsz v n xs hown ad m c news hl hnews h1 h63 hbytes hbase
  refine ⟨v', w', hr, h2, h3, ?_⟩
  have hsmall : n + m ≤ 9223372036854775807 := by simp only [maxLen] at h63; omega
  subst hsize
  subst hby
  rcases hown.2 with ⟨rfl, rfl⟩ | ⟨g, cap, cur, rfl, hbg, hg, hnc, hcm, hcs, htake⟩
  · have hr2 := run_append_nil (P := P) w t ty e i z ht hi hz ad m c news hl hnews (by omega) (by omega) (by have hb := hbytes; simp only [Nat.zero_add] at hb; omega)
    rw [hr] at hr2
    cases hr2
    exact ⟨_, _, by rw [Nat.zero_add], .inr (Nat.le_refl _)⟩
  · by_cases hroom : n + m ≤ cap
    · have hfit : n * i.size + news.length ≤ cur.size := by rw [hl, hcs, ← Nat.add_mul]; exact Nat.mul_le_mul_right _ hroom
      have hr2 := run_append_room (P := P) w t ty e i ht hi g n cap cur hg ad m c news hl hnews h1 hroom hfit
      rw [hr] at hr2
      cases hr2
      exact ⟨_, _, rfl, .inl rfl⟩
    · have holds : ∀ j u, xs[j]? = some u → w.cell? ((⟨g, 0, none⟩ : Addr).add j) = some u := hown.cells (g := g) rfl
      have hr2 := run_append_grow (P := P) w t ty e i z ht hi hz ⟨g, 0, none⟩ n cap xs hown.1 holds ad m c news hl hnews (by omega) (by omega) (growslice_fits (by omega) hbytes)
      rw [hr] at hr2
      cases hr2
      exact ⟨_, _, rfl, .inr (Nat.le_refl _)⟩

theorem appArgs_spec {c : Call} {t : TypeId} {s x : Operand} (h : appArgs c = some (t, s, x)) : c.callee = .builtin .append ∧ c.argTypes = #[t, t] ∧ c.args = #[s, x] := by
  unfold appArgs at h
  split at h
  · rename_i hc
    split at h
    · rename_i t1 t2 s1 x1 ht hx
      split at h
      · rename_i hd
        obtain rfl := of_decide_eq_true hd
        cases h
        exact ⟨hc, by rw [← Array.toArray_toList (xs := c.argTypes), ht], by rw [← Array.toArray_toList (xs := c.args), hx]⟩
      · cases h
    · cases h
  · cases h

theorem blkIs_nil (w : World) (T : TypeId) (z base : Nat) : BlkIs base F w σ ⟨.slice none 0 0, fun _ => False⟩ (.row T z 0 []) :=
  ⟨⟨World.ownsRow_nil w _ T z, by simp⟩, fun g => by simp [Value.ownBlock]⟩
/-- A nil slice gets a name. -/
theorem Reg.newNil (h : Reg w0 F σ own w) (T : TypeId) (z : Nat) : ∃ σ', SgLe σ σ' ∧ σ' own.length = some ⟨.slice none 0 0, fun _ => False⟩ ∧ Reg w0 F σ' (own ++ [.row T z 0 []]) w := by
  have old : ∀ k m, σ.set own.length ⟨.slice none 0 0, fun _ => False⟩ k = some m → (k = own.length ∧ m = ⟨.slice none 0 0, fun _ => False⟩) ∨ (k < own.length ∧ σ k = some m) := fun k m hk => by
    by_cases he : k = own.length
    · subst he; rw [Sg.set_same] at hk; exact .inl ⟨rfl, (Option.some.inj hk).symm⟩
    · rw [Sg.set_other _ _ he] at hk; exact .inr ⟨h.dom k m hk, hk⟩
  have hs : SgLe σ (σ.set own.length ⟨.slice none 0 0, fun _ => False⟩) := fun k m hk => by
    rw [Sg.set_other _ _ (by have := h.dom k m hk; omega)]; exact hk
  refine ⟨_, hs, Sg.set_same _ _ _, ⟨⟨fun k c m hk hm => ?_, fun k m i hm hi => ?_, h.mem.sat⟩, fun k m hm => ?_, fun k k' m m' i hm hm' hi hi' => ?_, fun k m i hm hi => ?_, h.old, h.below⟩⟩
  · rcases old k m hm with ⟨rfl, rfl⟩ | ⟨hlt', hm'⟩
    · rw [List.getElem?_append_right (Nat.le_refl _)] at hk
      simp at hk
      subst hk
      exact blkIs_nil w T z _
    · rw [List.getElem?_append_left hlt'] at hk
      exact (h.mem.blk k c m hk hm').grow hs
  · rcases old k m hm with ⟨rfl, rfl⟩ | ⟨_, hm'⟩
    · exact hi.elim
    · exact h.mem.lt k m i hm' hi
  · rcases old k m hm with ⟨rfl, rfl⟩ | ⟨hlt', _⟩
    · simp
    · simp; omega
  · rcases old k m hm with ⟨rfl, rfl⟩ | ⟨_, hv⟩
    · exact hi.elim
    · rcases old k' m' hm' with ⟨rfl, rfl⟩ | ⟨_, hv'⟩
      · exact hi'.elim
      · exact h.inj k k' m m' i hv hv' hi hi'
  · rcases old k m hm with ⟨rfl, rfl⟩ | ⟨_, hm'⟩
    · exact hi.elim
    · exact h.ge k m i hm' hi

/-- An append of nothing. -/
theorem run_append_zero {base : Nat} {t ty e e2 : TypeId} {i : TypeInfo} {size : Nat} (ht : P.underlying t = some (.slice e)) (hi : P.info? e = some i)
    {v : Value} {n : Nat} {xs : List Value} (hown : w.ownsRow base e2 size v n xs) (ad : Option Addr) (c : Nat) :
    (Builtin.append_ #[t, t] ty #[v, .slice ad 0 c]).run P w = .ok v w := by
  rcases hown.2 with ⟨rfl, rfl⟩ | ⟨g, cap, cur, rfl, _, _, hnc, _⟩
  · cases ad <;> simp [Builtin.append_, run_underlying ht, sizeOf, typeInfo, hi, Builtin.lenOf, Builtin.firstCells, loadCells, loadCellsFrom]
  · cases ad <;> simp [Builtin.append_, run_underlying ht, sizeOf, typeInfo, hi, Builtin.lenOf, Builtin.firstCells, hnc, storeCells, loadCells, loadCellsFrom]

theorem append_step {c : Call} {t T : TypeId} {s x : Operand} {k z n m c2 : Nat} {ad : Addr} {xs news : List Value} {nm : Nm} {K : List AV → List Blk → Prop} {next : Act → World → Prop} {Q : Exit → Act → World → Prop} (ho : o.op = .call c) (happ : appArgs c = some (t, s, x)) (hH : Holds w0 F σ fr own a w)
    (hk : own[k]? = some (.row T z n xs)) (hσ : σ k = some nm) (hs : a.eval s = nm.v) (hx : a.eval x = .slice (some ad) m c2) (hl : news.length = m * z) (hnews : ∀ j u, news[j]? = some u → w.cell? (ad.add j) = some u) (h1 : ∀ y ∈ news, y.oneCell' = true) (h : appendK P t o.dst fr own k T z n m xs news K)
    (hn : ∀ σ' fr' own' a' w', Holds w0 F σ' fr' own' a' w' → K fr' own' → next a' w') : o.wp P a w next Q := by
  unfold appendK at h
  split at h
  · rename_i T' z' by' hri
    split at h
    · rename_i d1 d2
      obtain rfl := of_decide_eq_true d1
      obtain rfl := of_decide_eq_true d2
      obtain ⟨⟨hm, hb1, hb2⟩, h⟩ := h
      rw [killK_eq, killO_eq, setK_eq, putK_eq] at h
      obtain ⟨hty, i, zv, hi, hz, hsz, hby, hzs, hpos, _⟩ := rowInfo_spec hri
      obtain ⟨⟨hrow, hone⟩, hfp⟩ := hH.reg.mem.blk k _ nm hk hσ
      have hvs : ∃ ad n c, nm.v = .slice ad n c := by
        rcases hrow.2 with ⟨hv, _⟩ | ⟨g, cap, cur, hv, _⟩
        · exact ⟨_, _, _, hv⟩
        · exact ⟨_, _, _, hv⟩
      obtain ⟨v', w', hr, hown', hgr, g, cap, rfl, hloc⟩ := run_append2 (P := P) (ty := o.type) (c := c2) hty hi hz hsz hby hzs hpos hrow hl hnews h1 hm (by unfold maxLen; omega) hb1 hH.reg.below.size
      obtain ⟨hcal, hct, hca⟩ := appArgs_spec happ
      have hexec : (execOp a.eval o).run P w = .ok (.value (.slice (some ⟨g, 0, none⟩) (n + m) cap)) w' := by
        simp [execOp, ho, resolve, hcal, invoke, builtin, hca, hct, hs, hx, hr]
      unfold Oper.wp
      rw [hexec]
      have R := hH.reg
      have keep : ∀ j y i, j ≠ k → σ j = some y → y.fp i → w'.heap[i]? = w.heap[i]? := fun j y i hj hy hi => hgr.block i (R.mem.lt j y i hy hi) fun e => hj (R.inj j k y nm i hy hσ hi ((hfp i).2 e.symm))
      have old : ∀ j y, σ.set k ⟨.slice (some ⟨g, 0, none⟩) (n + m) cap, fun b => b = g⟩ j = some y → (j = k ∧ y = ⟨.slice (some ⟨g, 0, none⟩) (n + m) cap, fun b => b = g⟩) ∨ (j ≠ k ∧ σ j = some y) := fun j y hj => by
        by_cases he : j = k
        · subst he; rw [Sg.set_same] at hj; exact .inl ⟨rfl, (Option.some.inj hj).symm⟩
        · rw [Sg.set_other _ _ he] at hj; exact .inr ⟨he, hj⟩
      have apart : ∀ j y, j ≠ k → σ j = some y → ¬ y.fp g := fun j y hj hy hi => by
        rcases hloc with hl | hl
        · exact hj (R.inj j k y nm g hy hσ hi ((hfp g).2 hl))
        · have := R.mem.lt j y g hy hi; omega
      have hkl : k < own.length := R.dom k nm hσ
      refine hn (σ.set k ⟨.slice (some ⟨g, 0, none⟩) (n + m) cap, fun b => b = g⟩) _ _ _ _ ⟨⟨⟨fun j b y hj hy => ?_, fun j y i hy hi => ?_, R.mem.sat.stay fun b hF => hgr.block b (R.mem.sat.lt hF) fun e => (by
          have h2 := R.old b hF
          have h3 := R.ge k nm b hσ ((hfp b).2 e.symm)
          omega)⟩, fun j y hy => ?_, fun j j' y y' i hy hy' hi hi' => ?_, fun j y i hy hi => ?_, R.old, ?_⟩, ?_, by cases o.dst <;> exact hH.dfr⟩ h
      · rcases old j y hy with ⟨rfl, rfl⟩ | ⟨hj', hy'⟩
        · rw [List.getElem?_set_self (by simpa using hkl)] at hj
          cases hj
          exact ⟨⟨hown', fun q hq => by rcases List.mem_append.1 hq with hq | hq; exact hone q hq; exact h1 q hq⟩, fun q => by simp [Value.ownBlock, eq_comm]⟩
        · rw [List.getElem?_set_ne (Ne.symm hj'), List.getElem?_map, Option.map_eq_some_iff] at hj
          obtain ⟨b', hb', rfl⟩ := hj
          have hB := (R.mem.blk j b' y hb' hy').same (w' := w') (fun i hi => R.mem.lt j y i hy' hi) fun i hi => keep j y i hj' hy' hi
          cases b' with
          | cells l => obtain ⟨q, ys, T2, q1, q2, q3, q4⟩ := hB; exact ⟨q, ys, T2, q1, q2, q3.kill hσ hvs, q4⟩
          | comp tup l => obtain ⟨vs, q1, q2⟩ := hB; exact ⟨vs, q1, q2.kill hσ hvs⟩
          | row T2 z2 n2 x2 => exact hB
          | map es => exact hB
          | obj p => exact hB
          | dead => trivial
      · rcases old j y hy with ⟨rfl, rfl⟩ | ⟨hj', hy'⟩
        · have : i = g := hi
          subst this
          exact (hown'.lt i rfl).2
        · exact Nat.lt_of_lt_of_le (R.mem.lt j y i hy' hi) hgr.size
      · rw [List.length_set, List.length_map]
        rcases old j y hy with ⟨rfl, _⟩ | ⟨_, hy'⟩
        · exact hkl
        · exact R.dom j y hy'
      · rcases old j y hy with ⟨rfl, rfl⟩ | ⟨hj, hv⟩ <;> rcases old j' y' hy' with ⟨rfl, rfl⟩ | ⟨hj', hv'⟩
        · rfl
        · have : i = g := hi
          subst this
          exact absurd hi' (apart j' y' hj' hv')
        · have : i = g := hi'
          subst this
          exact absurd hi (apart j y hj hv)
        · exact R.inj j j' y y' i hv hv' hi hi'
      · rcases old j y hy with ⟨rfl, rfl⟩ | ⟨_, hy'⟩
        · have : i = g := hi
          subst this
          exact (hown'.lt i rfl).1
        · exact R.ge j y i hy' hi
      · exact R.below.grown hgr R.below.size fun i hi => (hrow.lt i hi).1
      · exact (hH.fr.kill hσ hvs).put (x := .s k) ⟨_, Sg.set_same _ _ _, rfl, _, _, _, rfl⟩ o.dst
    · exact h.elim
  · exact h.elim

theorem argsX_spec : ∀ (l : List AV) (vs : List Value), argsX l = some vs → ∀ (us : Array Value), FrIs σ l us → us.toList = vs
  | [], vs, h, us, hf => by
    simp [argsX] at h
    subst h
    have := hf.len
    simp only [List.length_nil] at this
    rw [Array.eq_empty_of_size_eq_zero this.symm]
  | x :: l, vs, h, us, hf => by
    have hlen := hf.len
    obtain ⟨u0, hu0, hx0⟩ := hf.at_ 0 x (by simp)
    have tail : FrIs σ l us.toList.tail.toArray := ⟨by simp at hlen ⊢; omega, fun i y hy => by
      obtain ⟨u, h1, h2⟩ := hf.at_ (i + 1) y (by simpa using hy)
      refine ⟨u, ?_, h2⟩
      simp only [List.getElem?_toArray, List.getElem?_tail, Array.getElem?_toList]
      exact h1⟩
    have hcons : us.toList = u0 :: us.toList.tail := by
      have h0 : us.toList[0]? = some u0 := by simpa using hu0
      cases hl : us.toList with
      | nil => rw [hl] at h0; cases h0
      | cons y ys => rw [hl] at h0; simp at h0; subst h0; rfl
    cases x with
    | v x =>
      unfold argsX at h
      cases hr : argsX l with
      | none => rw [hr] at h; cases h
      | some vs' =>
        rw [hr] at h
        cases h
        have := argsX_spec l vs' hr _ tail
        obtain rfl : u0 = x := hx0
        rw [hcons]
        simpa using this
    | lit b =>
      unfold argsX at h
      cases hr : argsX l with
      | none => rw [hr] at h; cases h
      | some vs' =>
        rw [hr] at h
        cases h
        have := argsX_spec l vs' hr _ tail
        obtain rfl : u0 = .bool b := hx0
        rw [hcons]
        simpa using this
    | p k off => simp [argsX] at h
    | s k => simp [argsX] at h
    | e k off => simp [argsX] at h
    | sub k off n => simp [argsX] at h
    | t k => simp [argsX] at h
    | junk => simp [argsX] at h

theorem oneA_cells {l : List AV} {us : Array Value} (hf : FrIs σ l us) (h : l.all oneA = true) : ∀ u ∈ us.toList, u.oneCell' = true := by
  intro u hu
  obtain ⟨i, hi, rfl⟩ := List.getElem_of_mem hu
  have hil : i < l.length := by rw [hf.len]; simpa using hi
  obtain ⟨u', h1, h2⟩ := hf.at_ i l[i] (List.getElem?_eq_getElem hil)
  have e : us.toList[i] = u' := by
    have : us.toList[i]? = some u' := by simpa using h1
    rw [List.getElem?_eq_getElem hi] at this
    exact Option.some.inj this
  rw [e]
  have hone := List.all_eq_true.1 h l[i] (List.getElem_mem hil)
  generalize l[i] = x at *
  cases x with
  | v x => obtain rfl : u' = x := h2; cases u' <;> simp [oneA, oneC, Value.oneCell'] at hone ⊢
  | lit b => obtain rfl : u' = .bool b := h2; rfl
  | p k off => obtain ⟨m, b, _, _, rfl⟩ := h2; rfl
  | s k => obtain ⟨m, _, _, ad, n, c, rfl⟩ := h2; rfl
  | e k off => obtain ⟨m, b, n, c, _, _, rfl⟩ := h2; rfl
  | sub k off n => obtain ⟨m, ad, c, _, rfl, _⟩ := h2; rfl
  | t k => simp [oneA] at hone
  | junk => simp [oneA] at hone
theorem catBK_eq : ∀ (l own : List Blk) (K : List Blk → Prop), catBK own l K = K (own ++ l)
  | [], own, K => by simp [catBK]
  | b :: l, own, K => by simp [catBK, appK_eq, catBK_eq l]
theorem putObj_below {k : Nat} {m : Nm} {g : Nat} (h : Reg w0 F σ own w) (hv : σ k = some m) (hg : m.fp g) (ob : Obj) : Below w0.heap.size w0 (w.putObj g ob) := by
  have hge := h.ge k m g hv hg
  refine h.below.grown (grownBy_putObj' w g ob) h.below.size fun i hi => ?_
  cases hi; exact hge

theorem opK_sound {K : List AV → List Blk → Prop} {next : Act → World → Prop} {Q : Exit → Act → World → Prop} (h : opK P F o fr own K) (hH : Holds w0 F σ fr own a w)
    (hn : ∀ σ' fr' own' a' w', Holds w0 F σ' fr' own' a' w' → K fr' own' → next a' w') : o.wp P a w next Q := by
  have viaVal : (valK P F o fr own fun x bs => catBK own bs fun own => putK o.dst fr x fun fr => K fr own) → o.wp P a w next Q := fun h =>
    (valK_sound h).step hH fun X bs σ' u w' hK hH' => by
      rw [catBK_eq, putK_eq] at hK
      exact hn _ _ _ _ _ hH' hK
  unfold opK at h
  split at h
  · -- store
    rename_i t ax x ho
    split at h
    · rename_i k off y i hax hx hi
      split at h
      · rename_i cells hc
        rw [nth_eq] at hc
        obtain ⟨l, h, hl⟩ := cellsK_sound h
        split at h
        · rename_i d1 d2 d3
          rw [storeK_eq, setK_eq, putK_eq] at h
          have d1 := of_decide_eq_true d1
          have d2 := of_decide_eq_true d2
          obtain ⟨m, b, q1, q2, q3⟩ := ev_is hH.fr hax
          have hcells := hl σ _ (ev_is hH.fr hx)
          obtain ⟨b', cur, T, e1, e2, e3, e4⟩ := hH.reg.mem.blk k _ m hc q1
          rw [q2] at e1
          obtain rfl : b = b' := by simpa using e1
          have hlen := hcells.len
          have hlen2 := e3.len
          have hrun := run_store_row (P := P) (w := w) (t := t) (i := i) (v := a.eval x) (vs := (a.eval x).cells.toList) (off := off) e2 (by simp; omega) (by simp) hi (by simp; omega) (oneA_cells hcells d3)
          have hexec : (execOp a.eval o).run P w = .ok .skip (w.setRow b (stored cur.toList off (a.eval x).cells.toList).toArray) := by
            simp [execOp, ho, Instr.storeAt, Instr.sureAddr, q3, hrun]
          unfold Oper.wp
          rw [hexec]
          have hB : BlkIs w0.heap.size F (w.setRow b (stored cur.toList off (a.eval x).cells.toList).toArray) σ m (.cells (storeL cells off l)) := ⟨b, _, T, q2, setRow_heap w b cur _ T _ e2, e3.store (by simpa using hcells) d2, e4⟩
          exact hn _ _ _ _ _ (Holds.put (x := .v undef) ⟨hH.reg.turn q1 ((e4 b).2 rfl) hB, hH.fr, hH.dfr⟩ rfl o.dst) h
        · exact h.elim
      · exact h.elim
    · rename_i k off y i hax hx hi
      split at h
      · rename_i T z n xs hc
        rw [nth_eq] at hc
        obtain ⟨l, h, hl⟩ := cellsK_sound h
        split at h
        · rename_i vs d1 d2 d3
          obtain ⟨hob, h⟩ := h
          rw [setK_eq, putK_eq] at h
          have d1 := of_decide_eq_true d1
          obtain ⟨nm, b, m, c, q1, qv, q2⟩ := ev_is hH.fr hax
          have hcells := hl σ _ (ev_is hH.fr hx)
          have hvs := argsX_spec _ _ d2 _ hcells
          have hlen := hcells.len
          obtain ⟨⟨hrow, hone⟩, hfp⟩ := hH.reg.mem.blk k _ nm hc q1
          rcases hrow.2 with ⟨hv, _⟩ | ⟨g, cap, cur, hv, hbg, hg, hnc, hcm, hcs, htake⟩
          · rw [qv] at hv; cases hv
          · rw [qv] at hv
            cases hv
            have hxl := hrow.1
            have hvl : vs.length = l.length := by rw [← hvs]; simp [hlen]
            have hfit : off + vs.length ≤ cur.size := by rw [hcs]; have := Nat.mul_le_mul_right z hnc; omega
            have hrun := run_store_row (P := P) (w := w) (t := t) (i := i) (v := a.eval x) (vs := vs) (off := off) hg hfit (by rw [← hvs]) hi (by omega) (by rw [← hvs]; exact oneA_cells hcells d3)
            have hexec : (execOp a.eval o).run P w = .ok .skip (w.setRow b (stored cur.toList off vs).toArray) := by
              simp [execOp, ho, Instr.storeAt, Instr.sureAddr, q2, hrun]
            unfold Oper.wp
            rw [hexec]
            rw [storeV_stored hob] at h
            have hst : (stored cur.toList off vs).take (n * z) = stored xs off vs := by
              apply List.ext_getElem?
              intro j
              have hlc : off + vs.length ≤ cur.toList.length := by simpa using hfit
              by_cases hj : j < n * z
              · rw [List.getElem?_take_of_lt hj, stored_at hlc, stored_at hob]
                by_cases hr : off ≤ j ∧ j < off + vs.length
                · rw [if_pos hr, if_pos hr]
                · rw [if_neg hr, if_neg hr, ← htake, List.getElem?_take_of_lt hj]
              · rw [List.getElem?_eq_none (by simp; omega), List.getElem?_eq_none (by rw [stored_len hob]; omega)]
            have hB : BlkIs w0.heap.size F (w.setRow b (stored cur.toList off vs).toArray) σ nm (.row T z n (stored xs off vs)) := by
              refine ⟨⟨⟨by rw [stored_len hob]; exact hxl, .inr ⟨b, c, _, qv, hbg, setRow_heap w b cur _ T _ hg, hnc, hcm, ?_, ?_⟩⟩, fun u hu => ?_⟩, hfp⟩
              · simp [stored_len (cur := cur.toList) (vs := vs) (off := off) (by simpa using hfit), hcs]
              · simpa using hst
              · obtain ⟨j, hj, rfl⟩ := List.getElem_of_mem hu
                have := stored_at hob j
                rw [List.getElem?_eq_getElem hj] at this
                split at this
                · have hm := List.mem_of_getElem? this.symm
                  have key : ∀ u ∈ vs, u.oneCell' = true := by rw [← hvs]; exact oneA_cells hcells d3
                  exact key _ hm
                · exact hone _ (List.mem_of_getElem? this.symm)
            exact hn _ _ _ _ _ (Holds.put (x := .v undef) ⟨hH.reg.turn q1 ((hfp b).2 (by rw [qv]; rfl)) hB, hH.fr, hH.dfr⟩ rfl o.dst) h
        · exact h.elim
      · exact h.elim
    · exact h.elim
  · -- insert
    rename_i t mx kx x ho
    split at h
    · rename_i i ik n u mi hm hk hx hmi
      split at h
      · rename_i es hc
        rw [nth_eq] at hc
        obtain ⟨kt, zz⟩ := mi
        obtain ⟨e, kk, inf, g1, g2, g3, g4⟩ := mapInfo_spec hmi
        rcases insK_sound ⟨_, rfl⟩ es h with h | ⟨h, hfind⟩
        · exact h.elim
        · rw [appK_eq, setK_eq, putK_eq] at h
          obtain ⟨m, q1, q2⟩ := ev_is hH.fr hm
          have e2 : a.eval kx = .int ik n := ev_is hH.fr hk
          have e3 : a.eval x = u := ev_is hH.fr hx
          obtain ⟨rr, es', cl, q3, q4, q5, q6⟩ := hH.reg.mem.blk i _ m hc q1
          have e1 : a.eval mx = .map (some rr) := by rw [← q2]; exact q3
          have hf := Go.MapKept.run_findKey (P := P) (w := w) g2 (hfind es'.toList 0 q5)
          have hexec : (execOp a.eval o).run P w = .ok .skip (w.putObj rr (.map (es'.push { key := .int ik n, val := u, born := cl }) (cl + 1))) := by
            simp [execOp, ho, e1, e2, e3, Instr.mapUpdate, run_underlying g1, Go.MapKept.run_getObj_map q4, Go.MapKept.run_setObj_map _ q4, run_checkKey_int g2, hf]; rfl
          unfold Oper.wp
          rw [hexec]
          have hlt := hH.reg.mem.lt i m rr q1 ((q6 rr).2 rfl)
          refine hn _ _ _ _ _ (Holds.put (x := .v undef) ⟨?_, hH.fr, hH.dfr⟩ rfl o.dst) h
          have R := hH.reg
          refine ⟨⟨fun j c m' hj hm' => ?_, fun j m' g hm' hg => ?_, R.mem.sat.stay fun b hF => World.putObj_heap_other (by have h1 := R.old b hF; have h2 := R.ge i m rr q1 ((q6 rr).2 rfl); omega)⟩, fun j m' hm' => by rw [List.length_set]; exact R.dom j m' hm', R.inj, R.ge, R.old, putObj_below R q1 ((q6 rr).2 rfl) _⟩
          · by_cases hij : i = j
            · subst hij
              rw [q1] at hm'
              cases hm'
              rw [List.getElem?_set_self (R.dom i m q1)] at hj
              cases hj
              exact ⟨rr, _, _, q3, World.putObj_heap_same hlt, by simp [q5], q6⟩
            · rw [List.getElem?_set_ne hij] at hj
              refine (R.mem.blk j c m' hj hm').same (fun g hg => R.mem.lt j m' g hm' hg) fun g hg => World.putObj_heap_other fun e => hij ?_
              subst e
              exact R.inj i j m m' _ q1 hm' ((q6 _).2 rfl) hg
          · rw [World.putObj_size]; exact R.mem.lt j m' g hm' hg
      · exact h.elim
    · exact h.elim
  · -- call
    rename_i c ho
    split at h
    · rename_i t s x happ
      have hget : ∀ {base m z : Nat} {T : TypeId} {xs : List Value} {u : Value}, w.ownsRow base T z u m xs → 0 < m → ∃ g c2, u = .slice (some ⟨g, 0, none⟩) m c2 ∧ ∀ j v, xs[j]? = some v → w.cell? ((⟨g, 0, none⟩ : Addr).add j) = some v := fun {base m z T xs u} hu hm => by
        rcases hu.2 with ⟨_, rfl⟩ | ⟨g, cap, cur, rfl, _⟩
        · omega
        · exact ⟨_, _, rfl, hu.cells (g := g) rfl⟩
      have zero : ∀ {k : Nat} {nm : Nm} {T : TypeId} {z n c2 : Nat} {xs : List Value} {ad : Option Addr}, K (putL o.dst fr (.s k)) own → σ k = some nm → nm.v = a.eval s → (∃ ad n c, a.eval s = .slice ad n c) → own[k]? = some (.row T z n xs) → a.eval x = .slice ad 0 c2 → (∃ q, rowInfo P t = some q) → o.wp P a w next Q := fun {k nm T z n c2 xs ad} hK p1 p2 p3 hc hx hri => by
        obtain ⟨⟨hrow, _⟩, _⟩ := hH.reg.mem.blk k _ nm hc p1
        obtain ⟨hcal, hct, hca⟩ := appArgs_spec happ
        rw [p2] at hrow
        obtain ⟨⟨e', z', by'⟩, hri⟩ := hri
        obtain ⟨hty, i, zv, hi, _⟩ := rowInfo_spec hri
        have hr := run_append_zero (ty := o.type) hty hi hrow ad c2
        have hexec : (execOp a.eval o).run P w = .ok (.value (a.eval s)) w := by
          simp [execOp, ho, resolve, hcal, invoke, builtin, hca, hct, hx, hr]
        unfold Oper.wp
        rw [hexec]
        exact hn _ _ _ _ _ (hH.put (x := .s k) ⟨nm, p1, p2, p3⟩ o.dst) hK
      split at h
      · rename_i k k' hs hx
        split at h
        · rename_i T z n xs T' z' m news hc hc' hkk
          rw [nth_eq] at hc hc'
          split at h
          · rename_i d1 d2
            obtain rfl := of_decide_eq_true d1
            obtain rfl := of_decide_eq_true d2
            obtain ⟨nm', q1, q2, _⟩ := ev_is hH.fr hx
            obtain ⟨nm, p1, p2, _⟩ := ev_is hH.fr hs
            obtain ⟨⟨hu, hone⟩, _⟩ := hH.reg.mem.blk k' _ nm' hc' q1
            rw [q2] at hu
            have hm : 0 < m := by
              unfold appendK at h
              split at h
              · split at h
                · exact h.ob.1
                · exact h.elim
              · exact h.elim
            obtain ⟨g, c2, hv, hcl⟩ := hget hu hm
            exact append_step ho happ hH hc p1 p2.symm hv hu.1 hcl hone h hn
          · exact h.elim
        · exact h.elim
      · rename_i k k' off m hs hx
        split at h
        · rename_i T z n xs T' z' N news qri hc hc' hkk hri
          rw [nth_eq] at hc hc'
          split at h
          · rename_i d1 d2
            obtain rfl := of_decide_eq_true d1
            obtain rfl := of_decide_eq_true d2
            obtain ⟨hob, h⟩ := h
            obtain ⟨nm', ad, c2, q1, q2, q3, q4⟩ := ev_is hH.fr hx
            obtain ⟨nm, p1, p2, p3⟩ := ev_is hH.fr hs
            obtain ⟨⟨hu, hone⟩, _⟩ := hH.reg.mem.blk k' _ nm' hc' q1
            by_cases hm : m = 0
            · have h0 := h.t (by simpa using hm)
              rw [putK_eq] at h0
              subst hm
              exact zero h0 p1 p2 p3 hc q2 ⟨_, hri⟩
            · have h := h.f (by simpa using hm)
              obtain ⟨b, N', c', hv, rfl⟩ := q4 (by omega)
              refine append_step ho happ hH hc p1 p2.symm q2 (partRow_len hu.1 hob) (fun j u hj => ?_) (fun y hy => ?_) h hn
              · have := hu.cells (g := b) (by rw [hv]; rfl) _ u (partRow_at hj)
                rwa [add_at, Nat.zero_add, ← add_at] at this
              · exact hone y (List.mem_of_mem_drop (List.mem_of_mem_take hy))
          · exact h.elim
        · exact h.elim
      · rename_i k ad m c2 hs hx
        split at h
        · rename_i T z n xs qri hc hri
          rw [nth_eq] at hc
          obtain ⟨nm, p1, p2, p3⟩ := ev_is hH.fr hs
          have hx' : a.eval x = .slice ad m c2 := ev_is hH.fr hx
          by_cases hm : m = 0
          · have h0 := h.t (by simpa using hm)
            rw [putK_eq] at h0
            subst hm
            exact zero h0 p1 p2 p3 hc hx' ⟨_, hri⟩
          · have h1 := h.f (by simpa using hm)
            clear h
            obtain ⟨b, off, rfl, h⟩ := h1
            obtain ⟨vs, q1, q2, h⟩ := h
            obtain ⟨hone, h⟩ := h
            exact append_step ho happ hH hc p1 p2.symm hx' q2 (fun j u hj => by rw [add_at]; exact hH.reg.mem.sat.1 _ _ _ (q1 j u hj)) hone h hn
        · exact h.elim
      · rename_i k' hs hx
        split at h
        · rename_i T z m news hc'
          rw [nth_eq] at hc'
          rw [lenK_eq, appK_eq, Nat.add_zero] at h
          obtain ⟨nm', q1, q2, _⟩ := ev_is hH.fr hx
          obtain ⟨⟨hu, hone⟩, _⟩ := hH.reg.mem.blk k' _ nm' hc' q1
          rw [q2] at hu
          have hm : 0 < m := by
            unfold appendK at h
            split at h
            · split at h
              · exact h.ob.1
              · exact h.elim
            · exact h.elim
          obtain ⟨g, c2, hv, hcl⟩ := hget hu hm
          obtain ⟨σ', hle, hnew, hR⟩ := hH.reg.newNil T z
          have hH' : Holds w0 F σ' fr (own ++ [.row T z 0 []]) a w := ⟨hR, hH.fr.grow hle, hH.dfr⟩
          exact append_step (k := own.length) ho happ hH' (by simp) hnew (ev_is hH.fr hs) hv hu.1 hcl hone h hn
        · exact h.elim
      · exact h.elim
    · exact viaVal h
  · exact viaVal h

end Go.Proofs.YtcemohoigdninaaGreatDoor
