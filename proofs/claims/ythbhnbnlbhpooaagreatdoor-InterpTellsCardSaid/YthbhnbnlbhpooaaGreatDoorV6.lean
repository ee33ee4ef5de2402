/- A region that draws its order: whichever order comes, its head (operations that read, compute, call, or lay blocks anew) ends as it does in the text's order. No condition but the closed check that is named. -/
import Derived.Test.YthbhnbnlbhpooaaGreatDoorV4
import Derived.Laws.CopyRow
namespace Go.Proofs.YthbhnbnlbhpooaaGreatDoor
open Go Go.RowKit Go.Sort
set_option linter.unusedVariables false
set_option linter.unusedSimpArgs false

variable {P : Program} {F : Facts} {σ : Sg} {fr : List AV} {own : List Blk} {a : Act} {o : Oper} {w0 w : World}

abbrev SF := Nat → Sg → Value → Prop
def sfOf (fr : List AV) : SF := fun t σ u => ∀ x, fr[t]? = some x → x.Is σ u
def updS (S : SF) (d : Option Tmp) (X : AV) : SF := fun t => if d = some t then X.Is else S t

theorem sf_put {d : Option Tmp} {X : AV} (hd : ∀ t, d = some t → t < fr.length) : sfOf (putL d fr X) = updS (sfOf fr) d X := by
  funext t σ u
  unfold updS
  cases d with
  | none => simp [putL]
  | some d =>
    by_cases h : d = t
    · subst h
      rw [if_pos rfl]
      simp [sfOf, putL, setL_eq, hd d rfl]
    · rw [if_neg (fun e => h (Option.some.inj e))]
      simp [sfOf, putL, setL_eq, List.getElem?_set_ne h]
theorem sf_lit {d : Nat} {b : Bool} {x : AV} (hd : nth fr d = some x) (hx : ∀ σ u, x.Is σ u ↔ u = .bool b) : sfOf (fr.set d (.lit b)) = sfOf fr := by
  rw [nth_eq] at hd
  have hlt := (List.getElem?_eq_some_iff.1 hd).1
  funext t σ u
  by_cases h : d = t
  · subst h
    simp only [sfOf, List.getElem?_set_self hlt, hd, Option.some.injEq, forall_eq', eq_iff_iff]
    exact (hx σ u).symm
  · simp [sfOf, List.getElem?_set_ne h]
theorem fr_of_sf {tmps : Array Value} (hl : fr.length = tmps.size) (h : ∀ t, t < fr.length → sfOf fr t σ (tmps.getD t undef)) : FrIs σ fr tmps :=
  ⟨hl, fun i x hx => by
    have hi := (List.getElem?_eq_some_iff.1 hx).1
    have := h i hi x hx
    have hi' : i < tmps.size := by omega
    refine ⟨tmps[i], by simp [hi'], ?_⟩
    simpa [hi'] using this⟩
theorem sf_of_fr {tmps : Array Value} (h : FrIs σ fr tmps) (t : Nat) : sfOf fr t σ (tmps.getD t undef) := fun x hx => by
  obtain ⟨u, h1, h2⟩ := h.at_ t x hx
  simpa [h1] using h2

/-- A guard, whatever the slots' values are. -/
theorem guardK_sf {ops : List Oper} {yes no : List AV → Prop} (h : guardK ops o fr yes no) : ∃ fr' wd, sfOf fr' = sfOf fr ∧ fr'.length = fr.length ∧ (if wd = true then yes fr' else no fr') ∧
    ∀ (σ : Sg) (a : Act), (∀ t ∈ o.looksAt ops.toArray, sfOf fr t σ (a.tmps.getD t undef)) → Region.wanted o (yielded ops.toArray a.tmps) = wd := by
  unfold guardK at h
  split at h
  · rename_i hg
    exact ⟨fr, true, rfl, rfl, by simpa using h, fun σ a _ => by simp [Region.wanted, hg]⟩
  · rename_i j want hg
    split at h
    · rename_i d hd
      have hslot : (ops.toArray[j]?).bind (·.dst) = some d := by
        unfold guardSlot at hd
        rw [nth_eq] at hd
        split at hd
        · rename_i oj hoj; simp [hoj, hd]
        · cases hd
      have hlook : d ∈ o.looksAt ops.toArray := by
        unfold Oper.looksAt
        simp only [hg, hslot]
        exact List.mem_append_right _ (by simp)
      have hy : ∀ (a : Act) (b : Bool), a.tmps.getD d undef = .bool b → Region.wanted o (yielded ops.toArray a.tmps) = (b == want) := fun a b hb => by
        have hs : a.tmps[d]? = some (.bool b) := by
          rcases Nat.lt_or_ge d a.tmps.size with hlt | hge
          · simp [hlt] at hb ⊢; exact hb
          · simp [Array.getElem?_eq_none hge, undef] at hb
        have : yielded ops.toArray a.tmps j = some b := by
          unfold yielded
          rw [hslot]
          simp only [Option.bind_some, hs]
        simp only [Region.wanted, hg, this]
        cases b <;> cases want <;> rfl
      have sem : ∀ (x : AV) (b : Bool), nth fr d = some x → (∀ σ u, x.Is σ u → u = .bool b) → ∀ (σ : Sg) (a : Act), (∀ t ∈ o.looksAt ops.toArray, sfOf fr t σ (a.tmps.getD t undef)) → Region.wanted o (yielded ops.toArray a.tmps) = (b == want) := fun x b hx hb σ a ha =>
        hy a b (hb σ _ (ha d hlook x (by rw [← nth_eq]; exact hx)))
      split at h
      · rename_i b hx
        have hb : ∀ (σ : Sg) (u : Value), (AV.v (.bool b)).Is σ u → u = .bool b := fun σ u h => h
        have hr := sf_lit (b := b) hx (fun σ u => Iff.rfl)
        have hw := sem _ b hx hb
        have hlen : (fr.set d (.lit b)).length = fr.length := by simp
        simp only [setK_eq] at h
        split at h <;> cases b
        · exact ⟨_, false, hr, hlen, by simpa using h.f rfl, hw⟩
        · exact ⟨_, true, hr, hlen, by simpa using h.t rfl, hw⟩
        · exact ⟨_, true, hr, hlen, by simpa using h.f rfl, hw⟩
        · exact ⟨_, false, hr, hlen, by simpa using h.t rfl, hw⟩
      · rename_i b hx
        have hw := sem _ b hx (fun σ u h => h)
        split at h
        · exact ⟨fr, true, rfl, rfl, by simpa using h, hw⟩
        · exact ⟨fr, true, rfl, rfl, by simpa using h, hw⟩
        · rename_i n1 n2
          refine ⟨fr, false, rfl, rfl, by simpa using h, fun σ a ha => ?_⟩
          rw [hw σ a ha]
          cases b <;> cases want <;> first | rfl | exact absurd rfl (n1 rfl) | exact absurd rfl (n2 rfl) | (exfalso; exact n1 rfl rfl) | (exfalso; exact n2 rfl rfl)
      · rename_i vs hx
        refine ⟨fr, false, rfl, rfl, by simpa using h, fun σ a ha => ?_⟩
        have hx' : fr[d]? = some (.v (.tuple vs)) := by rw [← nth_eq]; exact hx
        have hv : a.tmps.getD d undef = .tuple vs := by have := ha d hlook _ hx'; exact this
        have : yielded ops.toArray a.tmps j = none := by
          unfold yielded
          rw [hslot]
          simp only [Option.bind_some]
          rcases Nat.lt_or_ge d a.tmps.size with hlt | hge
          · simp [hlt] at hv ⊢; rw [hv]
          · simp [Array.getElem?_eq_none hge]
        simp [Region.wanted, hg, this]
      · exact h.elim
    · rename_i hd
      refine ⟨fr, false, rfl, rfl, by simpa using h, fun σ a _ => ?_⟩
      have : yielded ops.toArray a.tmps j = none := by
        unfold yielded
        unfold guardSlot at hd
        rw [nth_eq] at hd
        split at hd
        · rename_i oj hoj; simp [hoj, hd]
        · rename_i hoj; simp [hoj]
      simp [Region.wanted, hg, this]

/-- Operations that may come in any order. -/
def freeOp (o : Oper) : Bool :=
  match o.op with
  | .store _ _ _ => false
  | .insert _ _ _ _ => false
  | .call c => (appArgs c).isNone
  | _ => true

/-- What an operation of the head does: the value that it leaves; whether it is carried out; the things that it lays, and the first one's name. -/
structure Ent where
  X : AV
  wd : Bool
  n : Nat
  bs : List Blk

def GoodE (P : Program) (F : Facts) (ops : List Oper) (o : Oper) (S : SF) (E : Ent) (ownF : List Blk) : Prop :=
  ∀ (base : Nat) (σ : Sg) (a : Act) (W : World), base ≤ W.heap.size → Mem base F σ ownF W → (∀ t ∈ o.looksAt ops.toArray, S t σ (a.tmps.getD t undef)) →
    Region.wanted o (yielded ops.toArray a.tmps) = E.wd ∧ match E.wd with
      | false => E.X = .v undef ∧ E.bs = []
      | true => DoesAt P base F σ E.n E.X E.bs W ((execOp a.eval o).run P W)

theorem Mem.pre {base : Nat} {l m : List Blk} (h : Mem base F σ m w) (hp : Pre l m) : Mem base F σ l w := ⟨fun k b v hk hv => h.blk k b v (hp k b hk) hv, h.lt, h.sat⟩

theorem looks_op {ops : List Oper} {S : SF} {a : Act} (hS : S = sfOf fr) (h : ∀ t ∈ o.looksAt ops.toArray, S t σ (a.tmps.getD t undef)) : OpIs σ fr a o := by
  intro x hx y hy
  cases x with
  | tmp t =>
    have ht : t ∈ o.looksAt ops.toArray := by
      unfold Oper.looksAt
      exact List.mem_append_left _ (List.mem_filterMap.2 ⟨.tmp t, by simpa using hx, rfl⟩)
    have := h t ht
    rw [hS] at this
    simp only [ev, nth_eq] at hy
    exact this y hy
  | const v => cases v <;> simp only [ev, Option.some.injEq] at hy <;> subst hy <;> rfl
  | global g => simp only [ev, Option.some.injEq] at hy; subst hy; rfl
  | func f => simp only [ev, Option.some.injEq] at hy; subst hy; rfl

theorem opK_free {K : List AV → List Blk → Prop} (hf : freeOp o = true) (h : opK P F o fr own K) :
    ∃ X bs, ValS P F own fr o (fun x b => x = X ∧ b = bs) ∧ K (putL o.dst fr X) (own ++ bs) := by
  have val : (valK P F o fr own fun x bs => catBK own bs fun own => putK o.dst fr x fun fr => K fr own) → ∃ X bs, ValS P F own fr o (fun x b => x = X ∧ b = bs) ∧ K (putL o.dst fr X) (own ++ bs) := fun h => by
    obtain ⟨X, bs, hX, hy⟩ := valK_sound h
    rw [catBK_eq, putK_eq] at hX
    exact ⟨X, bs, ⟨X, bs, ⟨rfl, rfl⟩, hy⟩, hX⟩
  unfold opK at h
  split at h
  · rename_i t x y ho
    simp [freeOp, ho] at hf
  · rename_i t m k x ho
    simp [freeOp, ho] at hf
  · rename_i c ho
    simp only [freeOp, ho] at hf
    split at h
    · rename_i hap; rw [hap] at hf; cases hf
    · exact val h
  · exact val h

/-- The entries of a head, in the text's order. -/
theorem extract {ops : List Oper} {K : List AV → List Blk → Prop} {rest : List Oper} : ∀ (l : List Oper) (fr : List AV) (own : List Blk), l.all freeOp = true → (∀ o ∈ l, ∀ t, o.dst = some t → t < fr.length) → opsK P F ops (l ++ rest) fr own K →
    ∃ (E : List Ent) (frF : List AV) (ownF : List Blk) (S : Nat → SF), E.length = l.length ∧ Pre own ownF ∧ opsK P F ops rest frF ownF K ∧ frF.length = fr.length ∧ S 0 = sfOf fr ∧ S l.length = sfOf frF ∧
      (∀ (j : Nat) (o : Oper) (e : Ent), l[j]? = some o → E[j]? = some e → S (j + 1) = updS (S j) o.dst e.X ∧ (∀ ownG, Pre ownF ownG → GoodE P F ops o (S j) e ownG)) ∧
      (∀ (j : Nat) (e : Ent), E[j]? = some e → own.length ≤ e.n ∧ ∀ i b, e.bs[i]? = some b → ownF[e.n + i]? = some b) ∧
      (∀ (i j : Nat) (e e' : Ent), i < j → E[i]? = some e → E[j]? = some e' → e.n + e.bs.length ≤ e'.n)
  | [], fr, own, _, _, h => ⟨[], fr, own, fun _ => sfOf fr, rfl, .refl _, h, rfl, rfl, rfl, fun j o e hj => by simp at hj, fun j e hj => by simp at hj, fun i j e e' _ hi => by simp at hi⟩
  | o :: l, fr, own, hc, hd, h => by
    simp only [List.all_cons, Bool.and_eq_true] at hc
    simp only [List.cons_append] at h
    unfold opsK at h
    obtain ⟨fr1, wd, hsf, hlen, h, hwan⟩ := guardK_sf h
    have hd0 : ∀ t, o.dst = some t → t < fr1.length := fun t ht => by rw [hlen]; exact hd o (by simp) t ht
    -- what stands behind the first operation
    have main : ∃ (e : Ent), e.n = own.length ∧ opsK P F ops (l ++ rest) (putL o.dst fr1 e.X) (own ++ e.bs) K ∧ (∀ ownG, Pre (own ++ e.bs) ownG → GoodE P F ops o (sfOf fr) e ownG) := by
      cases wd with
      | false =>
        simp only [Bool.false_eq_true, if_false, putK_eq] at h
        exact ⟨⟨.v undef, false, own.length, []⟩, rfl, by simpa using h, fun ownG _ base σ a W _ hM hS => ⟨hwan σ a hS, rfl, rfl⟩⟩
      | true =>
        simp only [if_true] at h
        obtain ⟨X, bs, ⟨x, b, ⟨rfl, rfl⟩, hy⟩, hK⟩ := opK_free hc.1 h
        exact ⟨⟨x, true, own.length, b⟩, rfl, hK, fun ownG hp base σ a W hb hM hS => ⟨hwan σ a hS, hy base σ a (looks_op hsf.symm hS) W hb (hM.pre ((Pre.app own b).trans hp))⟩⟩
    obtain ⟨e, hen, hK1, hgood⟩ := main
    have hput : (putL o.dst fr1 e.X).length = fr.length := by cases o.dst <;> simp [putL, setL_eq, hlen]
    obtain ⟨E, frF, ownF, S, q1, q2, q3, q4, q5, q6, q7, q8, q9⟩ := extract l (putL o.dst fr1 e.X) (own ++ e.bs) hc.2 (fun o' ho' t ht => by rw [hput]; exact hd o' (by simp [ho']) t ht) hK1
    refine ⟨e :: E, frF, ownF, fun n => match n with | 0 => sfOf fr | n + 1 => S n, by simp [q1], (Pre.app own e.bs).trans q2, q3, by rw [q4, hput], rfl, by simpa using q6, fun j o' e' hj he => ?_, fun j e' hj => ?_, fun i j e1 e2 hij hi hj => ?_⟩
    · cases j with
      | zero =>
        simp at hj he
        subst hj
        subst he
        exact ⟨by show S 0 = _; rw [q5, sf_put hd0, hsf], fun ownG hp => hgood ownG (q2.trans hp)⟩
      | succ j => exact q7 j o' e' (by simpa using hj) (by simpa using he)
    · cases j with
      | zero =>
        simp at hj
        subst hj
        exact ⟨by omega, fun i b hi => q2 _ b (by rw [hen, List.getElem?_append_right (by omega), Nat.add_sub_cancel_left]; exact hi)⟩
      | succ j =>
        obtain ⟨k1, k2⟩ := q8 j e' (by simpa using hj)
        simp at k1
        exact ⟨by omega, k2⟩
    · cases j with
      | zero => omega
      | succ j =>
        cases i with
        | zero =>
          simp at hi
          subst hi
          have k1 := (q8 j e2 (by simpa using hj)).1
          simp at k1
          omega
        | succ i => exact q9 i j e1 e2 (by omega) (by simpa using hi) (by simpa using hj)

def entX (E : List Ent) (n : Nat) : AV :=
  match E[n]? with
  | some e => e.X
  | none => .junk
/-- What is in the slots when these operations of the head have been carried out: the last of them that writes a slot fills it. -/
def SFof (arr : Array Oper) (E : List Ent) (S0 : SF) (L : Nat → Bool) : Nat → SF
  | 0 => S0
  | n + 1 => fun t => if L n = true ∧ (arr[n]?).bind (·.dst) = some t then (entX E n).Is else SFof arr E S0 L n t

section
variable {arr : Array Oper} {E : List Ent} {S0 : SF} {L L' : Nat → Bool} {t : Nat}
theorem SFof_same : ∀ (n : Nat), (∀ i, i < n → (arr[i]?).bind (·.dst) = some t → L i = L' i) → SFof arr E S0 L n t = SFof arr E S0 L' n t
  | 0, _ => rfl
  | n + 1, h => by
    unfold SFof
    by_cases hd : (arr[n]?).bind (·.dst) = some t
    · rw [h n (by omega) hd, SFof_same n fun i hi => h i (by omega)]
    · rw [if_neg (fun e => hd e.2), if_neg (fun e => hd e.2), SFof_same n fun i hi => h i (by omega)]
theorem SFof_cut (m : Nat) : ∀ (n : Nat), m ≤ n → (∀ i, m ≤ i → i < n → (arr[i]?).bind (·.dst) = some t → L i = false) → SFof arr E S0 L n t = SFof arr E S0 L m t
  | 0, hm, _ => by rw [Nat.le_zero.1 hm]
  | n + 1, hm, h => by
    by_cases he : m = n + 1
    · rw [he]
    · have ih := SFof_cut m n (by omega) fun i h1 h2 => h i h1 (by omega)
      rw [← ih]
      conv => lhs; unfold SFof
      rw [if_neg]
      rintro ⟨h1, h2⟩
      rw [h n (by omega) (by omega) h2] at h1
      cases h1
theorem SFof_text {S : Nat → SF} {l : List Oper} (h0 : S 0 = S0) (hl : ∀ j o e, l[j]? = some o → E[j]? = some e → S (j + 1) = updS (S j) o.dst e.X) (ha : ∀ j, j < l.length → arr[j]? = l[j]?) (hE : E.length = l.length) : ∀ (n : Nat), n ≤ l.length → SFof arr E S0 (fun _ => true) n = S n
  | 0, _ => h0.symm
  | n + 1, hn => by
    have hn' : n < l.length := by omega
    have h1 := hl n l[n] E[n] (List.getElem?_eq_getElem hn') (List.getElem?_eq_getElem (by omega))
    rw [h1, ← SFof_text h0 hl ha hE n (by omega)]
    funext t
    have hx : entX E n = E[n].X := by unfold entX; rw [List.getElem?_eq_getElem (show n < E.length by omega)]
    show (if (true = true ∧ (arr[n]?).bind (·.dst) = some t) then (entX E n).Is else SFof arr E S0 (fun _ => true) n t) = (if l[n].dst = some t then E[n].X.Is else SFof arr E S0 (fun _ => true) n t)
    rw [ha n hn', List.getElem?_eq_getElem hn', hx]
    simp
theorem SFof_grow (hS : ∀ t σ σ' u, SgLe σ σ' → S0 t σ u → S0 t σ' u) {σ σ' : Sg} {u : Value} (hs : SgLe σ σ') : ∀ (n : Nat), SFof arr E S0 L n t σ u → SFof arr E S0 L n t σ' u
  | 0, h => hS t σ σ' u hs h
  | n + 1, h => by
    unfold SFof at h ⊢
    split
    · rename_i hc; rw [if_pos hc] at h; exact AV.Is.grow h hs
    · rename_i hc; rw [if_neg hc] at h; exact SFof_grow hS hs n h
end
theorem sf_grow : ∀ t σ σ' u, SgLe σ σ' → sfOf fr t σ u → sfOf fr t σ' u := fun t σ σ' u hs h x hx => (h x hx).grow hs

structure InvL (arr : Array Oper) (E : List Ent) (S0 : SF) (h N : Nat) (w0 : World) (F : Facts) (ownF : List Blk) (listed : Array Bool) (a : Act) (W : World) (σ : Sg) : Prop where
  reg : Reg w0 F σ ownF W
  slots : ∀ t, SFof arr E S0 (fun i => listed.getD i false) h t σ (a.tmps.getD t undef)
  size : a.tmps.size = N
  dfr : a.defers = []
  lab : ∀ (i : Nat) (e : Ent) (q : Nat), E[i]? = some e → q < e.bs.length → listed.getD i false = false → σ (e.n + q) = none

/-- Two operations of the head, of which the one need not wait for the other, have nothing to do with each other. -/
def pairB (arr : Array Oper) (h : Nat) : Bool := (List.range h).all fun j => (List.range j).all fun i => Region.waitsFor .any arr j i || (match arr[i]?, arr[j]? with | some oi, some oj => oi.apart arr oj | _, _ => false)
def backB (arr : Array Oper) (h : Nat) : Bool := (List.range h).all fun j => match arr[j]? with | some o => o.after.all (fun e => !Region.binds .any e || decide (e.on < j)) | none => false

theorem pairB_spec {arr : Array Oper} {h i j : Nat} {oi oj : Oper} (hp : pairB arr h = true) (hij : i < j) (hj : j < h) (hoi : arr[i]? = some oi) (hoj : arr[j]? = some oj) : Region.waitsFor .any arr j i = true ∨ oi.apart arr oj = true := by
  have h1 := List.all_eq_true.1 (List.all_eq_true.1 hp j (List.mem_range.2 hj)) i (List.mem_range.2 hij)
  simp only [hoi, hoj, Bool.or_eq_true] at h1
  exact h1

section
variable {arr : Array Oper} {E : List Ent} {S0 : SF} {h N : Nat} {ownF : List Blk} {listed : Array Bool} {W : World}

theorem waits_listed {i j : Nat} (hj : j ∈ Region.ready .any arr listed) (hw : Region.waitsFor .any arr j i = true) : listed.getD i false = true := by
  obtain ⟨_, oj, hoj, hall⟩ := mem_ready.1 hj
  obtain ⟨oj', hoj', e, he, hb, hon⟩ := Region.waitsFor_spec hw
  obtain rfl : oj' = oj := Option.some.inj (hoj'.symm.trans hoj)
  rw [← hon]; exact hall e he hb

/-- Whoever writes a slot that a ready operation looks at, or writes, has been carried out if it stands ahead of it, and has not if it stands behind it. -/
theorem writers {j t : Nat} {oj : Oper} (hp : pairB arr h = true) (inv : HeadInv .any arr h listed) (hj : j ∈ Region.ready .any arr listed) (hjh : j < h) (hoj : arr[j]? = some oj) (ht : t ∈ oj.looksAt arr ∨ oj.dst = some t) :
    (∀ i, i < j → (arr[i]?).bind (·.dst) = some t → listed.getD i false = true) ∧ (∀ i, j < i → i < h → (arr[i]?).bind (·.dst) = some t → listed.getD i false = false) := by
  have hun := getD_both (mem_ready.1 hj).1
  refine ⟨fun i hi hd => ?_, fun i hi hih hd => ?_⟩
  · cases hoi : arr[i]? with
    | none => simp [hoi] at hd
    | some oi =>
      simp only [hoi, Option.bind_some] at hd
      rcases pairB_spec hp hi hjh hoi hoj with hw | hap
      · exact waits_listed hj hw
      · obtain ⟨h1, h2, h3⟩ := Oper.apart_spec hap
        rcases ht with ht | ht
        · exact absurd ht (h1 t hd)
        · exact absurd ht (h2 t hd)
  · cases hoi : arr[i]? with
    | none => simp [hoi] at hd
    | some oi =>
      simp only [hoi, Option.bind_some] at hd
      rcases pairB_spec hp hi hih hoj hoi with hw | hap
      · obtain ⟨oi', hoi', e, he, hb, hon⟩ := Region.waitsFor_spec hw
        obtain rfl : oi' = oi := Option.some.inj (hoi'.symm.trans hoi)
        cases hl : listed.getD i false with
        | false => rfl
        | true =>
          have := inv.closed i oi' hoi hl e he hb
          rw [hon, hun] at this
          cases this
      · obtain ⟨h1, h2, h3⟩ := Oper.apart_spec hap
        rcases ht with ht | ht
        · exact absurd ht (h3 t hd)
        · exact absurd hd (h2 t ht)

theorem SFof_ready {j t : Nat} {oj : Oper} (hp : pairB arr h = true) (inv : HeadInv .any arr h listed) (hj : j ∈ Region.ready .any arr listed) (hjh : j < h) (hoj : arr[j]? = some oj) (ht : t ∈ oj.looksAt arr) :
    SFof arr E S0 (fun i => listed.getD i false) h t = SFof arr E S0 (fun _ => true) j t := by
  obtain ⟨w1, w2⟩ := writers hp inv hj hjh hoj (.inl ht)
  have hun := getD_both (mem_ready.1 hj).1
  rw [SFof_cut j h (by omega) fun i h1 h2 hd => ?_]
  · exact SFof_same j fun i hi hd => w1 i hi hd
  · by_cases he : j = i
    · subst he; exact hun
    · exact w2 i (by omega) h2 hd

theorem SFof_after {j : Nat} {oj : Oper} (hp : pairB arr h = true) (inv : HeadInv .any arr h listed) (hj : j ∈ Region.ready .any arr listed) (hjh : j < h) (hoj : arr[j]? = some oj) (t : Nat) :
    SFof arr E S0 (fun i => (listed.setIfInBounds j true).getD i false) h t = if oj.dst = some t then (entX E j).Is else SFof arr E S0 (fun i => listed.getD i false) h t := by
  by_cases hd : oj.dst = some t
  · rw [if_pos hd]
    obtain ⟨w1, w2⟩ := writers hp inv hj hjh hoj (.inr hd)
    rw [SFof_cut (j + 1) h (by omega) fun i h1 h2 hdi => by rw [getD_set_ne false (by omega)]; exact w2 i (by omega) h2 hdi]
    unfold SFof
    have hlt : j < listed.size := by rw [inv.size]; exact (Array.getElem?_eq_some_iff.1 hoj).1
    rw [if_pos ⟨by simp [hlt], by simp [hoj, hd]⟩]
  · rw [if_neg hd]
    refine SFof_same h fun i hi hdi => ?_
    by_cases he : j = i
    · subst he; simp [hoj] at hdi; exact absurd hdi hd
    · rw [getD_set_ne false he]

theorem inv_put {E : List Ent} {S0 : SF} {N j : Nat} {oj : Oper} {e : Ent} {own1 own2 : List Blk} {W W' : World} {σ' : Sg} {u : Value} (hp : pairB arr h = true) (inv : HeadInv .any arr h listed) (hj : j ∈ Region.ready .any arr listed) (hjh : j < h) (hoj : arr[j]? = some oj) (he : E[j]? = some e)
    (hS0 : ∀ t σ σ' u, SgLe σ σ' → S0 t σ u → S0 t σ' u) (hd : ∀ t, oj.dst = some t → t < N) (I : InvL arr E S0 h N w0 F own1 listed a W σ) (hs : SgLe σ σ') (hu : e.X.Is σ' u) (hR : Reg w0 F σ' own2 W')
    (hl : ∀ (i : Nat) (e' : Ent) (q : Nat), E[i]? = some e' → q < e'.bs.length → i ≠ j → listed.getD i false = false → σ' (e'.n + q) = none) : InvL arr E S0 h N w0 F own2 (listed.setIfInBounds j true) (a.put oj.dst u) W' σ' := by
  have hX : entX E j = e.X := by unfold entX; rw [he]
  refine ⟨hR, fun t => ?_, by rw [put_size]; exact I.size, by cases oj.dst <;> exact I.dfr, fun i e' q hi hb hli => ?_⟩
  · rw [SFof_after hp inv hj hjh hoj t]
    by_cases hdt : oj.dst = some t
    · rw [if_pos hdt, hX, hdt]
      have hlt : t < a.tmps.size := by rw [I.size]; exact hd t hdt
      have := put_self (a := a) (v := u) hlt
      simpa [this] using hu
    · rw [if_neg hdt]
      have := put_other (a := a) (x := oj.dst) (v := u) (s := t) hdt
      have e2 : (a.put oj.dst u).tmps.getD t undef = a.tmps.getD t undef := by simp [this]
      rw [e2]
      exact SFof_grow hS0 hs h (I.slots t)
  · by_cases hij : i = j
    · subst hij
      have hlt : i < listed.size := by rw [inv.size]; exact (Array.getElem?_eq_some_iff.1 hoj).1
      simp [hlt] at hli
    · exact hl i e' q hi hb hij (by rwa [getD_set_ne false (Ne.symm hij)] at hli)

/-- One step: a ready operation of the head is carried out. -/
theorem inv_step {ops : List Oper} {j : Nat} {oj : Oper} {e : Ent} {Q : Exit → Act → World → Prop} {K : Act → World → Prop} (harr : arr = ops.toArray) (hp : pairB arr h = true) (inv : HeadInv .any arr h listed) (hj : j ∈ Region.ready .any arr listed) (hjh : j < h) (hoj : arr[j]? = some oj) (he : E[j]? = some e)
    (hg : GoodE P F ops oj (SFof arr E S0 (fun _ => true) j) e ownF) (hS0 : ∀ t σ σ' u, SgLe σ σ' → S0 t σ u → S0 t σ' u) (hd : ∀ t, oj.dst = some t → t < N) (hlab : ∀ (i : Nat) (b : Blk), e.bs[i]? = some b → ownF[e.n + i]? = some b)
    (huniq : ∀ (i : Nat) (e' : Ent), i ≠ j → E[i]? = some e' → e'.n + e'.bs.length ≤ e.n ∨ e.n + e.bs.length ≤ e'.n) (I : InvL arr E S0 h N w0 F ownF listed a W σ)
    (hK : ∀ a' W' σ', SgLe σ σ' → InvL arr E S0 h N w0 F ownF (listed.setIfInBounds j true) a' W' σ' → K a' W') : wpOp P arr Q j K a W := by
  have hun := getD_both (mem_ready.1 hj).1
  obtain ⟨hwan, hres⟩ := hg w0.heap.size σ a W I.reg.below.size I.reg.mem fun t ht => by
    have := I.slots t
    rw [SFof_ready hp inv hj hjh hoj (by rw [harr]; exact ht)] at this
    exact this
  rw [← harr] at hwan
  unfold wpOp
  simp only [hoj]
  rw [hwan]
  cases hw : e.wd with
  | false =>
    rw [hw] at hres
    simp only [Bool.false_eq_true, if_false]
    exact hK _ _ σ (.refl _) (inv_put hp inv hj hjh hoj he hS0 hd I (.refl _) (by rw [hres.1]; rfl) I.reg fun i e' q hi hq _ hli => I.lab i e' q hi hq hli)
  | true =>
    rw [hw] at hres
    simp only [if_true]
    left
    refine does_step hres fun u W' hL => ?_
    obtain ⟨σ', hs, hR, hX, hk⟩ := I.reg.lay (fun i b hi => hlab i b hi) (fun i hi => I.lab j e i he hi hun) hL
    refine hK _ _ σ' hs (inv_put hp inv hj hjh hoj he hS0 hd I hs hX hR fun i e' q hi hq hij hli => ?_)
    rw [hk _ (by rcases huniq i e' hij hi with h | h <;> omega)]
    exact I.lab i e' q hi hq hli

end

/-! What the evaluation says of a function's body holds of the function's calls. No condition but the closed checks that are named. -/
section
variable {P : Program} {F : Facts} {σ : Sg} {fr : List AV} {own : List Blk} {a : Act} {o : Oper} {w0 w : World} {arr : Array Oper} {h : Nat} {listed : Array Bool}

/-- How many of the head's operations are still to come. -/
def cnt (listed : Array Bool) : Nat → Nat
  | 0 => 0
  | n + 1 => cnt listed n + if listed.getD n false = true then 0 else 1
theorem cnt_set {j : Nat} (hj : listed.getD j false = false) (hs : j < listed.size) : ∀ n, cnt listed n = cnt (listed.setIfInBounds j true) n + if j < n then 1 else 0
  | 0 => by simp [cnt]
  | n + 1 => by
    unfold cnt
    rw [cnt_set hj hs n]
    by_cases he : j = n
    · subst he
      have e1 : (listed.setIfInBounds j true).getD j false = true := by simp [hs]
      rw [hj, e1]
      simp
    · rw [getD_set_ne false he]
      have e2 : (if j < n then 1 else 0) = (if j < n + 1 then 1 else 0) := by split <;> split <;> omega
      rw [e2]
      omega
theorem cnt_zero : ∀ n, cnt listed n = 0 → ∀ i, i < n → listed.getD i false = true
  | n + 1, h, i, hi => by
    unfold cnt at h
    by_cases he : i = n
    · subst he
      cases hl : listed.getD i false with
      | true => rfl
      | false => rw [hl] at h; simp at h
    · exact cnt_zero n (by omega) i (by omega)
theorem cnt_first : ∀ n, 0 < cnt listed n → ∃ i, i < n ∧ listed.getD i false = false ∧ ∀ k, k < i → listed.getD k false = true
  | n + 1, h => by
    by_cases h0 : 0 < cnt listed n
    · obtain ⟨i, h1, h2, h3⟩ := cnt_first n h0
      exact ⟨i, by omega, h2, h3⟩
    · have hz := cnt_zero (listed := listed) n (by omega)
      unfold cnt at h
      cases hl : listed.getD n false with
      | true => rw [hl] at h; simp at h; omega
      | false => exact ⟨n, by omega, hl, hz⟩

def canon (m h : Nat) : Array Bool := ((List.range m).map fun i => decide (i < h)).toArray
theorem canon_of (inv : HeadInv .any arr h listed) (hall : ∀ i, i < h → listed.getD i false = true) : listed = canon arr.size h := by
  have hs := inv.size
  apply Array.ext_getElem?
  intro i
  by_cases hi : i < arr.size
  · have hc : (canon arr.size h)[i]? = some (decide (i < h)) := by simp [canon, hi]
    rw [hc]
    have hi' : i < listed.size := by omega
    by_cases hih : i < h
    · have := hall i hih
      simp [hi'] at this
      simp [hi', this, hih]
    · have := inv.tail i (by omega) hi
      simp [hi'] at this
      simp [hi', this, hih]
  · rw [Array.getElem?_eq_none (by omega), Array.getElem?_eq_none (by simp [canon]; omega)]

theorem any_inv {ops : List Oper} {E : List Ent} {S0 : SF} {N g : Nat} {ownF : List Blk} {Q : Exit → Act → World → Prop} (harr : arr = ops.toArray) (hp : pairB arr h = true) (hb : backB arr h = true) (hlen : E.length = h)
    (htail : h = arr.size ∨ (h < arr.size ∧ Region.sinkB .any arr h = true ∧ Region.chainB .any arr h = true))
    (hS0 : ∀ t σ σ' u, SgLe σ σ' → S0 t σ u → S0 t σ' u) (hd : ∀ j oj t, j < h → arr[j]? = some oj → oj.dst = some t → t < N)
    (hg : ∀ j oj e, arr[j]? = some oj → E[j]? = some e → GoodE P F ops oj (SFof arr E S0 (fun _ => true) j) e ownF) (hlab : ∀ (j : Nat) (e : Ent), E[j]? = some e → ∀ (i : Nat) (b : Blk), e.bs[i]? = some b → ownF[e.n + i]? = some b)
    (huniq : ∀ (i j : Nat) (e e' : Ent), i < j → E[i]? = some e → E[j]? = some e' → e.n + e.bs.length ≤ e'.n)
    (hend : ∀ listed a W σ, HeadInv .any arr h listed → (∀ i, i < h → listed.getD i false = true) → InvL arr E S0 h N w0 F ownF listed a W σ → wpAny P .any arr Q g listed a W) :
    ∀ (f : Nat) (listed : Array Bool) (a : Act) (W : World) (σ : Sg), HeadInv .any arr h listed → cnt listed h = f → InvL arr E S0 h N w0 F ownF listed a W σ → wpAny P .any arr Q (f + g) listed a W := by
  have hle : h ≤ arr.size := by rcases htail with e | e <;> omega
  intro f
  induction f with
  | zero => intro listed a W σ inv hc I; rw [Nat.zero_add]; exact hend _ _ _ σ inv (cnt_zero h hc) I
  | succ f ih =>
    intro listed a W σ inv hc I
    rw [Nat.succ_add]
    obtain ⟨i, hi, hun, hbef⟩ := cnt_first h (show 0 < cnt listed h by omega)
    have hri : i ∈ Region.ready .any arr listed := by
      have hia : i < arr.size := by omega
      refine mem_ready.2 ⟨getD_in (by rw [inv.size]; exact hia) hun, arr[i], by simp [hia], fun e he hbe => ?_⟩
      have h1 := List.all_eq_true.1 hb i (List.mem_range.2 hi)
      rw [Array.getElem?_eq_getElem hia] at h1
      simp only at h1
      have h2 := Array.all_eq_true_iff_forall_mem.1 h1 e he
      simp only [hbe, Bool.not_true, Bool.false_or, decide_eq_true_eq] at h2
      exact hbef _ h2
    refine ⟨fun h0 => (by rw [h0] at hri; cases hri), fun j hj => ?_⟩
    obtain ⟨hju, oj, hoj, _⟩ := mem_ready.1 hj
    have hja := (Array.getElem?_eq_some_iff.1 hoj).1
    have hjh : j < h := by
      rcases htail with e | ⟨e1, e2, e3⟩
      · omega
      · exact Nat.lt_of_not_le fun hle' => tail_waits e2 e3 e1 inv _ i rfl hi (getD_in (by rw [inv.size]; omega) hun) j hle' hj
    have hje : E[j]? = some E[j] := List.getElem?_eq_getElem (by omega)
    refine inv_step harr hp inv hj hjh hoj hje (hg j oj _ hoj hje) hS0 (fun t ht => hd j oj t hjh hoj ht) (fun i b hb => hlab j _ hje i b hb) (fun i e' hij hi => by
      rcases Nat.lt_or_gt_of_ne hij with hlt | hlt
      · exact .inl (huniq i j e' _ hlt hi hje)
      · exact .inr (huniq j i _ e' hlt hje hi)) I fun a' W' σ' _ I' => ?_
    refine ih _ _ _ σ' (inv.set hj hjh) ?_ I'
    have := cnt_set (getD_both hju) (by rw [inv.size]; exact hja) h
    rw [if_pos hjh] at this
    omega

/-- the closed check of a region that draws its order: its first h operations come in any order, the rest in one -/
def freeAt (ops : List Oper) (h : Nat) : Bool :=
  (ops.take h).all freeOp && pairB ops.toArray h && backB ops.toArray h && (decide (h = ops.length) || (decide (h < ops.length) && Region.sinkB .any ops.toArray h && Region.chainB .any ops.toArray h)) &&
    Region.seqB .any ops.toArray (ops.length - h) h (canon ops.length h)
def drawCheck (ops : List Oper) : Bool := (List.range (ops.length + 1)).any fun k => decide (k ≤ ops.length) && freeAt ops (ops.length - k)
def slotsIn (ops : List Oper) (fr : List AV) : Bool :=
  ops.all fun o => match o.dst with | some d => (nth fr d).isSome | none => true
def drawK (P : Program) (F : Facts) (ops : List Oper) (fr : List AV) (own : List Blk) (K : List AV → List Blk → Prop) : Prop :=
  Ob (drawCheck ops = true) <| match slotsIn ops fr with
    | true => opsK P F ops ops fr own K
    | false => False

theorem guardK_sound {ops : List Oper} {yes no : List AV → Prop} (h : guardK ops o fr yes no) (hf : FrIs σ fr a.tmps) :
    (∃ fr', FrIs σ fr' a.tmps ∧ Region.wanted o (yielded ops.toArray a.tmps) = true ∧ yes fr') ∨ (∃ fr', FrIs σ fr' a.tmps ∧ Region.wanted o (yielded ops.toArray a.tmps) = false ∧ no fr') := by
  obtain ⟨fr', wd, hsf, hlen, h, hw⟩ := guardK_sf h
  have hf' : FrIs σ fr' a.tmps := fr_of_sf (by rw [hlen]; exact hf.len) fun t _ => by rw [hsf]; exact sf_of_fr hf t
  have hw' := hw σ a fun t _ => sf_of_fr hf t
  cases wd with
  | true => exact .inl ⟨fr', hf', hw', by simpa using h⟩
  | false => exact .inr ⟨fr', hf', hw', by simpa using h⟩

theorem opsK_sound {ops : List Oper} {Q : Exit → Act → World → Prop} {K : List AV → List Blk → Prop} : ∀ (l : List Oper) (σ : Sg) (fr : List AV) (own : List Blk) (a : Act) (w : World), opsK P F ops l fr own K → Holds w0 F σ fr own a w →
    (∀ σ' fr' own' a' w', Holds w0 F σ' fr' own' a' w' → K fr' own' → Q .normal a' w') → wpList P ops.toArray Q l a w
  | [], σ, fr, own, a, w, h, hH, hn => hn _ _ _ _ _ hH h
  | o :: l, σ, fr, own, a, w, h, hH, hn => by
    unfold opsK at h
    unfold wpList
    rcases guardK_sound h hH.fr with ⟨fr', hf, hw, h⟩ | ⟨fr', hf, hw, h⟩
    · rw [if_pos hw]
      exact .inl (opK_sound h (hH.fr' hf) fun σ' fr' own' a' w' hH' hK => opsK_sound l _ _ _ _ _ hK hH' hn)
    · rw [if_neg (by rw [hw]; simp)]
      rw [putK_eq] at h
      exact opsK_sound l _ _ _ _ _ h ((hH.fr' hf).put (x := .v undef) rfl o.dst) hn

theorem draw_sound {ops : List Oper} {id : Nat} {Q : Exit → Act → World → Prop} {K : List AV → List Blk → Prop} (hm : P.follows .mixedOrders = true) (h : drawK P F ops fr own K) (hH : Holds w0 F σ fr own a w)
    (hn : ∀ σ' fr' own' a' w', Holds w0 F σ' fr' own' a' w' → K fr' own' → Q .normal a' w') : (Code.region id ops.toArray true).wp P Q a w := by
  obtain ⟨hck, h⟩ := h
  split at h
  · rename_i hsl
    simp only [drawCheck, List.any_eq_true, Bool.and_eq_true, decide_eq_true_eq] at hck
    obtain ⟨k, _, hkl, hck⟩ := hck
    generalize ops.length - k = n at hck
    simp only [freeAt, Bool.and_eq_true, Bool.or_eq_true, decide_eq_true_eq] at hck
    obtain ⟨⟨⟨⟨hfree, hp⟩, hb⟩, htail⟩, hseq⟩ := hck
    have hnl : n ≤ ops.length := by rcases htail with e | e <;> omega
    have htl : (ops.take n).length = n := by simp; omega
    have hdl : (ops.drop n).length = ops.length - n := by simp
    have hslot : ∀ o ∈ ops, ∀ t, o.dst = some t → t < fr.length := fun o ho t ht => by
      have := List.all_eq_true.1 hsl o ho
      simp only [ht, nth_eq] at this
      obtain ⟨x, hx⟩ := Option.isSome_iff_exists.1 this
      exact (List.getElem?_eq_some_iff.1 hx).1
    have h' : opsK P F ops (ops.take n ++ ops.drop n) fr own K := by rw [List.take_append_drop]; exact h
    obtain ⟨E, frF, ownF, S, q1, q2, q3, q4, q5, q6, q7, q8, q9⟩ := extract (ops.take n) fr own hfree (fun o ho => hslot o (List.mem_of_mem_take ho)) h'
    rw [htl] at q1 q6
    have hget : ∀ j, j < n → ops.toArray[j]? = (ops.take n)[j]? := fun j hj => by simp [List.getElem?_take_of_lt hj]
    have htext : ∀ j, j ≤ n → SFof ops.toArray E (sfOf fr) (fun _ => true) j = S j := fun j hj =>
      SFof_text q5 (fun j o e hj he => (q7 j o e hj he).1) (fun j hj => hget j (by rw [htl] at hj; exact hj)) (by rw [q1, htl]) j (by rw [htl]; exact hj)
    refine wp_region_any hm ?_
    have inv0 : HeadInv .any ops.toArray n (Array.replicate ops.toArray.size false) :=
      ⟨by simp, fun j oj _ hl => (by rw [getD_replicate_false] at hl; cases hl), fun t _ ht => getD_in (by simpa using ht) (getD_replicate_false _ _)⟩
    have hcnt : ∀ m, cnt (Array.replicate ops.toArray.size false) m = m := fun m => by
      induction m with
      | zero => rfl
      | succ m ih => unfold cnt; rw [ih, getD_replicate_false]; simp
    have hR : Reg w0 F σ own { w with drawn := w.drawn + 1 } := hH.reg.later ⟨rfl, rfl, rfl, Nat.le_refl _, fun _ _ => rfl⟩
    have hRF : Reg w0 F σ ownF { w with drawn := w.drawn + 1 } := hR.pre q2
    have I0 : InvL ops.toArray E (sfOf fr) n fr.length w0 F ownF (Array.replicate ops.toArray.size false) a { w with drawn := w.drawn + 1 } σ :=
      ⟨hRF, fun t => by
        rw [SFof_cut 0 n (Nat.zero_le _) fun i _ _ _ => getD_replicate_false _ _]
        exact sf_of_fr hH.fr t, hH.fr.len.symm, hH.dfr, fun i e q hi hb _ => by
        have := (q8 i e hi).1
        cases hs : σ (e.n + q) with
        | none => rfl
        | some v => have := hR.dom _ v hs; omega⟩
    have H := any_inv (P := P) (Q := Q) (arr := ops.toArray) (ops := ops) (g := ops.length - n) rfl hp hb q1 (by simpa [and_assoc] using htail) sf_grow (fun j oj t hj hoj ht => hslot oj (by simpa using Array.mem_of_getElem? hoj) t ht)
      (fun j oj e hoj he => by
        have hjn : j < n := by have := (List.getElem?_eq_some_iff.1 he).1; omega
        rw [htext j (by omega)]
        exact (q7 j oj e (by rw [← hget j hjn]; exact hoj) he).2 ownF (.refl _)) (fun j e hj => (q8 j e hj).2) q9
      (fun listed a W σ' inv hall I => by
        have hcan := canon_of inv hall
        have hfin : Holds w0 F σ' frF ownF a W := ⟨I.reg, fr_of_sf (by rw [q4, I.size]) fun t _ => by
          have := I.slots t
          rw [SFof_same (L' := fun _ => true) n (fun i hi _ => hall i hi), htext n (Nat.le_refl _), q6] at this
          exact this, I.dfr⟩
        have hlist := opsK_sound (Q := Q) (ops := ops) (ops.drop n) _ _ _ _ _ q3 hfin hn
        have := wpAny_of_seq (md := .any) (Q' := Q) (ops.drop n) n listed a W (fun j => by simp [List.getElem?_drop]) (by rw [hdl, hcan]; simpa using hseq) hlist
        rwa [hdl] at this) n (Array.replicate ops.toArray.size false) a _ σ inv0 (hcnt n) I0
    have e : n + (ops.length - n) = ops.toArray.size := by simp; omega
    rw [e] at H
    exact H
  · exact h.elim
end

section
variable {P : Program} {F : Facts} {σ : Sg} {fr : List AV} {own : List Blk} {a : Act} {o : Oper} {w0 w : World} {arr : Array Oper} {h : Nat} {listed : Array Bool}

/-- Less is known of some blocks: only that they are there. -/
def WkB (b c : Blk) : Prop := b = c ∨ ∃ l, c = .cells l ∧ b = .cells (List.replicate l.length .junk)
def Wk (own m : List Blk) : Prop := ∀ (k : Nat) (b : Blk), own[k]? = some b → ∃ c, m[k]? = some c ∧ WkB b c
theorem junk_is {l : List AV} {us : Array Value} (hf : FrIs σ l us) : FrIs σ (List.replicate l.length .junk) us :=
  ⟨by rw [List.length_replicate]; exact hf.len, fun i x hx => by
    have hi := (List.getElem?_eq_some_iff.1 hx).1
    simp only [List.length_replicate] at hi
    obtain ⟨u, h1, _⟩ := hf.at_ i _ (List.getElem?_eq_getElem hi)
    rw [List.getElem?_replicate, if_pos hi] at hx
    cases hx
    exact ⟨u, h1, trivial⟩⟩
theorem Mem.wk {base : Nat} {own m : List Blk} (h : Mem base F σ m w) (hw : Wk own m) : Mem base F σ own w := by
  refine ⟨fun k b v hk hv => ?_, h.lt, h.sat⟩
  obtain ⟨c, hc, hb⟩ := hw k b hk
  have hB := h.blk k c v hc hv
  rcases hb with rfl | ⟨l, rfl, rfl⟩
  · exact hB
  · obtain ⟨i, xs, T, h1, h2, h3, h4⟩ := hB
    exact ⟨i, xs, T, h1, h2, junk_is h3, h4⟩

/-- The stores into new variables that a region that draws its order makes: the operation, the block, the cells. -/
abbrev Ini := List (Nat × Nat × List AV)
def ownAt : Ini → List Blk → (Nat → Bool) → List Blk
  | [], own, _ => own
  | (s, k, l) :: I, own, L => ownAt I (if L s = true then own.set k (.cells l) else own) L
def iniKeys (I : Ini) : List Nat := I.map fun x => x.2.1

theorem ownAt_len (L : Nat → Bool) : ∀ (I : Ini) (own : List Blk), (ownAt I own L).length = own.length
  | [], own => rfl
  | (s, k, l) :: I, own => by unfold ownAt; rw [ownAt_len L I]; split <;> simp
theorem ownAt_other (L : Nat → Bool) {i : Nat} : ∀ (I : Ini) (own : List Blk), i ∉ iniKeys I → (ownAt I own L)[i]? = own[i]?
  | [], own, _ => rfl
  | (s, k, l) :: I, own, h => by
    simp only [iniKeys, List.map_cons, List.mem_cons, not_or] at h
    unfold ownAt
    rw [ownAt_other L I _ h.2]
    split
    · rw [List.getElem?_set_ne (Ne.symm h.1)]
    · rfl
theorem ownAt_same {L L' : Nat → Bool} : ∀ (I : Ini) (own : List Blk), (∀ x ∈ I, L x.1 = L' x.1) → ownAt I own L = ownAt I own L'
  | [], own, _ => rfl
  | (s, k, l) :: I, own, h => by
    unfold ownAt
    rw [h (s, k, l) (by simp), ownAt_same I _ fun x hx => h x (by simp [hx])]
theorem ownAt_get (L : Nat → Bool) {s k : Nat} {l : List AV} : ∀ (I : Ini) (own : List Blk), (iniKeys I).Nodup → (s, k, l) ∈ I → k < own.length → (ownAt I own L)[k]? = if L s = true then some (.cells l) else own[k]?
  | (s', k', l') :: I, own, hn, hm, hk => by
    simp only [iniKeys, List.map_cons, List.nodup_cons] at hn
    unfold ownAt
    rcases List.mem_cons.1 hm with e | hm
    · cases e
      rw [ownAt_other L I _ hn.1]
      split
      · rw [List.getElem?_set_self hk]
      · rfl
    · have hne : k ≠ k' := fun e => hn.1 (e ▸ List.mem_map.2 ⟨(s, k, l), hm, rfl⟩)
      rw [ownAt_get L I _ hn.2 hm (by split <;> simpa using hk)]
      split
      · rfl
      · split
        · rw [List.getElem?_set_ne (Ne.symm hne)]
        · rfl
theorem ownAt_flip {L L' : Nat → Bool} {s k : Nat} {l : List AV} (I : Ini) (own : List Blk) (hn : (iniKeys I).Nodup) (hm : (s, k, l) ∈ I) (hk : k < own.length) (hu : ∀ x ∈ I, x.1 = s → x = (s, k, l)) (hs : L' s = true) (ho : ∀ i, i ≠ s → L' i = L i) :
    ownAt I own L' = (ownAt I own L).set k (.cells l) := by
  apply List.ext_getElem?
  intro i
  by_cases hi : i = k
  · subst hi
    rw [ownAt_get L' I own hn hm hk, if_pos hs, List.getElem?_set_self (by rw [ownAt_len]; exact hk)]
  · rw [List.getElem?_set_ne (Ne.symm hi)]
    by_cases hin : i ∈ iniKeys I
    · obtain ⟨⟨s', k', l'⟩, hm', rfl⟩ := List.mem_map.1 hin
      by_cases hlt : k' < own.length
      · rw [ownAt_get L' I own hn hm' hlt, ownAt_get L I own hn hm' hlt]
        have hss : s' ≠ s := fun e => by
          have := hu _ hm' e
          cases this
          exact hi rfl
        rw [ho s' hss]
      · rw [List.getElem?_eq_none (by rw [ownAt_len]; simpa using hlt), List.getElem?_eq_none (by rw [ownAt_len]; simpa using hlt)]
    · rw [ownAt_other L' I own hin, ownAt_other L I own hin]

/-- A store into a new variable. -/
def GoodI (P : Program) (ops : List Oper) (o : Oper) (S : SF) (k : Nat) (l : List AV) : Prop :=
  ∀ (σ : Sg) (a : Act), (∀ t ∈ o.looksAt ops.toArray, S t σ (a.tmps.getD t undef)) → Region.wanted o (yielded ops.toArray a.tmps) = true ∧
    ∃ m b, σ k = some m ∧ m.v = .pointer (some ⟨b, 0, none⟩) ∧ ∀ (W : World) (xs : Array Value) (T : TypeId), W.heap[b]? = some (.cells xs T (0, 0)) → xs.size = l.length → ∃ ys, FrIs σ l ys ∧ (execOp a.eval o).run P W = .ok .skip (W.setRow b ys)

structure InvB (arr : Array Oper) (E : List Ent) (S0 : SF) (h N : Nat) (w0 : World) (F : Facts) (I : Ini) (own0 : List Blk) (listed : Array Bool) (a : Act) (W : World) (σ : Sg) : Prop where
  inv : InvL arr E S0 h N w0 F (ownAt I own0 fun i => listed.getD i false) listed a W σ
  st : ∀ s k l, (s, k, l) ∈ I → listed.getD s false = true → σ k ≠ none

def isJ : AV → Bool
  | .junk => true
  | _ => false
def junks : List AV → (List AV → Prop) → Prop
  | [], K => K []
  | _ :: l, K => junks l fun l => K (.junk :: l)
theorem junks_eq : ∀ (l : List AV) (K : List AV → Prop), junks l K = K (List.replicate l.length .junk)
  | [], K => rfl
  | x :: l, K => by simp [junks, junks_eq l, List.replicate_succ]
theorem isJ_all {c : List AV} (h : c.all isJ = true) : c = List.replicate c.length .junk :=
  List.ext_getElem (by simp) fun i h1 h2 => by
    have := List.all_eq_true.1 h c[i] (List.getElem_mem h1)
    rw [List.getElem_replicate]
    cases hc : c[i] <;> simp [hc, isJ] at this ⊢

def isW : AV → Bool
  | .v _ => true
  | _ => false
theorem frIs_det {σ : Sg} {l : List AV} {xs ys : Array Value} (h : FrIs σ l xs) (k : FrIs σ l ys) (hl : l.all isW = true) : xs = ys := by
  apply Array.ext'
  apply List.ext_getElem?
  intro i
  by_cases hi : i < l.length
  · have hw := List.all_eq_true.1 hl l[i] (List.getElem_mem hi)
    obtain ⟨u, h1, h2⟩ := h.at_ i l[i] (List.getElem?_eq_getElem hi)
    obtain ⟨v, k1, k2⟩ := k.at_ i l[i] (List.getElem?_eq_getElem hi)
    cases hx : l[i] with
    | v x =>
      rw [hx] at h2 k2
      have e1 : u = x := h2
      have e2 : v = x := k2
      subst e1
      subst e2
      simpa using h1.trans k1.symm
    | _ => rw [hx] at hw; cases hw
  · rw [List.getElem?_eq_none (by rw [Array.length_toList, ← h.len]; omega), List.getElem?_eq_none (by rw [Array.length_toList, ← k.len]; omega)]

/-- An operation of a region whose operations come in any order: what it lays anew is not looked at before the region's end, and may be stored into once. -/
def headOp (P : Program) (F : Facts) (o : Oper) (fr : List AV) (own : List Blk) (K : List AV → List Blk → Option (Nat × List AV) → Prop) : Prop :=
  match o.op with
  | .alloc t => match zeroX P t, bigArr P t with
    | some cells, false => forceL cells fun l => mapvK l fun l => junks l fun l => lenK own 0 fun n => appK own (.cells l) fun own => putK o.dst fr (.p n 0) fun fr => K fr own none
    | _, _ => False
  | .store t ax x => match ev fr ax, ev fr x, P.info? t with
    | some (.p k off), some y, some i => match nth own k with
      | some (.cells c) => cellsK y fun l => match decide (l.length = i.size), decide (l.length = c.length), l.all oneA, c.all isJ, decide (off = 0) with
        | true, true, true, true, true => putK o.dst fr (.v undef) fun fr => K fr own (some (k, l))
        | true, true, true, false, true => match l.all isW with
          | true => Ob (l = c) <| putK o.dst fr (.v undef) fun fr => K fr own none
          | false => False
        | _, _, _, _, _ => False
      | _ => False
    | _, _, _ => False
  | _ => match freeOp o with
    | true => opK P F o fr own fun fr own => K fr own none
    | false => False
def headK (P : Program) (F : Facts) (ops : List Oper) : List Oper → Nat → List AV → List Blk → Ini → (List AV → List Blk → Ini → Prop) → Prop
  | [], _, fr, own, I, K => K fr own I
  | o :: l, j, fr, own, I, K => guardK ops o fr (fun fr => headOp P F o fr own fun fr own e => match e with
    | none => headK P F ops l (j + 1) fr own I K
    | some (k, c) => match I.any fun x => decide (x.2.1 = k) with
      | false => headK P F ops l (j + 1) fr own ((j, k, c) :: I) K
      | true => False) (fun fr => putK o.dst fr (.v undef) fun fr => headK P F ops l (j + 1) fr own I K)
def applyI : Ini → List Blk → (List Blk → Prop) → Prop
  | [], own, K => K own
  | (_, k, l) :: I, own, K => setK own k (.cells l) fun own => applyI I own K
theorem applyI_eq : ∀ (I : Ini) (own : List Blk) (K : List Blk → Prop), applyI I own K = K (ownAt I own fun _ => true)
  | [], own, K => rfl
  | (s, k, l) :: I, own, K => by simp [applyI, ownAt, setK_eq, applyI_eq I]

/-- What a region's stores will fill is forgotten first. -/
def junkTo (fr : List AV) : List Oper → List Blk → (List Blk → Prop) → Prop
  | [], own, K => K own
  | o :: l, own, K => match o.op with
    | .store _ ax _ => match ev fr ax with
      | some (.p k _) => match nth own k with
        | some (.cells c) => junks c fun c => setK own k (.cells c) fun own => junkTo fr l own K
        | _ => junkTo fr l own K
      | _ => junkTo fr l own K
    | _ => junkTo fr l own K
theorem WkB.trans {a b c : Blk} (h : WkB a b) (k : WkB b c) : WkB a c := by
  rcases h with rfl | ⟨l, rfl, rfl⟩
  · exact k
  · rcases k with rfl | ⟨l', rfl, e⟩
    · exact .inr ⟨l, rfl, rfl⟩
    · refine .inr ⟨l', rfl, ?_⟩
      cases e
      simp
theorem Wk.refl (own : List Blk) : Wk own own := fun k b h => ⟨b, h, .inl rfl⟩
theorem Wk.trans {a b c : List Blk} (h : Wk a b) (k : Wk b c) : Wk a c := fun i x hx => by
  obtain ⟨y, hy, e⟩ := h i x hx
  obtain ⟨z, hz, e'⟩ := k i y hy
  exact ⟨z, hz, e.trans e'⟩
theorem junkTo_ok {fr : List AV} {K : List Blk → Prop} : ∀ (ops : List Oper) (own : List Blk), junkTo fr ops own K → ∃ own', K own' ∧ Wk own' own ∧ own'.length = own.length
  | [], own, h => ⟨own, h, .refl _, rfl⟩
  | o :: l, own, h => by
    unfold junkTo at h
    split at h
    · split at h
      · split at h
        · rename_i k _ _ _ c hc
          rw [nth_eq] at hc
          rw [junks_eq, setK_eq] at h
          obtain ⟨m, h1, h2, h3⟩ := junkTo_ok l _ h
          refine ⟨m, h1, h2.trans fun i b hb => ?_, by rw [h3]; simp⟩
          by_cases hi : i = k
          · subst hi
            rw [List.getElem?_set_self (List.getElem?_eq_some_iff.1 hc).1] at hb
            cases hb
            exact ⟨_, hc, .inr ⟨c, rfl, rfl⟩⟩
          · rw [List.getElem?_set_ne (Ne.symm hi)] at hb
            exact ⟨b, hb, .inl rfl⟩
        · exact junkTo_ok l _ h
      · exact junkTo_ok l _ h
    · exact junkTo_ok l _ h
theorem Reg.wk {own m : List Blk} (h : Reg w0 F σ m w) (hw : Wk own m) (hl : own.length = m.length) : Reg w0 F σ own w :=
  ⟨h.mem.wk hw, fun k x e => hl ▸ h.dom k x e, h.inj, h.ge, h.old, h.below⟩

structure IniOk (I : Ini) (own : List Blk) (j : Nat) : Prop where
  nd : (iniKeys I).Nodup
  uq : ∀ x ∈ I, ∀ y ∈ I, x.1 = y.1 → x = y
  lt : ∀ x ∈ I, x.1 < j
  jk : ∀ s k l, (s, k, l) ∈ I → own[k]? = some (.cells (List.replicate l.length .junk))

theorem headOp_sound {K : List AV → List Blk → Option (Nat × List AV) → Prop} (h : headOp P F o fr own K) :
    (∃ X bs, ValS P F own fr o (fun x b => x = X ∧ b = bs) ∧ K (putL o.dst fr X) (own ++ bs) none) ∨
    (∃ k l, own[k]? = some (.cells (List.replicate l.length .junk)) ∧ K (putL o.dst fr (.v undef)) own (some (k, l)) ∧ ∀ (σ : Sg) (a : Act), OpIs σ fr a o → ∃ m b, σ k = some m ∧ m.v = .pointer (some ⟨b, 0, none⟩) ∧
      ∀ (W : World) (xs : Array Value) (T : TypeId), W.heap[b]? = some (.cells xs T (0, 0)) → xs.size = l.length → ∃ ys, FrIs σ l ys ∧ (execOp a.eval o).run P W = .ok .skip (W.setRow b ys)) := by
  unfold headOp at h
  split at h
  · rename_i t ho
    split at h
    · rename_i cells hc hbig
      rw [forceL_eq, mapvK_eq, junks_eq, lens, appK_eq, putK_eq] at h
      refine .inl ⟨_, _, ⟨_, _, ⟨rfl, rfl⟩, fun base σ a hop => ?_⟩, h⟩
      have hv : valK P F o fr own (fun x b => x = .p own.length 0 ∧ b = [.cells (cells.map .v)]) := by
        unfold valK
        simp only [ho, hc, hbig, forceL_eq, mapvK_eq, lens, and_self]
      obtain ⟨X, bs, ⟨rfl, rfl⟩, hy⟩ := valK_sound hv
      intro W hb hM
      have := hy base σ a hop W hb hM
      generalize (execOp a.eval o).run P W = r at *
      have key : ∀ u W', Lays base F σ own.length (.p own.length 0) [.cells (cells.map .v)] W u W' → Lays base F σ own.length (.p own.length 0) [.cells (List.replicate (cells.map AV.v).length .junk)] W u W' := fun u W' ⟨h1, ν, h2, h3, h4⟩ =>
        ⟨h1, ν, h2, h3, fun σ' hs hν => by
          obtain ⟨q1, q2⟩ := h4 σ' hs hν
          refine ⟨q1, fun i b hi => ?_⟩
          cases i with
          | zero =>
            simp only [List.getElem?_cons_zero, Option.some.injEq] at hi
            subst hi
            obtain ⟨i, xs, T, r1, r2, r3, r4⟩ := q2 0 _ rfl
            exact ⟨i, xs, T, r1, r2, junk_is r3, r4⟩
          | succ i => simp at hi⟩
      cases r with
      | halt x W' => exact this
      | ok n W' =>
        cases n with
        | value u => exact key _ _ this
        | skip => exact key _ _ this
        | enter f args => exact ⟨this.1, this.2.mono fun e w' ⟨u, he, hl⟩ => ⟨u, he, key _ _ hl⟩⟩
        | _ => exact this.elim
    · exact h.elim
  · rename_i t ax x ho
    split at h
    · rename_i k off y i hax hx hi
      split at h
      · rename_i c hc
        rw [nth_eq] at hc
        obtain ⟨l, hh, hl⟩ := cellsK_sound h
        clear h
        split at hh
        · rename_i d1 d2 d3 d4 d5
          rw [putK_eq] at hh
          have d1 := of_decide_eq_true d1
          have d2 := of_decide_eq_true d2
          obtain rfl := of_decide_eq_true d5
          have hc' : own[k]? = some (.cells (List.replicate l.length .junk)) := by rw [hc, isJ_all d4]; simp [d2]
          refine .inr ⟨k, l, hc', hh, fun σ a hop => ?_⟩
          obtain ⟨m, b, q1, qv, q2⟩ := hop ax (by simp [ho, Op.operands]) _ hax
          have hcells := hl σ _ (hop x (by simp [ho, Op.operands]) _ hx)
          have hlen := hcells.len
          refine ⟨m, b, q1, qv, fun W xs T hW hxs => ⟨(a.eval x).cells, hcells, ?_⟩⟩
          have hrun := run_store_row (P := P) (w := W) (t := t) (i := i) (v := a.eval x) (vs := (a.eval x).cells.toList) (off := 0) hW (by simp; omega) (by simp) hi (by simp; omega) (oneA_cells hcells d3)
          have hst : (stored xs.toList 0 (a.eval x).cells.toList).toArray = (a.eval x).cells := by
            apply Array.ext'
            simp only [stored, List.take_zero, List.nil_append]
            rw [List.drop_eq_nil_of_le (by simp; omega)]
            simp
          rw [hst] at hrun
          simp [execOp, ho, Instr.storeAt, Instr.sureAddr, q2, hrun]
        · rename_i d1 d2 d3 d4 d5
          split at hh
          · rename_i hw
            obtain ⟨hlc, hh⟩ := hh
            rw [putK_eq] at hh
            have d1 := of_decide_eq_true d1
            have d2 := of_decide_eq_true d2
            obtain rfl := of_decide_eq_true d5
            refine .inl ⟨.v undef, [], ⟨_, _, ⟨rfl, rfl⟩, fun base σ a hop => ?_⟩, by simpa using hh⟩
            intro W hb hM
            obtain ⟨m, b, q1, qv, q2⟩ := hop ax (by simp [ho, Op.operands]) _ hax
            have hcells := hl σ _ (hop x (by simp [ho, Op.operands]) _ hx)
            have hlen := hcells.len
            obtain ⟨b', xs, T, e1, e2, e3, e4⟩ := hM.blk k _ m hc q1
            rw [qv] at e1
            obtain rfl : b = b' := by simpa using e1
            have hsame : (a.eval x).cells = xs := frIs_det hcells (hlc ▸ e3) hw
            have hxl : xs.size = l.length := by rw [← hsame]; exact hlen.symm
            have hrun := run_store_row (P := P) (w := W) (t := t) (i := i) (v := a.eval x) (vs := (a.eval x).cells.toList) (off := 0) e2 (by simp; omega) (by simp) hi (by simp; omega) (oneA_cells hcells d3)
            have hst : (stored xs.toList 0 (a.eval x).cells.toList).toArray = xs := by
              rw [hsame]
              apply Array.ext'
              simp only [stored, List.take_zero, List.nil_append]
              rw [List.drop_eq_nil_of_le (by simp)]
              simp
            rw [hst, setRow_self W b xs T _ e2] at hrun
            have hexec : (execOp a.eval o).run P W = .ok .skip W := by simp [execOp, ho, Instr.storeAt, Instr.sureAddr, q2, hrun]
            rw [hexec]
            exact lays_calm (Below.refl _ _) fun _ _ => rfl
          · exact hh.elim
        · exact hh.elim
      · exact h.elim
    · exact h.elim
  · split at h
    · rename_i hf
      exact .inl (opK_free hf h)
    · exact h.elim

def EntOk (P : Program) (F : Facts) (ops : List Oper) (o : Oper) (S : SF) (e : Ent) (ownF : List Blk) (I : Ini) (s : Nat) : Prop :=
  (GoodE P F ops o S e ownF ∧ ∀ x ∈ I, x.1 ≠ s) ∨ (e.bs = [] ∧ e.X = .v undef ∧ ∃ k l, (s, k, l) ∈ I ∧ GoodI P ops o S k l)

theorem extractB {ops : List Oper} {K : List AV → List Blk → Ini → Prop} : ∀ (l : List Oper) (j0 : Nat) (fr : List AV) (own : List Blk) (I0 : Ini), (∀ o ∈ l, ∀ t, o.dst = some t → t < fr.length) → IniOk I0 own j0 → headK P F ops l j0 fr own I0 K →
    ∃ (E : List Ent) (frF : List AV) (ownF : List Blk) (I : Ini) (S : Nat → SF), E.length = l.length ∧ Pre own ownF ∧ K frF ownF I ∧ frF.length = fr.length ∧ S 0 = sfOf fr ∧ S l.length = sfOf frF ∧
      (∀ (j : Nat) (o : Oper) (e : Ent), l[j]? = some o → E[j]? = some e → S (j + 1) = updS (S j) o.dst e.X ∧ EntOk P F ops o (S j) e ownF I (j0 + j)) ∧
      (∀ (j : Nat) (e : Ent), E[j]? = some e → own.length ≤ e.n ∧ ∀ i b, e.bs[i]? = some b → ownF[e.n + i]? = some b) ∧
      (∀ (i j : Nat) (e e' : Ent), i < j → E[i]? = some e → E[j]? = some e' → e.n + e.bs.length ≤ e'.n) ∧
      IniOk I ownF (j0 + l.length) ∧ (∀ x ∈ I0, x ∈ I) ∧ (∀ x ∈ I, x ∈ I0 ∨ j0 ≤ x.1)
  | [], j0, fr, own, I0, _, hI, h => ⟨[], fr, own, I0, fun _ => sfOf fr, rfl, .refl _, h, rfl, rfl, rfl, fun j o e hj => by simp at hj, fun j e hj => by simp at hj, fun i j e e' _ hi => by simp at hi, hI, fun _ h => h, fun _ h => .inl h⟩
  | o :: l, j0, fr, own, I0, hd, hI, h => by
    unfold headK at h
    obtain ⟨fr1, wd, hsf, hlen, h, hwan⟩ := guardK_sf h
    have hd0 : ∀ t, o.dst = some t → t < fr1.length := fun t ht => by rw [hlen]; exact hd o (by simp) t ht
    have main : ∃ (e : Ent) (I1 : Ini), e.n = own.length ∧ headK P F ops l (j0 + 1) (putL o.dst fr1 e.X) (own ++ e.bs) I1 K ∧ IniOk I1 (own ++ e.bs) (j0 + 1) ∧ (∀ x ∈ I0, x ∈ I1) ∧ (∀ x ∈ I1, x ∈ I0 ∨ j0 ≤ x.1) ∧
        (((∀ ownG, Pre (own ++ e.bs) ownG → GoodE P F ops o (sfOf fr) e ownG) ∧ I1 = I0) ∨ (e.bs = [] ∧ e.X = .v undef ∧ ∃ k l, (j0, k, l) ∈ I1 ∧ GoodI P ops o (sfOf fr) k l)) := by
      have ok0 : IniOk I0 own (j0 + 1) := ⟨hI.nd, hI.uq, fun x hx => by have := hI.lt x hx; omega, hI.jk⟩
      cases wd with
      | false =>
        simp only [Bool.false_eq_true, if_false, putK_eq] at h
        exact ⟨⟨.v undef, false, own.length, []⟩, I0, rfl, by simpa using h, by simpa using ok0, fun _ h => h, fun _ h => .inl h, .inl ⟨fun ownG _ base σ a W _ hM hS => ⟨hwan σ a hS, rfl, rfl⟩, rfl⟩⟩
      | true =>
        simp only [if_true] at h
        rcases headOp_sound h with ⟨X, bs, ⟨x, b, ⟨rfl, rfl⟩, hy⟩, hK⟩ | ⟨k, c, hk, hK, hy⟩
        · refine ⟨⟨x, true, own.length, b⟩, I0, rfl, hK, ⟨ok0.nd, ok0.uq, ok0.lt, fun s k l hm => Pre.app own b k _ (ok0.jk s k l hm)⟩, fun _ h => h, fun _ h => .inl h, .inl ⟨fun ownG hp base σ a W hb hM hS => ⟨hwan σ a hS, ?_⟩, rfl⟩⟩
          exact hy base σ a (looks_op hsf.symm hS) W hb (hM.pre ((Pre.app own b).trans hp))
        · simp only at hK
          split at hK
          · rename_i hnew
            have hnk : k ∉ iniKeys I0 := fun hin => by
              obtain ⟨x, hx, rfl⟩ := List.mem_map.1 hin
              have := List.any_eq_false.1 hnew x hx
              simp at this
            refine ⟨⟨.v undef, true, own.length, []⟩, (j0, k, c) :: I0, rfl, by simpa using hK, ⟨?_, fun x hx y hy e => ?_, fun x hx => ?_, fun s k' l' hm => ?_⟩, fun _ h => List.mem_cons_of_mem _ h, fun x hx => ?_, .inr ⟨rfl, rfl, k, c, by simp, fun σ a hS => ⟨hwan σ a hS, hy σ a (looks_op hsf.symm hS)⟩⟩⟩
            · exact List.nodup_cons.2 ⟨hnk, hI.nd⟩
            · rcases List.mem_cons.1 hx with rfl | hx <;> rcases List.mem_cons.1 hy with rfl | hy
              · rfl
              · have := hI.lt y hy; simp only at e; omega
              · have := hI.lt x hx; simp only at e; omega
              · exact hI.uq x hx y hy e
            · rcases List.mem_cons.1 hx with rfl | hx
              · exact Nat.lt_succ_self _
              · exact ok0.lt x hx
            · rcases List.mem_cons.1 hm with e | hm
              · cases e; simpa using hk
              · simpa using hI.jk s k' l' hm
            · rcases List.mem_cons.1 hx with rfl | hx
              · exact .inr (Nat.le_refl _)
              · exact .inl hx
          · exact hK.elim
    obtain ⟨e, I1, hen, hK1, hI1, hI01, hI10, hgood⟩ := main
    have hput : (putL o.dst fr1 e.X).length = fr.length := by cases o.dst <;> simp [putL, setL_eq, hlen]
    obtain ⟨E, frF, ownF, I, S, q1, q2, q3, q4, q5, q6, q7, q8, q9, q10, q11, q12⟩ := extractB l (j0 + 1) (putL o.dst fr1 e.X) (own ++ e.bs) I1 (fun o' ho' t ht => by rw [hput]; exact hd o' (by simp [ho']) t ht) hI1 hK1
    refine ⟨e :: E, frF, ownF, I, fun n => match n with | 0 => sfOf fr | n + 1 => S n, by simp [q1], (Pre.app own e.bs).trans q2, q3, by rw [q4, hput], rfl, by simpa using q6, fun j o' e' hj he => ?_, fun j e' hj => ?_, fun i j e1 e2 hij hi hj => ?_, (show j0 + 1 + l.length = j0 + (o :: l).length by simp; omega) ▸ q10, fun x hx => q11 x (hI01 x hx), fun x hx => ?_⟩
    · cases j with
      | zero =>
        simp at hj he
        subst hj
        subst he
        refine ⟨by show S 0 = _; rw [q5, sf_put hd0, hsf], ?_⟩
        rcases hgood with ⟨g1, rfl⟩ | ⟨g1, g2, k, l', g3, g4⟩
        · refine .inl ⟨g1 ownF q2, fun x hx => ?_⟩
          rcases q12 x hx with hx | hx
          · have := hI.lt x hx; omega
          · omega
        · exact .inr ⟨g1, g2, k, l', q11 _ g3, g4⟩
      | succ j =>
        have := q7 j o' e' (by simpa using hj) (by simpa using he)
        rw [show j0 + (j + 1) = j0 + 1 + j by omega]
        exact this
    · cases j with
      | zero =>
        simp at hj
        subst hj
        exact ⟨by omega, fun i b hi => q2 _ b (by rw [hen, List.getElem?_append_right (by omega), Nat.add_sub_cancel_left]; exact hi)⟩
      | succ j =>
        obtain ⟨k1, k2⟩ := q8 j e' (by simpa using hj)
        simp at k1
        exact ⟨by omega, k2⟩
    · cases j with
      | zero => omega
      | succ j =>
        cases i with
        | zero =>
          simp at hi
          subst hi
          have k1 := (q8 j e2 (by simpa using hj)).1
          simp at k1
          omega
        | succ i => exact q9 i j e1 e2 (by omega) (by simpa using hi) (by simpa using hj)
    · rcases q12 x hx with hx | hx
      · exact hI10 x hx
      · exact .inr (by omega)

theorem ownAt_wk (L : Nat → Bool) {I : Ini} {own : List Blk} {j : Nat} (ok : IniOk I own j) : Wk own (ownAt I own L) := fun k b hb => by
  by_cases hin : k ∈ iniKeys I
  · obtain ⟨⟨s, k', l⟩, hm, rfl⟩ := List.mem_map.1 hin
    have hj := ok.jk s k' l hm
    have hlt := (List.getElem?_eq_some_iff.1 hj).1
    rw [hj] at hb
    cases hb
    rw [ownAt_get L I own ok.nd hm hlt]
    split
    · exact ⟨_, rfl, .inr ⟨l, rfl, rfl⟩⟩
    · exact ⟨_, hj, .inl rfl⟩
  · exact ⟨b, by rw [ownAt_other L I own hin]; exact hb, .inl rfl⟩
theorem GoodE.wk {ops : List Oper} {S : SF} {e : Ent} {own m : List Blk} (h : GoodE P F ops o S e own) (hw : Wk own m) : GoodE P F ops o S e m := fun base σ a W hb hM hS => h base σ a W hb (hM.wk hw) hS

/-- One step of a region whose operations come in any order. -/
theorem inv_stepB {ops : List Oper} {E : List Ent} {S0 : SF} {N j : Nat} {oj : Oper} {e : Ent} {own0 : List Blk} {I : Ini} {W : World} {Q : Exit → Act → World → Prop} {K : Act → World → Prop} (harr : arr = ops.toArray) (hp : pairB arr h = true) (inv : HeadInv .any arr h listed) (hj : j ∈ Region.ready .any arr listed) (hjh : j < h) (hoj : arr[j]? = some oj) (he : E[j]? = some e)
    (hg : EntOk P F ops oj (SFof arr E S0 (fun _ => true) j) e own0 I j) (ok : IniOk I own0 h) (hS0 : ∀ t σ σ' u, SgLe σ σ' → S0 t σ u → S0 t σ' u) (hd : ∀ t, oj.dst = some t → t < N) (hlab : ∀ (i : Nat) (b : Blk), e.bs[i]? = some b → own0[e.n + i]? = some b)
    (huniq : ∀ (i : Nat) (e' : Ent), i ≠ j → E[i]? = some e' → e'.n + e'.bs.length ≤ e.n ∨ e.n + e.bs.length ≤ e'.n) (B : InvB arr E S0 h N w0 F I own0 listed a W σ)
    (hK : ∀ a' W' σ', InvB arr E S0 h N w0 F I own0 (listed.setIfInBounds j true) a' W' σ' → K a' W') : wpOp P arr Q j K a W := by
  have hun := getD_both (mem_ready.1 hj).1
  have hlt : j < listed.size := by rw [inv.size]; exact (Array.getElem?_eq_some_iff.1 hoj).1
  have hset : (listed.setIfInBounds j true).getD j false = true := by simp [hlt]
  have hoth : ∀ i, i ≠ j → (listed.setIfInBounds j true).getD i false = listed.getD i false := fun i hi => getD_set_ne false (Ne.symm hi)
  rcases hg with ⟨hg, hni⟩ | ⟨hb, hX, k, l, hm, hg⟩
  · have same : ownAt I own0 (fun i => (listed.setIfInBounds j true).getD i false) = ownAt I own0 (fun i => listed.getD i false) := ownAt_same I own0 fun x hx => hoth _ (hni x hx)
    refine inv_step harr hp inv hj hjh hoj he (hg.wk (ownAt_wk _ ok)) hS0 hd (fun q b hb => ?_) huniq B.inv fun a' W' σ' hs I' => hK a' W' σ' ⟨by rw [same]; exact I', fun s k l hm hl => ?_⟩
    · by_cases hin : e.n + q ∈ iniKeys I
      · obtain ⟨⟨s, k', l⟩, hm, hkk⟩ := List.mem_map.1 hin
        simp only at hkk
        subst hkk
        have h0 := hlab q b hb
        rw [ownAt_get _ I own0 ok.nd hm (List.getElem?_eq_some_iff.1 h0).1]
        rw [if_neg]
        · exact h0
        · intro hl
          exact B.st s _ l hm hl (B.inv.lab j e q he (List.getElem?_eq_some_iff.1 hb).1 hun)
      · rw [ownAt_other _ I own0 hin]; exact hlab q b hb
    · rw [hoth s (hni _ hm)] at hl
      cases hv : σ k with
      | none => exact absurd hv (B.st s k l hm hl)
      | some v => rw [hs k v hv]; simp
  · have hjk := ok.jk j k l hm
    have hkl := (List.getElem?_eq_some_iff.1 hjk).1
    obtain ⟨hwan, m, b, hσ, hmv, hrun⟩ := hg σ a fun t ht => by
      have := B.inv.slots t
      rw [SFof_ready hp inv hj hjh hoj (by rw [harr]; exact ht)] at this
      exact this
    rw [← harr] at hwan
    have hat : (ownAt I own0 fun i => listed.getD i false)[k]? = some (.cells (List.replicate l.length .junk)) := by
      rw [ownAt_get _ I own0 ok.nd hm hkl, if_neg (by rw [hun]; simp)]; exact hjk
    obtain ⟨b', xs, T, e1, e2, e3, e4⟩ := B.inv.reg.mem.blk k _ m hat hσ
    rw [hmv] at e1
    obtain rfl : b = b' := by simpa using e1
    obtain ⟨ys, hys, hr⟩ := hrun W xs T e2 (by have := e3.len; simpa using this.symm)
    have hR : Reg w0 F σ ((ownAt I own0 fun i => listed.getD i false).set k (.cells l)) (W.setRow b ys) := B.inv.reg.turn hσ ((e4 b).2 rfl) ⟨b, ys, T, hmv, setRow_heap W b xs ys T _ e2, hys, e4⟩
    rw [← ownAt_flip (L' := fun i => (listed.setIfInBounds j true).getD i false) I own0 ok.nd hm hkl (fun x hx e => ok.uq x hx _ hm e) hset hoth] at hR
    unfold wpOp
    simp only [hoj]
    rw [hwan, if_pos rfl]
    left
    unfold Oper.wp
    rw [hr]
    refine hK _ _ σ ⟨inv_put hp inv hj hjh hoj he hS0 hd B.inv (.refl _) (by rw [hX]; rfl) hR fun i e' q hi hq _ hli => B.inv.lab i e' q hi hq hli, fun s k' l' hm' hl => ?_⟩
    by_cases hs : s = j
    · have := ok.uq _ hm' _ hm hs
      cases this
      rw [hσ]; simp
    · rw [hoth s hs] at hl
      exact B.st s k' l' hm' hl

theorem any_invB {ops : List Oper} {E : List Ent} {S0 : SF} {N : Nat} {own0 : List Blk} {I : Ini} {Q : Exit → Act → World → Prop} (harr : arr = ops.toArray) (hsz : arr.size = h) (hp : pairB arr h = true) (hb : backB arr h = true) (hlen : E.length = h)
    (hS0 : ∀ t σ σ' u, SgLe σ σ' → S0 t σ u → S0 t σ' u) (hd : ∀ (j : Nat) (oj : Oper) (t : Tmp), arr[j]? = some oj → oj.dst = some t → t < N) (ok : IniOk I own0 h)
    (hg : ∀ j oj e, arr[j]? = some oj → E[j]? = some e → EntOk P F ops oj (SFof arr E S0 (fun _ => true) j) e own0 I j) (hlab : ∀ (j : Nat) (e : Ent), E[j]? = some e → ∀ (i : Nat) (b : Blk), e.bs[i]? = some b → own0[e.n + i]? = some b)
    (huniq : ∀ (i j : Nat) (e e' : Ent), i < j → E[i]? = some e → E[j]? = some e' → e.n + e.bs.length ≤ e'.n)
    (hend : ∀ listed a W σ, (∀ i, i < h → listed.getD i false = true) → InvB arr E S0 h N w0 F I own0 listed a W σ → Q .normal a W) :
    ∀ (f : Nat) (listed : Array Bool) (a : Act) (W : World) (σ : Sg), HeadInv .any arr h listed → cnt listed h = f → InvB arr E S0 h N w0 F I own0 listed a W σ → wpAny P .any arr Q f listed a W := by
  intro f
  induction f with
  | zero =>
    intro listed a W σ inv hc B
    have hall := cnt_zero h hc
    refine ⟨?_, hend _ _ _ σ hall B⟩
    apply List.eq_nil_iff_forall_not_mem.2
    intro j hj
    obtain ⟨hju, oj, hoj, _⟩ := mem_ready.1 hj
    have hja := (Array.getElem?_eq_some_iff.1 hoj).1
    have := hall j (by omega)
    rw [getD_both hju] at this
    cases this
  | succ f ih =>
    intro listed a W σ inv hc B
    obtain ⟨i, hi, hun, hbef⟩ := cnt_first h (show 0 < cnt listed h by omega)
    have hri : i ∈ Region.ready .any arr listed := by
      have hia : i < arr.size := by omega
      refine mem_ready.2 ⟨getD_in (by rw [inv.size]; exact hia) hun, arr[i], by simp [hia], fun e he hbe => ?_⟩
      have h1 := List.all_eq_true.1 hb i (List.mem_range.2 hi)
      rw [Array.getElem?_eq_getElem hia] at h1
      simp only at h1
      have h2 := Array.all_eq_true_iff_forall_mem.1 h1 e he
      simp only [hbe, Bool.not_true, Bool.false_or, decide_eq_true_eq] at h2
      exact hbef _ h2
    refine ⟨fun h0 => (by rw [h0] at hri; cases hri), fun j hj => ?_⟩
    obtain ⟨hju, oj, hoj, _⟩ := mem_ready.1 hj
    have hja := (Array.getElem?_eq_some_iff.1 hoj).1
    have hjh : j < h := by omega
    have hje : E[j]? = some E[j] := List.getElem?_eq_getElem (by omega)
    refine inv_stepB harr hp inv hj hjh hoj hje (hg j oj _ hoj hje) ok hS0 (fun t ht => hd j oj t hoj ht) (fun i b hb => hlab j _ hje i b hb) (fun i e' hij hi => by
      rcases Nat.lt_or_gt_of_ne hij with hlt | hlt
      · exact .inl (huniq i j e' _ hlt hi hje)
      · exact .inr (huniq j i _ e' hlt hje hi)) B fun a' W' σ' I' => ?_
    refine ih _ _ _ σ' (inv.set hj hjh) ?_ I'
    have := cnt_set (getD_both hju) (by rw [inv.size]; exact hja) h
    rw [if_pos hjh] at this
    omega

/-- the closed check of a region whose operations come in any order -/
def freeB (ops : List Oper) : Bool := pairB ops.toArray ops.length && backB ops.toArray ops.length
/-- Is what is stored what was loaded from there? -/
def selfB (ops : List Oper) : Bool := ops.all fun o => match o.op with
  | .store _ (.tmp p) (.tmp v) => ops.any fun o' => match o'.op with
    | .load _ (.tmp q) => o'.dst == some v && q == p
    | _ => false
  | .store _ _ _ => false
  | _ => true
def drawB (P : Program) (F : Facts) (jf : Bool) (ops : List Oper) (fr : List AV) (own : List Blk) (K : List AV → List Blk → Prop) : Prop :=
  Ob ((freeB ops && (jf || selfB ops)) = true) <| match slotsIn ops fr with
    | true => match jf with
      | true => junkTo fr ops own fun own => headK P F ops ops 0 fr own [] fun fr own I => applyI I own fun own => K fr own
      | false => headK P F ops ops 0 fr own [] fun fr own I => applyI I own fun own => K fr own
    | false => False
inductive DrawN (A B C : Prop) : Prop where
  | a (h : A) : DrawN A B C
  | b (h : B) : DrawN A B C
  | c (h : C) : DrawN A B C

theorem drawB_sound {jf : Bool} {ops : List Oper} {id : Nat} {Q : Exit → Act → World → Prop} {K : List AV → List Blk → Prop} (hm : P.follows .mixedOrders = true) (h : drawB P F jf ops fr own K) (hH : Holds w0 F σ fr own a w)
    (hn : ∀ σ' fr' own' a' w', Holds w0 F σ' fr' own' a' w' → K fr' own' → Q .normal a' w') : (Code.region id ops.toArray true).wp P Q a w := by
  obtain ⟨hck, h⟩ := h
  split at h
  · rename_i hsl
    simp only [freeB, Bool.and_eq_true] at hck
    obtain ⟨⟨hp, hb⟩, _⟩ := hck
    obtain ⟨ownJ, h, hwk, hwl⟩ : ∃ own', (headK P F ops ops 0 fr own' [] fun fr own I => applyI I own fun own => K fr own) ∧ Wk own' own ∧ own'.length = own.length := by
      split at h
      · exact junkTo_ok ops own h
      · exact ⟨own, h, .refl _, rfl⟩
    have hH : Holds w0 F σ fr ownJ a w := ⟨hH.reg.wk hwk hwl, hH.fr, hH.dfr⟩
    clear hwk hwl
    have hslot : ∀ o ∈ ops, ∀ t, o.dst = some t → t < fr.length := fun o ho t ht => by
      have := List.all_eq_true.1 hsl o ho
      simp only [ht, nth_eq] at this
      obtain ⟨x, hx⟩ := Option.isSome_iff_exists.1 this
      exact (List.getElem?_eq_some_iff.1 hx).1
    obtain ⟨E, frF, own0, I, S, q1, q2, q3, q4, q5, q6, q7, q8, q9, q10, _, _⟩ := extractB ops 0 fr ownJ [] hslot ⟨List.nodup_nil, fun x hx => (by cases hx), fun x hx => (by cases hx), fun s k l hm => (by cases hm)⟩ h
    rw [applyI_eq] at q3
    rw [Nat.zero_add] at q10
    have hget : ∀ j : Nat, ops.toArray[j]? = ops[j]? := fun j => by simp
    have htext : ∀ j, j ≤ ops.length → SFof ops.toArray E (sfOf fr) (fun _ => true) j = S j := fun j hj =>
      SFof_text q5 (fun j o e hj he => (q7 j o e hj he).1) (fun j hj => hget j) q1 j hj
    refine wp_region_any hm ?_
    have inv0 : HeadInv .any ops.toArray ops.length (Array.replicate ops.toArray.size false) :=
      ⟨by simp, fun j oj _ hl => (by rw [getD_replicate_false] at hl; cases hl), fun t _ ht => getD_in (by simpa using ht) (getD_replicate_false _ _)⟩
    have hcnt : ∀ m, cnt (Array.replicate ops.toArray.size false) m = m := fun m => by
      induction m with
      | zero => rfl
      | succ m ih => unfold cnt; rw [ih, getD_replicate_false]; simp
    have hR : Reg w0 F σ ownJ { w with drawn := w.drawn + 1 } := hH.reg.later ⟨rfl, rfl, rfl, Nat.le_refl _, fun _ _ => rfl⟩
    have e0 : (ownAt I own0 fun i => (Array.replicate ops.toArray.size false).getD i false) = own0 := by
      have : ∀ (I : Ini) (own : List Blk), ownAt I own (fun i => (Array.replicate ops.toArray.size false).getD i false) = own := fun I => by
        induction I with
        | nil => intro own; rfl
        | cons x I ih => intro own; obtain ⟨s, k, l⟩ := x; unfold ownAt; simp only [getD_replicate_false, Bool.false_eq_true, if_false]; simpa only [getD_replicate_false] using ih own
      exact this I own0
    have hRF : Reg w0 F σ (ownAt I own0 fun i => (Array.replicate ops.toArray.size false).getD i false) { w with drawn := w.drawn + 1 } := by
      rw [e0]
      exact hR.pre q2
    have I0 : InvB ops.toArray E (sfOf fr) ops.length fr.length w0 F I own0 (Array.replicate ops.toArray.size false) a { w with drawn := w.drawn + 1 } σ :=
      ⟨⟨hRF, fun t => by
        rw [SFof_cut 0 ops.length (Nat.zero_le _) fun i _ _ _ => getD_replicate_false _ _]
        exact sf_of_fr hH.fr t, hH.fr.len.symm, hH.dfr, fun i e q hi hq _ => by
        have := (q8 i e hi).1
        cases hs : σ (e.n + q) with
        | none => rfl
        | some v => have := hR.dom _ v hs; omega⟩, fun s k l _ hl => (by rw [getD_replicate_false] at hl; cases hl)⟩
    have H := any_invB (P := P) (Q := Q) (arr := ops.toArray) (ops := ops) (h := ops.length) rfl (by simp) hp hb q1 sf_grow (fun j oj t hoj ht => hslot oj (by simpa using Array.mem_of_getElem? hoj) t ht) q10
      (fun j oj e hoj he => by
        have hjn : j < ops.length := by have := (List.getElem?_eq_some_iff.1 he).1; omega
        rw [htext j (by omega)]
        have := (q7 j oj e (by rw [← hget j]; exact hoj) he).2
        rwa [Nat.zero_add] at this) (fun j e hj => (q8 j e hj).2) q9
      (fun listed a W σ' hall B => by
        refine hn σ' frF _ a W ⟨?_, fr_of_sf (by rw [q4, B.inv.size]) fun t _ => ?_, B.inv.dfr⟩ q3
        · have := B.inv.reg
          rwa [ownAt_same (L' := fun _ => true) I own0 fun x hx => hall x.1 (q10.lt x hx)] at this
        · have := B.inv.slots t
          rw [SFof_same (L' := fun _ => true) ops.length (fun i hi _ => hall i hi), htext _ (Nat.le_refl _), q6] at this
          exact this) ops.length (Array.replicate ops.toArray.size false) a _ σ inv0 (hcnt _) I0
    simpa using H
  · exact h.elim

end

end Go.Proofs.YthbhnbnlbhpooaaGreatDoor
