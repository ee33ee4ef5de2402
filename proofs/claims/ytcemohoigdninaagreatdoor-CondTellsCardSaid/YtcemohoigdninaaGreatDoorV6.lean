/- A region that draws its order: whichever order comes, its head (operations that read, compute, call, or lay blocks anew) ends as it does in the text's order. No condition but the closed check that is named. -/
import Derived.Test.YtcemohoigdninaaGreatDoorV5
namespace Go.Proofs.YtcemohoigdninaaGreatDoor
open Go Go.RowKit Go.Sort
set_option linter.unusedVariables false
set_option linter.unusedSimpArgs false

variable {P : Program} {F : Facts} {σ : Sg} {fr : List AV} {own : List Blk} {a : Act} {o : Oper} {w0 w : World}

abbrev SF := Nat → Sg → Value → Prop
def sfOf (fr : List AV) : SF := fun t σ u => ∀ x, fr[t]? = some x → x.Is σ u
def updS (S : SF) (d : Option Tmp) (X : AV) : SF := fun t => if d = some t then X.Is else S t

theorem sf_put {d : Option Tmp} {X : AV} (hd : ∀ t, d = some t → t < fr.length) : sfOf (putL d fr X) = updS (sfOf fr) d X := by
  funext t σ u
  unfold updS
  cases d with
  | none => simp [putL]
  | some d =>
    by_cases h : d = t
    · subst h
      rw [if_pos rfl]
      simp [sfOf, putL, setL_eq, hd d rfl]
    · rw [if_neg (fun e => h (Option.some.inj e))]
      simp [sfOf, putL, setL_eq, List.getElem?_set_ne h]
theorem sf_lit {d : Nat} {b : Bool} {x : AV} (hd : nth fr d = some x) (hx : ∀ σ u, x.Is σ u ↔ u = .bool b) : sfOf (fr.set d (.lit b)) = sfOf fr := by
  rw [nth_eq] at hd
  have hlt := (List.getElem?_eq_some_iff.1 hd).1
  funext t σ u
  by_cases h : d = t
  · subst h
    simp only [sfOf, List.getElem?_set_self hlt, hd, Option.some.injEq, forall_eq', eq_iff_iff]
    exact (hx σ u).symm
  · simp [sfOf, List.getElem?_set_ne h]
theorem fr_of_sf {tmps : Array Value} (hl : fr.length = tmps.size) (h : ∀ t, t < fr.length → sfOf fr t σ (tmps.getD t undef)) : FrIs σ fr tmps :=
  ⟨hl, fun i x hx => by
    have hi := (List.getElem?_eq_some_iff.1 hx).1
    have := h i hi x hx
    have hi' : i < tmps.size := by omega
    refine ⟨tmps[i], by simp [hi'], ?_⟩
    simpa [hi'] using this⟩
theorem sf_of_fr {tmps : Array Value} (h : FrIs σ fr tmps) (t : Nat) : sfOf fr t σ (tmps.getD t undef) := fun x hx => by
  obtain ⟨u, h1, h2⟩ := h.at_ t x hx
  simpa [h1] using h2

/-- A guard, whatever the slots' values are. -/
theorem guardK_sf {ops : List Oper} {yes no : List AV → Prop} (h : guardK ops o fr yes no) : ∃ fr' wd, sfOf fr' = sfOf fr ∧ fr'.length = fr.length ∧ (if wd = true then yes fr' else no fr') ∧
    ∀ (σ : Sg) (a : Act), (∀ t ∈ o.looksAt ops.toArray, sfOf fr t σ (a.tmps.getD t undef)) → Region.wanted o (yielded ops.toArray a.tmps) = wd := by
  unfold guardK at h
  split at h
  · rename_i hg
    exact ⟨fr, true, rfl, rfl, by simpa using h, fun σ a _ => by simp [Region.wanted, hg]⟩
  · rename_i j want hg
    split at h
    · rename_i d hd
      have hslot : (ops.toArray[j]?).bind (·.dst) = some d := by
        unfold guardSlot at hd
        rw [nth_eq] at hd
        split at hd
        · rename_i oj hoj; simp [hoj, hd]
        · cases hd
      have hlook : d ∈ o.looksAt ops.toArray := by
        unfold Oper.looksAt
        simp only [hg, hslot]
        exact List.mem_append_right _ (by simp)
      have hy : ∀ (a : Act) (b : Bool), a.tmps.getD d undef = .bool b → Region.wanted o (yielded ops.toArray a.tmps) = (b == want) := fun a b hb => by
        have hs : a.tmps[d]? = some (.bool b) := by
          rcases Nat.lt_or_ge d a.tmps.size with hlt | hge
          · simp [hlt] at hb ⊢; exact hb
          · simp [Array.getElem?_eq_none hge, undef] at hb
        have : yielded ops.toArray a.tmps j = some b := by
          unfold yielded
          rw [hslot]
          simp only [Option.bind_some, hs]
        simp only [Region.wanted, hg, this]
        cases b <;> cases want <;> rfl
      have sem : ∀ (x : AV) (b : Bool), nth fr d = some x → (∀ σ u, x.Is σ u → u = .bool b) → ∀ (σ : Sg) (a : Act), (∀ t ∈ o.looksAt ops.toArray, sfOf fr t σ (a.tmps.getD t undef)) → Region.wanted o (yielded ops.toArray a.tmps) = (b == want) := fun x b hx hb σ a ha =>
        hy a b (hb σ _ (ha d hlook x (by rw [← nth_eq]; exact hx)))
      split at h
      · rename_i b hx
        have hb : ∀ (σ : Sg) (u : Value), (AV.v (.bool b)).Is σ u → u = .bool b := fun σ u h => h
        have hr := sf_lit (b := b) hx (fun σ u => Iff.rfl)
        have hw := sem _ b hx hb
        have hlen : (fr.set d (.lit b)).length = fr.length := by simp
        simp only [setK_eq] at h
        split at h <;> cases b
        · exact ⟨_, false, hr, hlen, by simpa using h.f rfl, hw⟩
        · exact ⟨_, true, hr, hlen, by simpa using h.t rfl, hw⟩
        · exact ⟨_, true, hr, hlen, by simpa using h.f rfl, hw⟩
        · exact ⟨_, false, hr, hlen, by simpa using h.t rfl, hw⟩
      · rename_i b hx
        have hw := sem _ b hx (fun σ u h => h)
        split at h
        · exact ⟨fr, true, rfl, rfl, by simpa using h, hw⟩
        · exact ⟨fr, true, rfl, rfl, by simpa using h, hw⟩
        · rename_i n1 n2
          refine ⟨fr, false, rfl, rfl, by simpa using h, fun σ a ha => ?_⟩
          rw [hw σ a ha]
          cases b <;> cases want <;> first | rfl | exact absurd rfl (n1 rfl) | exact absurd rfl (n2 rfl) | (exfalso; exact n1 rfl rfl) | (exfalso; exact n2 rfl rfl)
      · rename_i vs hx
        refine ⟨fr, false, rfl, rfl, by simpa using h, fun σ a ha => ?_⟩
        have hx' : fr[d]? = some (.v (.tuple vs)) := by rw [← nth_eq]; exact hx
        have hv : a.tmps.getD d undef = .tuple vs := by have := ha d hlook _ hx'; exact this
        have : yielded ops.toArray a.tmps j = none := by
          unfold yielded
          rw [hslot]
          simp only [Option.bind_some]
          rcases Nat.lt_or_ge d a.tmps.size with hlt | hge
          · simp [hlt] at hv ⊢; rw [hv]
          · simp [Array.getElem?_eq_none hge]
        simp [Region.wanted, hg, this]
      · exact h.elim
    · rename_i hd
      refine ⟨fr, false, rfl, rfl, by simpa using h, fun σ a _ => ?_⟩
      have : yielded ops.toArray a.tmps j = none := by
        unfold yielded
        unfold guardSlot at hd
        rw [nth_eq] at hd
        split at hd
        · rename_i oj hoj; simp [hoj, hd]
        · rename_i hoj; simp [hoj]
      simp [Region.wanted, hg, this]

/-- Operations that may come in any order. -/
def freeOp (o : Oper) : Bool :=
  match o.op with
  | .store _ _ _ => false
  | .insert _ _ _ _ => false
  | .call c => (appArgs c).isNone
  | _ => true

/-- What an operation of the head does: the value that it leaves; whether it is carried out; the things that it lays, and the first one's name. -/
structure Ent where
  X : AV
  wd : Bool
  n : Nat
  bs : List Blk

def GoodE (P : Program) (F : Facts) (ops : List Oper) (o : Oper) (S : SF) (E : Ent) (ownF : List Blk) : Prop :=
  ∀ (base : Nat) (σ : Sg) (a : Act) (W : World), base ≤ W.heap.size → Mem base F σ ownF W → (∀ t ∈ o.looksAt ops.toArray, S t σ (a.tmps.getD t undef)) →
    Region.wanted o (yielded ops.toArray a.tmps) = E.wd ∧ match E.wd with
      | false => E.X = .v undef ∧ E.bs = []
      | true => DoesAt P base F σ E.n E.X E.bs W ((execOp a.eval o).run P W)

theorem Mem.pre {base : Nat} {l m : List Blk} (h : Mem base F σ m w) (hp : Pre l m) : Mem base F σ l w := ⟨fun k b v hk hv => h.blk k b v (hp k b hk) hv, h.lt, h.sat⟩

theorem looks_op {ops : List Oper} {S : SF} {a : Act} (hS : S = sfOf fr) (h : ∀ t ∈ o.looksAt ops.toArray, S t σ (a.tmps.getD t undef)) : OpIs σ fr a o := by
  intro x hx y hy
  cases x with
  | tmp t =>
    have ht : t ∈ o.looksAt ops.toArray := by
      unfold Oper.looksAt
      exact List.mem_append_left _ (List.mem_filterMap.2 ⟨.tmp t, by simpa using hx, rfl⟩)
    have := h t ht
    rw [hS] at this
    simp only [ev, nth_eq] at hy
    exact this y hy
  | const v => cases v <;> simp only [ev, Option.some.injEq] at hy <;> subst hy <;> rfl
  | global g => simp only [ev, Option.some.injEq] at hy; subst hy; rfl
  | func f => simp only [ev, Option.some.injEq] at hy; subst hy; rfl

theorem opK_free {K : List AV → List Blk → Prop} (hf : freeOp o = true) (h : opK P F o fr own K) :
    ∃ X bs, ValS P F own fr o (fun x b => x = X ∧ b = bs) ∧ K (putL o.dst fr X) (own ++ bs) := by
  have val : (valK P F o fr own fun x bs => catBK own bs fun own => putK o.dst fr x fun fr => K fr own) → ∃ X bs, ValS P F own fr o (fun x b => x = X ∧ b = bs) ∧ K (putL o.dst fr X) (own ++ bs) := fun h => by
    obtain ⟨X, bs, hX, hy⟩ := valK_sound h
    rw [catBK_eq, putK_eq] at hX
    exact ⟨X, bs, ⟨X, bs, ⟨rfl, rfl⟩, hy⟩, hX⟩
  unfold opK at h
  split at h
  · rename_i t x y ho
    simp [freeOp, ho] at hf
  · rename_i t m k x ho
    simp [freeOp, ho] at hf
  · rename_i c ho
    simp only [freeOp, ho] at hf
    split at h
    · rename_i hap; rw [hap] at hf; cases hf
    · exact val h
  · exact val h

/-- The entries of a head, in the text's order. -/
theorem extract {ops : List Oper} {K : List AV → List Blk → Prop} {rest : List Oper} : ∀ (l : List Oper) (fr : List AV) (own : List Blk), l.all freeOp = true → (∀ o ∈ l, ∀ t, o.dst = some t → t < fr.length) → opsK P F ops (l ++ rest) fr own K →
    ∃ (E : List Ent) (frF : List AV) (ownF : List Blk) (S : Nat → SF), E.length = l.length ∧ Pre own ownF ∧ opsK P F ops rest frF ownF K ∧ frF.length = fr.length ∧ S 0 = sfOf fr ∧ S l.length = sfOf frF ∧
      (∀ (j : Nat) (o : Oper) (e : Ent), l[j]? = some o → E[j]? = some e → S (j + 1) = updS (S j) o.dst e.X ∧ (∀ ownG, Pre ownF ownG → GoodE P F ops o (S j) e ownG)) ∧
      (∀ (j : Nat) (e : Ent), E[j]? = some e → own.length ≤ e.n ∧ ∀ i b, e.bs[i]? = some b → ownF[e.n + i]? = some b) ∧
      (∀ (i j : Nat) (e e' : Ent), i < j → E[i]? = some e → E[j]? = some e' → e.n + e.bs.length ≤ e'.n)
  | [], fr, own, _, _, h => ⟨[], fr, own, fun _ => sfOf fr, rfl, .refl _, h, rfl, rfl, rfl, fun j o e hj => by simp at hj, fun j e hj => by simp at hj, fun i j e e' _ hi => by simp at hi⟩
  | o :: l, fr, own, hc, hd, h => by
    simp only [List.all_cons, Bool.and_eq_true] at hc
    simp only [List.cons_append] at h
    unfold opsK at h
    obtain ⟨fr1, wd, hsf, hlen, h, hwan⟩ := guardK_sf h
    have hd0 : ∀ t, o.dst = some t → t < fr1.length := fun t ht => by rw [hlen]; exact hd o (by simp) t ht
    -- what stands behind the first operation
    have main : ∃ (e : Ent), e.n = own.length ∧ opsK P F ops (l ++ rest) (putL o.dst fr1 e.X) (own ++ e.bs) K ∧ (∀ ownG, Pre (own ++ e.bs) ownG → GoodE P F ops o (sfOf fr) e ownG) := by
      cases wd with
      | false =>
        simp only [Bool.false_eq_true, if_false, putK_eq] at h
        exact ⟨⟨.v undef, false, own.length, []⟩, rfl, by simpa using h, fun ownG _ base σ a W _ hM hS => ⟨hwan σ a hS, rfl, rfl⟩⟩
      | true =>
        simp only [if_true] at h
        obtain ⟨X, bs, ⟨x, b, ⟨rfl, rfl⟩, hy⟩, hK⟩ := opK_free hc.1 h
        exact ⟨⟨x, true, own.length, b⟩, rfl, hK, fun ownG hp base σ a W hb hM hS => ⟨hwan σ a hS, hy base σ a (looks_op hsf.symm hS) W hb (hM.pre ((Pre.app own b).trans hp))⟩⟩
    obtain ⟨e, hen, hK1, hgood⟩ := main
    have hput : (putL o.dst fr1 e.X).length = fr.length := by cases o.dst <;> simp [putL, setL_eq, hlen]
    obtain ⟨E, frF, ownF, S, q1, q2, q3, q4, q5, q6, q7, q8, q9⟩ := extract l (putL o.dst fr1 e.X) (own ++ e.bs) hc.2 (fun o' ho' t ht => by rw [hput]; exact hd o' (by simp [ho']) t ht) hK1
    refine ⟨e :: E, frF, ownF, fun n => match n with | 0 => sfOf fr | n + 1 => S n, by simp [q1], (Pre.app own e.bs).trans q2, q3, by rw [q4, hput], rfl, by simpa using q6, fun j o' e' hj he => ?_, fun j e' hj => ?_, fun i j e1 e2 hij hi hj => ?_⟩
    · cases j with
      | zero =>
        simp at hj he
        subst hj
        subst he
        exact ⟨by show S 0 = _; rw [q5, sf_put hd0, hsf], fun ownG hp => hgood ownG (q2.trans hp)⟩
      | succ j => exact q7 j o' e' (by simpa using hj) (by simpa using he)
    · cases j with
      | zero =>
        simp at hj
        subst hj
        exact ⟨by omega, fun i b hi => q2 _ b (by rw [hen, List.getElem?_append_right (by omega), Nat.add_sub_cancel_left]; exact hi)⟩
      | succ j =>
        obtain ⟨k1, k2⟩ := q8 j e' (by simpa using hj)
        simp at k1
        exact ⟨by omega, k2⟩
    · cases j with
      | zero => omega
      | succ j =>
        cases i with
        | zero =>
          simp at hi
          subst hi
          have k1 := (q8 j e2 (by simpa using hj)).1
          simp at k1
          omega
        | succ i => exact q9 i j e1 e2 (by omega) (by simpa using hi) (by simpa using hj)

def entX (E : List Ent) (n : Nat) : AV :=
  match E[n]? with
  | some e => e.X
  | none => .junk
/-- What is in the slots when these operations of the head have been carried out: the last of them that writes a slot fills it. -/
def SFof (arr : Array Oper) (E : List Ent) (S0 : SF) (L : Nat → Bool) : Nat → SF
  | 0 => S0
  | n + 1 => fun t => if L n = true ∧ (arr[n]?).bind (·.dst) = some t then (entX E n).Is else SFof arr E S0 L n t

section
variable {arr : Array Oper} {E : List Ent} {S0 : SF} {L L' : Nat → Bool} {t : Nat}
theorem SFof_same : ∀ (n : Nat), (∀ i, i < n → (arr[i]?).bind (·.dst) = some t → L i = L' i) → SFof arr E S0 L n t = SFof arr E S0 L' n t
  | 0, _ => rfl
  | n + 1, h => by
    unfold SFof
    by_cases hd : (arr[n]?).bind (·.dst) = some t
    · rw [h n (by omega) hd, SFof_same n fun i hi => h i (by omega)]
    · rw [if_neg (fun e => hd e.2), if_neg (fun e => hd e.2), SFof_same n fun i hi => h i (by omega)]
theorem SFof_cut (m : Nat) : ∀ (n : Nat), m ≤ n → (∀ i, m ≤ i → i < n → (arr[i]?).bind (·.dst) = some t → L i = false) → SFof arr E S0 L n t = SFof arr E S0 L m t
  | 0, hm, _ => by rw [Nat.le_zero.1 hm]
  | n + 1, hm, h => by
    by_cases he : m = n + 1
    · rw [he]
    · have ih := SFof_cut m n (by omega) fun i h1 h2 => h i h1 (by omega)
      rw [← ih]
      conv => lhs; unfold SFof
      rw [if_neg]
      rintro ⟨h1, h2⟩
      rw [h n (by omega) (by omega) h2] at h1
      cases h1
theorem SFof_text {S : Nat → SF} {l : List Oper} (h0 : S 0 = S0) (hl : ∀ j o e, l[j]? = some o → E[j]? = some e → S (j + 1) = updS (S j) o.dst e.X) (ha : ∀ j, j < l.length → arr[j]? = l[j]?) (hE : E.length = l.length) : ∀ (n : Nat), n ≤ l.length → SFof arr E S0 (fun _ => true) n = S n
  | 0, _ => h0.symm
  | n + 1, hn => by
    have hn' : n < l.length := by omega
    have h1 := hl n l[n] E[n] (List.getElem?_eq_getElem hn') (List.getElem?_eq_getElem (by omega))
    rw [h1, ← SFof_text h0 hl ha hE n (by omega)]
    funext t
    have hx : entX E n = E[n].X := by unfold entX; rw [List.getElem?_eq_getElem (show n < E.length by omega)]
    show (if (true = true ∧ (arr[n]?).bind (·.dst) = some t) then (entX E n).Is else SFof arr E S0 (fun _ => true) n t) = (if l[n].dst = some t then E[n].X.Is else SFof arr E S0 (fun _ => true) n t)
    rw [ha n hn', List.getElem?_eq_getElem hn', hx]
    simp
theorem SFof_grow (hS : ∀ t σ σ' u, SgLe σ σ' → S0 t σ u → S0 t σ' u) {σ σ' : Sg} {u : Value} (hs : SgLe σ σ') : ∀ (n : Nat), SFof arr E S0 L n t σ u → SFof arr E S0 L n t σ' u
  | 0, h => hS t σ σ' u hs h
  | n + 1, h => by
    unfold SFof at h ⊢
    split
    · rename_i hc; rw [if_pos hc] at h; exact AV.Is.grow h hs
    · rename_i hc; rw [if_neg hc] at h; exact SFof_grow hS hs n h
end
theorem sf_grow : ∀ t σ σ' u, SgLe σ σ' → sfOf fr t σ u → sfOf fr t σ' u := fun t σ σ' u hs h x hx => (h x hx).grow hs

structure InvL (arr : Array Oper) (E : List Ent) (S0 : SF) (h N : Nat) (w0 : World) (F : Facts) (ownF : List Blk) (listed : Array Bool) (a : Act) (W : World) (σ : Sg) : Prop where
  reg : Reg w0 F σ ownF W
  slots : ∀ t, SFof arr E S0 (fun i => listed.getD i false) h t σ (a.tmps.getD t undef)
  size : a.tmps.size = N
  dfr : a.defers = []
  lab : ∀ (i : Nat) (e : Ent) (q : Nat), E[i]? = some e → q < e.bs.length → listed.getD i false = false → σ (e.n + q) = none

/-- Two operations of the head, of which the one need not wait for the other, have nothing to do with each other. -/
def pairB (arr : Array Oper) (h : Nat) : Bool := (List.range h).all fun j => (List.range j).all fun i => Region.waitsFor .any arr j i || (match arr[i]?, arr[j]? with | some oi, some oj => oi.apart arr oj | _, _ => false)
def backB (arr : Array Oper) (h : Nat) : Bool := (List.range h).all fun j => match arr[j]? with | some o => o.after.all (fun e => !Region.binds .any e || decide (e.on < j)) | none => false

theorem pairB_spec {arr : Array Oper} {h i j : Nat} {oi oj : Oper} (hp : pairB arr h = true) (hij : i < j) (hj : j < h) (hoi : arr[i]? = some oi) (hoj : arr[j]? = some oj) : Region.waitsFor .any arr j i = true ∨ oi.apart arr oj = true := by
  have h1 := List.all_eq_true.1 (List.all_eq_true.1 hp j (List.mem_range.2 hj)) i (List.mem_range.2 hij)
  simp only [hoi, hoj, Bool.or_eq_true] at h1
  exact h1

section
variable {arr : Array Oper} {E : List Ent} {S0 : SF} {h N : Nat} {ownF : List Blk} {listed : Array Bool} {W : World}

theorem waits_listed {i j : Nat} (hj : j ∈ Region.ready .any arr listed) (hw : Region.waitsFor .any arr j i = true) : listed.getD i false = true := by
  obtain ⟨_, oj, hoj, hall⟩ := mem_ready.1 hj
  obtain ⟨oj', hoj', e, he, hb, hon⟩ := Region.waitsFor_spec hw
  obtain rfl : oj' = oj := Option.some.inj (hoj'.symm.trans hoj)
  rw [← hon]; exact hall e he hb

/-- Whoever writes a slot that a ready operation looks at, or writes, has been carried out if it stands ahead of it, and has not if it stands behind it. -/
theorem writers {j t : Nat} {oj : Oper} (hp : pairB arr h = true) (inv : HeadInv .any arr h listed) (hj : j ∈ Region.ready .any arr listed) (hjh : j < h) (hoj : arr[j]? = some oj) (ht : t ∈ oj.looksAt arr ∨ oj.dst = some t) :
    (∀ i, i < j → (arr[i]?).bind (·.dst) = some t → listed.getD i false = true) ∧ (∀ i, j < i → i < h → (arr[i]?).bind (·.dst) = some t → listed.getD i false = false) := by
  have hun := getD_both (mem_ready.1 hj).1
  refine ⟨fun i hi hd => ?_, fun i hi hih hd => ?_⟩
  · cases hoi : arr[i]? with
    | none => simp [hoi] at hd
    | some oi =>
      simp only [hoi, Option.bind_some] at hd
      rcases pairB_spec hp hi hjh hoi hoj with hw | hap
      · exact waits_listed hj hw
      · obtain ⟨h1, h2, h3⟩ := Oper.apart_spec hap
        rcases ht with ht | ht
        · exact absurd ht (h1 t hd)
        · exact absurd ht (h2 t hd)
  · cases hoi : arr[i]? with
    | none => simp [hoi] at hd
    | some oi =>
      simp only [hoi, Option.bind_some] at hd
      rcases pairB_spec hp hi hih hoj hoi with hw | hap
      · obtain ⟨oi', hoi', e, he, hb, hon⟩ := Region.waitsFor_spec hw
        obtain rfl : oi' = oi := Option.some.inj (hoi'.symm.trans hoi)
        cases hl : listed.getD i false with
        | false => rfl
        | true =>
          have := inv.closed i oi' hoi hl e he hb
          rw [hon, hun] at this
          cases this
      · obtain ⟨h1, h2, h3⟩ := Oper.apart_spec hap
        rcases ht with ht | ht
        · exact absurd ht (h3 t hd)
        · exact absurd hd (h2 t ht)

theorem SFof_ready {j t : Nat} {oj : Oper} (hp : pairB arr h = true) (inv : HeadInv .any arr h listed) (hj : j ∈ Region.ready .any arr listed) (hjh : j < h) (hoj : arr[j]? = some oj) (ht : t ∈ oj.looksAt arr) :
    SFof arr E S0 (fun i => listed.getD i false) h t = SFof arr E S0 (fun _ => true) j t := by
  obtain ⟨w1, w2⟩ := writers hp inv hj hjh hoj (.inl ht)
  have hun := getD_both (mem_ready.1 hj).1
  rw [SFof_cut j h (by omega) fun i h1 h2 hd => ?_]
  · exact SFof_same j fun i hi hd => w1 i hi hd
  · by_cases he : j = i
    · subst he; exact hun
    · exact w2 i (by omega) h2 hd

theorem SFof_after {j : Nat} {oj : Oper} (hp : pairB arr h = true) (inv : HeadInv .any arr h listed) (hj : j ∈ Region.ready .any arr listed) (hjh : j < h) (hoj : arr[j]? = some oj) (t : Nat) :
    SFof arr E S0 (fun i => (listed.setIfInBounds j true).getD i false) h t = if oj.dst = some t then (entX E j).Is else SFof arr E S0 (fun i => listed.getD i false) h t := by
  by_cases hd : oj.dst = some t
  · rw [if_pos hd]
    obtain ⟨w1, w2⟩ := writers hp inv hj hjh hoj (.inr hd)
    rw [SFof_cut (j + 1) h (by omega) fun i h1 h2 hdi => by rw [getD_set_ne false (by omega)]; exact w2 i (by omega) h2 hdi]
    unfold SFof
    have hlt : j < listed.size := by rw [inv.size]; exact (Array.getElem?_eq_some_iff.1 hoj).1
    rw [if_pos ⟨by simp [hlt], by simp [hoj, hd]⟩]
  · rw [if_neg hd]
    refine SFof_same h fun i hi hdi => ?_
    by_cases he : j = i
    · subst he; simp [hoj] at hdi; exact absurd hdi hd
    · rw [getD_set_ne false he]

theorem inv_put {E : List Ent} {S0 : SF} {N j : Nat} {oj : Oper} {e : Ent} {own1 own2 : List Blk} {W W' : World} {σ' : Sg} {u : Value} (hp : pairB arr h = true) (inv : HeadInv .any arr h listed) (hj : j ∈ Region.ready .any arr listed) (hjh : j < h) (hoj : arr[j]? = some oj) (he : E[j]? = some e)
    (hS0 : ∀ t σ σ' u, SgLe σ σ' → S0 t σ u → S0 t σ' u) (hd : ∀ t, oj.dst = some t → t < N) (I : InvL arr E S0 h N w0 F own1 listed a W σ) (hs : SgLe σ σ') (hu : e.X.Is σ' u) (hR : Reg w0 F σ' own2 W')
    (hl : ∀ (i : Nat) (e' : Ent) (q : Nat), E[i]? = some e' → q < e'.bs.length → i ≠ j → listed.getD i false = false → σ' (e'.n + q) = none) : InvL arr E S0 h N w0 F own2 (listed.setIfInBounds j true) (a.put oj.dst u) W' σ' := by
  have hX : entX E j = e.X := by unfold entX; rw [he]
  refine ⟨hR, fun t => ?_, by rw [put_size]; exact I.size, by cases oj.dst <;> exact I.dfr, fun i e' q hi hb hli => ?_⟩
  · rw [SFof_after hp inv hj hjh hoj t]
    by_cases hdt : oj.dst = some t
    · rw [if_pos hdt, hX, hdt]
      have hlt : t < a.tmps.size := by rw [I.size]; exact hd t hdt
      have := put_self (a := a) (v := u) hlt
      simpa [this] using hu
    · rw [if_neg hdt]
      have := put_other (a := a) (x := oj.dst) (v := u) (s := t) hdt
      have e2 : (a.put oj.dst u).tmps.getD t undef = a.tmps.getD t undef := by simp [this]
      rw [e2]
      exact SFof_grow hS0 hs h (I.slots t)
  · by_cases hij : i = j
    · subst hij
      have hlt : i < listed.size := by rw [inv.size]; exact (Array.getElem?_eq_some_iff.1 hoj).1
      simp [hlt] at hli
    · exact hl i e' q hi hb hij (by rwa [getD_set_ne false (Ne.symm hij)] at hli)

/-- One step: a ready operation of the head is carried out. -/
theorem inv_step {ops : List Oper} {j : Nat} {oj : Oper} {e : Ent} {Q : Exit → Act → World → Prop} {K : Act → World → Prop} (harr : arr = ops.toArray) (hp : pairB arr h = true) (inv : HeadInv .any arr h listed) (hj : j ∈ Region.ready .any arr listed) (hjh : j < h) (hoj : arr[j]? = some oj) (he : E[j]? = some e)
    (hg : GoodE P F ops oj (SFof arr E S0 (fun _ => true) j) e ownF) (hS0 : ∀ t σ σ' u, SgLe σ σ' → S0 t σ u → S0 t σ' u) (hd : ∀ t, oj.dst = some t → t < N) (hlab : ∀ (i : Nat) (b : Blk), e.bs[i]? = some b → ownF[e.n + i]? = some b)
    (huniq : ∀ (i : Nat) (e' : Ent), i ≠ j → E[i]? = some e' → e'.n + e'.bs.length ≤ e.n ∨ e.n + e.bs.length ≤ e'.n) (I : InvL arr E S0 h N w0 F ownF listed a W σ)
    (hK : ∀ a' W' σ', SgLe σ σ' → InvL arr E S0 h N w0 F ownF (listed.setIfInBounds j true) a' W' σ' → K a' W') : wpOp P arr Q j K a W := by
  have hun := getD_both (mem_ready.1 hj).1
  obtain ⟨hwan, hres⟩ := hg w0.heap.size σ a W I.reg.below.size I.reg.mem fun t ht => by
    have := I.slots t
    rw [SFof_ready hp inv hj hjh hoj (by rw [harr]; exact ht)] at this
    exact this
  rw [← harr] at hwan
  unfold wpOp
  simp only [hoj]
  rw [hwan]
  cases hw : e.wd with
  | false =>
    rw [hw] at hres
    simp only [Bool.false_eq_true, if_false]
    exact hK _ _ σ (.refl _) (inv_put hp inv hj hjh hoj he hS0 hd I (.refl _) (by rw [hres.1]; rfl) I.reg fun i e' q hi hq _ hli => I.lab i e' q hi hq hli)
  | true =>
    rw [hw] at hres
    simp only [if_true]
    left
    refine does_step hres fun u W' hL => ?_
    obtain ⟨σ', hs, hR, hX, hk⟩ := I.reg.lay (fun i b hi => hlab i b hi) (fun i hi => I.lab j e i he hi hun) hL
    refine hK _ _ σ' hs (inv_put hp inv hj hjh hoj he hS0 hd I hs hX hR fun i e' q hi hq hij hli => ?_)
    rw [hk _ (by rcases huniq i e' hij hi with h | h <;> omega)]
    exact I.lab i e' q hi hq hli

end

end Go.Proofs.YtcemohoigdninaaGreatDoor
