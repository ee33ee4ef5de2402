/- A region that draws its order: calm operations, then any number of new variables, then a tail in one forced order ('x, y, z := f(a), g(b), h(c)'). One walk serves every order: the new variables' places are any new blocks, no two the same. -/
import Derived.Test.YtcemohoigdninaaGreatDoorQ2
namespace Go.Proofs.YtcemohoigdninaaGreatDoor
open Go Go.RowKit Go.Sort
set_option linter.unusedVariables false
set_option linter.unusedSimpArgs false

def ptr (b : Nat) : Value := .pointer (some ⟨b, 0, none⟩)
theorem ptr_inj {b b' : Nat} (h : ptr b = ptr b') : b = b' := by simpa [ptr] using h

/-- the new variables' slots, filled -/
def putAll (S : Nat → Tmp) (g : Nat → Nat) : List Nat → Act → Act
  | [], a => a
  | i :: l, a => putAll S g l (a.put (some (S i)) (ptr (g i)))

section
variable {S : Nat → Tmp} {g : Nat → Nat}
theorem putAll_size : ∀ (l : List Nat) (a : Act), (putAll S g l a).tmps.size = a.tmps.size := by
  intro l
  induction l with
  | nil => intro a; rfl
  | cons i l ih => intro a; rw [putAll, ih, put_size]
theorem putAll_defers : ∀ (l : List Nat) (a : Act), (putAll S g l a).defers = a.defers := by
  intro l
  induction l with
  | nil => intro a; rfl
  | cons i l ih => intro a; rw [putAll, ih]; rfl
theorem putAll_other {s : Tmp} : ∀ (l : List Nat) (a : Act), (∀ i ∈ l, S i ≠ s) → (putAll S g l a).tmps[s]? = a.tmps[s]? := by
  intro l
  induction l with
  | nil => intro a _; rfl
  | cons i l ih => intro a h; rw [putAll, ih _ (fun j hj => h j (List.mem_cons_of_mem _ hj)), put_other (fun e => h i (List.mem_cons_self ..) (Option.some.inj e))]
theorem putAll_in {i : Nat} : ∀ (l : List Nat) (a : Act), (∀ j ∈ l, S j = S i → j = i) → i ∈ l → S i < a.tmps.size → (putAll S g l a).tmps[S i]? = some (ptr (g i)) := by
  intro l
  induction l with
  | nil => intro a _ h; cases h
  | cons j l ih =>
    intro a hinj hi hs
    rw [putAll]
    by_cases hin : i ∈ l
    · exact ih _ (fun k hk => hinj k (List.mem_cons_of_mem _ hk)) hin (by rw [put_size]; exact hs)
    · have hij : i = j := by
        rcases List.mem_cons.1 hi with h | h
        · exact h
        · exact absurd h hin
      subst hij
      rw [putAll_other _ _ (fun k hk e => hin (by have := hinj k (List.mem_cons_of_mem _ hk) e; rwa [← this]))]
      exact put_self hs
theorem act_ext {a b : Act} (hd : a.defers = b.defers) (h : ∀ s : Nat, a.tmps[s]? = b.tmps[s]?) : a = b := by
  obtain ⟨ta, da⟩ := a
  obtain ⟨tb, db⟩ := b
  obtain rfl : da = db := hd
  obtain rfl : ta = tb := Array.ext_getElem? h
  rfl
theorem putAll_over {i : Nat} {v : Value} {l : List Nat} {a : Act} (hinj : ∀ j ∈ l, ∀ k ∈ l, S j = S k → j = k) (hi : i ∈ l) (hs : ∀ j ∈ l, S j < a.tmps.size) : putAll S g l (a.put (some (S i)) v) = putAll S g l a := by
  refine act_ext (by rw [putAll_defers, putAll_defers]; rfl) fun s => ?_
  by_cases h : ∃ j ∈ l, S j = s
  · obtain ⟨j, hj, rfl⟩ := h
    rw [putAll_in l _ (fun k hk e => hinj k hk j hj e) hj (by rw [put_size]; exact hs j hj), putAll_in l _ (fun k hk e => hinj k hk j hj e) hj (hs j hj)]
  · have h' : ∀ j ∈ l, S j ≠ s := fun j hj e => h ⟨j, hj, e⟩
    rw [putAll_other l _ h', putAll_other l _ h', put_other (fun e => h' i hi (Option.some.inj e))]
theorem putAll_same {l : List Nat} {a : Act} (hinj : ∀ j ∈ l, ∀ k ∈ l, S j = S k → j = k) (hs : ∀ j ∈ l, S j < a.tmps.size) (h : ∀ i ∈ l, a.tmps[S i]? = some (ptr (g i))) : putAll S g l a = a := by
  refine act_ext (putAll_defers _ _) fun s => ?_
  by_cases hx : ∃ j ∈ l, S j = s
  · obtain ⟨j, hj, rfl⟩ := hx
    rw [putAll_in l _ (fun k hk e => hinj k hk j hj e) hj (hs j hj), h j hj]
  · exact putAll_other l _ (fun j hj e => hx ⟨j, hj, e⟩)
end

section
variable {P : Program} {ops : Array Oper} {md : Region.Mode} {w0 : World}

/-- Behind the calm part: whichever new variable comes up, till none is left; then the tail. -/
def allB (md : Region.Mode) (ops : Array Oper) (g m n : Nat) : Nat → Array Bool → Bool
  | 0, listed => Region.seqB md ops g n listed && (List.range' m (n - m)).all (fun i => listed.getD i false)
  | k + 1, listed => decide (Region.ready md ops listed ≠ []) && (Region.ready md ops listed).all (fun i => decide (m ≤ i) && decide (i < n) && allB md ops g m n k (listed.setIfInBounds i true))
def lexA (md : Region.Mode) (ops : Array Oper) (g m n : Nat) : Nat → Nat → Array Bool → Bool
  | 0, _, listed => allB md ops g m n (n - m) listed
  | f + 1, k, listed => (Region.ready md ops listed).contains k && Region.free md ops listed k && lexA md ops g m n f (k + 1) (listed.setIfInBounds k true)

variable {m n : Nat} {S : Nat → Tmp} {Z : Nat → Obj}

theorem headC_all {g : Nat} {F : Act → Prop} {a0 : Act} (hd : ∀ i ∈ List.range' m (n - m), ∃ o, ops[i]? = some o ∧ o.dst = some (S i)) (hinj : ∀ j ∈ List.range' m (n - m), ∀ k ∈ List.range' m (n - m), S j = S k → j = k)
    (hF : ∀ b : Nat → Nat, (∀ i, w0.heap.size ≤ b i) → F (putAll S b (List.range' m (n - m)) a0)) :
    ∀ (k : Nat) (listed : Array Bool) (a : Act) (b : Nat → Nat), allB md ops g m n k listed = true → n ≤ listed.size → (∀ i, w0.heap.size ≤ b i) → (∀ b', putAll S b' (List.range' m (n - m)) a = putAll S b' (List.range' m (n - m)) a0) →
      (∀ i ∈ List.range' m (n - m), listed.getD i false = true → a.tmps[S i]? = some (ptr (b i))) → (∀ i ∈ List.range' m (n - m), S i < a.tmps.size) →
      headC P md ops w0 m n (fun listed' a' => (∀ i ∈ List.range' m (n - m), listed'.getD i false = true) ∧ Region.seqB md ops g n listed' = true ∧ F a') k listed a := by
  intro k
  induction k with
  | zero =>
    intro listed a b hB _ hb i1 i2 hs
    simp only [allB, Bool.and_eq_true, List.all_eq_true] at hB
    refine ⟨hB.2, hB.1, ?_⟩
    have e : putAll S b (List.range' m (n - m)) a = a := putAll_same hinj hs fun i hi => i2 i hi (hB.2 i hi)
    rw [← e, i1]
    exact hF b hb
  | succ k ih =>
    intro listed a b hB hsz hb i1 i2 hs
    simp only [allB, Bool.and_eq_true, List.all_eq_true, decide_eq_true_eq] at hB
    refine ⟨hB.1, fun i hi => ?_⟩
    obtain ⟨⟨h1, h2⟩, h3⟩ := hB.2 i hi
    have hil : i ∈ List.range' m (n - m) := List.mem_range'_1.2 ⟨h1, by omega⟩
    refine ⟨h2, ?_⟩
    obtain ⟨o, ho, hod⟩ := hd i hil
    unfold cOp
    simp only [ho, if_neg (show ¬ i < m by omega), hod]
    intro c hc
    refine ih _ _ (fun j => if j = i then c else b j) h3 (by simpa using hsz) (fun j => ?_) (fun b' => ?_) (fun j hj hl => ?_) (fun j hj => by rw [put_size]; exact hs j hj)
    · show w0.heap.size ≤ if j = i then c else b j
      split
      · exact hc
      · exact hb j
    · rw [putAll_over hinj hil hs]; exact i1 b'
    · by_cases hji : j = i
      · subst hji
        rw [put_self (hs j hj)]
        simp [ptr]
      · rw [getD_set_ne false (Ne.symm hji)] at hl
        rw [put_other (fun e => hji (hinj j hj i hil (Option.some.inj e).symm)), i2 j hj hl]
        simp [hji]

theorem headC_lexA {g : Nat} {F : Act → Prop} (hd : ∀ i ∈ List.range' m (n - m), ∃ o, ops[i]? = some o ∧ o.dst = some (S i)) (hinj : ∀ j ∈ List.range' m (n - m), ∀ k ∈ List.range' m (n - m), S j = S k → j = k)
    (hsel : Region.noSelect ops = true) (hs : Region.sinkB md ops n = true) (hc : Region.chainB md ops n = true) (hn : n < ops.size) (hmn : m ≤ n) :
    ∀ (l : List Oper) (k : Nat) (listed : Array Bool) (a : Act), (∀ j, j < l.length → l[j]? = ops[k + j]?) → k + l.length = m → HeadInv md ops n listed → lexA md ops g m n l.length k listed = true →
    (∀ i ∈ List.range' m (n - m), S i < a.tmps.size) → (∀ i ∈ List.range' m (n - m), listed.getD i false = false) →
    wpCalm P ops w0 (fun a' => ∀ b : Nat → Nat, (∀ i, w0.heap.size ≤ b i) → F (putAll S b (List.range' m (n - m)) a')) l a →
    headC P md ops w0 m n (fun listed' a' => (∀ i ∈ List.range' m (n - m), listed'.getD i false = true) ∧ Region.seqB md ops g n listed' = true ∧ F a') (l.length + (n - m)) listed a := by
  intro l
  induction l with
  | nil =>
    intro k listed a _ hk inv hB hsl hun h
    rw [List.length_nil, Nat.zero_add]
    exact headC_all hd hinj h (n - m) listed a (fun _ => w0.heap.size) hB (by rw [inv.size]; omega) (fun _ => Nat.le_refl _) (fun _ => rfl) (fun i hi hl => by rw [hun i hi] at hl; cases hl) hsl
  | cons o l ih =>
    intro k listed a hl hk inv hB hsl hun h
    have h0 : ops[k]? = some o := by simpa using (hl 0 (by simp)).symm
    simp only [List.length_cons] at hk
    simp only [List.length_cons, lexA, Bool.and_eq_true] at hB
    obtain ⟨⟨hr, hf⟩, hB'⟩ := hB
    have hr' : k ∈ Region.ready md ops listed := by simpa using hr
    obtain ⟨v, hy, hK⟩ : ∃ v, CalmIn P ops w0 o v a ∧ wpCalm P ops w0 (fun a' => ∀ b : Nat → Nat, (∀ i, w0.heap.size ≤ b i) → F (putAll S b (List.range' m (n - m)) a')) l (a.put o.dst v) := by
      by_cases hw : Region.wanted o (yielded ops a.tmps) = true
      · unfold wpCalm at h
        rw [if_pos hw] at h
        obtain ⟨v, h1, h2⟩ := h
        exact ⟨v, .inl ⟨hw, h1⟩, h2⟩
      · unfold wpCalm at h
        rw [if_neg hw] at h
        exact ⟨undef, .inr ⟨by simpa using hw, rfl⟩, h⟩
    have e : (o :: l).length + (n - m) = (l.length + (n - m)) + 1 := by simp only [List.length_cons]; omega
    rw [e]
    refine headC_take h0 (by omega) (Region.noSelect_spec hsel) hs hc hn (by omega) (fun listed' a' hL => seqB_ready hL.2.1) (l.length + (n - m)) listed a inv (Region.free_spec h0 hf) hr' hy ?_
    exact ih (k + 1) _ _ (fun j hj => by have := hl (j + 1) (by simp; omega); simpa [Nat.add_assoc, Nat.add_comm 1 j] using this) (by omega) (inv.set hr' (by omega)) hB' (fun i hi => by rw [put_size]; exact hsl i hi)
      (fun i hi => by have := (List.mem_range'_1.1 hi).1; rw [getD_set_ne false (by omega)]; exact hun i hi) hK

/-- What is known, some operations listed. -/
structure CA (w0 : World) (m n : Nat) (S : Nat → Tmp) (Z : Nat → Obj) (listed : Array Bool) (a : Act) (w : World) : Prop where
  below : Below w0.heap.size w0 w
  new : ∀ i ∈ List.range' m (n - m), listed.getD i false = true → ∃ b, a.tmps[S i]? = some (ptr b) ∧ w0.heap.size ≤ b ∧ w.heap[b]? = some (Z i)
  apart : ∀ i ∈ List.range' m (n - m), ∀ j ∈ List.range' m (n - m), i ≠ j → listed.getD i false = true → listed.getD j false = true → ∀ b b', a.tmps[S i]? = some (ptr b) → a.tmps[S j]? = some (ptr b') → b ≠ b'
  size : ∀ i ∈ List.range' m (n - m), S i < a.tmps.size

theorem CA.step {listed : Array Bool} {a : Act} {w w' : World} {i : Nat} {x : Option Tmp} {v : Value} (c : CA w0 m n S Z listed a w) (hi : i < m) (hx : ∀ j ∈ List.range' m (n - m), x ≠ some (S j)) (hb : Below w.heap.size w w') :
    CA w0 m n S Z (listed.setIfInBounds i true) (a.put x v) w' := by
  have e : ∀ j ∈ List.range' m (n - m), (listed.setIfInBounds i true).getD j false = listed.getD j false := fun j hj => getD_set_ne false (by have := (List.mem_range'_1.1 hj).1; omega)
  refine ⟨c.below.trans (hb.mono c.below.size), fun j hj h => ?_, fun j hj k hk hjk h h' => ?_, fun j hj => by rw [put_size]; exact c.size j hj⟩
  · rw [e j hj] at h
    obtain ⟨b, k1, k2, k3⟩ := c.new j hj h
    exact ⟨b, by rw [put_other (hx j hj)]; exact k1, k2, by rw [hb.block b (heap_lt k3)]; exact k3⟩
  · rw [e j hj] at h
    rw [e k hk] at h'
    rw [put_other (hx j hj), put_other (hx k hk)]
    exact c.apart j hj k hk hjk h h'

theorem CA.take {listed : Array Bool} {a : Act} {w : World} {i : Nat} (c : CA w0 m n S Z listed a w) (hinj : ∀ j ∈ List.range' m (n - m), ∀ k ∈ List.range' m (n - m), S j = S k → j = k) (hi : i ∈ List.range' m (n - m)) :
    CA w0 m n S Z (listed.setIfInBounds i true) (a.put (some (S i)) (ptr w.heap.size)) (w.alloc (Z i)) := by
  have hb : Below w.heap.size w (w.alloc (Z i)) := (Below.refl _ _).alloc (Nat.le_refl _) _
  have old : ∀ j ∈ List.range' m (n - m), j ≠ i → (listed.setIfInBounds i true).getD j false = true → ∃ b, (a.put (some (S i)) (ptr w.heap.size)).tmps[S j]? = some (ptr b) ∧ w0.heap.size ≤ b ∧ b < w.heap.size ∧ w.heap[b]? = some (Z j) := fun j hj hji h => by
    rw [getD_set_ne false (Ne.symm hji)] at h
    obtain ⟨b, k1, k2, k3⟩ := c.new j hj h
    exact ⟨b, by rw [put_other (fun e => hji (hinj j hj i hi (Option.some.inj e).symm))]; exact k1, k2, heap_lt k3, k3⟩
  have self : (a.put (some (S i)) (ptr w.heap.size)).tmps[S i]? = some (ptr w.heap.size) := put_self (c.size i hi)
  refine ⟨c.below.trans (hb.mono c.below.size), fun j hj h => ?_, fun j hj k hk hjk h h' b b' q q' => ?_, fun j hj => by rw [put_size]; exact c.size j hj⟩
  · by_cases hji : j = i
    · subst hji
      exact ⟨_, self, c.below.size, heap_new _ _⟩
    · obtain ⟨b, k1, k2, k3, k4⟩ := old j hj hji h
      exact ⟨b, k1, k2, by rw [hb.block b k3]; exact k4⟩
  · by_cases hji : j = i
    · subst hji
      obtain ⟨b2, k1, k2, k3, k4⟩ := old k hk (Ne.symm hjk) h'
      rw [self] at q
      rw [k1] at q'
      have := ptr_inj (Option.some.inj q)
      have := ptr_inj (Option.some.inj q')
      omega
    · obtain ⟨b2, k1, k2, k3, k4⟩ := old j hj hji h
      rw [k1] at q
      have e1 := ptr_inj (Option.some.inj q)
      by_cases hki : k = i
      · subst hki
        rw [self] at q'
        have := ptr_inj (Option.some.inj q')
        omega
      · rw [getD_set_ne false (Ne.symm hji)] at h
        rw [getD_set_ne false (Ne.symm hki)] at h'
        rw [put_other (fun e => hki (hinj k hk i hi (Option.some.inj e).symm))] at q'
        rw [put_other (fun e => hji (hinj j hj i hi (Option.some.inj e).symm))] at k1
        have hne := c.apart j hj k hk hjk h h' b2 b' k1 q'
        rw [← e1]
        exact hne

theorem headCA_wpAny {g : Nat} {T : Array Bool → Act → Prop} {Q' : Exit → Act → World → Prop} (hmn : m ≤ n)
    (hA : ∀ i ∈ List.range' m (n - m), ∃ o, ops[i]? = some o ∧ o.dst = some (S i) ∧ o.guard = none ∧ ∀ (a : Act) (w : World), (execOp a.eval o).run P w = .ok (.value (ptr w.heap.size)) (w.alloc (Z i)))
    (hinj : ∀ j ∈ List.range' m (n - m), ∀ k ∈ List.range' m (n - m), S j = S k → j = k)
    (hdst : ∀ i o, i < m → ops[i]? = some o → ∀ j ∈ List.range' m (n - m), o.dst ≠ some (S j))
    (hT : ∀ listed a w, CA w0 m n S Z listed a w → T listed a → wpAny P md ops Q' g listed a w) :
    ∀ (f : Nat) (listed : Array Bool) (a : Act) (w : World), listed.size = ops.size → CA w0 m n S Z listed a w → headC P md ops w0 m n T f listed a → wpAny P md ops Q' (f + g) listed a w := by
  intro f
  induction f with
  | zero => intro listed a w _ c h; rw [Nat.zero_add]; exact hT _ _ _ c h
  | succ f ih =>
    intro listed a w hsz c h
    rw [Nat.succ_add]
    refine ⟨fun h0 => absurd h0 h.1, fun i hi => ?_⟩
    obtain ⟨hin, hk⟩ := h.2 i hi
    obtain ⟨_, o, ho, _⟩ := mem_ready.1 hi
    have hsz' : ∀ k, (listed.setIfInBounds k true).size = ops.size := fun k => by simpa using hsz
    unfold wpOp
    simp only [ho]
    unfold cOp at hk
    simp only [ho] at hk
    by_cases him : i < m
    · simp only [him, if_true] at hk
      have nd := hdst i o him ho
      split
      · rename_i hw
        simp only [hw, if_true] at hk
        left
        obtain ⟨v, k1, k2⟩ := hk
        obtain ⟨p, hp⟩ := regrown_of_below c.below
        have k3 := k1 p
        rw [← hp] at k3
        unfold calmAt at k3
        unfold Oper.wp
        generalize (execOp a.eval o).run P w = r at *
        cases r with
        | ok n' w' =>
          cases n' <;> simp only [calmUpon] at k3 <;> simp only [Oper.upon]
          case value u =>
            obtain ⟨e1, e2⟩ := k3
            rw [e1, e2]
            exact ih _ _ _ (hsz' i) (c.step him nd (Below.refl _ _)) k2
          case skip =>
            obtain ⟨e1, e2⟩ := k3
            rw [e1, ← e2]
            exact ih _ _ _ (hsz' i) (c.step him nd (Below.refl _ _)) k2
          case enter fn args =>
            obtain ⟨e1, hc⟩ := k3
            rw [e1]
            exact hc.mono fun e w'' ⟨he, hw''⟩ => by subst he; exact ih _ _ _ (hsz' i) (c.step him nd hw'') k2
        | halt x w' => simp only [calmUpon] at k3
      · rename_i hw
        simp only [hw] at hk
        exact ih _ _ _ (hsz' i) (c.step him nd (Below.refl _ _)) hk
    · simp only [him, if_false] at hk
      have hil : i ∈ List.range' m (n - m) := List.mem_range'_1.2 ⟨by omega, by omega⟩
      obtain ⟨o', ho', hd', hg', hr'⟩ := hA i hil
      obtain rfl : o = o' := Option.some.inj (ho.symm.trans ho')
      rw [if_pos (by simp [Region.wanted, hg'])]
      left
      unfold Oper.wp
      rw [hr']
      simp only [Oper.upon]
      rw [hd'] at hk ⊢
      exact ih _ _ _ (hsz' i) (c.take hinj hil) (hk _ c.below.size)

/-- the closed check -/
def newCheck (ops : Array Oper) (m n : Nat) (ss : List Tmp) : Bool :=
  Region.noSelect ops && decide (n < ops.size) && Region.sinkB .any ops n && Region.chainB .any ops n && lexA .any ops (ops.size - n) m n m 0 (Array.replicate ops.size false) &&
    ((List.range m).all fun i => match ops[i]? with | some o => ss.all (fun s => o.dst != some s) | none => true)

theorem wp_new {id : Nat} {Q : Exit → Act → World → Prop} {a : Act} {w : World} {l : List Oper} (m n : Nat) (ss : List Tmp) {Z : Nat → Obj} (hm : P.follows .mixedOrders = true) (hmn : m ≤ n)
    (hA : ∀ i ∈ List.range' m (n - m), ∃ o, l[i]? = some o ∧ o.dst = some (ss.getD (i - m) 0) ∧ o.guard = none ∧ ∀ (a : Act) (w : World), (execOp a.eval o).run P w = .ok (.value (ptr w.heap.size)) (w.alloc (Z i)))
    (hlen : ss.length = n - m) (hinj : ∀ j ∈ List.range' m (n - m), ∀ k ∈ List.range' m (n - m), ss.getD (j - m) 0 = ss.getD (k - m) 0 → j = k) (hss : ∀ i ∈ List.range' m (n - m), ss.getD (i - m) 0 < a.tmps.size) (hB : newCheck l.toArray m n ss = true)
    (h : wpCalm P l.toArray w (fun a' => ∀ (b : Nat → Nat) (w' : World), (∀ i ∈ List.range' m (n - m), w.heap.size ≤ b i) → (∀ i ∈ List.range' m (n - m), ∀ j ∈ List.range' m (n - m), i ≠ j → b i ≠ b j) → Below w.heap.size w w' → (∀ i ∈ List.range' m (n - m), w'.heap[b i]? = some (Z i)) →
      wpList P l.toArray Q (l.drop n) (putAll (fun i => ss.getD (i - m) 0) b (List.range' m (n - m)) a') w') (l.take m) a) : (Code.region id l.toArray true).wp P Q a w := by
  simp only [newCheck, Bool.and_eq_true, decide_eq_true_eq] at hB
  obtain ⟨⟨⟨⟨⟨hsel, hn⟩, hs⟩, hc⟩, hlex⟩, hd⟩ := hB
  have hn' : n < l.length := by simpa using hn
  have htl : (l.take m).length = m := by simp; omega
  have hdl : (l.drop n).length = l.toArray.size - n := by simp
  have inv0 : HeadInv .any l.toArray n (Array.replicate l.toArray.size false) :=
    ⟨by simp, fun j oj _ hl => (by rw [getD_replicate_false] at hl; cases hl), fun t _ ht => getD_in (by simpa using ht) (getD_replicate_false _ _)⟩
  have hdst : ∀ i o, i < m → l.toArray[i]? = some o → ∀ j ∈ List.range' m (n - m), o.dst ≠ some (ss.getD (j - m) 0) := fun i o him ho j hj => by
    have h1 := List.all_eq_true.1 hd i (List.mem_range.2 him)
    simp only [ho, List.all_eq_true, bne_iff_ne, ne_eq] at h1
    have hj2 := List.mem_range'_1.1 hj
    have hlt : j - m < ss.length := by omega
    refine h1 _ ?_
    rw [show ss.getD (j - m) 0 = ss[j - m] from by simp [hlt]]
    exact List.getElem_mem _
  have hA' : ∀ i ∈ List.range' m (n - m), ∃ o, l.toArray[i]? = some o ∧ o.dst = some (ss.getD (i - m) 0) ∧ o.guard = none ∧ ∀ (a : Act) (w : World), (execOp a.eval o).run P w = .ok (.value (ptr w.heap.size)) (w.alloc (Z i)) := fun i hi => by
    obtain ⟨o, h1, h2⟩ := hA i hi
    exact ⟨o, by simpa using h1, h2⟩
  have H := headC_lexA (P := P) (w0 := w) (md := .any) (g := l.toArray.size - n) (m := m) (n := n) (S := fun i => ss.getD (i - m) 0)
    (F := fun a' => ∀ (b : Nat → Nat) (w' : World), (∀ i ∈ List.range' m (n - m), a'.tmps[ss.getD (i - m) 0]? = some (ptr (b i))) → (∀ i ∈ List.range' m (n - m), w.heap.size ≤ b i) → (∀ i ∈ List.range' m (n - m), ∀ j ∈ List.range' m (n - m), i ≠ j → b i ≠ b j) → Below w.heap.size w w' → (∀ i ∈ List.range' m (n - m), w'.heap[b i]? = some (Z i)) → wpList P l.toArray Q (l.drop n) a' w')
    (fun i hi => by obtain ⟨o, h1, h2, _⟩ := hA' i hi; exact ⟨o, h1, h2⟩) hinj hsel hs hc hn hmn (l.take m) 0 _ a (fun j hj => by
      have hj' : j < m := by rw [htl] at hj; exact hj
      simp [hj']) (by simpa using htl) inv0 (by rw [htl]; exact hlex) hss (fun i _ => getD_replicate_false _ _) ?_
  · refine wp_region_any hm ?_
    have H2 := headCA_wpAny (P := P) (Q' := Q) (w0 := w) (md := .any) (g := l.toArray.size - n) hmn hA' hinj hdst (fun listed a' w' c hL => by
      have hall := hL.1
      have hex : ∃ b : Nat → Nat, ∀ i ∈ List.range' m (n - m), a'.tmps[ss.getD (i - m) 0]? = some (ptr (b i)) ∧ w.heap.size ≤ b i ∧ w'.heap[b i]? = some (Z i) := by
        refine ⟨fun i => if hi : i ∈ List.range' m (n - m) then Classical.choose (c.new i hi (hall i hi)) else 0, fun i hi => ?_⟩
        have hb := Classical.choose_spec (c.new i hi (hall i hi))
        simp only [hi, dif_pos]
        exact hb
      obtain ⟨b, hb⟩ := hex
      have h1 := wpAny_of_seq (md := .any) (Q' := Q) (l.drop n) n listed a' w' (fun j => by simp [List.getElem?_drop]) (by rw [hdl]; exact hL.2.1)
        (hL.2.2 b w' (fun i hi => (hb i hi).1) (fun i hi => (hb i hi).2.1) (fun i hi j hj hij => c.apart i hi j hj hij (hall i hi) (hall j hj) _ _ (hb i hi).1 (hb j hj).1) c.below (fun i hi => (hb i hi).2.2))
      rwa [hdl] at h1) _ _ _ { w with drawn := w.drawn + 1 } (by simp) ⟨⟨rfl, rfl, rfl, Nat.le_refl _, fun _ _ => rfl⟩, fun i _ h => (by rw [getD_replicate_false] at h; cases h), fun i _ j _ _ h => (by rw [getD_replicate_false] at h; cases h), hss⟩ H
    rw [htl, show m + (n - m) + (l.toArray.size - n) = l.toArray.size by simp; omega] at H2
    exact H2
  · refine wpCalm_mono (fun a' hu b hb c w' k1 k2 k3 k4 k5 => ?_) _ _ h
    have e : ∀ i ∈ List.range' m (n - m), c i = b i := fun i hi => by
      have k := k1 i hi
      have hz : ss.getD (i - m) 0 < a'.tmps.size := by
        rcases Nat.lt_or_ge (ss.getD (i - m) 0) a'.tmps.size with hh | hh
        · exact hh
        · rw [Array.getElem?_eq_none (by rw [putAll_size]; exact hh)] at k; cases k
      rw [putAll_in (S := fun i => ss.getD (i - m) 0) (i := i) _ _ (fun j hj e => hinj j hj i hi e) hi hz] at k
      exact (ptr_inj (Option.some.inj k)).symm
    refine hu b w' (fun i _ => hb i) (fun i hi j hj hij => by rw [← e i hi, ← e j hj]; exact k3 i hi j hj hij) k4 (fun i hi => by rw [← e i hi]; exact k5 i hi)

theorem wp_three {id : Nat} {Q : Exit → Act → World → Prop} {a : Act} {w : World} {l : List Oper} (m s0 s1 s2 : Nat) {o0 o1 o2 : Oper} {Z0 Z1 Z2 : Obj} (hm : P.follows .mixedOrders = true) (h0 : l[m]? = some o0) (h1 : l[m + 1]? = some o1) (h2 : l[m + 2]? = some o2) (d0 : o0.dst = some s0) (d1 : o1.dst = some s1) (d2 : o2.dst = some s2)
    (g0 : o0.guard = none) (g1 : o1.guard = none) (g2 : o2.guard = none) (hne01 : s0 ≠ s1) (hne02 : s0 ≠ s2) (hne12 : s1 ≠ s2) (hs0 : s0 < a.tmps.size) (hs1 : s1 < a.tmps.size) (hs2 : s2 < a.tmps.size) (hB : newCheck l.toArray m (m + 3) [s0, s1, s2] = true)
    (a0 : ∀ (a : Act) (w : World), (execOp a.eval o0).run P w = .ok (.value (.pointer (some ⟨w.heap.size, 0, none⟩))) (w.alloc Z0)) (a1 : ∀ (a : Act) (w : World), (execOp a.eval o1).run P w = .ok (.value (.pointer (some ⟨w.heap.size, 0, none⟩))) (w.alloc Z1)) (a2 : ∀ (a : Act) (w : World), (execOp a.eval o2).run P w = .ok (.value (.pointer (some ⟨w.heap.size, 0, none⟩))) (w.alloc Z2))
    (h : wpCalm P l.toArray w (fun a' => ∀ (b0 b1 b2 : Nat) (w' : World), w.heap.size ≤ b0 → w.heap.size ≤ b1 → w.heap.size ≤ b2 → b0 ≠ b1 → b0 ≠ b2 → b1 ≠ b2 → Below w.heap.size w w' → w'.heap[b0]? = some Z0 → w'.heap[b1]? = some Z1 → w'.heap[b2]? = some Z2 →
      wpList P l.toArray Q (l.drop (m + 3)) (((a'.put (some s0) (.pointer (some ⟨b0, 0, none⟩))).put (some s1) (.pointer (some ⟨b1, 0, none⟩))).put (some s2) (.pointer (some ⟨b2, 0, none⟩))) w') (l.take m) a) : (Code.region id l.toArray true).wp P Q a w := by
  have hr : List.range' m (m + 3 - m) = [m, m + 1, m + 2] := by
    rw [show m + 3 - m = 3 by omega]; rfl
  have x0 : [s0, s1, s2].getD (m - m) 0 = s0 := by rw [Nat.sub_self]; rfl
  have x1 : [s0, s1, s2].getD (m + 1 - m) 0 = s1 := by rw [show m + 1 - m = 1 by omega]; rfl
  have x2 : [s0, s1, s2].getD (m + 2 - m) 0 = s2 := by rw [show m + 2 - m = 2 by omega]; rfl
  refine wp_new (Z := fun i => if i = m then Z0 else if i = m + 1 then Z1 else Z2) m (m + 3) [s0, s1, s2] hm (by omega) ?_ (by simp) ?_ ?_ hB ?_
  · rw [hr]
    intro i hi
    simp only [List.mem_cons, List.not_mem_nil, or_false] at hi
    rcases hi with rfl | rfl | rfl
    · exact ⟨o0, h0, by rw [x0]; exact d0, g0, by simpa [ptr] using a0⟩
    · exact ⟨o1, h1, by rw [x1]; exact d1, g1, by simpa [ptr] using a1⟩
    · exact ⟨o2, h2, by rw [x2]; exact d2, g2, by simpa [ptr] using a2⟩
  · rw [hr]
    intro j hj k hk
    simp only [List.mem_cons, List.not_mem_nil, or_false] at hj hk
    rcases hj with rfl | rfl | rfl <;> rcases hk with rfl | rfl | rfl <;> simp only [x0, x1, x2] <;> intro e <;> first | rfl | trivial | exact absurd e (by first | exact hne01 | exact hne02 | exact hne12 | exact hne01.symm | exact hne02.symm | exact hne12.symm)
  · rw [hr]
    intro i hi
    simp only [List.mem_cons, List.not_mem_nil, or_false] at hi
    rcases hi with rfl | rfl | rfl
    · rw [x0]; exact hs0
    · rw [x1]; exact hs1
    · rw [x2]; exact hs2
  · refine wpCalm_mono (fun a' hu b w' k1 k2 k3 k4 => ?_) _ _ h
    rw [hr] at k1 k2 k4 ⊢
    have q0 := k4 m (by simp)
    have q1 := k4 (m + 1) (by simp)
    have q2 := k4 (m + 2) (by simp)
    simp only [if_true, if_neg (show ¬ m + 1 = m by omega), if_neg (show ¬ m + 2 = m by omega), if_neg (show ¬ m + 2 = m + 1 by omega)] at q0 q1 q2
    have := hu (b m) (b (m + 1)) (b (m + 2)) w' (k1 _ (by simp)) (k1 _ (by simp)) (k1 _ (by simp)) (k2 _ (by simp) _ (by simp) (by omega)) (k2 _ (by simp) _ (by simp) (by omega)) (k2 _ (by simp) _ (by simp) (by omega)) k3 q0 q1 q2
    simpa only [putAll, x0, x1, x2, ptr] using this

end
end Go.Proofs.YtcemohoigdninaaGreatDoor
