/- The abstract machine with unknowns: families of blocks, not told one by one. No condition. -/
import Derived.Test.YthbhnbnlbhpooaaGreatDoorUI
namespace Go.Proofs.YthbhnbnlbhpooaaGreatDoor.U
open Go Go.RowKit Go.Sort
set_option linter.unusedVariables false
set_option linter.unusedSimpArgs false

def gTr : Nat → List (Option Blk) → Tr Blk
  | _, [] => .e
  | i, b :: l => Tr.put b (ptF i i) (gTr (i + 1) l)
theorem gTr_at (k : Nat) : ∀ (l : List (Option Blk)) (i : Nat), Tr.at (ptF k k) (gTr i l) = if i ≤ k then (l[k - i]?).join else none
  | [], i => by rw [gTr, Tr.at_e]; simp
  | b :: l, i => by
    rw [gTr]
    by_cases h : k = i
    · subst h
      rw [Tr.at_same, if_pos (Nat.le_refl _), Nat.sub_self]; rfl
    · rw [Tr.at_other _ _ _ _ fun e => h (ptF_inj k i k i (Nat.le_refl _) (Nat.le_refl _) e), gTr_at k l (i + 1)]
      by_cases h2 : i ≤ k
      · rw [if_pos (by omega), if_pos h2]
        obtain ⟨d, rfl⟩ : ∃ d, k = i + 1 + d := ⟨k - (i + 1), by omega⟩
        rw [show i + 1 + d - (i + 1) = d by omega, show i + 1 + d - i = d + 1 by omega, List.getElem?_cons_succ]
      · rw [if_neg (by omega), if_neg h2]
/-- A family behind 257; one behind 65793. -/
def base1 (l : List (Option Blk)) : Tr Blk := .n .e none (.n (gTr 256 l) none .e)
def base2 (l : List (Option Blk)) : Tr Blk := .n .e none (.n .e none (.n .e none (.n .e none (.n (gTr 65792 l) none .e))))
theorem base1_get {l : List (Option Blk)} (hl : l.length ≤ 65280) {k : Nat} {b : Blk} (h : (base1 l).get k = some b) : ∃ j, k = 257 + j ∧ j < l.length ∧ l[j]? = some (some b) := by
  unfold Tr.get at h
  by_cases h1 : 257 ≤ k ∧ k ≤ 65536
  · rw [pt_g1 h1.1 h1.2] at h
    replace h : Tr.at (ptF (k - 1) (k - 1)) (gTr 256 l) = some b := h
    rw [gTr_at, if_pos (by omega)] at h
    cases hx : l[k - 1 - 256]? with
    | none => rw [hx] at h; cases h
    | some y =>
      rw [hx] at h
      have h : y = some b := h
      subst h
      have := (List.getElem?_eq_some_iff.1 hx).1
      exact ⟨k - 1 - 256, by omega, this, hx⟩
  · exfalso
    cases k with
    | zero => simp [pt, base1, Tr.at, Tr.at_e] at h
    | succ m =>
      simp only [pt] at h
      repeat' split at h
      all_goals first
        | (generalize ptB 8 _ = q at h; simp [base1, Tr.at, Tr.at_e] at h; done)
        | (generalize ptF _ _ = q at h; simp [base1, Tr.at, Tr.at_e] at h; done)
        | (clear h
           simp only [← Bool.not_eq_true, Nat.ble_eq] at *
           omega)
theorem base2_get {l : List (Option Blk)} (hl : l.length ≤ 65280) {k : Nat} {b : Blk} (h : (base2 l).get k = some b) : ∃ j, k = 65793 + j ∧ j < l.length ∧ l[j]? = some (some b) := by
  have hp : ∀ q, pt k = .r (.r (.r (.r (.l q)))) → q = ptF (k - 1) (k - 1) ∧ 65793 ≤ k := fun q hq => by
    cases k with
    | zero => simp [pt] at hq
    | succ m =>
      simp only [pt] at hq
      repeat' split at hq
      all_goals simp only [Pt.l.injEq, Pt.r.injEq, reduceCtorEq] at hq
      subst hq
      rename_i h1 _ h2 _ h3 _ h4
      exact ⟨rfl, by
        have h3 : ¬ m ≤ 65791 := fun hle => by rw [Nat.ble_eq_true_of_le hle] at h3; cases h3
        omega⟩
  have h : Tr.at (pt k) (base2 l) = some b := h
  generalize pt k = p at h hp
  unfold base2 at h
  rcases p with _ | q | q
  · cases h
  · rw [Tr.at, Tr.at_e] at h; cases h
  rcases q with _ | q | q
  · cases h
  · simp only [Tr.at, Tr.at_e] at h; cases h
  rcases q with _ | q | q
  · cases h
  · simp only [Tr.at, Tr.at_e] at h; cases h
  rcases q with _ | q | q
  · cases h
  · simp only [Tr.at, Tr.at_e] at h; cases h
  rcases q with _ | q | q
  · cases h
  · obtain ⟨rfl, h1⟩ := hp q rfl
    simp only [Tr.at] at h
    rw [gTr_at] at h
    split at h
    · cases hx : l[k - 1 - 65792]? with
      | none => rw [hx] at h; cases h
      | some y =>
        rw [hx] at h
        have h : y = some b := h
        subst h
        exact ⟨k - 1 - 65792, by omega, (List.getElem?_eq_some_iff.1 hx).1, hx⟩
    · cases h
  · simp only [Tr.at, Tr.at_e] at h; cases h
/-- A heap: blocks that are told, over a family. -/
def mkOB (b : Tr Blk) : List (Nat × Option Blk) → Tr Blk
  | [] => b
  | x :: l => (mkOB b l).set x.1 x.2
theorem mkOB_get {t : Tr Blk} : ∀ {l : List (Nat × Option Blk)} {k : Nat} {b : Blk}, (mkOB t l).get k = some b → (k, some b) ∈ l ∨ t.get k = some b
  | [], k, b, h => .inr h
  | x :: l, k, b, h => by
    rw [mkOB, Tr.get_set] at h
    split at h
    · rename_i hk
      subst hk
      have : x = (x.1, some b) := by rw [← h]
      rw [← this]
      exact .inl (List.mem_cons_self ..)
    · rcases mkOB_get h with h | h
      · exact .inl (List.mem_cons_of_mem _ h)
      · exact .inr h
/-- A state told anew: blocks one by one, and a family behind 'c'. -/
theorem Cov.fam {P : Program} {N n0 : Nat} {fr : Tr Value} {s : AS} (ρ : Nat → Nat) (kf : Nat) (F : Value → Value → Prop) {T : TypeId} {op : Bool} {xs : List Value} (c : Nat) (t : Tr Blk) (fam : List (Option Blk)) {l : List (Nat × Value)} {hl : List (Nat × Option Blk)} {n lo glb : Nat} (e1 : lo = s.lo) (e2 : glb = s.glb) (hn : n0 ≤ n) (hg : glb ≤ n0) (hρ : ∀ k, k < n0 → ρ k = k)
    (hlo : lo = 0) (ht : ∀ k b, t.get k = some b → ∃ j, k = c + j ∧ j < fam.length ∧ fam[j]? = some (some b)) (hc : c + fam.length ≤ n)
    (hfam : ∀ j b, fam[j]? = some (some b) → ∃ b', s.heap.get (ρ (c + j)) = some b' ∧ RenB n ⟨ρ, F⟩ b b')
    (hkeys : keysB ρ lo n (hl.map (·.1)) = true) (hkf : xs ≠ [] → ((hl.map (·.1)).all fun k => decide (ρ k ≠ kf)) = true) (hkf2 : xs ≠ [] → ∀ j, j < fam.length → ρ (c + j) ≠ kf)
    (hfi : ∀ j j', j < fam.length → j' < fam.length → ρ (c + j) = ρ (c + j') → j = j') (hfk : ∀ k ∈ hl.map (·.1), ∀ j, j < fam.length → ρ k ≠ ρ (c + j))
    (hb : blksO s.heap n ⟨ρ, F⟩ hl) (hk : xs ≠ [] → s.heap.get kf = some (.cells T xs op)) (hF : ∀ u1 u, F u1 u → FrzOne kf xs u1 u) (hf : slotsRen fr n ⟨ρ, F⟩ l) : Cov P N n0 fr s (mkF l) ⟨mkOB t hl, n, lo, glb⟩ := by
  subst e1
  have hkeys := keysB.all hkeys
  have hg' : ∀ k b, (mkOB t hl).get k = some b → (k ∈ hl.map (·.1) ∧ ∃ b', s.heap.get (ρ k) = some b' ∧ RenB n ⟨ρ, F⟩ b b') ∨ ∃ j, k = c + j ∧ j < fam.length ∧ fam[j]? = some (some b) := fun k b h => by
    rcases mkOB_get h with h | h
    · exact .inl ⟨List.mem_map.2 ⟨_, h, rfl⟩, hb.all _ h b rfl⟩
    · exact .inr (ht k b h)
  refine Cov.gen ρ kf F (T := T) (op := op) (xs := xs) rfl e2 hn hg hρ (fun k b h => ?_) (fun k k' h h' e => ?_) (fun k hk => absurd hk (by rw [hlo]; exact Nat.not_lt_zero k)) (by rw [hlo]; exact Nat.zero_le _) hk hF fun t u hu => hf.all _ (mkF_mem hu)
  · rcases hg' k b h with ⟨h1, h2⟩ | ⟨j, rfl, h1, h2⟩
    · exact ⟨(hkeys k h1).1, (hkeys k h1).2.1, fun hx => of_decide_eq_true (List.all_eq_true.1 (hkf hx) k h1), h2⟩
    · exact ⟨by omega, fun _ => by rw [hlo]; exact Nat.zero_le _, fun hx => hkf2 hx j h1, hfam j b h2⟩
  · obtain ⟨b, hbk⟩ := Option.ne_none_iff_exists'.1 h
    obtain ⟨b', hbk'⟩ := Option.ne_none_iff_exists'.1 h'
    rcases hg' k b hbk with ⟨h1, _⟩ | ⟨j, rfl, h1, _⟩ <;> rcases hg' k' b' hbk' with ⟨h3, _⟩ | ⟨j', rfl, h3, _⟩
    · exact (hkeys k h1).2.2 k' h3 e
    · exact absurd e (hfk k h1 j' h3)
    · exact absurd e.symm (hfk k' h3 j h1)
    · rw [hfi j j' h1 h3 e]
theorem grow_ok {m b : Nat} (hb : b ≤ 1000) (hm : m ≤ 100000) : ((m * b).ble 140737488355328 && m.ble 1000000) = true := by
  have h1 : m * b ≤ 100000 * 1000 := Nat.mul_le_mul hm hb
  rw [Nat.ble_eq_true_of_le (by omega), Nat.ble_eq_true_of_le (by omega)]
  rfl
theorem RenV.conv {n m : Nat} {ρ : Nat → Nat} {u v : Value} (h : RenV m ⟨fun k => k, fun _ _ => False⟩ u v) (hm : m ≤ n) (hρ : ∀ k, k < m → ρ k = k) : RenV n ⟨ρ, fun _ _ => False⟩ u v := by
  induction h with
  | agg l m hl _ ih => exact .agg l m hl ih
  | ext _ _ h => exact absurd h id
  | clean _ _ h e => exact .clean _ _ h e
  | ptr k k' off hk e => exact .ptr k k' off (by omega) ((hρ k hk).trans e)
  | sl k k' off m m' c c' hk e e2 e3 => exact .sl k k' off m m' c c' (by omega) ((hρ k hk).trans e) e2 e3
  | yld k k' hk e => exact .yld k k' (by omega) ((hρ k hk).trans e)
theorem slotsRen.conv {fr : Tr Value} {n m : Nat} {ρ : Nat → Nat} (hm : m ≤ n) (hρ : ∀ k, k < m → ρ k = k) : ∀ {l : List (Nat × Value)}, slotsRen fr m ⟨fun k => k, fun _ _ => False⟩ l → slotsRen fr n ⟨ρ, fun _ _ => False⟩ l
  | [], _ => trivial
  | x :: l, h => ⟨let ⟨u, h1, h2⟩ := h.1; ⟨u, h1, h2.conv hm hρ⟩, slotsRen.conv hm hρ h.2⟩
end Go.Proofs.YthbhnbnlbhpooaaGreatDoor.U
