
import Derived.Test.YthekpmpcbidjiaaS35
namespace Go.Proofs.Ythekpmpcbidjiaa
open Go Go.RowKit Go.Sort U
set_option linter.unusedVariables false
set_option linter.unusedSimpArgs false
theorem way_lt {back : List (List Int)} (hb : okB back) {v k u : Nat} (h : Way back v k u) (hv : v < back.length) : u < back.length := by
  cases h with
  | here => exact hv
  | step _ e => exact es_lt hb e
theorem far_v {back : List (List Int)} {v : Nat} {way : List Int} (hF : farOk back v way) (hv : v < back.length) : gt0 way v = 0 := by
  rcases hF.2 v hv with ⟨_, h⟩ | ⟨d, h1, _, h3⟩
  · exact absurd .here (h 0)
  · have := h3 0 .here
    omega
theorem far_zero {back : List (List Int)} {v u : Nat} {way : List Int} (hF : farOk back v way) (hu : u < back.length) (h0 : gt0 way u = 0) : u = v := by
  rcases hF.2 u hu with ⟨h, _⟩ | ⟨d, h1, h2, _⟩
  · omega
  · have hd : d = 0 := by omega
    subst hd
    cases h2
    rfl
theorem far_edge {rows back : List (List Int)} (hT : Tur rows back) {v u w : Nat} {way : List Int} (hF : farOk back v way) (hu : u < back.length) (hw : w < back.length) (e : ES rows u w) (h0 : 0 ≤ gt0 way w) : 0 ≤ gt0 way u ∧ gt0 way u ≤ gt0 way w + 1 := by
  rcases hF.2 w hw with ⟨h, _⟩ | ⟨d, h1, h2, _⟩
  · omega
  · have hs := Way.step h2 ((hT.2 u w).2 e)
    rcases hF.2 u hu with ⟨_, h⟩ | ⟨d', h3, _, h5⟩
    · exact absurd hs (h _)
    · have := h5 _ hs
      omega
theorem far_next {rows back : List (List Int)} (hT : Tur rows back) (hb : okB back) {v u : Nat} {way : List Int} (hF : farOk back v way) (hv : v < back.length) (hu : u < back.length) {d : Nat} (hd : gt0 way u = ((d + 1 : Nat) : Int)) : ∃ w, w < back.length ∧ ES rows u w ∧ gt0 way w = d := by
  rcases hF.2 u hu with ⟨h, _⟩ | ⟨d', h1, h2, h3⟩
  · omega
  · have hdd : d' = d + 1 := by omega
    subst hdd
    cases h2 with
    | @step k w _ h e =>
      have hw := way_lt hb h hv
      have e2 := (hT.2 u w).1 e
      refine ⟨w, hw, e2, ?_⟩
      rcases hF.2 w hw with ⟨_, h4⟩ | ⟨d2, h5, h6, h7⟩
      · exact absurd h (h4 _)
      · have h8 := h7 _ h
        have h9 := h3 _ (.step h6 e)
        omega
theorem way_back {rows back : List (List Int)} (hT : Tur rows back) {v w x : Nat} (h : Rch rows w x) : (∃ k, Way back v k x) → ∃ k, Way back v k w := by
  induction h with
  | refl => exact id
  | @step a b h e ih =>
    rintro ⟨k, hk⟩
    exact ih ⟨k + 1, .step hk ((hT.2 a b).2 e)⟩
theorem far_cyc {rows back : List (List Int)} (hT : Tur rows back) (hb : okB rows) {v : Nat} {way : List Int} (hF : farOk back v way) (hc : Cyc rows v) : ∃ w, w < back.length ∧ ES rows v w ∧ 0 ≤ gt0 way w := by
  obtain ⟨w, e, h⟩ := hc
  have hw : w < back.length := by rw [hT.1]; exact es_lt hb e
  obtain ⟨k, hk⟩ := way_back (v := v) hT h ⟨0, .here⟩
  refine ⟨w, hw, e, ?_⟩
  rcases hF.2 w hw with ⟨_, h4⟩ | ⟨d, h5, _, _⟩
  · exact absurd hk (h4 _)
  · omega
end Go.Proofs.Ythekpmpcbidjiaa
namespace Go.Proofs.Ythekpmpcbidjiaa
open Go Go.RowKit Go.Sort U
set_option linter.unusedVariables false
set_option linter.unusedSimpArgs false
def Bst (way : List Int) (p : List Int) (best : Int) : Prop := (best = -1 ∧ ∀ x : Nat, (x : Int) ∈ p → gt0 way x < 0) ∨ ∃ b : Nat, best = b ∧ (b : Int) ∈ p ∧ 0 ≤ gt0 way b ∧ ∀ x : Nat, (x : Int) ∈ p → 0 ≤ gt0 way x → gt0 way b < gt0 way x ∨ (gt0 way b = gt0 way x ∧ b ≤ x)
theorem bst_nil (way : List Int) : Bst way [] (-1) := .inl ⟨rfl, fun x h => by cases h⟩
theorem bst_old {way p : List Int} {best : Int} {w : Nat} (h : Bst way p best) (hp : (p ++ [(w : Int)]).Pairwise (· < ·)) (hw : gt0 way w < 0 ∨ ∃ b : Nat, best = b ∧ gt0 way b ≤ gt0 way w) : Bst way (p ++ [(w : Int)]) best := by
  have hlt := (List.pairwise_append.1 hp).2.2
  rcases h with ⟨e, h⟩ | ⟨b, e, h1, h2, h3⟩
  · refine .inl ⟨e, fun x hx => ?_⟩
    rcases List.mem_append.1 hx with hx | hx
    · exact h x hx
    · have : x = w := Int.ofNat_inj.1 (by simpa using hx)
      subst this
      rcases hw with hw | ⟨b, hb, _⟩
      · exact hw
      · omega
  · refine .inr ⟨b, e, List.mem_append_left _ h1, h2, fun x hx h0 => ?_⟩
    rcases List.mem_append.1 hx with hx | hx
    · exact h3 x hx h0
    · have : x = w := Int.ofNat_inj.1 (by simpa using hx)
      subst this
      have hbx := hlt b h1 x (by simp)
      rcases hw with hw | ⟨b', hb', h4⟩
      · omega
      · have : b' = b := by omega
        subst this
        omega
theorem bst_new {way p : List Int} {best : Int} {w : Nat} (h : Bst way p best) (h0 : 0 ≤ gt0 way w) (hw : best < 0 ∨ ∃ b : Nat, best = b ∧ gt0 way w < gt0 way b) : Bst way (p ++ [(w : Int)]) w := by
  refine .inr ⟨w, rfl, by simp, h0, fun x hx hx0 => ?_⟩
  rcases List.mem_append.1 hx with hx | hx
  · rcases h with ⟨e, h⟩ | ⟨b, e, h1, h2, h3⟩
    · have := h x hx; omega
    · rcases hw with hw | ⟨b', hb', h4⟩
      · omega
      · have : b' = b := by omega
        subst this
        have := h3 x hx hx0
        omega
  · have : x = w := Int.ofNat_inj.1 (by simpa using hx)
    subst this
    exact .inr ⟨rfl, Nat.le_refl _⟩
end Go.Proofs.Ythekpmpcbidjiaa
namespace Go.Proofs.Ythekpmpcbidjiaa
open Go Go.RowKit Go.Sort U
set_option linter.unusedVariables false
set_option linter.unusedSimpArgs false
structure RingOk (rows : List (List Int)) (way : List Int) (v : Nat) (L : List Nat) : Prop where
  lt : ∀ u ∈ L, u < rows.length
  hd : L[0]? = some v
  nd : L.Nodup
  st : ∀ i a b, L[i]? = some a → L[i + 1]? = some b → ES rows a b ∧ Bst way (rows.getD a []) (b : Int) ∧ 0 < gt0 way b
  cl : ∀ a, L.getLast? = some a → ES rows a v ∧ Bst way (rows.getD a []) (v : Int)
structure Rg (rows : List (List Int)) (way : List Int) (v : Nat) (pre : List Nat) (node : Nat) : Prop where
  lt : ∀ u ∈ pre ++ [node], u < rows.length
  hd : (pre ++ [node])[0]? = some v
  st : ∀ i a b, (pre ++ [node])[i]? = some a → (pre ++ [node])[i + 1]? = some b → ES rows a b ∧ Bst way (rows.getD a []) (b : Int) ∧ 0 < gt0 way b
  dn : (pre ++ [node]).tail.Pairwise fun a b => gt0 way b < gt0 way a
  ps : ∀ u ∈ (pre ++ [node]).tail, 0 < gt0 way u
theorem rg_init {rows : List (List Int)} {way : List Int} {v : Nat} (hv : v < rows.length) : Rg rows way v [] v := by
  refine ⟨by simpa using hv, by simp, fun i a b h1 h2 => by simp at h2, by simp, by simp⟩
theorem Rg.next {rows : List (List Int)} {way : List Int} {v node b : Nat} {pre : List Nat} (h : Rg rows way v pre node) (hb : b < rows.length) (e : ES rows node b) (e2 : Bst way (rows.getD node []) (b : Int)) (h0 : 0 < gt0 way b) (hd : pre = [] ∨ gt0 way b < gt0 way node) : Rg rows way v (pre ++ [node]) b := by
  have htail : (pre ++ [node] ++ [b]).tail = (pre ++ [node]).tail ++ [b] := by cases pre <;> simp
  refine ⟨fun u hu => ?_, ?_, fun i x y h1 h2 => ?_, ?_, fun u hu => ?_⟩
  · rcases List.mem_append.1 hu with hu | hu
    · exact h.lt u hu
    · have : u = b := by simpa using hu
      omega
  · have := (List.getElem?_eq_some_iff.1 h.hd).1
    rw [List.getElem?_append_left this]; exact h.hd
  · rcases Nat.lt_trichotomy (i + 1) (pre ++ [node]).length with hi | hi | hi
    · rw [List.getElem?_append_left hi] at h2
      rw [List.getElem?_append_left (by omega)] at h1
      exact h.st i x y h1 h2
    · rw [List.getElem?_append_right (by omega), hi] at h2
      rw [List.getElem?_append_left (by omega)] at h1
      simp at h2
      subst h2
      have hl : i = pre.length := by simp at hi; omega
      subst hl
      simp at h1
      subst h1
      exact ⟨e, e2, h0⟩
    · rw [List.getElem?_eq_none (by rw [List.length_append, List.length_singleton]; omega)] at h2
      cases h2
  · rw [htail, List.pairwise_append]
    refine ⟨h.dn, by simp, fun a ha c hc => ?_⟩
    have : c = b := by simpa using hc
    subst this
    rcases hd with rfl | hd
    · simp at ha
    · have hge : gt0 way node ≤ gt0 way a := by
        have ht : (pre ++ [node]).tail = pre.tail ++ [node] ∨ pre = [] := by cases pre <;> simp
        rcases ht with ht | ht
        · have hdn := h.dn
          rw [ht] at ha hdn
          rcases List.mem_append.1 ha with ha | ha
          · have := (List.pairwise_append.1 hdn).2.2 a ha node (by simp); omega
          · have : a = node := by simpa using ha
            subst this; exact Int.le_refl _
        · subst ht; simp at ha
      omega
  · rw [htail] at hu
    rcases List.mem_append.1 hu with hu | hu
    · exact h.ps u hu
    · have : u = b := by simpa using hu
      subst this; exact h0
theorem Rg.nodup {rows : List (List Int)} {way : List Int} {v node : Nat} {pre : List Nat} (h : Rg rows way v pre node) (h0 : gt0 way v = 0) : (pre ++ [node]).Nodup := by
  have hd := h.hd
  have hdn := h.dn
  have hps := h.ps
  generalize pre ++ [node] = L at *
  cases L with
  | nil => simp
  | cons x l =>
    simp at hd
    subst hd
    replace hdn : l.Pairwise fun a b => gt0 way b < gt0 way a := hdn
    replace hps : ∀ u ∈ l, 0 < gt0 way u := hps
    rw [List.nodup_cons]
    refine ⟨fun hx => ?_, hdn.imp fun hab e => by subst e; omega⟩
    have := hps x hx
    omega
theorem Rg.fin {rows : List (List Int)} {way : List Int} {v node : Nat} {pre : List Nat} (h : Rg rows way v pre node) (h0 : gt0 way v = 0) (e : ES rows node v) (e2 : Bst way (rows.getD node []) (v : Int)) : RingOk rows way v (pre ++ [node]) := by
  refine ⟨h.lt, h.hd, h.nodup h0, h.st, fun a ha => ?_⟩
  · have : a = node := by simpa using ha.symm
    subst this; exact ⟨e, e2⟩
theorem Rg.near {rows back : List (List Int)} (hT : Tur rows back) (hb : okB rows) (hb2 : okB back) {way : List Int} {v node : Nat} {pre : List Nat} {best : Int} (hF : farOk back v way) (hv : v < rows.length) (hc : Cyc rows v) (h : Rg rows way v pre node) (hB : Bst way (rows.getD node []) best) : ∃ b : Nat, best = b ∧ b < rows.length ∧ ES rows node b ∧ 0 ≤ gt0 way b ∧ (pre = [] ∨ gt0 way b < gt0 way node) := by
  have hvb : v < back.length := by rw [hT.1]; exact hv
  have hex : ∃ w, ES rows node w ∧ 0 ≤ gt0 way w ∧ (pre = [] ∨ gt0 way w < gt0 way node) := by
    rcases pre with _ | ⟨x, pre⟩
    · have hd := h.hd
      simp at hd
      subst hd
      obtain ⟨w, _, h1, h2⟩ := far_cyc hT hb hF hc
      exact ⟨w, h1, h2, .inl rfl⟩
    · have hp := h.ps node (by simp)
      obtain ⟨w, _, h1, h2⟩ := far_next (d := (gt0 way node).toNat - 1) hT hb2 hF hvb (by rw [hT.1]; exact h.lt node (by simp)) (by omega)
      exact ⟨w, h1, by omega, .inr (by omega)⟩
  obtain ⟨w, h1, h2, h3⟩ := hex
  rcases hB with ⟨_, h4⟩ | ⟨b, e, h4, h5, h6⟩
  · have := h4 w h1
    omega
  · refine ⟨b, e, es_lt hb (v := node) h4, h4, h5, ?_⟩
    rcases h3 with h3 | h3
    · exact .inl h3
    · right
      rcases h6 w h1 h2 with h7 | ⟨h7, _⟩ <;> omega
end Go.Proofs.Ythekpmpcbidjiaa
namespace Go.Proofs.Ythekpmpcbidjiaa
open Go Go.RowKit Go.Sort U
set_option linter.unusedVariables false
set_option linter.unusedSimpArgs false
theorem far_unique {back : List (List Int)} {v : Nat} {w1 w2 : List Int} (h1 : farOk back v w1) (h2 : farOk back v w2) : w1 = w2 := by
  have key : ∀ u, u < back.length → gt0 w1 u = gt0 w2 u := fun u hu => by
    rcases h1.2 u hu with ⟨e1, n1⟩ | ⟨d1, e1, p1, m1⟩
    · rcases h2.2 u hu with ⟨e2, n2⟩ | ⟨d2, e2, p2, m2⟩
      · rw [e1, e2]
      · exact absurd p2 (n1 _)
    · rcases h2.2 u hu with ⟨e2, n2⟩ | ⟨d2, e2, p2, m2⟩
      · exact absurd p1 (n2 _)
      · have := m1 _ p2
        have := m2 _ p1
        omega
  refine List.ext_getElem (by rw [h1.1, h2.1]) fun i i1 i2 => ?_
  have := key i (by rw [← h1.1]; exact i1)
  simpa [gt0, i1, i2] using this
theorem least_nat {p : Nat → Prop} (h : ∃ k, p k) : ∃ d, p d ∧ ∀ k, p k → d ≤ k := by
  obtain ⟨k, hk⟩ := h
  induction k using Nat.strongRecOn with
  | _ k ih =>
    by_cases h2 : ∃ j, j < k ∧ p j
    · obtain ⟨j, hj, hp⟩ := h2
      exact ih j hj hp
    · refine ⟨k, hk, fun j hp => ?_⟩
      by_cases hj : j < k
      · exact absurd ⟨j, hj, hp⟩ h2
      · omega
theorem far_ex (back : List (List Int)) (v : Nat) : ∃ way, farOk back v way := by
  have h1 : ∀ u, ∃ x : Int, (x = -1 ∧ ∀ k, ¬ Way back v k u) ∨ ∃ d : Nat, x = d ∧ Way back v d u ∧ ∀ k, Way back v k u → d ≤ k := fun u => by
    by_cases h : ∃ k, Way back v k u
    · obtain ⟨d, h2, h3⟩ := least_nat h
      exact ⟨d, .inr ⟨d, rfl, h2, h3⟩⟩
    · exact ⟨-1, .inl ⟨rfl, fun k hk => h ⟨k, hk⟩⟩⟩
  let f : Nat → Int := fun u => Classical.choose (h1 u)
  have hf : ∀ u, (f u = -1 ∧ ∀ k, ¬ Way back v k u) ∨ ∃ d : Nat, f u = d ∧ Way back v d u ∧ ∀ k, Way back v k u → d ≤ k := fun u => Classical.choose_spec (h1 u)
  refine ⟨(List.range back.length).map f, by simp, fun u hu => ?_⟩
  have : gt0 ((List.range back.length).map f) u = f u := by simp [gt0, hu]
  rw [this]
  exact hf u
theorem far_bound {rows back : List (List Int)} (hT : Tur rows back) (hb : okB back) {v : Nat} {way : List Int} (hF : farOk back v way) (hv : v < back.length) : ∀ (d u : Nat), u < back.length → gt0 way u = d → ∃ L : List Nat, L.length = d + 1 ∧ L.Nodup ∧ ∀ x ∈ L, x < back.length ∧ 0 ≤ gt0 way x ∧ gt0 way x ≤ d
  | 0, u, hu, h => ⟨[u], rfl, by simp, fun x hx => by
      have : x = u := by simpa using hx
      subst this; exact ⟨hu, by omega, by omega⟩⟩
  | d + 1, u, hu, h => by
    obtain ⟨w, hw, _, hwd⟩ := far_next hT hb hF hv hu h
    obtain ⟨L, h1, h2, h3⟩ := far_bound hT hb hF hv d w hw hwd
    refine ⟨u :: L, by simp [h1], List.nodup_cons.2 ⟨fun hm => ?_, h2⟩, fun x hx => ?_⟩
    · have := (h3 u hm).2.2
      omega
    · rcases List.mem_cons.1 hx with rfl | hx
      · exact ⟨hu, by omega, by omega⟩
      · have := h3 x hx
        exact ⟨this.1, this.2.1, by omega⟩
theorem far_lt {rows back : List (List Int)} (hT : Tur rows back) (hb : okB back) {v : Nat} {way : List Int} (hF : farOk back v way) (hv : v < back.length) {u : Nat} (hu : u < back.length) : gt0 way u < back.length := by
  rcases hF.2 u hu with ⟨h, _⟩ | ⟨d, h, _, _⟩
  · omega
  · obtain ⟨L, h1, h2, h3⟩ := far_bound hT hb hF hv d u hu h
    have := nodup_len h2 fun x hx => (h3 x hx).1
    omega
def cutW (way : List Int) (s n : Nat) : List Int := (List.range way.length).map fun u => if gt0 way u ≤ s ∨ (u < n ∧ gt0 way u = s + 1) then gt0 way u else -1
theorem cutW_len (way : List Int) (s n : Nat) : (cutW way s n).length = way.length := by simp [cutW]
theorem cutW_at {way : List Int} {s n u : Nat} (h : u < way.length) : gt0 (cutW way s n) u = if gt0 way u ≤ s ∨ (u < n ∧ gt0 way u = s + 1) then gt0 way u else -1 := by
  simp [cutW, gt0, h]
theorem cutW_next {way : List Int} {s : Nat} : cutW way s way.length = cutW way (s + 1) 0 := by
  unfold cutW
  refine List.map_congr_left fun u hu => ?_
  have hu := List.mem_range.1 hu
  have h1 : (gt0 way u ≤ (s : Int) ∨ (u < way.length ∧ gt0 way u = s + 1)) ↔ (gt0 way u ≤ ((s + 1 : Nat) : Int) ∨ (u < 0 ∧ gt0 way u = ((s + 1 : Nat) : Int) + 1)) := by omega
  simp only [h1]
theorem cutW_full {way : List Int} {s : Nat} (h : ∀ u, u < way.length → gt0 way u ≤ s) : cutW way s 0 = way := by
  refine List.ext_getElem (cutW_len ..) fun i h1 h2 => ?_
  have h3 := cutW_at (s := s) (n := 0) h2
  rw [if_pos (.inl (h i h2))] at h3
  simpa [gt0, h1, h2] using h3
theorem cutW_set {way : List Int} {s n : Nat} (hn : n < way.length) (hw : gt0 way n = s + 1) : (cutW way s n).set n ((s : Int) + 1) = cutW way s (n + 1) := by
  refine List.ext_getElem (by simp [cutW]) fun i h1 h2 => ?_
  have hi : i < way.length := by simpa [cutW] using h2
  rw [List.getElem_set]
  have e1 := cutW_at (s := s) (n := n) hi
  have e2 := cutW_at (s := s) (n := n + 1) hi
  simp only [gt0, List.getD_eq_getElem?_getD] at e1 e2
  rw [List.getElem?_eq_getElem (by simpa [cutW] using hi)] at e1 e2
  simp only [Option.getD_some] at e1 e2
  rw [e1, e2]
  by_cases hc : n = i
  · subst hc
    simp only [gt0, List.getD_eq_getElem?_getD] at hw
    rw [if_pos rfl, if_pos (.inr ⟨by omega, hw⟩)]
    omega
  · rw [if_neg hc]
    have : i < n ↔ i < n + 1 := by omega
    simp only [this]
theorem cutW_skip {way : List Int} {s n : Nat} (hw : ¬ gt0 way n = s + 1) : cutW way s n = cutW way s (n + 1) := by
  unfold cutW
  refine List.map_congr_left fun u hu => ?_
  by_cases hc : u = n
  · subst hc
    simp only [hw, and_false, or_false]
  · have : u < n ↔ u < n + 1 := by omega
    simp only [this]
theorem cutW_zero {back : List (List Int)} {v : Nat} {way : List Int} (hF : farOk back v way) (hv : v < back.length) : cutW way 0 0 = (List.replicate back.length (-1)).set v 0 := by
  refine List.ext_getElem (by simp [cutW, hF.1]) fun i h1 h2 => ?_
  have hi : i < back.length := by simpa using h2
  have e1 := cutW_at (way := way) (s := 0) (n := 0) (u := i) (by rw [hF.1]; exact hi)
  simp only [gt0, List.getD_eq_getElem?_getD] at e1
  rw [List.getElem?_eq_getElem h1] at e1
  simp only [Option.getD_some] at e1
  rw [e1, List.getElem_set]
  have hz : ∀ x : Option Int, x.getD 0 = x.getD 0 := fun _ => rfl
  have e2 : way[i]?.getD 0 = gt0 way i := by simp [gt0, List.getD_eq_getElem?_getD]
  rw [e2]
  by_cases hc : v = i
  · subst hc
    have := far_v hF hv
    rw [if_pos rfl, this]
    simp
  · rw [if_neg hc]
    simp only [List.getElem_replicate]
    split
    · rename_i h
      rcases hF.2 i hi with ⟨h3, _⟩ | ⟨d, h3, _, _⟩
      · exact h3
      · exfalso
        have hd : gt0 way i = 0 := by omega
        exact hc (far_zero hF hi hd).symm
    · rfl
end Go.Proofs.Ythekpmpcbidjiaa
