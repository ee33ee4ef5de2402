
import Derived.Test.YthekpmpcbidjiaaGreatT32
namespace Go.Proofs.YthekpmpcbidjiaaGreat
open Go Go.RowKit Go.Sort U
set_option linter.unusedVariables false
set_option linter.unusedSimpArgs false
inductive Rch (rows : List (List Int)) (u : Nat) : Nat → Prop
  | refl : Rch rows u u
  | step {v w : Nat} (h : Rch rows u v) (e : ES rows v w) : Rch rows u w
theorem Rch.trans {rows : List (List Int)} {u v w : Nat} (h1 : Rch rows u v) (h2 : Rch rows v w) : Rch rows u w := by
  induction h2 with
  | refl => exact h1
  | step _ e ih => exact .step ih e
def Mut (rows : List (List Int)) (u v : Nat) : Prop := Rch rows u v ∧ Rch rows v u
theorem Mut.refl {rows : List (List Int)} {u : Nat} : Mut rows u u := ⟨.refl, .refl⟩
theorem Mut.symm {rows : List (List Int)} {u v : Nat} (h : Mut rows u v) : Mut rows v u := ⟨h.2, h.1⟩
theorem Mut.trans {rows : List (List Int)} {u v w : Nat} (h1 : Mut rows u v) (h2 : Mut rows v w) : Mut rows u w := ⟨h1.1.trans h2.1, h2.2.trans h1.2⟩
structure Dfs (rows : List (List Int)) (sb : List Bool) (nx : List Int) (out path : List Nat) : Prop where
  sl : sb.length = rows.length
  nl : nx.length = rows.length
  nd : (out ++ path).Nodup
  lt : ∀ u ∈ out ++ path, u < rows.length
  sn : ∀ u, u < rows.length → (sb.getD u false = true ↔ u ∈ out ++ path)
  nz : ∀ u, u ∉ out ++ path → gt0 nx u = 0
  nb : ∀ u, u < rows.length → 0 ≤ gt0 nx u ∧ gt0 nx u ≤ (rows.getD u []).length
  fin : ∀ u ∈ out, ∀ w, ES rows u w → w ∈ out ++ path
  gr : ∀ u ∈ path, ∀ w : Nat, (w : Int) ∈ (rows.getD u []).take (gt0 nx u).toNat → w ∈ out ++ path
  ch : path.Pairwise fun a b => Rch rows a b
  ld : ∀ u ∈ out, (∃ x ∈ path, Mut rows u x) ∨ ∃ pre u' post, out = pre ++ u' :: post ∧ Mut rows u u' ∧ ∀ v, Rch rows u v → v ∈ pre ++ [u']
theorem dfs_init (rows : List (List Int)) : Dfs rows (List.replicate rows.length false) (List.replicate rows.length 0) [] [] := by
  refine ⟨by simp, by simp, by simp, by simp, fun u hu => by simp [List.getElem?_replicate, hu], fun u _ => ?_, fun u hu => ?_, by simp, by simp, .nil, by simp⟩
  · simp only [gt0, List.getD_eq_getElem?_getD, List.getElem?_replicate]
    split <;> rfl
  · have : gt0 (List.replicate rows.length 0) u = 0 := by simp [gt0, List.getElem?_replicate, hu]
    rw [this]; exact ⟨Int.le_refl _, by omega⟩
theorem getD_set_same {sb : List Bool} {w : Nat} (h : w < sb.length) : (sb.set w true).getD w false = true := by simp [h]
theorem getD_set_ne {sb : List Bool} {w u : Nat} (h : u ≠ w) : (sb.set w true).getD u false = sb.getD u false := by
  simp only [List.getD_eq_getElem?_getD]
  rw [List.getElem?_set_ne (fun e => h e.symm)]
theorem Dfs.see {rows : List (List Int)} {sb : List Bool} {nx : List Int} {out path : List Nat} (h : Dfs rows sb nx out path) {w : Nat} (hw : w < rows.length) (hn : w ∉ out ++ path) (hr : ∀ a ∈ path, Rch rows a w) : Dfs rows (sb.set w true) nx out (path ++ [w]) := by
  have hm : ∀ u, u ∈ out ++ path → u ∈ out ++ (path ++ [w]) := fun u hu => by
    rw [← List.append_assoc]; exact List.mem_append_left _ hu
  refine ⟨by rw [List.length_set]; exact h.sl, h.nl, ?_, ?_, ?_, ?_, h.nb, ?_, ?_, ?_, ?_⟩
  · rw [← List.append_assoc, List.nodup_append]
    exact ⟨h.nd, by simp, fun a ha b hb e => by simp at hb; subst hb; subst e; exact hn ha⟩
  · intro u hu
    rw [← List.append_assoc] at hu
    rcases List.mem_append.1 hu with hu | hu
    · exact h.lt u hu
    · have : u = w := by simpa using hu
      omega
  · intro u hu
    by_cases huw : u = w
    · subst huw
      exact ⟨fun _ => by simp, fun _ => getD_set_same (by rw [h.sl]; exact hw)⟩
    · rw [getD_set_ne huw, h.sn u hu, ← List.append_assoc, List.mem_append (t := [w])]
      simp [huw]
  · intro u hu
    exact h.nz u fun hu' => hu (hm u hu')
  · intro u hu x hx
    exact hm x (h.fin u hu x hx)
  · intro u hu x hx
    rcases List.mem_append.1 hu with hu | hu
    · exact hm x (h.gr u hu x hx)
    · have : u = w := by simpa using hu
      subst this
      rw [h.nz u hn] at hx
      simp at hx
  · rw [List.pairwise_append]
    exact ⟨h.ch, by simp, fun a ha b hb => by simp at hb; subst hb; exact hr a ha⟩
  · intro u hu
    rcases h.ld u hu with ⟨x, hx, hux⟩ | h2
    · exact .inl ⟨x, List.mem_append_left _ hx, hux⟩
    · exact .inr h2
theorem take_snoc {α : Type} {l : List α} {k : Nat} {x : α} (h : l[k]? = some x) : l.take (k + 1) = l.take k ++ [x] := by
  rw [List.take_add_one, h]; rfl
theorem Dfs.step {rows : List (List Int)} {sb : List Bool} {nx : List Int} {out path : List Nat} (h : Dfs rows sb nx out path) {t w : Nat} (ht : t ∈ path) (he : (rows.getD t [])[(gt0 nx t).toNat]? = some (w : Int)) (hw : w ∈ out ++ path) : Dfs rows sb (nx.set t (gt0 nx t + 1)) out path := by
  have htl := h.lt t (List.mem_append_right _ ht)
  have hs : gt0 (nx.set t (gt0 nx t + 1)) t = gt0 nx t + 1 := gt0_set_same (by rw [h.nl]; exact htl)
  have ho : ∀ u, u ≠ t → gt0 (nx.set t (gt0 nx t + 1)) u = gt0 nx u := fun u hu => gt0_set_ne hu
  have hk := (List.getElem?_eq_some_iff.1 he).1
  have hb := h.nb t htl
  refine { h with nl := by rw [List.length_set]; exact h.nl, nz := fun u hu => ?_, nb := fun u hu => ?_, gr := fun u hu x hx => ?_ }
  · have : u ≠ t := fun e => hu (e ▸ List.mem_append_right _ ht)
    rw [ho u this]; exact h.nz u hu
  · by_cases hut : u = t
    · subst hut; rw [hs]; omega
    · rw [ho u hut]; exact h.nb u hu
  · by_cases hut : u = t
    · subst hut
      rw [hs, show (gt0 nx u + 1).toNat = (gt0 nx u).toNat + 1 by omega, take_snoc he] at hx
      rcases List.mem_append.1 hx with hx | hx
      · exact h.gr u hu x hx
      · have : x = w := Int.ofNat_inj.1 (by simpa using hx)
        subst this; exact hw
    · rw [ho u hut] at hx
      exact h.gr u hu x hx
theorem Dfs.pop {rows : List (List Int)} {sb : List Bool} {nx : List Int} {out q : List Nat} {t : Nat} (h : Dfs rows sb nx out (q ++ [t])) (he : gt0 nx t = (rows.getD t []).length) : Dfs rows sb nx (out ++ [t]) q := by
  have hm : ∀ u, u ∈ (out ++ [t]) ++ q ↔ u ∈ out ++ (q ++ [t]) := fun u => by
    simp only [List.mem_append, List.mem_singleton]
    constructor
    · rintro ((h | h) | h)
      · exact .inl h
      · exact .inr (.inr h)
      · exact .inr (.inl h)
    · rintro (h | h | h)
      · exact .inl (.inl h)
      · exact .inr h
      · exact .inl (.inr h)
  have hall : ∀ w, ES rows t w → w ∈ out ++ (q ++ [t]) := fun w hw => h.gr t (by simp) w (by rw [he, Int.toNat_natCast, List.take_length]; exact hw)
  have htn : t ∉ q := fun hq => by
    have := (List.nodup_append.1 (List.nodup_append.1 h.nd).2.1).2.2 t hq t (by simp)
    exact this rfl
  refine ⟨h.sl, h.nl, ?_, fun u hu => h.lt u ((hm u).1 hu), fun u hu => (h.sn u hu).trans (hm u).symm, fun u hu => h.nz u fun hu' => hu ((hm u).2 hu'), h.nb, ?_, ?_, ?_, ?_⟩
  · have h1 := h.nd
    have hp : (out ++ (q ++ [t])).Perm ((out ++ [t]) ++ q) := by
      rw [List.append_assoc]
      exact List.Perm.append_left _ (List.perm_append_comm)
    exact hp.nodup_iff.1 h1
  · intro u hu w hw
    rw [hm]
    rcases List.mem_append.1 hu with hu | hu
    · exact h.fin u hu w hw
    · have : u = t := by simpa using hu
      subst this; exact hall w hw
  · intro u hu w hw
    rw [hm]
    exact h.gr u (List.mem_append_left _ hu) w hw
  · exact (List.pairwise_append.1 h.ch).1
  · -- who leads
    have key : ∀ u, Mut rows u t → (∃ x ∈ q, Mut rows u x) ∨ ∃ pre u' post, out ++ [t] = pre ++ u' :: post ∧ Mut rows u u' ∧ ∀ v, Rch rows u v → v ∈ pre ++ [u'] := fun u hut => by
      by_cases hx : ∃ x ∈ q, Mut rows t x
      · obtain ⟨x, hxq, htx⟩ := hx
        exact .inl ⟨x, hxq, hut.trans htx⟩
      · refine .inr ⟨out, t, [], rfl, hut, fun v hv => ?_⟩
        have hv2 : Rch rows t v := hut.2.trans hv
        clear hv hut
        induction hv2 with
        | refl => simp
        | @step z y hz e ih =>
          have hy : y ∈ out ++ (q ++ [t]) := by
            rcases List.mem_append.1 ih with hzo | hzt
            · exact h.fin z hzo y e
            · have : z = t := by simpa using hzt
              subst this; exact hall y e
          rcases List.mem_append.1 hy with hy | hy
          · exact List.mem_append_left _ hy
          · rcases List.mem_append.1 hy with hyq | hyt
            · exact absurd ⟨y, hyq, hz.step e, (List.pairwise_append.1 h.ch).2.2 y hyq t (by simp)⟩ hx
            · exact List.mem_append_right _ hyt
    intro u hu
    rcases List.mem_append.1 hu with hu | hu
    · rcases h.ld u hu with ⟨x, hx, hux⟩ | ⟨pre, u', post, e, h1, h2⟩
      · rcases List.mem_append.1 hx with hx | hx
        · exact .inl ⟨x, hx, hux⟩
        · have : x = t := by simpa using hx
          subst this; exact key u hux
      · exact .inr ⟨pre, u', post ++ [t], by rw [e]; simp, h1, h2⟩
    · have : u = t := by simpa using hu
      subst this; exact key u .refl
structure FinOk (rows : List (List Int)) (out : List Nat) : Prop where
  nd : out.Nodup
  lt : ∀ u ∈ out, u < rows.length
  all : ∀ u, u < rows.length → u ∈ out
  ld : ∀ u ∈ out, ∃ pre u' post, out = pre ++ u' :: post ∧ Mut rows u u' ∧ ∀ v, Rch rows u v → v ∈ pre ++ [u']
theorem Dfs.done {rows : List (List Int)} {sb : List Bool} {nx : List Int} {out : List Nat} (h : Dfs rows sb nx out []) (ha : ∀ u, u < rows.length → sb.getD u false = true) : FinOk rows out := by
  refine ⟨by simpa using h.nd, fun u hu => h.lt u (by simpa using hu), fun u hu => by simpa using (h.sn u hu).1 (ha u hu), fun u hu => ?_⟩
  rcases h.ld u hu with ⟨x, hx, _⟩ | h
  · cases hx
  · exact h
def Cyc (rows : List (List Int)) (u : Nat) : Prop := ∃ w, ES rows u w ∧ Rch rows w u
def Tur (rows back : List (List Int)) : Prop := back.length = rows.length ∧ ∀ u v, ES back v u ↔ ES rows u v
theorem Rch.head {rows : List (List Int)} {u v : Nat} (h : Rch rows u v) : u = v ∨ ∃ w, ES rows u w ∧ Rch rows w v := by
  induction h with
  | refl => exact .inl rfl
  | @step x y h e ih =>
    rcases ih with rfl | ⟨w, h1, h2⟩
    · exact .inr ⟨y, e, .refl⟩
    · exact .inr ⟨w, h1, h2.step e⟩
theorem Rch.cons {rows : List (List Int)} {u w v : Nat} (e : ES rows u w) (h : Rch rows w v) : Rch rows u v := (Rch.step .refl e).trans h
theorem cyc_of {rows : List (List Int)} {u v : Nat} (h : Mut rows u v) (hne : u ≠ v) : Cyc rows u := by
  rcases h.1.head with e | ⟨w, h1, h2⟩
  · exact absurd e hne
  · exact ⟨w, h1, h2.trans h.2⟩
structure Srt (rows : List (List Int)) (sb : List Bool) (Q : List Nat) (least : Int) : Prop where
  sl : sb.length = rows.length
  cl : ∀ u v, sb.getD u false = true → Mut rows u v → sb.getD v false = true
  q : ∀ u ∈ Q, sb.getD u false = true
  ls : (least = -1 ∧ ∀ u, sb.getD u false = true → ¬ Cyc rows u) ∨ ∃ v : Nat, least = v ∧ sb.getD v false = true ∧ Cyc rows v ∧ ∀ u, sb.getD u false = true → Cyc rows u → v ≤ u
theorem getD_lt {sb : List Bool} {u : Nat} (h : sb.getD u false = true) : u < sb.length := by
  rcases Nat.lt_or_ge u sb.length with h1 | h1
  · exact h1
  · rw [List.getD_eq_getElem?_getD, List.getElem?_eq_none h1] at h; cases h
theorem srt_init (rows : List (List Int)) : Srt rows (List.replicate rows.length false) [] (-1) := by
  have h0 : ∀ u, (List.replicate rows.length false).getD u false = true → False := fun u h => by
    rw [List.getD_eq_getElem?_getD, List.getElem?_replicate] at h
    split at h <;> cases h
  exact ⟨by simp, fun u v h => (h0 u h).elim, by simp, .inl ⟨rfl, fun u h => (h0 u h).elim⟩⟩
structure Prt (rows back : List (List Int)) (sb0 : List Bool) (r : Nat) (sb : List Bool) (part : List Nat) (i : Nat) (p : List Int) : Prop where
  sl : sb.length = rows.length
  nd : part.Nodup
  lt : ∀ u ∈ part, u < rows.length
  hd : part[0]? = some r
  sn : ∀ u, sb.getD u false = true ↔ (sb0.getD u false = true ∨ u ∈ part)
  nw : ∀ u ∈ part, sb0.getD u false = false ∧ Rch rows u r
  dn : ∀ j v, j < i → part[j]? = some v → ∀ u, ES back v u → sb.getD u false = true
  pt : ∀ u : Nat, (u : Int) ∈ p → sb.getD u false = true
  il : i ≤ part.length
theorem prt_init {rows back : List (List Int)} {sb0 : List Bool} {r : Nat} (hl : sb0.length = rows.length) (hr : r < rows.length) (h0 : sb0.getD r false = false) : Prt rows back sb0 r (sb0.set r true) [r] 0 [] := by
  refine ⟨by simpa using hl, by simp, by simpa using hr, rfl, fun u => ?_, fun u hu => ?_, fun j v hj => by omega, by simp, by simp⟩
  · by_cases hur : u = r
    · subst hur
      exact ⟨fun _ => .inr (by simp), fun _ => getD_set_same (by rw [hl]; exact hr)⟩
    · rw [getD_set_ne hur]; simp [hur]
  · have : u = r := by simpa using hu
    subst this; exact ⟨h0, .refl⟩
theorem Prt.skip {rows back : List (List Int)} {sb0 sb : List Bool} {r i w : Nat} {part : List Nat} {p : List Int} (h : Prt rows back sb0 r sb part i p) (hw : sb.getD w false = true) : Prt rows back sb0 r sb part i (p ++ [(w : Int)]) := by
  refine { h with pt := fun u hu => ?_ }
  rcases List.mem_append.1 hu with hu | hu
  · exact h.pt u hu
  · have : u = w := Int.ofNat_inj.1 (by simpa using hu)
    subst this; exact hw
theorem Prt.add {rows back : List (List Int)} {sb0 sb : List Bool} {r i v w : Nat} {part : List Nat} {p : List Int} (hT : Tur rows back) (h : Prt rows back sb0 r sb part i p) (hv : part[i]? = some v) (hw : w < rows.length) (h0 : sb.getD w false = false) (he : ES back v w) : Prt rows back sb0 r (sb.set w true) (part ++ [w]) i (p ++ [(w : Int)]) := by
  have hwn : w ∉ part := fun hm => by rw [(h.sn w).2 (.inr hm)] at h0; cases h0
  have hmono : ∀ u, sb.getD u false = true → (sb.set w true).getD u false = true := fun u hu => by
    by_cases huw : u = w
    · subst huw; exact getD_set_same (by rw [h.sl]; exact hw)
    · rw [getD_set_ne huw]; exact hu
  refine ⟨by rw [List.length_set]; exact h.sl, ?_, ?_, ?_, fun u => ?_, ?_, fun j v' hj hv' u hu => ?_, fun u hu => ?_, by have := h.il; simp; omega⟩
  · rw [List.nodup_append]
    exact ⟨h.nd, by simp, fun a ha b hb e => by simp at hb; subst hb; subst e; exact hwn ha⟩
  · intro u hu
    rcases List.mem_append.1 hu with hu | hu
    · exact h.lt u hu
    · have : u = w := by simpa using hu
      omega
  · have h1 := (List.getElem?_eq_some_iff.1 h.hd).1
    rw [List.getElem?_append_left h1]; exact h.hd
  · by_cases huw : u = w
    · subst huw
      exact ⟨fun _ => .inr (by simp), fun _ => getD_set_same (by rw [h.sl]; exact hw)⟩
    · rw [getD_set_ne huw, h.sn u]; simp [huw]
  · intro u hu
    rcases List.mem_append.1 hu with hu | hu
    · exact h.nw u hu
    · have : u = w := by simpa using hu
      subst this
      refine ⟨?_, .cons ((hT.2 u v).1 he) (h.nw v (List.mem_of_getElem? hv)).2⟩
      cases hs : sb0.getD u false
      · rfl
      · rw [(h.sn u).2 (.inl hs)] at h0; cases h0
  · have hil := h.il
    have hv2 : part[j]? = some v' := by rwa [List.getElem?_append_left (by omega)] at hv'
    exact hmono u (h.dn j v' hj hv2 u hu)
  · rcases List.mem_append.1 hu with hu | hu
    · exact hmono u (h.pt u hu)
    · have : u = w := Int.ofNat_inj.1 (by simpa using hu)
      subst this; exact getD_set_same (by rw [h.sl]; exact hw)
theorem Prt.next {rows back : List (List Int)} {sb0 sb : List Bool} {r i v : Nat} {part : List Nat} (hv : part[i]? = some v) (h : Prt rows back sb0 r sb part i (back.getD v [])) : Prt rows back sb0 r sb part (i + 1) [] := by
  refine { h with dn := fun j w hj hw u hu => ?_, pt := fun u hu => (by cases hu), il := (List.getElem?_eq_some_iff.1 hv).1 }
  by_cases hji : j = i
  · subst hji
    rw [hv] at hw
    cases hw
    exact h.pt u hu
  · exact h.dn j w (by omega) hw u hu
theorem Prt.scc {rows back : List (List Int)} {sb0 sb : List Bool} {r : Nat} {part out P Q : List Nat} {least : Int} {p : List Int} (hT : Tur rows back) (hF : FinOk rows out) (ho : out = P ++ r :: Q) (hS : Srt rows sb0 Q least) (h : Prt rows back sb0 r sb part part.length p) (u : Nat) : u ∈ part ↔ Mut rows u r := by
  have hr0 : r ∈ part := List.mem_of_getElem? h.hd
  have hlead : ∀ u, u < rows.length → sb0.getD u false = false → Rch rows u r → Mut rows u r := fun u hu h0 hur => by
    obtain ⟨pre, u', post, e, h1, h2⟩ := hF.ld u (hF.all u hu)
    have hrp := h2 r hur
    have hu'0 : u' ∉ Q := fun hq => by
      have := hS.cl u' u (hS.q u' hq) h1.symm
      rw [h0] at this; cases this
    have hnd := hF.nd
    -- r stands in pre ++ [u'], Q behind r; u' is not in Q: u' = r
    rcases List.mem_append.1 hrp with hrp | hrp
    · exfalso
      obtain ⟨a, b, hab⟩ := List.append_of_mem hrp
      rw [hab, List.append_assoc] at e
      have e2 : P ++ r :: Q = a ++ r :: (b ++ u' :: post) := by rw [← ho, e]; rfl
      have hPa : P = a ∧ r :: Q = r :: (b ++ u' :: post) := by
        have hndP : (P ++ r :: Q).Nodup := ho ▸ hnd
        have hnda : (a ++ r :: (b ++ u' :: post)).Nodup := e2 ▸ hndP
        rcases List.append_eq_append_iff.1 e2 with ⟨c, h3, h4⟩ | ⟨c, h3, h4⟩
        · cases c with
          | nil => exact ⟨by simpa using h3.symm, by simpa using h4⟩
          | cons x c =>
            simp only [List.cons_append, List.cons.injEq] at h4
            rw [h3, ← h4.1] at hnda
            exact absurd rfl ((List.nodup_append.1 hnda).2.2 r (by simp) r (by simp))
        · cases c with
          | nil => exact ⟨by simpa using h3, by simpa using h4.symm⟩
          | cons x c =>
            simp only [List.cons_append, List.cons.injEq] at h4
            rw [h3, ← h4.1] at hndP
            exact absurd rfl ((List.nodup_append.1 hndP).2.2 r (by simp) r (by simp))
      have : Q = b ++ u' :: post := by simpa using hPa.2
      exact hu'0 (by rw [this]; simp)
    · have : r = u' := by simpa using hrp
      subst this; exact h1
  constructor
  · intro hu
    obtain ⟨h0, h1⟩ := h.nw u hu
    exact hlead u (h.lt u hu) h0 h1
  · intro hm
    have hr00 := (h.nw r hr0).1
    -- walk backwards from r
    have key : ∀ x, Rch rows x r → Mut rows x r → x ∈ part := fun x hx => by
      intro hxm
      have hgen : ∀ y, Rch rows x y → Rch rows y r → y ∈ part → x ∈ part := fun y hxy => by
        induction hxy with
        | refl => exact fun _ hy => hy
        | @step a b hxa e ih =>
          intro hbr hb
          have har : Rch rows a r := .cons e hbr
          have ham : Mut rows a r := ⟨har, hxm.2.trans hxa⟩
          obtain ⟨j, hj, hjb⟩ := List.mem_iff_getElem.1 hb
          have hs := h.dn j b hj (by rw [List.getElem?_eq_getElem hj, hjb]) a ((hT.2 a b).2 e)
          rcases (h.sn a).1 hs with hs | hs
          · have := hS.cl a r hs ham
            rw [hr00] at this; cases this
          · exact ih har hs
      exact hgen r hx .refl hr0
    exact key u hm.1 hm
def startOk (rows : List (List Int)) (least : Int) : Prop := (least = -1 ∧ ∀ u, u < rows.length → ¬ Cyc rows u) ∨ ∃ v : Nat, least = v ∧ v < rows.length ∧ Cyc rows v ∧ ∀ u, u < rows.length → Cyc rows u → v ≤ u
theorem Srt.old {rows : List (List Int)} {sb : List Bool} {Q : List Nat} {least : Int} (h : Srt rows sb Q least) {r : Nat} (hr : sb.getD r false = true) : Srt rows sb (r :: Q) least := by
  refine { h with q := fun u hu => ?_ }
  rcases List.mem_cons.1 hu with rfl | hu
  · exact hr
  · exact h.q u hu
theorem Srt.new {rows : List (List Int)} {sb0 sb : List Bool} {Q part : List Nat} {least least' : Int} {r : Nat} (h : Srt rows sb0 Q least) (hl : sb.length = rows.length) (hsn : ∀ u, sb.getD u false = true ↔ (sb0.getD u false = true ∨ u ∈ part)) (hscc : ∀ u, u ∈ part ↔ Mut rows u r)
    (hls : (least' = least ∧ ∀ u ∈ part, ¬ Cyc rows u) ∨ ∃ m : Nat, m ∈ part ∧ (∀ u ∈ part, m ≤ u) ∧ (∀ u ∈ part, Cyc rows u) ∧ least' = if least < 0 ∨ (m : Int) < least then (m : Int) else least) : Srt rows sb (r :: Q) least' := by
  refine ⟨hl, fun u v hu huv => ?_, fun u hu => ?_, ?_⟩
  · rw [hsn] at hu ⊢
    rcases hu with hu | hu
    · exact .inl (h.cl u v hu huv)
    · exact .inr ((hscc v).2 (huv.symm.trans ((hscc u).1 hu)))
  · rw [hsn]
    rcases List.mem_cons.1 hu with rfl | hu
    · exact .inr ((hscc u).2 .refl)
    · exact .inl (h.q u hu)
  · rcases hls with ⟨rfl, hn⟩ | ⟨m, hm, hmin, hc, rfl⟩
    · rcases h.ls with ⟨e, h1⟩ | ⟨v, e, h1, h2, h3⟩
      · refine .inl ⟨e, fun u hu => ?_⟩
        rcases (hsn u).1 hu with hu | hu
        · exact h1 u hu
        · exact hn u hu
      · refine .inr ⟨v, e, (hsn v).2 (.inl h1), h2, fun u hu hcu => ?_⟩
        rcases (hsn u).1 hu with hu | hu
        · exact h3 u hu hcu
        · exact absurd hcu (hn u hu)
    · right
      rcases h.ls with ⟨e, h1⟩ | ⟨v, e, h1, h2, h3⟩
      · refine ⟨m, by rw [if_pos (.inl (by omega))], (hsn m).2 (.inr hm), hc m hm, fun u hu hcu => ?_⟩
        rcases (hsn u).1 hu with hu | hu
        · exact absurd hcu (h1 u hu)
        · exact hmin u hu
      · by_cases hmv : (m : Int) < least
        · refine ⟨m, by rw [if_pos (.inr hmv)], (hsn m).2 (.inr hm), hc m hm, fun u hu hcu => ?_⟩
          rcases (hsn u).1 hu with hu | hu
          · have := h3 u hu hcu; omega
          · exact hmin u hu
        · refine ⟨v, by rw [if_neg (by omega)]; exact e, (hsn v).2 (.inl h1), h2, fun u hu hcu => ?_⟩
          rcases (hsn u).1 hu with hu | hu
          · exact h3 u hu hcu
          · have := hmin u hu; omega
theorem Srt.fin {rows : List (List Int)} {sb : List Bool} {Q : List Nat} {least : Int} (h : Srt rows sb Q least) (ha : ∀ u, u < rows.length → u ∈ Q) : startOk rows least := by
  rcases h.ls with ⟨e, h1⟩ | ⟨v, e, h1, h2, h3⟩
  · exact .inl ⟨e, fun u hu => h1 u (h.q u (ha u hu))⟩
  · exact .inr ⟨v, e, by rw [← h.sl]; exact getD_lt h1, h2, fun u hu => h3 u (h.q u (ha u hu))⟩
theorem way_lt {back : List (List Int)} (hb : okB back) {v k u : Nat} (h : Way back v k u) (hv : v < back.length) : u < back.length := by
  cases h with
  | here => exact hv
  | step _ e => exact es_lt hb e
theorem far_v {back : List (List Int)} {v : Nat} {way : List Int} (hF : farOk back v way) (hv : v < back.length) : gt0 way v = 0 := by
  rcases hF.2 v hv with ⟨_, h⟩ | ⟨d, h1, _, h3⟩
  · exact absurd .here (h 0)
  · have := h3 0 .here
    omega
theorem far_zero {back : List (List Int)} {v u : Nat} {way : List Int} (hF : farOk back v way) (hu : u < back.length) (h0 : gt0 way u = 0) : u = v := by
  rcases hF.2 u hu with ⟨h, _⟩ | ⟨d, h1, h2, _⟩
  · omega
  · have hd : d = 0 := by omega
    subst hd
    cases h2
    rfl
theorem far_edge {rows back : List (List Int)} (hT : Tur rows back) {v u w : Nat} {way : List Int} (hF : farOk back v way) (hu : u < back.length) (hw : w < back.length) (e : ES rows u w) (h0 : 0 ≤ gt0 way w) : 0 ≤ gt0 way u ∧ gt0 way u ≤ gt0 way w + 1 := by
  rcases hF.2 w hw with ⟨h, _⟩ | ⟨d, h1, h2, _⟩
  · omega
  · have hs := Way.step h2 ((hT.2 u w).2 e)
    rcases hF.2 u hu with ⟨_, h⟩ | ⟨d', h3, _, h5⟩
    · exact absurd hs (h _)
    · have := h5 _ hs
      omega
theorem far_next {rows back : List (List Int)} (hT : Tur rows back) (hb : okB back) {v u : Nat} {way : List Int} (hF : farOk back v way) (hv : v < back.length) (hu : u < back.length) {d : Nat} (hd : gt0 way u = ((d + 1 : Nat) : Int)) : ∃ w, w < back.length ∧ ES rows u w ∧ gt0 way w = d := by
  rcases hF.2 u hu with ⟨h, _⟩ | ⟨d', h1, h2, h3⟩
  · omega
  · have hdd : d' = d + 1 := by omega
    subst hdd
    cases h2 with
    | @step k w _ h e =>
      have hw := way_lt hb h hv
      have e2 := (hT.2 u w).1 e
      refine ⟨w, hw, e2, ?_⟩
      rcases hF.2 w hw with ⟨_, h4⟩ | ⟨d2, h5, h6, h7⟩
      · exact absurd h (h4 _)
      · have h8 := h7 _ h
        have h9 := h3 _ (.step h6 e)
        omega
theorem way_back {rows back : List (List Int)} (hT : Tur rows back) {v w x : Nat} (h : Rch rows w x) : (∃ k, Way back v k x) → ∃ k, Way back v k w := by
  induction h with
  | refl => exact id
  | @step a b h e ih =>
    rintro ⟨k, hk⟩
    exact ih ⟨k + 1, .step hk ((hT.2 a b).2 e)⟩
theorem far_cyc {rows back : List (List Int)} (hT : Tur rows back) (hb : okB rows) {v : Nat} {way : List Int} (hF : farOk back v way) (hc : Cyc rows v) : ∃ w, w < back.length ∧ ES rows v w ∧ 0 ≤ gt0 way w := by
  obtain ⟨w, e, h⟩ := hc
  have hw : w < back.length := by rw [hT.1]; exact es_lt hb e
  obtain ⟨k, hk⟩ := way_back (v := v) hT h ⟨0, .here⟩
  refine ⟨w, hw, e, ?_⟩
  rcases hF.2 w hw with ⟨_, h4⟩ | ⟨d, h5, _, _⟩
  · exact absurd hk (h4 _)
  · omega
def Bst (way : List Int) (p : List Int) (best : Int) : Prop := (best = -1 ∧ ∀ x : Nat, (x : Int) ∈ p → gt0 way x < 0) ∨ ∃ b : Nat, best = b ∧ (b : Int) ∈ p ∧ 0 ≤ gt0 way b ∧ ∀ x : Nat, (x : Int) ∈ p → 0 ≤ gt0 way x → gt0 way b < gt0 way x ∨ (gt0 way b = gt0 way x ∧ b ≤ x)
theorem bst_nil (way : List Int) : Bst way [] (-1) := .inl ⟨rfl, fun x h => by cases h⟩
theorem bst_old {way p : List Int} {best : Int} {w : Nat} (h : Bst way p best) (hp : (p ++ [(w : Int)]).Pairwise (· < ·)) (hw : gt0 way w < 0 ∨ ∃ b : Nat, best = b ∧ gt0 way b ≤ gt0 way w) : Bst way (p ++ [(w : Int)]) best := by
  have hlt := (List.pairwise_append.1 hp).2.2
  rcases h with ⟨e, h⟩ | ⟨b, e, h1, h2, h3⟩
  · refine .inl ⟨e, fun x hx => ?_⟩
    rcases List.mem_append.1 hx with hx | hx
    · exact h x hx
    · have : x = w := Int.ofNat_inj.1 (by simpa using hx)
      subst this
      rcases hw with hw | ⟨b, hb, _⟩
      · exact hw
      · omega
  · refine .inr ⟨b, e, List.mem_append_left _ h1, h2, fun x hx h0 => ?_⟩
    rcases List.mem_append.1 hx with hx | hx
    · exact h3 x hx h0
    · have : x = w := Int.ofNat_inj.1 (by simpa using hx)
      subst this
      have hbx := hlt b h1 x (by simp)
      rcases hw with hw | ⟨b', hb', h4⟩
      · omega
      · have : b' = b := by omega
        subst this
        omega
theorem bst_new {way p : List Int} {best : Int} {w : Nat} (h : Bst way p best) (h0 : 0 ≤ gt0 way w) (hw : best < 0 ∨ ∃ b : Nat, best = b ∧ gt0 way w < gt0 way b) : Bst way (p ++ [(w : Int)]) w := by
  refine .inr ⟨w, rfl, by simp, h0, fun x hx hx0 => ?_⟩
  rcases List.mem_append.1 hx with hx | hx
  · rcases h with ⟨e, h⟩ | ⟨b, e, h1, h2, h3⟩
    · have := h x hx; omega
    · rcases hw with hw | ⟨b', hb', h4⟩
      · omega
      · have : b' = b := by omega
        subst this
        have := h3 x hx hx0
        omega
  · have : x = w := Int.ofNat_inj.1 (by simpa using hx)
    subst this
    exact .inr ⟨rfl, Nat.le_refl _⟩
structure RingOk (rows : List (List Int)) (way : List Int) (v : Nat) (L : List Nat) : Prop where
  lt : ∀ u ∈ L, u < rows.length
  hd : L[0]? = some v
  nd : L.Nodup
  st : ∀ i a b, L[i]? = some a → L[i + 1]? = some b → ES rows a b ∧ Bst way (rows.getD a []) (b : Int) ∧ 0 < gt0 way b
  cl : ∀ a, L.getLast? = some a → ES rows a v ∧ Bst way (rows.getD a []) (v : Int)
structure Rg (rows : List (List Int)) (way : List Int) (v : Nat) (pre : List Nat) (node : Nat) : Prop where
  lt : ∀ u ∈ pre ++ [node], u < rows.length
  hd : (pre ++ [node])[0]? = some v
  st : ∀ i a b, (pre ++ [node])[i]? = some a → (pre ++ [node])[i + 1]? = some b → ES rows a b ∧ Bst way (rows.getD a []) (b : Int) ∧ 0 < gt0 way b
  dn : (pre ++ [node]).tail.Pairwise fun a b => gt0 way b < gt0 way a
  ps : ∀ u ∈ (pre ++ [node]).tail, 0 < gt0 way u
theorem rg_init {rows : List (List Int)} {way : List Int} {v : Nat} (hv : v < rows.length) : Rg rows way v [] v := by
  refine ⟨by simpa using hv, by simp, fun i a b h1 h2 => by simp at h2, by simp, by simp⟩
theorem Rg.next {rows : List (List Int)} {way : List Int} {v node b : Nat} {pre : List Nat} (h : Rg rows way v pre node) (hb : b < rows.length) (e : ES rows node b) (e2 : Bst way (rows.getD node []) (b : Int)) (h0 : 0 < gt0 way b) (hd : pre = [] ∨ gt0 way b < gt0 way node) : Rg rows way v (pre ++ [node]) b := by
  have htail : (pre ++ [node] ++ [b]).tail = (pre ++ [node]).tail ++ [b] := by cases pre <;> simp
  refine ⟨fun u hu => ?_, ?_, fun i x y h1 h2 => ?_, ?_, fun u hu => ?_⟩
  · rcases List.mem_append.1 hu with hu | hu
    · exact h.lt u hu
    · have : u = b := by simpa using hu
      omega
  · have := (List.getElem?_eq_some_iff.1 h.hd).1
    rw [List.getElem?_append_left this]; exact h.hd
  · rcases Nat.lt_trichotomy (i + 1) (pre ++ [node]).length with hi | hi | hi
    · rw [List.getElem?_append_left hi] at h2
      rw [List.getElem?_append_left (by omega)] at h1
      exact h.st i x y h1 h2
    · rw [List.getElem?_append_right (by omega), hi] at h2
      rw [List.getElem?_append_left (by omega)] at h1
      simp at h2
      subst h2
      have hl : i = pre.length := by simp at hi; omega
      subst hl
      simp at h1
      subst h1
      exact ⟨e, e2, h0⟩
    · rw [List.getElem?_eq_none (by rw [List.length_append, List.length_singleton]; omega)] at h2
      cases h2
  · rw [htail, List.pairwise_append]
    refine ⟨h.dn, by simp, fun a ha c hc => ?_⟩
    have : c = b := by simpa using hc
    subst this
    rcases hd with rfl | hd
    · simp at ha
    · have hge : gt0 way node ≤ gt0 way a := by
        have ht : (pre ++ [node]).tail = pre.tail ++ [node] ∨ pre = [] := by cases pre <;> simp
        rcases ht with ht | ht
        · have hdn := h.dn
          rw [ht] at ha hdn
          rcases List.mem_append.1 ha with ha | ha
          · have := (List.pairwise_append.1 hdn).2.2 a ha node (by simp); omega
          · have : a = node := by simpa using ha
            subst this; exact Int.le_refl _
        · subst ht; simp at ha
      omega
  · rw [htail] at hu
    rcases List.mem_append.1 hu with hu | hu
    · exact h.ps u hu
    · have : u = b := by simpa using hu
      subst this; exact h0
theorem Rg.nodup {rows : List (List Int)} {way : List Int} {v node : Nat} {pre : List Nat} (h : Rg rows way v pre node) (h0 : gt0 way v = 0) : (pre ++ [node]).Nodup := by
  have hd := h.hd
  have hdn := h.dn
  have hps := h.ps
  generalize pre ++ [node] = L at *
  cases L with
  | nil => simp
  | cons x l =>
    simp at hd
    subst hd
    replace hdn : l.Pairwise fun a b => gt0 way b < gt0 way a := hdn
    replace hps : ∀ u ∈ l, 0 < gt0 way u := hps
    rw [List.nodup_cons]
    refine ⟨fun hx => ?_, hdn.imp fun hab e => by subst e; omega⟩
    have := hps x hx
    omega
theorem Rg.fin {rows : List (List Int)} {way : List Int} {v node : Nat} {pre : List Nat} (h : Rg rows way v pre node) (h0 : gt0 way v = 0) (e : ES rows node v) (e2 : Bst way (rows.getD node []) (v : Int)) : RingOk rows way v (pre ++ [node]) := by
  refine ⟨h.lt, h.hd, h.nodup h0, h.st, fun a ha => ?_⟩
  · have : a = node := by simpa using ha.symm
    subst this; exact ⟨e, e2⟩
theorem Rg.near {rows back : List (List Int)} (hT : Tur rows back) (hb : okB rows) (hb2 : okB back) {way : List Int} {v node : Nat} {pre : List Nat} {best : Int} (hF : farOk back v way) (hv : v < rows.length) (hc : Cyc rows v) (h : Rg rows way v pre node) (hB : Bst way (rows.getD node []) best) : ∃ b : Nat, best = b ∧ b < rows.length ∧ ES rows node b ∧ 0 ≤ gt0 way b ∧ (pre = [] ∨ gt0 way b < gt0 way node) := by
  have hvb : v < back.length := by rw [hT.1]; exact hv
  have hex : ∃ w, ES rows node w ∧ 0 ≤ gt0 way w ∧ (pre = [] ∨ gt0 way w < gt0 way node) := by
    rcases pre with _ | ⟨x, pre⟩
    · have hd := h.hd
      simp at hd
      subst hd
      obtain ⟨w, _, h1, h2⟩ := far_cyc hT hb hF hc
      exact ⟨w, h1, h2, .inl rfl⟩
    · have hp := h.ps node (by simp)
      obtain ⟨w, _, h1, h2⟩ := far_next (d := (gt0 way node).toNat - 1) hT hb2 hF hvb (by rw [hT.1]; exact h.lt node (by simp)) (by omega)
      exact ⟨w, h1, by omega, .inr (by omega)⟩
  obtain ⟨w, h1, h2, h3⟩ := hex
  rcases hB with ⟨_, h4⟩ | ⟨b, e, h4, h5, h6⟩
  · have := h4 w h1
    omega
  · refine ⟨b, e, es_lt hb (v := node) h4, h4, h5, ?_⟩
    rcases h3 with h3 | h3
    · exact .inl h3
    · right
      rcases h6 w h1 h2 with h7 | ⟨h7, _⟩ <;> omega
theorem far_unique {back : List (List Int)} {v : Nat} {w1 w2 : List Int} (h1 : farOk back v w1) (h2 : farOk back v w2) : w1 = w2 := by
  have key : ∀ u, u < back.length → gt0 w1 u = gt0 w2 u := fun u hu => by
    rcases h1.2 u hu with ⟨e1, n1⟩ | ⟨d1, e1, p1, m1⟩
    · rcases h2.2 u hu with ⟨e2, n2⟩ | ⟨d2, e2, p2, m2⟩
      · rw [e1, e2]
      · exact absurd p2 (n1 _)
    · rcases h2.2 u hu with ⟨e2, n2⟩ | ⟨d2, e2, p2, m2⟩
      · exact absurd p1 (n2 _)
      · have := m1 _ p2
        have := m2 _ p1
        omega
  refine List.ext_getElem (by rw [h1.1, h2.1]) fun i i1 i2 => ?_
  have := key i (by rw [← h1.1]; exact i1)
  simpa [gt0, i1, i2] using this
theorem least_nat {p : Nat → Prop} (h : ∃ k, p k) : ∃ d, p d ∧ ∀ k, p k → d ≤ k := by
  obtain ⟨k, hk⟩ := h
  induction k using Nat.strongRecOn with
  | _ k ih =>
    by_cases h2 : ∃ j, j < k ∧ p j
    · obtain ⟨j, hj, hp⟩ := h2
      exact ih j hj hp
    · refine ⟨k, hk, fun j hp => ?_⟩
      by_cases hj : j < k
      · exact absurd ⟨j, hj, hp⟩ h2
      · omega
theorem far_ex (back : List (List Int)) (v : Nat) : ∃ way, farOk back v way := by
  have h1 : ∀ u, ∃ x : Int, (x = -1 ∧ ∀ k, ¬ Way back v k u) ∨ ∃ d : Nat, x = d ∧ Way back v d u ∧ ∀ k, Way back v k u → d ≤ k := fun u => by
    by_cases h : ∃ k, Way back v k u
    · obtain ⟨d, h2, h3⟩ := least_nat h
      exact ⟨d, .inr ⟨d, rfl, h2, h3⟩⟩
    · exact ⟨-1, .inl ⟨rfl, fun k hk => h ⟨k, hk⟩⟩⟩
  let f : Nat → Int := fun u => Classical.choose (h1 u)
  have hf : ∀ u, (f u = -1 ∧ ∀ k, ¬ Way back v k u) ∨ ∃ d : Nat, f u = d ∧ Way back v d u ∧ ∀ k, Way back v k u → d ≤ k := fun u => Classical.choose_spec (h1 u)
  refine ⟨(List.range back.length).map f, by simp, fun u hu => ?_⟩
  have : gt0 ((List.range back.length).map f) u = f u := by simp [gt0, hu]
  rw [this]
  exact hf u
theorem far_bound {rows back : List (List Int)} (hT : Tur rows back) (hb : okB back) {v : Nat} {way : List Int} (hF : farOk back v way) (hv : v < back.length) : ∀ (d u : Nat), u < back.length → gt0 way u = d → ∃ L : List Nat, L.length = d + 1 ∧ L.Nodup ∧ ∀ x ∈ L, x < back.length ∧ 0 ≤ gt0 way x ∧ gt0 way x ≤ d
  | 0, u, hu, h => ⟨[u], rfl, by simp, fun x hx => by
      have : x = u := by simpa using hx
      subst this; exact ⟨hu, by omega, by omega⟩⟩
  | d + 1, u, hu, h => by
    obtain ⟨w, hw, _, hwd⟩ := far_next hT hb hF hv hu h
    obtain ⟨L, h1, h2, h3⟩ := far_bound hT hb hF hv d w hw hwd
    refine ⟨u :: L, by simp [h1], List.nodup_cons.2 ⟨fun hm => ?_, h2⟩, fun x hx => ?_⟩
    · have := (h3 u hm).2.2
      omega
    · rcases List.mem_cons.1 hx with rfl | hx
      · exact ⟨hu, by omega, by omega⟩
      · have := h3 x hx
        exact ⟨this.1, this.2.1, by omega⟩
theorem far_lt {rows back : List (List Int)} (hT : Tur rows back) (hb : okB back) {v : Nat} {way : List Int} (hF : farOk back v way) (hv : v < back.length) {u : Nat} (hu : u < back.length) : gt0 way u < back.length := by
  rcases hF.2 u hu with ⟨h, _⟩ | ⟨d, h, _, _⟩
  · omega
  · obtain ⟨L, h1, h2, h3⟩ := far_bound hT hb hF hv d u hu h
    have := nodup_len h2 fun x hx => (h3 x hx).1
    omega
def cutW (way : List Int) (s n : Nat) : List Int := (List.range way.length).map fun u => if gt0 way u ≤ s ∨ (u < n ∧ gt0 way u = s + 1) then gt0 way u else -1
theorem cutW_len (way : List Int) (s n : Nat) : (cutW way s n).length = way.length := by simp [cutW]
theorem cutW_at {way : List Int} {s n u : Nat} (h : u < way.length) : gt0 (cutW way s n) u = if gt0 way u ≤ s ∨ (u < n ∧ gt0 way u = s + 1) then gt0 way u else -1 := by
  simp [cutW, gt0, h]
theorem cutW_next {way : List Int} {s : Nat} : cutW way s way.length = cutW way (s + 1) 0 := by
  unfold cutW
  refine List.map_congr_left fun u hu => ?_
  have hu := List.mem_range.1 hu
  have h1 : (gt0 way u ≤ (s : Int) ∨ (u < way.length ∧ gt0 way u = s + 1)) ↔ (gt0 way u ≤ ((s + 1 : Nat) : Int) ∨ (u < 0 ∧ gt0 way u = ((s + 1 : Nat) : Int) + 1)) := by omega
  simp only [h1]
theorem cutW_full {way : List Int} {s : Nat} (h : ∀ u, u < way.length → gt0 way u ≤ s) : cutW way s 0 = way := by
  refine List.ext_getElem (cutW_len ..) fun i h1 h2 => ?_
  have h3 := cutW_at (s := s) (n := 0) h2
  rw [if_pos (.inl (h i h2))] at h3
  simpa [gt0, h1, h2] using h3
theorem cutW_set {way : List Int} {s n : Nat} (hn : n < way.length) (hw : gt0 way n = s + 1) : (cutW way s n).set n ((s : Int) + 1) = cutW way s (n + 1) := by
  refine List.ext_getElem (by simp [cutW]) fun i h1 h2 => ?_
  have hi : i < way.length := by simpa [cutW] using h2
  rw [List.getElem_set]
  have e1 := cutW_at (s := s) (n := n) hi
  have e2 := cutW_at (s := s) (n := n + 1) hi
  simp only [gt0, List.getD_eq_getElem?_getD] at e1 e2
  rw [List.getElem?_eq_getElem (by simpa [cutW] using hi)] at e1 e2
  simp only [Option.getD_some] at e1 e2
  rw [e1, e2]
  by_cases hc : n = i
  · subst hc
    simp only [gt0, List.getD_eq_getElem?_getD] at hw
    rw [if_pos rfl, if_pos (.inr ⟨by omega, hw⟩)]
    omega
  · rw [if_neg hc]
    have : i < n ↔ i < n + 1 := by omega
    simp only [this]
theorem cutW_skip {way : List Int} {s n : Nat} (hw : ¬ gt0 way n = s + 1) : cutW way s n = cutW way s (n + 1) := by
  unfold cutW
  refine List.map_congr_left fun u hu => ?_
  by_cases hc : u = n
  · subst hc
    simp only [hw, and_false, or_false]
  · have : u < n ↔ u < n + 1 := by omega
    simp only [this]
theorem cutW_zero {back : List (List Int)} {v : Nat} {way : List Int} (hF : farOk back v way) (hv : v < back.length) : cutW way 0 0 = (List.replicate back.length (-1)).set v 0 := by
  refine List.ext_getElem (by simp [cutW, hF.1]) fun i h1 h2 => ?_
  have hi : i < back.length := by simpa using h2
  have e1 := cutW_at (way := way) (s := 0) (n := 0) (u := i) (by rw [hF.1]; exact hi)
  simp only [gt0, List.getD_eq_getElem?_getD] at e1
  rw [List.getElem?_eq_getElem h1] at e1
  simp only [Option.getD_some] at e1
  rw [e1, List.getElem_set]
  have hz : ∀ x : Option Int, x.getD 0 = x.getD 0 := fun _ => rfl
  have e2 : way[i]?.getD 0 = gt0 way i := by simp [gt0, List.getD_eq_getElem?_getD]
  rw [e2]
  by_cases hc : v = i
  · subst hc
    have := far_v hF hv
    rw [if_pos rfl, this]
    simp
  · rw [if_neg hc]
    simp only [List.getElem_replicate]
    split
    · rename_i h
      rcases hF.2 i hi with ⟨h3, _⟩ | ⟨d, h3, _, _⟩
      · exact h3
      · exfalso
        have hd : gt0 way i = 0 := by omega
        exact hc (far_zero hF hi hd).symm
    · rfl
end Go.Proofs.YthekpmpcbidjiaaGreat
