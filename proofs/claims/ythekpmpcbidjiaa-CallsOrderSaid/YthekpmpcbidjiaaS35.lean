
import Derived.Test.YthekpmpcbidjiaaS34
namespace Go.Proofs.Ythekpmpcbidjiaa
open Go Go.RowKit Go.Sort U
set_option linter.unusedVariables false
set_option linter.unusedSimpArgs false
inductive Rch (rows : List (List Int)) (u : Nat) : Nat → Prop
  | refl : Rch rows u u
  | step {v w : Nat} (h : Rch rows u v) (e : ES rows v w) : Rch rows u w
theorem Rch.trans {rows : List (List Int)} {u v w : Nat} (h1 : Rch rows u v) (h2 : Rch rows v w) : Rch rows u w := by
  induction h2 with
  | refl => exact h1
  | step _ e ih => exact .step ih e
def Mut (rows : List (List Int)) (u v : Nat) : Prop := Rch rows u v ∧ Rch rows v u
theorem Mut.refl {rows : List (List Int)} {u : Nat} : Mut rows u u := ⟨.refl, .refl⟩
theorem Mut.symm {rows : List (List Int)} {u v : Nat} (h : Mut rows u v) : Mut rows v u := ⟨h.2, h.1⟩
theorem Mut.trans {rows : List (List Int)} {u v w : Nat} (h1 : Mut rows u v) (h2 : Mut rows v w) : Mut rows u w := ⟨h1.1.trans h2.1, h2.2.trans h1.2⟩
structure Dfs (rows : List (List Int)) (sb : List Bool) (nx : List Int) (out path : List Nat) : Prop where
  sl : sb.length = rows.length
  nl : nx.length = rows.length
  nd : (out ++ path).Nodup
  lt : ∀ u ∈ out ++ path, u < rows.length
  sn : ∀ u, u < rows.length → (sb.getD u false = true ↔ u ∈ out ++ path)
  nz : ∀ u, u ∉ out ++ path → gt0 nx u = 0
  nb : ∀ u, u < rows.length → 0 ≤ gt0 nx u ∧ gt0 nx u ≤ (rows.getD u []).length
  fin : ∀ u ∈ out, ∀ w, ES rows u w → w ∈ out ++ path
  gr : ∀ u ∈ path, ∀ w : Nat, (w : Int) ∈ (rows.getD u []).take (gt0 nx u).toNat → w ∈ out ++ path
  ch : path.Pairwise fun a b => Rch rows a b
  ld : ∀ u ∈ out, (∃ x ∈ path, Mut rows u x) ∨ ∃ pre u' post, out = pre ++ u' :: post ∧ Mut rows u u' ∧ ∀ v, Rch rows u v → v ∈ pre ++ [u']
theorem dfs_init (rows : List (List Int)) : Dfs rows (List.replicate rows.length false) (List.replicate rows.length 0) [] [] := by
  refine ⟨by simp, by simp, by simp, by simp, fun u hu => by simp [List.getElem?_replicate, hu], fun u _ => ?_, fun u hu => ?_, by simp, by simp, .nil, by simp⟩
  · simp only [gt0, List.getD_eq_getElem?_getD, List.getElem?_replicate]
    split <;> rfl
  · have : gt0 (List.replicate rows.length 0) u = 0 := by simp [gt0, List.getElem?_replicate, hu]
    rw [this]; exact ⟨Int.le_refl _, by omega⟩
theorem getD_set_same {sb : List Bool} {w : Nat} (h : w < sb.length) : (sb.set w true).getD w false = true := by simp [h]
theorem getD_set_ne {sb : List Bool} {w u : Nat} (h : u ≠ w) : (sb.set w true).getD u false = sb.getD u false := by
  simp only [List.getD_eq_getElem?_getD]
  rw [List.getElem?_set_ne (fun e => h e.symm)]
theorem Dfs.see {rows : List (List Int)} {sb : List Bool} {nx : List Int} {out path : List Nat} (h : Dfs rows sb nx out path) {w : Nat} (hw : w < rows.length) (hn : w ∉ out ++ path) (hr : ∀ a ∈ path, Rch rows a w) : Dfs rows (sb.set w true) nx out (path ++ [w]) := by
  have hm : ∀ u, u ∈ out ++ path → u ∈ out ++ (path ++ [w]) := fun u hu => by
    rw [← List.append_assoc]; exact List.mem_append_left _ hu
  refine ⟨by rw [List.length_set]; exact h.sl, h.nl, ?_, ?_, ?_, ?_, h.nb, ?_, ?_, ?_, ?_⟩
  · rw [← List.append_assoc, List.nodup_append]
    exact ⟨h.nd, by simp, fun a ha b hb e => by simp at hb; subst hb; subst e; exact hn ha⟩
  · intro u hu
    rw [← List.append_assoc] at hu
    rcases List.mem_append.1 hu with hu | hu
    · exact h.lt u hu
    · have : u = w := by simpa using hu
      omega
  · intro u hu
    by_cases huw : u = w
    · subst huw
      exact ⟨fun _ => by simp, fun _ => getD_set_same (by rw [h.sl]; exact hw)⟩
    · rw [getD_set_ne huw, h.sn u hu, ← List.append_assoc, List.mem_append (t := [w])]
      simp [huw]
  · intro u hu
    exact h.nz u fun hu' => hu (hm u hu')
  · intro u hu x hx
    exact hm x (h.fin u hu x hx)
  · intro u hu x hx
    rcases List.mem_append.1 hu with hu | hu
    · exact hm x (h.gr u hu x hx)
    · have : u = w := by simpa using hu
      subst this
      rw [h.nz u hn] at hx
      simp at hx
  · rw [List.pairwise_append]
    exact ⟨h.ch, by simp, fun a ha b hb => by simp at hb; subst hb; exact hr a ha⟩
  · intro u hu
    rcases h.ld u hu with ⟨x, hx, hux⟩ | h2
    · exact .inl ⟨x, List.mem_append_left _ hx, hux⟩
    · exact .inr h2
theorem take_snoc {α : Type} {l : List α} {k : Nat} {x : α} (h : l[k]? = some x) : l.take (k + 1) = l.take k ++ [x] := by
  rw [List.take_add_one, h]; rfl
theorem Dfs.step {rows : List (List Int)} {sb : List Bool} {nx : List Int} {out path : List Nat} (h : Dfs rows sb nx out path) {t w : Nat} (ht : t ∈ path) (he : (rows.getD t [])[(gt0 nx t).toNat]? = some (w : Int)) (hw : w ∈ out ++ path) : Dfs rows sb (nx.set t (gt0 nx t + 1)) out path := by
  have htl := h.lt t (List.mem_append_right _ ht)
  have hs : gt0 (nx.set t (gt0 nx t + 1)) t = gt0 nx t + 1 := gt0_set_same (by rw [h.nl]; exact htl)
  have ho : ∀ u, u ≠ t → gt0 (nx.set t (gt0 nx t + 1)) u = gt0 nx u := fun u hu => gt0_set_ne hu
  have hk := (List.getElem?_eq_some_iff.1 he).1
  have hb := h.nb t htl
  refine { h with nl := by rw [List.length_set]; exact h.nl, nz := fun u hu => ?_, nb := fun u hu => ?_, gr := fun u hu x hx => ?_ }
  · have : u ≠ t := fun e => hu (e ▸ List.mem_append_right _ ht)
    rw [ho u this]; exact h.nz u hu
  · by_cases hut : u = t
    · subst hut; rw [hs]; omega
    · rw [ho u hut]; exact h.nb u hu
  · by_cases hut : u = t
    · subst hut
      rw [hs, show (gt0 nx u + 1).toNat = (gt0 nx u).toNat + 1 by omega, take_snoc he] at hx
      rcases List.mem_append.1 hx with hx | hx
      · exact h.gr u hu x hx
      · have : x = w := Int.ofNat_inj.1 (by simpa using hx)
        subst this; exact hw
    · rw [ho u hut] at hx
      exact h.gr u hu x hx
theorem Dfs.pop {rows : List (List Int)} {sb : List Bool} {nx : List Int} {out q : List Nat} {t : Nat} (h : Dfs rows sb nx out (q ++ [t])) (he : gt0 nx t = (rows.getD t []).length) : Dfs rows sb nx (out ++ [t]) q := by
  have hm : ∀ u, u ∈ (out ++ [t]) ++ q ↔ u ∈ out ++ (q ++ [t]) := fun u => by
    simp only [List.mem_append, List.mem_singleton]
    constructor
    · rintro ((h | h) | h)
      · exact .inl h
      · exact .inr (.inr h)
      · exact .inr (.inl h)
    · rintro (h | h | h)
      · exact .inl (.inl h)
      · exact .inr h
      · exact .inl (.inr h)
  have hall : ∀ w, ES rows t w → w ∈ out ++ (q ++ [t]) := fun w hw => h.gr t (by simp) w (by rw [he, Int.toNat_natCast, List.take_length]; exact hw)
  have htn : t ∉ q := fun hq => by
    have := (List.nodup_append.1 (List.nodup_append.1 h.nd).2.1).2.2 t hq t (by simp)
    exact this rfl
  refine ⟨h.sl, h.nl, ?_, fun u hu => h.lt u ((hm u).1 hu), fun u hu => (h.sn u hu).trans (hm u).symm, fun u hu => h.nz u fun hu' => hu ((hm u).2 hu'), h.nb, ?_, ?_, ?_, ?_⟩
  · have h1 := h.nd
    have hp : (out ++ (q ++ [t])).Perm ((out ++ [t]) ++ q) := by
      rw [List.append_assoc]
      exact List.Perm.append_left _ (List.perm_append_comm)
    exact hp.nodup_iff.1 h1
  · intro u hu w hw
    rw [hm]
    rcases List.mem_append.1 hu with hu | hu
    · exact h.fin u hu w hw
    · have : u = t := by simpa using hu
      subst this; exact hall w hw
  · intro u hu w hw
    rw [hm]
    exact h.gr u (List.mem_append_left _ hu) w hw
  · exact (List.pairwise_append.1 h.ch).1
  · -- who leads
    have key : ∀ u, Mut rows u t → (∃ x ∈ q, Mut rows u x) ∨ ∃ pre u' post, out ++ [t] = pre ++ u' :: post ∧ Mut rows u u' ∧ ∀ v, Rch rows u v → v ∈ pre ++ [u'] := fun u hut => by
      by_cases hx : ∃ x ∈ q, Mut rows t x
      · obtain ⟨x, hxq, htx⟩ := hx
        exact .inl ⟨x, hxq, hut.trans htx⟩
      · refine .inr ⟨out, t, [], rfl, hut, fun v hv => ?_⟩
        have hv2 : Rch rows t v := hut.2.trans hv
        clear hv hut
        induction hv2 with
        | refl => simp
        | @step z y hz e ih =>
          have hy : y ∈ out ++ (q ++ [t]) := by
            rcases List.mem_append.1 ih with hzo | hzt
            · exact h.fin z hzo y e
            · have : z = t := by simpa using hzt
              subst this; exact hall y e
          rcases List.mem_append.1 hy with hy | hy
          · exact List.mem_append_left _ hy
          · rcases List.mem_append.1 hy with hyq | hyt
            · exact absurd ⟨y, hyq, hz.step e, (List.pairwise_append.1 h.ch).2.2 y hyq t (by simp)⟩ hx
            · exact List.mem_append_right _ hyt
    intro u hu
    rcases List.mem_append.1 hu with hu | hu
    · rcases h.ld u hu with ⟨x, hx, hux⟩ | ⟨pre, u', post, e, h1, h2⟩
      · rcases List.mem_append.1 hx with hx | hx
        · exact .inl ⟨x, hx, hux⟩
        · have : x = t := by simpa using hx
          subst this; exact key u hux
      · exact .inr ⟨pre, u', post ++ [t], by rw [e]; simp, h1, h2⟩
    · have : u = t := by simpa using hu
      subst this; exact key u .refl
structure FinOk (rows : List (List Int)) (out : List Nat) : Prop where
  nd : out.Nodup
  lt : ∀ u ∈ out, u < rows.length
  all : ∀ u, u < rows.length → u ∈ out
  ld : ∀ u ∈ out, ∃ pre u' post, out = pre ++ u' :: post ∧ Mut rows u u' ∧ ∀ v, Rch rows u v → v ∈ pre ++ [u']
theorem Dfs.done {rows : List (List Int)} {sb : List Bool} {nx : List Int} {out : List Nat} (h : Dfs rows sb nx out []) (ha : ∀ u, u < rows.length → sb.getD u false = true) : FinOk rows out := by
  refine ⟨by simpa using h.nd, fun u hu => h.lt u (by simpa using hu), fun u hu => by simpa using (h.sn u hu).1 (ha u hu), fun u hu => ?_⟩
  rcases h.ld u hu with ⟨x, hx, _⟩ | h
  · cases hx
  · exact h
end Go.Proofs.Ythekpmpcbidjiaa
namespace Go.Proofs.Ythekpmpcbidjiaa
open Go Go.RowKit Go.Sort U
set_option linter.unusedVariables false
set_option linter.unusedSimpArgs false
def Cyc (rows : List (List Int)) (u : Nat) : Prop := ∃ w, ES rows u w ∧ Rch rows w u
def Tur (rows back : List (List Int)) : Prop := back.length = rows.length ∧ ∀ u v, ES back v u ↔ ES rows u v
theorem Rch.head {rows : List (List Int)} {u v : Nat} (h : Rch rows u v) : u = v ∨ ∃ w, ES rows u w ∧ Rch rows w v := by
  induction h with
  | refl => exact .inl rfl
  | @step x y h e ih =>
    rcases ih with rfl | ⟨w, h1, h2⟩
    · exact .inr ⟨y, e, .refl⟩
    · exact .inr ⟨w, h1, h2.step e⟩
theorem Rch.cons {rows : List (List Int)} {u w v : Nat} (e : ES rows u w) (h : Rch rows w v) : Rch rows u v := (Rch.step .refl e).trans h
theorem cyc_of {rows : List (List Int)} {u v : Nat} (h : Mut rows u v) (hne : u ≠ v) : Cyc rows u := by
  rcases h.1.head with e | ⟨w, h1, h2⟩
  · exact absurd e hne
  · exact ⟨w, h1, h2.trans h.2⟩
structure Srt (rows : List (List Int)) (sb : List Bool) (Q : List Nat) (least : Int) : Prop where
  sl : sb.length = rows.length
  cl : ∀ u v, sb.getD u false = true → Mut rows u v → sb.getD v false = true
  q : ∀ u ∈ Q, sb.getD u false = true
  ls : (least = -1 ∧ ∀ u, sb.getD u false = true → ¬ Cyc rows u) ∨ ∃ v : Nat, least = v ∧ sb.getD v false = true ∧ Cyc rows v ∧ ∀ u, sb.getD u false = true → Cyc rows u → v ≤ u
theorem getD_lt {sb : List Bool} {u : Nat} (h : sb.getD u false = true) : u < sb.length := by
  rcases Nat.lt_or_ge u sb.length with h1 | h1
  · exact h1
  · rw [List.getD_eq_getElem?_getD, List.getElem?_eq_none h1] at h; cases h
theorem srt_init (rows : List (List Int)) : Srt rows (List.replicate rows.length false) [] (-1) := by
  have h0 : ∀ u, (List.replicate rows.length false).getD u false = true → False := fun u h => by
    rw [List.getD_eq_getElem?_getD, List.getElem?_replicate] at h
    split at h <;> cases h
  exact ⟨by simp, fun u v h => (h0 u h).elim, by simp, .inl ⟨rfl, fun u h => (h0 u h).elim⟩⟩
structure Prt (rows back : List (List Int)) (sb0 : List Bool) (r : Nat) (sb : List Bool) (part : List Nat) (i : Nat) (p : List Int) : Prop where
  sl : sb.length = rows.length
  nd : part.Nodup
  lt : ∀ u ∈ part, u < rows.length
  hd : part[0]? = some r
  sn : ∀ u, sb.getD u false = true ↔ (sb0.getD u false = true ∨ u ∈ part)
  nw : ∀ u ∈ part, sb0.getD u false = false ∧ Rch rows u r
  dn : ∀ j v, j < i → part[j]? = some v → ∀ u, ES back v u → sb.getD u false = true
  pt : ∀ u : Nat, (u : Int) ∈ p → sb.getD u false = true
  il : i ≤ part.length
theorem prt_init {rows back : List (List Int)} {sb0 : List Bool} {r : Nat} (hl : sb0.length = rows.length) (hr : r < rows.length) (h0 : sb0.getD r false = false) : Prt rows back sb0 r (sb0.set r true) [r] 0 [] := by
  refine ⟨by simpa using hl, by simp, by simpa using hr, rfl, fun u => ?_, fun u hu => ?_, fun j v hj => by omega, by simp, by simp⟩
  · by_cases hur : u = r
    · subst hur
      exact ⟨fun _ => .inr (by simp), fun _ => getD_set_same (by rw [hl]; exact hr)⟩
    · rw [getD_set_ne hur]; simp [hur]
  · have : u = r := by simpa using hu
    subst this; exact ⟨h0, .refl⟩
theorem Prt.skip {rows back : List (List Int)} {sb0 sb : List Bool} {r i w : Nat} {part : List Nat} {p : List Int} (h : Prt rows back sb0 r sb part i p) (hw : sb.getD w false = true) : Prt rows back sb0 r sb part i (p ++ [(w : Int)]) := by
  refine { h with pt := fun u hu => ?_ }
  rcases List.mem_append.1 hu with hu | hu
  · exact h.pt u hu
  · have : u = w := Int.ofNat_inj.1 (by simpa using hu)
    subst this; exact hw
theorem Prt.add {rows back : List (List Int)} {sb0 sb : List Bool} {r i v w : Nat} {part : List Nat} {p : List Int} (hT : Tur rows back) (h : Prt rows back sb0 r sb part i p) (hv : part[i]? = some v) (hw : w < rows.length) (h0 : sb.getD w false = false) (he : ES back v w) : Prt rows back sb0 r (sb.set w true) (part ++ [w]) i (p ++ [(w : Int)]) := by
  have hwn : w ∉ part := fun hm => by rw [(h.sn w).2 (.inr hm)] at h0; cases h0
  have hmono : ∀ u, sb.getD u false = true → (sb.set w true).getD u false = true := fun u hu => by
    by_cases huw : u = w
    · subst huw; exact getD_set_same (by rw [h.sl]; exact hw)
    · rw [getD_set_ne huw]; exact hu
  refine ⟨by rw [List.length_set]; exact h.sl, ?_, ?_, ?_, fun u => ?_, ?_, fun j v' hj hv' u hu => ?_, fun u hu => ?_, by have := h.il; simp; omega⟩
  · rw [List.nodup_append]
    exact ⟨h.nd, by simp, fun a ha b hb e => by simp at hb; subst hb; subst e; exact hwn ha⟩
  · intro u hu
    rcases List.mem_append.1 hu with hu | hu
    · exact h.lt u hu
    · have : u = w := by simpa using hu
      omega
  · have h1 := (List.getElem?_eq_some_iff.1 h.hd).1
    rw [List.getElem?_append_left h1]; exact h.hd
  · by_cases huw : u = w
    · subst huw
      exact ⟨fun _ => .inr (by simp), fun _ => getD_set_same (by rw [h.sl]; exact hw)⟩
    · rw [getD_set_ne huw, h.sn u]; simp [huw]
  · intro u hu
    rcases List.mem_append.1 hu with hu | hu
    · exact h.nw u hu
    · have : u = w := by simpa using hu
      subst this
      refine ⟨?_, .cons ((hT.2 u v).1 he) (h.nw v (List.mem_of_getElem? hv)).2⟩
      cases hs : sb0.getD u false
      · rfl
      · rw [(h.sn u).2 (.inl hs)] at h0; cases h0
  · have hil := h.il
    have hv2 : part[j]? = some v' := by rwa [List.getElem?_append_left (by omega)] at hv'
    exact hmono u (h.dn j v' hj hv2 u hu)
  · rcases List.mem_append.1 hu with hu | hu
    · exact hmono u (h.pt u hu)
    · have : u = w := Int.ofNat_inj.1 (by simpa using hu)
      subst this; exact getD_set_same (by rw [h.sl]; exact hw)
theorem Prt.next {rows back : List (List Int)} {sb0 sb : List Bool} {r i v : Nat} {part : List Nat} (hv : part[i]? = some v) (h : Prt rows back sb0 r sb part i (back.getD v [])) : Prt rows back sb0 r sb part (i + 1) [] := by
  refine { h with dn := fun j w hj hw u hu => ?_, pt := fun u hu => (by cases hu), il := (List.getElem?_eq_some_iff.1 hv).1 }
  by_cases hji : j = i
  · subst hji
    rw [hv] at hw
    cases hw
    exact h.pt u hu
  · exact h.dn j w (by omega) hw u hu
theorem Prt.scc {rows back : List (List Int)} {sb0 sb : List Bool} {r : Nat} {part out P Q : List Nat} {least : Int} {p : List Int} (hT : Tur rows back) (hF : FinOk rows out) (ho : out = P ++ r :: Q) (hS : Srt rows sb0 Q least) (h : Prt rows back sb0 r sb part part.length p) (u : Nat) : u ∈ part ↔ Mut rows u r := by
  have hr0 : r ∈ part := List.mem_of_getElem? h.hd
  have hlead : ∀ u, u < rows.length → sb0.getD u false = false → Rch rows u r → Mut rows u r := fun u hu h0 hur => by
    obtain ⟨pre, u', post, e, h1, h2⟩ := hF.ld u (hF.all u hu)
    have hrp := h2 r hur
    have hu'0 : u' ∉ Q := fun hq => by
      have := hS.cl u' u (hS.q u' hq) h1.symm
      rw [h0] at this; cases this
    have hnd := hF.nd
    -- r stands in pre ++ [u'], Q behind r; u' is not in Q: u' = r
    rcases List.mem_append.1 hrp with hrp | hrp
    · exfalso
      obtain ⟨a, b, hab⟩ := List.append_of_mem hrp
      rw [hab, List.append_assoc] at e
      have e2 : P ++ r :: Q = a ++ r :: (b ++ u' :: post) := by rw [← ho, e]; rfl
      have hPa : P = a ∧ r :: Q = r :: (b ++ u' :: post) := by
        have hndP : (P ++ r :: Q).Nodup := ho ▸ hnd
        have hnda : (a ++ r :: (b ++ u' :: post)).Nodup := e2 ▸ hndP
        rcases List.append_eq_append_iff.1 e2 with ⟨c, h3, h4⟩ | ⟨c, h3, h4⟩
        · cases c with
          | nil => exact ⟨by simpa using h3.symm, by simpa using h4⟩
          | cons x c =>
            simp only [List.cons_append, List.cons.injEq] at h4
            rw [h3, ← h4.1] at hnda
            exact absurd rfl ((List.nodup_append.1 hnda).2.2 r (by simp) r (by simp))
        · cases c with
          | nil => exact ⟨by simpa using h3, by simpa using h4.symm⟩
          | cons x c =>
            simp only [List.cons_append, List.cons.injEq] at h4
            rw [h3, ← h4.1] at hndP
            exact absurd rfl ((List.nodup_append.1 hndP).2.2 r (by simp) r (by simp))
      have : Q = b ++ u' :: post := by simpa using hPa.2
      exact hu'0 (by rw [this]; simp)
    · have : r = u' := by simpa using hrp
      subst this; exact h1
  constructor
  · intro hu
    obtain ⟨h0, h1⟩ := h.nw u hu
    exact hlead u (h.lt u hu) h0 h1
  · intro hm
    have hr00 := (h.nw r hr0).1
    -- walk backwards from r
    have key : ∀ x, Rch rows x r → Mut rows x r → x ∈ part := fun x hx => by
      intro hxm
      have hgen : ∀ y, Rch rows x y → Rch rows y r → y ∈ part → x ∈ part := fun y hxy => by
        induction hxy with
        | refl => exact fun _ hy => hy
        | @step a b hxa e ih =>
          intro hbr hb
          have har : Rch rows a r := .cons e hbr
          have ham : Mut rows a r := ⟨har, hxm.2.trans hxa⟩
          obtain ⟨j, hj, hjb⟩ := List.mem_iff_getElem.1 hb
          have hs := h.dn j b hj (by rw [List.getElem?_eq_getElem hj, hjb]) a ((hT.2 a b).2 e)
          rcases (h.sn a).1 hs with hs | hs
          · have := hS.cl a r hs ham
            rw [hr00] at this; cases this
          · exact ih har hs
      exact hgen r hx .refl hr0
    exact key u hm.1 hm
def startOk (rows : List (List Int)) (least : Int) : Prop := (least = -1 ∧ ∀ u, u < rows.length → ¬ Cyc rows u) ∨ ∃ v : Nat, least = v ∧ v < rows.length ∧ Cyc rows v ∧ ∀ u, u < rows.length → Cyc rows u → v ≤ u
theorem Srt.old {rows : List (List Int)} {sb : List Bool} {Q : List Nat} {least : Int} (h : Srt rows sb Q least) {r : Nat} (hr : sb.getD r false = true) : Srt rows sb (r :: Q) least := by
  refine { h with q := fun u hu => ?_ }
  rcases List.mem_cons.1 hu with rfl | hu
  · exact hr
  · exact h.q u hu
theorem Srt.new {rows : List (List Int)} {sb0 sb : List Bool} {Q part : List Nat} {least least' : Int} {r : Nat} (h : Srt rows sb0 Q least) (hl : sb.length = rows.length) (hsn : ∀ u, sb.getD u false = true ↔ (sb0.getD u false = true ∨ u ∈ part)) (hscc : ∀ u, u ∈ part ↔ Mut rows u r)
    (hls : (least' = least ∧ ∀ u ∈ part, ¬ Cyc rows u) ∨ ∃ m : Nat, m ∈ part ∧ (∀ u ∈ part, m ≤ u) ∧ (∀ u ∈ part, Cyc rows u) ∧ least' = if least < 0 ∨ (m : Int) < least then (m : Int) else least) : Srt rows sb (r :: Q) least' := by
  refine ⟨hl, fun u v hu huv => ?_, fun u hu => ?_, ?_⟩
  · rw [hsn] at hu ⊢
    rcases hu with hu | hu
    · exact .inl (h.cl u v hu huv)
    · exact .inr ((hscc v).2 (huv.symm.trans ((hscc u).1 hu)))
  · rw [hsn]
    rcases List.mem_cons.1 hu with rfl | hu
    · exact .inr ((hscc u).2 .refl)
    · exact .inl (h.q u hu)
  · rcases hls with ⟨rfl, hn⟩ | ⟨m, hm, hmin, hc, rfl⟩
    · rcases h.ls with ⟨e, h1⟩ | ⟨v, e, h1, h2, h3⟩
      · refine .inl ⟨e, fun u hu => ?_⟩
        rcases (hsn u).1 hu with hu | hu
        · exact h1 u hu
        · exact hn u hu
      · refine .inr ⟨v, e, (hsn v).2 (.inl h1), h2, fun u hu hcu => ?_⟩
        rcases (hsn u).1 hu with hu | hu
        · exact h3 u hu hcu
        · exact absurd hcu (hn u hu)
    · right
      rcases h.ls with ⟨e, h1⟩ | ⟨v, e, h1, h2, h3⟩
      · refine ⟨m, by rw [if_pos (.inl (by omega))], (hsn m).2 (.inr hm), hc m hm, fun u hu hcu => ?_⟩
        rcases (hsn u).1 hu with hu | hu
        · exact absurd hcu (h1 u hu)
        · exact hmin u hu
      · by_cases hmv : (m : Int) < least
        · refine ⟨m, by rw [if_pos (.inr hmv)], (hsn m).2 (.inr hm), hc m hm, fun u hu hcu => ?_⟩
          rcases (hsn u).1 hu with hu | hu
          · have := h3 u hu hcu; omega
          · exact hmin u hu
        · refine ⟨v, by rw [if_neg (by omega)]; exact e, (hsn v).2 (.inl h1), h2, fun u hu hcu => ?_⟩
          rcases (hsn u).1 hu with hu | hu
          · exact h3 u hu hcu
          · have := hmin u hu; omega
theorem Srt.fin {rows : List (List Int)} {sb : List Bool} {Q : List Nat} {least : Int} (h : Srt rows sb Q least) (ha : ∀ u, u < rows.length → u ∈ Q) : startOk rows least := by
  rcases h.ls with ⟨e, h1⟩ | ⟨v, e, h1, h2, h3⟩
  · exact .inl ⟨e, fun u hu => h1 u (h.q u (ha u hu))⟩
  · exact .inr ⟨v, e, by rw [← h.sl]; exact getD_lt h1, h2, fun u hu => h3 u (h.q u (ha u hu))⟩
end Go.Proofs.Ythekpmpcbidjiaa
