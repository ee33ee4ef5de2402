import Derived.Shelf.SlSortCmp.NoneTotal
import Derived.Test.YthekpmpcbidjiaaK23
/- A call that sorts a row. No condition. -/
namespace Go.Proofs.Ythekpmpcbidjiaa.U
open Go Go.RowKit Go.Sort
set_option linter.unusedVariables false
set_option linter.unusedSimpArgs false
set_option maxRecDepth 100000
set_option maxHeartbeats 4000000
theorem fm_get {α : Type} [Inhabited α] {enc : α → List Value} {k : Nat} (hk : ∀ x, (enc x).length = k) : ∀ (es : List α) (i c : Nat), c < k → i < es.length → (es.flatMap enc)[i * k + c]? = (enc es[i]!)[c]?
  | [], i, c, _, h => absurd h (Nat.not_lt_zero _)
  | x :: es, 0, c, hc, _ => by
    rw [List.flatMap_cons, Nat.zero_mul, Nat.zero_add, List.getElem?_append_left (by rw [hk]; exact hc)]
    rfl
  | x :: es, i + 1, c, hc, h => by
    have e : (i + 1) * k + c - (enc x).length = i * k + c := by rw [hk, Nat.succ_mul]; omega
    rw [List.flatMap_cons, List.getElem?_append_right (by rw [hk, Nat.succ_mul]; omega), e, fm_get hk es i c hc (by simpa using h)]
    simp
theorem fm_len {α : Type} {enc : α → List Value} {k : Nat} (hk : ∀ x, (enc x).length = k) : ∀ (es : List α), (es.flatMap enc).length = es.length * k
  | [] => by simp
  | x :: es => by rw [List.flatMap_cons, List.length_append, fm_len hk es, hk, List.length_cons, Nat.succ_mul]; omega
theorem flatK_get {α : Type} [Inhabited α] {enc : α → List Value} {k : Nat} (hk : ∀ x, (enc x).length = k) (es : List α) {j : Nat} (hj : j < es.length * k) : (es.flatMap enc)[j]? = some ((flatK enc k es.toArray)[j]!) := by
  have h0 : 0 < k := by
    rcases Nat.eq_zero_or_pos k with h | h
    · subst h; omega
    · exact h
  have h1 : j / k < es.length := Nat.div_lt_of_lt_mul (by rw [Nat.mul_comm]; exact hj)
  have h2 : j % k < k := Nat.mod_lt _ h0
  rw [get_flatK _ _ _ _ (by simpa using hj)]
  have h3 := fm_get hk es (j / k) (j % k) h2 h1
  rw [Nat.mul_comm, Nat.div_add_mod] at h3
  refine h3.trans ?_
  have h4 : ∀ (l : List Value) (i : Nat), i < l.length → l[i]? = some l[i]! := fun l i h => by simp [h]
  rw [show es.toArray[j / k]! = es[j / k]! by simp]
  exact h4 (enc es[j / k]!) _ (by rw [hk]; exact h2)
/-- What a sort needs of the world, and what it leaves. -/
theorem sortAt {α : Type} [Inhabited α] {P : Program} {f g : FuncId} {T : TypeId} {enc : α → List Value} {k : Nat} (hk : ∀ x, (enc x).length = k) (hfl : ∀ x, ∀ v ∈ enc x, flat1 v = true) (h1 : ∀ x, ∀ v ∈ enc x, v.oneCell' = true)
    {srt : List α → List α} (hlen : ∀ l, (srt l).length = l.length)
    (hC : ∀ (d : List α) (W : World) (r cap : Nat), HoldsK enc k W r 0 d.toArray → r < W.heap.size → d.length ≤ 1000000 → Calls P f #[.slice (some ⟨r, 0, none⟩) d.length cap, .func (.func g) #[] #[]] W fun e w' => e = .returned (.tuple #[]) ∧ ∃ n os, w' = sortWorldK enc k W r 0 n (srt d).toArray os)
    {es : List α} {tl : List Value} {s : AS} {b n c : Nat} {op : Bool} (hb : s.heap.get b = some (.cells T (es.flatMap enc ++ tl) op)) (hlo : s.lo ≤ b) (hn : es.length = n) (hm : n ≤ 1000000) {K : Value → AS → Prop} (hK : K (.tuple ⟨[]⟩) ⟨s.heap.set b (some (.cells T ((srt es).flatMap enc ++ tl) op)), s.next, s.lo, s.glb⟩) :
    SoundAt P f [.slice (some ⟨b, 0, none⟩) n c, .func (.func g) ⟨[]⟩ ⟨[]⟩] s K := by
  subst hn
  refine ⟨fun hl W0 β W vs hR hfa hv => ?_⟩
  obtain ⟨v0, vs, rfl, hv0, hv⟩ := hv.inv_cons
  obtain ⟨v1, vs, rfl, hv1, hv⟩ := hv.inv_cons
  cases hv.inv_nil
  obtain ⟨r, sp, hr, rfl⟩ := hv0.sl_inv
  have hv1 : v1 = .func (.func g) #[] #[] := by
    cases hv1 with
    | flat _ h => rfl
    | func g a a' b b' ha hb h1 h2 =>
      have e1 := List.eq_nil_of_length_eq_zero ha.symm
      have e2 := List.eq_nil_of_length_eq_zero hb.symm
      subst e1; subst e2
      rfl
  subst hv1
  obtain ⟨cs, fz, g1, g2, g3, g4, g5⟩ := hR.blk b _ r sp hb hr
  have g2 := g2 hlo
  subst g2
  have hsz : ∀ l : List α, l.length = es.length → (flatK enc k l.toArray).size = es.length * k := fun l hl => by simp [hl]
  have hcell : ∀ j, j < es.length * k → cs[j]? = some ((flatK enc k es.toArray)[j]!) := fun j hj => by
    have e := flatK_get hk es hj
    obtain ⟨q1, v, q2, q3⟩ := g5 j _ (by rw [List.getElem?_append_left (by rw [fm_len hk]; exact hj)]; exact e)
    have hf : flat1 ((flatK enc k es.toArray)[j]!) = true := by
      obtain ⟨x, _, hx⟩ := List.mem_flatMap.1 (List.mem_of_getElem? e)
      exact hfl x _ hx
    rw [q2, q3.flat1_eq hf]
  have hH : HoldsK enc k W r 0 es.toArray := fun j hj => by
    rw [hsz es rfl] at hj
    refine ⟨?_, ?_⟩
    · simp only [World.cell?, g1, Nat.zero_add]
      exact hcell j hj
    · simp [World.frozen?, g1]
  have hrl : r < W.heap.size := hR.lt b r sp hr
  refine (hC es W r (c + sp) hH hrl hm).mono fun e w' ⟨he, m, os, hw⟩ => ?_
  have hW : w' = grow (Sort.ahead (putRow id W r 0 (flatK enc k (srt es).toArray)) m) os := hw
  generalize hW1 : Sort.ahead (putRow id W r 0 (flatK enc k (srt es).toArray)) m = W1 at hW
  have z1 : W1.heap.size = W.heap.size := by rw [← hW1]; exact size_putRow ..
  have o1 : ∀ i, i ≠ r → W1.heap[i]? = W.heap[i]? := fun i hi => by
    rw [← hW1]
    show (W.heap.modify r _)[i]? = _
    rw [Array.getElem?_modify, if_neg (Ne.symm hi)]
  have r1 : W1.heap[r]? = some (.cells (putCells id 0 (flatK enc k (srt es).toArray) cs) T (0, 0)) := by
    rw [← hW1]
    show (W.heap.modify r _)[r]? = _
    rw [Array.getElem?_modify, if_pos rfl, g1]
    rfl
  have hB1 : Below W0.heap.size W0 W1 := by
    have hge := hR.ge b r sp (by rw [hb]; simp) hr hlo
    refine hR.below.trans ⟨by rw [← hW1]; rfl, by rw [← hW1]; rfl, by rw [← hW1]; rfl, Nat.le_of_eq z1.symm, fun i hi => o1 i (by omega)⟩
  have hb1 : BlkR P β W1 r sp True (.cells T ((srt es).flatMap enc ++ tl) op) := by
    refine ⟨_, _, r1, fun _ => rfl, g3, ?_, fun i u hu => ?_⟩
    · rw [List.length_append, fm_len hk, hlen, ← fm_len hk, ← List.length_append, ← g4]
      simp [putCells]
    · by_cases hi : i < es.length * k
      · rw [List.getElem?_append_left (by rw [fm_len hk, hlen]; exact hi)] at hu
        have hx : ∃ x, u ∈ enc x := by
          obtain ⟨x, _, hx⟩ := List.mem_flatMap.1 (List.mem_of_getElem? hu)
          exact ⟨x, hx⟩
        obtain ⟨x, hx⟩ := hx
        rw [flatK_get hk (srt es) (by rw [hlen]; exact hi)] at hu
        cases hu
        refine ⟨h1 x _ hx, _, ?_, .flat _ (hfl x _ hx)⟩
        simp only [putCells, Array.getElem?_mapIdx, hcell i hi, Option.map_some]
        rw [if_pos ⟨Nat.zero_le _, by rw [hsz _ (hlen es)]; omega⟩]
        rfl
      · rw [List.getElem?_append_right (by rw [fm_len hk, hlen]; omega)] at hu
        have hu' : (es.flatMap enc ++ tl)[i]? = some u := by
          rw [List.getElem?_append_right (by rw [fm_len hk]; omega)]
          rw [fm_len hk, hlen] at hu
          rw [fm_len hk]
          exact hu
        obtain ⟨q1, v, q2, q3⟩ := g5 i u hu'
        refine ⟨q1, v, ?_, q3⟩
        simp only [putCells, Array.getElem?_mapIdx, q2, Option.map_some]
        rw [if_neg (fun h => hi (by have := h.2; rw [hsz _ (hlen es)] at this; omega))]
  have hR1 := hR.write (by rw [hb]; simp) hr hlo z1 o1 hB1 hb1
  have hB2 : Below W1.heap.size W1 w' := by
    rw [hW]
    exact ⟨rfl, rfl, rfl, by simp, fun i hi => by simp [grow, Array.getElem?_append, hi]⟩
  have hkd : KD W w' := (KD.write g1 ⟨by simp, by simp⟩ o1 z1 (by rw [← hW1]; exact Nat.le_add_right _ _)).trans (KD.below hB2 (by rw [hW]; exact Nat.le_refl _))
  exact ⟨_, _, _, he, hK, (Stp.turn _ (by rw [hb]; simp) hlo (by rw [hb]; intro h; cases h)).x, β, .refl hfa, hR1.later hB2, .tup [] [] rfl (fun i u v h => by simp at h), hkd⟩
/-- A world that has only grown, and drawn. -/
theorem below_grow {W w' : World} (h : Below W.heap.size W w') (hd : W.drawn ≤ w'.drawn) : ∃ q os', w' = grow (W.drewN q) os' := by
  refine ⟨w'.drawn - W.drawn, w'.heap.extract W.heap.size w'.heap.size, ?_⟩
  have hh : w'.heap = W.heap ++ w'.heap.extract W.heap.size w'.heap.size := by
    apply Array.ext_getElem?
    intro i
    have hs := h.size
    rcases Nat.lt_or_ge i W.heap.size with hi | hi
    · rw [h.block i hi, Array.getElem?_append_left hi]
    · rw [Array.getElem?_append_right hi, Array.getElem?_extract]
      by_cases hi2 : i < w'.heap.size
      · rw [if_pos (by omega)]
        congr 1; omega
      · rw [if_neg (by omega), Array.getElem?_eq_none (by omega)]
  have e1 := h.os
  have e2 := h.tape
  have e3 := h.output
  obtain ⟨H, T, D, O, U'⟩ := w'
  obtain ⟨H0, T0, D0, O0, U0⟩ := W
  simp only at hh e1 e2 e3 hd
  subst e1; subst e2; subst e3
  have e4 : D0 + (D - D0) = D := by omega
  simp only [grow, World.drewN, e4]
  rw [← hh]
/-- A comparison's contract, as a sort asks for it. -/
theorem cmpLays {α : Type} [Inhabited α] {P : Program} {g : FuncId} {enc : α → List Value} {k : Nat} {cf : α → α → Int} (h : ∀ x y, DenU P [] g [.agg ⟨enc x⟩, .agg ⟨enc y⟩] (.int .i64 (cf x y))) (hf : ∀ x, (enc x).all flat1 = true) (blk off size : Nat) (w : World) : CmpLays P g #[] enc k cf blk off size w := fun m os dk hdk x y => by
  have hv : ∀ x, VR ⟨fun _ => none, fun _ _ => none⟩ (.agg ⟨enc x⟩) (.agg ⟨enc x⟩) := fun x => .agg _ _ rfl fun i u v h1 h2 => by
    rw [h1] at h2; cases h2
    exact .flat _ (List.all_eq_true.1 (hf x) _ (List.mem_of_getElem? h1))
  refine ((h x y).out (fun _ _ => none) _ [.agg ⟨enc x⟩, .agg ⟨enc y⟩] (fun x hx => by cases hx) (fun _ _ _ h => by cases h) (.cons (hv x) (.cons (hv y) (.nil _)))).mono fun e w' ⟨v, z', he, ⟨hb, hd⟩, _, _, hv'⟩ => ?_
  have : v = .int .i64 (cf x y) := hv'.flat1_eq rfl
  subst this
  exact ⟨he, below_grow hb hd⟩
end Go.Proofs.Ythekpmpcbidjiaa.U
