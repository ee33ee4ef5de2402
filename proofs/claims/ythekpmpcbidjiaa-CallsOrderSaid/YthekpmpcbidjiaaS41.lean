
import Derived.Test.YthekpmpcbidjiaaS31
import Derived.Test.YthekpmpcbidjiaaS35
import Derived.Test.YthekpmpcbidjiaaS36
import Derived.Test.YthekpmpcbidjiaaS40
namespace Go.Proofs.Ythekpmpcbidjiaa
open Go Go.RowKit Go.Sort U
set_option linter.unusedVariables false
set_option linter.unusedSimpArgs false
set_option maxRecDepth 100000
set_option maxHeartbeats 4000000
def ordG (g : Gz) : List Int × Bool := if rightG g = true then orderR g.st else ([], false)
theorem order_g (g : Gz) (hg : okG g) (hst : g.st.length ≤ 29000) (hs : sumL g.st ≤ 500000) : DenU Try.prog [] 10 [encG g] (ordV (ordG g)) := by
  by_cases hr : rightG g = true
  · rw [ordG, if_pos hr, ← order_callees hr]
    exact order_d g hg hr hst hs
  · have hr' : rightG g = false := by simpa using hr
    rw [ordG, if_neg hr]
    refine denU_of_body hmixU rfl Try.func10 rfl rfl rfl 0 ?_
    intro Ts
    have c1 := cright_d g hg
    rw [hr'] at c1
    obtain ⟨nm, st⟩ := g
    have cg := cleanG ⟨nm, st⟩
    (repeat' ((conv => whnf); first | refine U.lw_t ?_ | refine U.lw_f ?_ | refine U.lit_t ?_ | refine U.lit_f ?_ | refine U.ob_t ?_ | refine U.ob_c (by first | (with_reducible assumption) | exact bLe (by omega) | exact bLe (by simp at *; omega)) ?_ | refine U.nv_c (by with_reducible assumption) ?_ | refine ⟨_, c1, (by (repeat (first | exact trivial | ((conv => whnf); first | exact trivial | refine And.intro (by first | assumption | exact cleanI _ | exact cleanIL _ | exact NoNm.flat _ rfl) ?_)))), tab0 _, ?_⟩ | refine U.lw_t' (by with_reducible assumption) ?_ | refine U.lw_f' (by with_reducible assumption) ?_ | refine U.lw_c (fun hb => ?_) (fun hb => ?_)))
    (conv => whnf)
    exact .tupL (.cons .nil (.cons (.clean _ (.flat _ rfl)) .nil))
theorem ordG_ok (g : Gz) : OrdOk g.st (ordG g).1 := by
  unfold ordG
  split
  · exact ordOk_of g.st
  · exact ⟨List.nodup_nil, fun t ht => (by cases ht), fun a b v e => (by simp at e)⟩
theorem ordG_len {g : Gz} (h : (ordG g).2 = true) : (ordG g).1.length = g.st.length := by
  have h2 := (ordG_ok g).len
  unfold ordG at h h2 ⊢
  split at h
  · rename_i hr
    rw [if_pos hr] at h2 ⊢
    unfold orderR at h h2 ⊢
    split at h
    · cases h
    · rename_i hn
      rw [if_neg hn] at h2 ⊢
      dsimp only at h2 ⊢
      omega
  · cases h
def blL (l : List Bool) : List Value := l.map Value.bool
theorem blL_len (l : List Bool) : (blL l).length = l.length := List.length_map ..
theorem cleanBq (l : List Bool) : ∀ x, x ∈ blL l → NoNm x := fun x hx => by
  obtain ⟨n, _, rfl⟩ := List.mem_map.1 hx
  exact .flat _ rfl
theorem blL_nth {l : List Bool} {i : Nat} (h : i < l.length) : nth (blL l) (0 + i * 1) = some (.bool (l.getD i false)) := by
  rw [Nat.zero_add, Nat.mul_one, nth_eq, blL]
  simp [h]
theorem blL_store {L : List Bool} {i : Nat} {x : Bool} (h : i < L.length) : (blL L).take (0 + i * 1) ++ [Value.bool x] ++ (blL L).drop (0 + i * 1 + [Value.bool x].length) = blL (L.set i x) := by
  rw [Nat.zero_add, Nat.mul_one, List.length_singleton, blL, blL, ← List.map_take, ← List.map_drop, List.set_eq_take_append_cons_drop, if_pos h]
  simp
def knO (n : Nat) (pre : List Int) : List Bool := (List.range n).map fun (i : Nat) => decide ((i : Int) ∈ pre)
theorem knO_len (n : Nat) (pre : List Int) : (knO n pre).length = n := by simp [knO]
theorem knO_at {n : Nat} {pre : List Int} {i : Nat} (h : i < n) : (knO n pre).getD i false = decide ((i : Int) ∈ pre) := by simp [knO, h]
theorem knO_snoc {n u : Nat} {pre : List Int} : knO n (pre ++ [(u : Int)]) = (knO n pre).set u true := by
  apply List.ext_getElem (by simp [knO])
  intro i h1 h2
  have hi : i < n := by simpa [knO] using h1
  rw [List.getElem_set]
  by_cases hc : u = i
  · subst hc
    simp [knO]
  · have : ¬ (i : Int) = (u : Int) := by omega
    simp [knO, hc, this]
theorem knO_nil (n : Nat) : blL (knO n []) = repX n [.bool false] := by
  rw [repX_one, blL, knO]
  simp
  exact List.ext_getElem (by simp) fun i h1 h2 => by simp
end Go.Proofs.Ythekpmpcbidjiaa
namespace Go.Proofs.Ythekpmpcbidjiaa
open Go Go.RowKit Go.Sort U
set_option linter.unusedVariables false
set_option linter.unusedSimpArgs false
end Go.Proofs.Ythekpmpcbidjiaa
namespace Go.Proofs.Ythekpmpcbidjiaa
open Go Go.RowKit Go.Sort U
set_option linter.unusedVariables false
set_option linter.unusedSimpArgs false
theorem bst_way {rows back : List (List Int)} (hT : Tur rows back) (hb : okB rows) (hb2 : okB back) {way : List Int} {v : Nat} (hF : farOk back v way) (hv : v < rows.length) {u b : Nat} (hu : u < rows.length) (h0 : 0 < gt0 way u) (hB : Bst way (rows.getD u []) (b : Int)) : gt0 way u = gt0 way b + 1 ∧ ES rows u b := by
  have hvb : v < back.length := by rw [hT.1]; exact hv
  have hub : u < back.length := by rw [hT.1]; exact hu
  rcases hB with ⟨e, _⟩ | ⟨b', e, h1, h2, h3⟩
  · omega
  · have : b = b' := Int.ofNat_inj.1 e
    subst this
    obtain ⟨w, hw1, hw2, hw3⟩ := far_next (d := (gt0 way u).toNat - 1) hT hb2 hF hvb hub (by omega)
    have hbl := es_lt hb (v := u) h1
    have h4 := (far_edge hT hF hub (by rw [hT.1]; exact hbl) (w := b) h1 h2).2
    refine ⟨?_, h1⟩
    rcases h3 w hw2 (by omega) with h5 | ⟨h5, _⟩ <;> omega
theorem ring_way {rows back : List (List Int)} (hT : Tur rows back) (hb : okB rows) (hb2 : okB back) {way : List Int} {v : Nat} {L : List Nat} (hF : farOk back v way) (hv : v < rows.length) (hL : RingOk rows way v L) : ∀ (d i a : Nat), i + d + 1 = L.length → 0 < i → L[i]? = some a → gt0 way a = ((d + 1 : Nat) : Int)
  | 0, i, a, hd, hi, ha => by
    have hal := hL.lt a (List.mem_of_getElem? ha)
    have hlast : L.getLast? = some a := by
      rw [List.getLast?_eq_getElem?, show L.length - 1 = i by omega]; exact ha
    have hvb : v < back.length := by rw [hT.1]; exact hv
    have h0 := far_v hF hvb
    obtain ⟨_, e2⟩ := hL.cl a hlast
    have hpos : 0 < gt0 way a := by
      obtain ⟨b, hb'⟩ : ∃ b, L[i - 1]? = some b := ⟨_, List.getElem?_eq_getElem (by omega)⟩
      have := (hL.st (i - 1) b a hb' (by rw [show i - 1 + 1 = i by omega]; exact ha)).2.2
      exact this
    have := (bst_way hT hb hb2 hF hv hal hpos e2).1
    omega
  | d + 1, i, a, hd, hi, ha => by
    have hal := hL.lt a (List.mem_of_getElem? ha)
    obtain ⟨b, hb'⟩ : ∃ b, L[i + 1]? = some b := ⟨_, List.getElem?_eq_getElem (by omega)⟩
    have ih := ring_way hT hb hb2 hF hv hL d (i + 1) b (by omega) (by omega) hb'
    obtain ⟨_, e2, _⟩ := hL.st i a b ha hb'
    have hpos : 0 < gt0 way a := by
      obtain ⟨c, hc⟩ : ∃ c, L[i - 1]? = some c := ⟨_, List.getElem?_eq_getElem (by omega)⟩
      exact (hL.st (i - 1) c a hc (by rw [show i - 1 + 1 = i by omega]; exact ha)).2.2
    have := (bst_way hT hb hb2 hF hv hal hpos e2).1
    omega
def MinD (way p : List Int) (best : Int) : Prop := (best = -1 ∧ ∀ x : Nat, (x : Int) ∈ p → gt0 way x < 0) ∨ (0 ≤ best ∧ (∃ x : Nat, (x : Int) ∈ p ∧ gt0 way x = best) ∧ ∀ x : Nat, (x : Int) ∈ p → 0 ≤ gt0 way x → best ≤ gt0 way x)
theorem minD_nil (way : List Int) : MinD way [] (-1) := .inl ⟨rfl, fun x h => by cases h⟩
theorem minD_old {way p : List Int} {best : Int} {w : Nat} (h : MinD way p best) (hw : gt0 way w < 0 ∨ (0 ≤ best ∧ best ≤ gt0 way w)) : MinD way (p ++ [(w : Int)]) best := by
  have key : ∀ x : Nat, (x : Int) ∈ p ++ [(w : Int)] → (x : Int) ∈ p ∨ x = w := fun x hx => by
    rcases List.mem_append.1 hx with hx | hx
    · exact .inl hx
    · exact .inr (Int.ofNat_inj.1 (by simpa using hx))
  rcases h with ⟨e, h⟩ | ⟨e, ⟨y, h1, h2⟩, h3⟩
  · refine .inl ⟨e, fun x hx => ?_⟩
    rcases key x hx with hx | rfl
    · exact h x hx
    · omega
  · refine .inr ⟨e, ⟨y, List.mem_append_left _ h1, h2⟩, fun x hx h0 => ?_⟩
    rcases key x hx with hx | rfl
    · exact h3 x hx h0
    · omega
theorem minD_new {way p : List Int} {best : Int} {w : Nat} (h : MinD way p best) (h0 : 0 ≤ gt0 way w) (hw : best < 0 ∨ gt0 way w < best) : MinD way (p ++ [(w : Int)]) (gt0 way w) := by
  refine .inr ⟨h0, ⟨w, by simp, rfl⟩, fun x hx hx0 => ?_⟩
  rcases List.mem_append.1 hx with hx | hx
  · rcases h with ⟨e, h⟩ | ⟨e, _, h3⟩
    · have := h x hx; omega
    · have := h3 x hx hx0; omega
  · have : x = w := Int.ofNat_inj.1 (by simpa using hx)
    subst this; exact Int.le_refl _
theorem minD_none {rows back : List (List Int)} (hT : Tur rows back) {way : List Int} {v : Nat} {best : Int} (hF : farOk back v way) (hv : v < rows.length) (hb : okB rows) (hc : ¬ Cyc rows v) (h : MinD way (rows.getD v []) best) : best = -1 := by
  rcases h with ⟨e, _⟩ | ⟨e, ⟨x, h1, h2⟩, _⟩
  · exact e
  · exfalso
    have hxl : x < back.length := by rw [hT.1]; exact es_lt hb (v := v) h1
    refine hc ⟨x, h1, ?_⟩
    rcases hF.2 x hxl with ⟨h3, _⟩ | ⟨d, _, h4, _⟩
    · omega
    · have key : ∀ d x, Way back v d x → Rch rows x v := fun d x h => by
        induction h with
        | here => exact .refl
        | step _ e ih => exact .cons ((hT.2 _ _).1 e) ih
      exact key d x h4
theorem minD_bst {way p : List Int} {best : Int} {b : Nat} (h : MinD way p best) (hB : Bst way p (b : Int)) : best = gt0 way b := by
  rcases hB with ⟨e, _⟩ | ⟨b', e, h1, h2, h3⟩
  · omega
  · have : b = b' := Int.ofNat_inj.1 e
    subst this
    rcases h with ⟨_, h4⟩ | ⟨_, ⟨x, h5, h6⟩, h7⟩
    · have := h4 b h1; omega
    · have := h7 b h1 h2
      rcases h3 x h5 (by omega) with h8 | ⟨h8, _⟩ <;> omega
end Go.Proofs.Ythekpmpcbidjiaa
