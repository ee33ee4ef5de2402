
import Derived.Test.YthekpmpcbidjiaaS24
import Derived.Test.YthekpmpcbidjiaaS25
import Derived.Test.YthekpmpcbidjiaaS53
namespace Go.Proofs.Ythekpmpcbidjiaa.U
open Go Go.RowKit Go.Sort
set_option linter.unusedVariables false
set_option linter.unusedSimpArgs false
set_option maxRecDepth 100000
set_option maxHeartbeats 4000000
theorem intsAt {P : Program} {f : FuncId} {T : TypeId} {g : List Int → List Int} (hlen : ∀ l, (g l).length = l.length) {ua : Value} {vr : List Int → Nat → Nat → Value}
    (hC : ∀ (d : List Int) (W : World) (r cap : Nat), Go.Sort.Holds (Value.int .i64) W r 0 d.toArray → r < W.heap.size → d.length ≤ cap → d.length ≤ 1000000 → Calls P f #[.slice (some ⟨r, 0, none⟩) d.length cap] W fun e w' => e = .returned (vr d r cap) ∧ ∃ n os, w' = grow (putRow (Value.int .i64) (Sort.ahead W n) r 0 (g d).toArray) os)
    {es : List Int} {s : AS} {b n c : Nat} {op : Bool} (hb : s.heap.get b = some (.cells T (es.map (Value.int .i64)) op)) (hlo : s.lo ≤ b) (hn : es.length = n) (hnc : n ≤ c) (hm : n ≤ 1000000)
    (hres : ∀ (β : Bt) (r sp : Nat), β b = some (r, sp) → VR β ua (vr es r (c + sp))) {K : Value → AS → Prop} (hK : K ua ⟨s.heap.set b (some (.cells T ((g es).map (Value.int .i64)) op)), s.next, s.lo, s.glb⟩) :
    SoundAt P f [.slice (some ⟨b, 0, none⟩) n c] s K := by
  subst hn
  refine ⟨fun hl W0 β W vs hR hfa hv => ?_⟩
  obtain ⟨v0, vs, rfl, hv0, hv⟩ := hv.inv_cons
  cases hv.inv_nil
  obtain ⟨r, sp, hr, rfl⟩ := hv0.sl_inv
  obtain ⟨cs, fz, g1, g2, g3, g4, g5⟩ := hR.blk b _ r sp hb hr
  have g2 := g2 hlo
  subst g2
  have hcell : ∀ j, j < es.length → cs[j]? = some (.int .i64 es[j]!) := fun j hj => by
    have e : (es.map (Value.int .i64))[j]? = some (.int .i64 es[j]!) := by simp [hj]
    obtain ⟨q1, v, q2, q3⟩ := g5 j _ e
    rw [q2, q3.flat1_eq rfl]
  have hH : Go.Sort.Holds (Value.int .i64) W r 0 es.toArray := fun j hj => by
    have hj : j < es.length := by simpa using hj
    refine ⟨?_, ?_⟩
    · simp only [World.cell?, g1, Nat.zero_add]
      rw [show es.toArray[j]! = es[j]! by simp]
      exact hcell j hj
    · simp [World.frozen?, g1]
  have hrl : r < W.heap.size := hR.lt b r sp hr
  refine (hC es W r (c + sp) hH hrl (by omega) hm).mono fun e w' ⟨he, m, os, hw⟩ => ?_
  have hW : w' = grow (Sort.ahead (putRow (Value.int .i64) W r 0 (g es).toArray) m) os := hw
  generalize hW1 : Sort.ahead (putRow (Value.int .i64) W r 0 (g es).toArray) m = W1 at hW
  have z1 : W1.heap.size = W.heap.size := by rw [← hW1]; exact size_putRow ..
  have o1 : ∀ i, i ≠ r → W1.heap[i]? = W.heap[i]? := fun i hi => by
    rw [← hW1]
    show (W.heap.modify r _)[i]? = _
    rw [Array.getElem?_modify, if_neg (Ne.symm hi)]
  have r1 : W1.heap[r]? = some (.cells (putCells (Value.int .i64) 0 (g es).toArray cs) T (0, 0)) := by
    rw [← hW1]
    show (W.heap.modify r _)[r]? = _
    rw [Array.getElem?_modify, if_pos rfl, g1]
    rfl
  have hB1 : Below W0.heap.size W0 W1 := by
    have hge := hR.ge b r sp (by rw [hb]; simp) hr hlo
    refine hR.below.trans ⟨by rw [← hW1]; rfl, by rw [← hW1]; rfl, by rw [← hW1]; rfl, Nat.le_of_eq z1.symm, fun i hi => o1 i (by omega)⟩
  have hb1 : BlkR P β W1 r sp True (.cells T ((g es).map (Value.int .i64)) op) := by
    refine ⟨_, _, r1, fun _ => rfl, g3, ?_, fun i u hu => ?_⟩
    · rw [List.length_map, hlen]
      rw [List.length_map] at g4
      rw [← g4]
      simp [putCells]
    · have hi : i < (g es).length := by
        have := (List.getElem?_eq_some_iff.1 hu).1
        simpa using this
      have hu' : u = .int .i64 (g es)[i]! := by
        rw [List.getElem?_map, List.getElem?_eq_getElem hi] at hu
        cases hu
        simp [hi]
      subst hu'
      refine ⟨rfl, _, ?_, .flat _ rfl⟩
      simp only [putCells, Array.getElem?_mapIdx, hcell i (by rw [← hlen]; exact hi), Option.map_some]
      rw [if_pos ⟨Nat.zero_le _, by simpa using hi⟩]
      simp
  have hR1 := hR.write (by rw [hb]; simp) hr hlo z1 o1 hB1 hb1
  have hB2 : Below W1.heap.size W1 w' := by
    rw [hW]
    exact ⟨rfl, rfl, rfl, by simp, fun i hi => by simp [grow, Array.getElem?_append, hi]⟩
  have hkd : KD W w' := (KD.write g1 ⟨by simp, by simp⟩ o1 z1 (by rw [← hW1]; exact Nat.le_add_right _ _)).trans (KD.below hB2 (by rw [hW]; exact Nat.le_refl _))
  exact ⟨_, _, _, he, hK, (Stp.turn _ (by rw [hb]; simp) hlo (by rw [hb]; intro h; cases h)).x, β, .refl hfa, hR1.later hB2, hres β r sp hr, hkd⟩
end Go.Proofs.Ythekpmpcbidjiaa.U
namespace Go.Proofs.Ythekpmpcbidjiaa
open Go Go.RowKit Go.Sort U
set_option linter.unusedVariables false
set_option linter.unusedSimpArgs false
set_option maxRecDepth 100000
set_option maxHeartbeats 4000000
def srtI (l : List Int) : List Int := l.mergeSort fun x y => decide (x ≤ y)
def cptI (l : List Int) : List Int := Lib.compact l ++ List.replicate (l.length - (Lib.compact l).length) 0
theorem cptI_len (l : List Int) : (cptI l).length = l.length := by
  have := compact_len l
  simp [cptI]; omega
theorem sortI_s {es : List Int} {s : AS} {b n c : Nat} {op : Bool} (hb : s.heap.get b = some (.cells 3 (iL es) op)) (hlo : s.lo ≤ b) (hn : es.length = n) (hnc : n ≤ c) (hm : n ≤ 1000000) {K : Value → AS → Prop} (hK : K (.tuple ⟨[]⟩) ⟨s.heap.set b (some (.cells 3 (iL (srtI es)) op)), s.next, s.lo, s.glb⟩) : SoundAt Try.prog 61 [.slice (some ⟨b, 0, none⟩) n c] s K :=
  intsAt (g := srtI) (fun l => by simp [srtI]) (vr := fun _ _ _ => .tuple #[]) (fun d W r cap hH hr hcap hd => (Try.slices_Sort_int r 0 cap d W hH hr (by omega)).mono fun e w' h => h) hb hlo hn hnc hm (fun β r sp _ => .tup [] [] rfl (fun i u v h => by simp at h)) hK
theorem compI_s {es : List Int} {s : AS} {b n c : Nat} {op : Bool} (hb : s.heap.get b = some (.cells 3 (iL es) op)) (hlo : s.lo ≤ b) (hn : es.length = n) (hnc : n ≤ c) (hm : n ≤ 1000000) {K : Value → AS → Prop} (hK : K (.slice (some ⟨b, 0, none⟩) (Lib.compact es).length c) ⟨s.heap.set b (some (.cells 3 (iL (cptI es)) op)), s.next, s.lo, s.glb⟩) : SoundAt Try.prog 62 [.slice (some ⟨b, 0, none⟩) n c] s K :=
  intsAt (g := cptI) cptI_len (vr := fun d r cap => .slice (some ⟨r, 0, none⟩) (Lib.compact d).length cap) (fun d W r cap hH hr hcap hd => (Try.slices_Compact_int r 0 cap d W hH (by omega) hcap).mono fun e w' ⟨h1, q, h2⟩ => ⟨h1, q, #[], by rw [grow_empty]; exact h2⟩) hb hlo hn hnc hm (fun β r sp h => .sl _ _ _ _ _ _ h) hK
theorem frz_nilI {P : Program} {s : AS} {l : List Int} (h : l = []) : FrzV P s (retC [.slice none 0 0]) (imS (iL l)) := by
  subst h
  exact .nil
theorem cpt_frz {P : Program} {s : AS} {b c : Nat} {T : TypeId} {op : Bool} {es : List Int} (hlo : s.lo ≤ b) (hk : s.heap.get b = some (.cells T (iL (cptI es)) op)) (hc : (Lib.compact es).length ≤ c) : FrzV P s (retC [.slice (some ⟨b, 0, none⟩) (Lib.compact es).length c]) (imS (iL (Lib.compact es))) := by
  refine FrzV.row b _ c 1 T (iL (cptI es)) (iL (Lib.compact es)) op hlo hk iL_1 (by rw [iL_len]) hc (by rw [cellsI, iL_len, iL_len, cptI_len]; exact compact_len es) fun i u v hu hv => ?_
  rw [cellsI] at hv
  have hi : i < (Lib.compact es).length := by have := (List.getElem?_eq_some_iff.1 hv).1; rwa [iL_len] at this
  rw [cptI, iL_app, List.getElem?_append_left (by rw [iL_len]; exact hi), hv] at hu
  cases hu
  obtain ⟨n, _, rfl⟩ := List.mem_map.1 (List.mem_of_getElem? hv)
  exact .clean _ (cleanI n)
theorem cptN : DenU Try.prog [] 62 [.slice none 0 0] (.slice none 0 0) := by
  refine denU_of_body hmixU rfl Try.func62 rfl rfl rfl 0 ?_
  intro Ts
  (repeat' ((conv => whnf); first | refine U.lw_t ?_ | refine U.lw_f ?_ | refine U.lit_t ?_ | refine U.lit_f ?_ | refine U.ob_t ?_ | refine U.ob_c (by first | (with_reducible assumption) | exact bLe (by omega) | exact bLe (by simp at *; omega)) ?_ | refine U.nv_c (by with_reducible assumption) ?_ | refine U.lw_t' (by with_reducible assumption) ?_ | refine U.lw_f' (by with_reducible assumption) ?_ | refine U.lw_c (fun hb => ?_) (fun hb => ?_)))
  (conv => whnf)
  exact .clean _ (.flat _ rfl)
theorem srtN : DenU Try.prog [] 61 [.slice none 0 0] (.tuple ⟨[]⟩) := by
  refine denU_of_sound hmixU fun Ts => SoundAt.body hmixU Try.func61 rfl rfl rfl 0 ?_
  (repeat' ((conv => whnf); first | refine U.lw_t ?_ | refine U.lw_f ?_ | refine U.lit_t ?_ | refine U.lit_f ?_ | refine U.ob_t ?_ | refine U.ob_c (by first | (with_reducible assumption) | exact bLe (by omega) | exact bLe (by simp at *; omega)) ?_ | refine U.nv_c (by with_reducible assumption) ?_ | refine U.lw_t' (by with_reducible assumption) ?_ | refine U.lw_f' (by with_reducible assumption) ?_ | refine U.lw_c (fun hb => ?_) (fun hb => ?_)))
  (conv => whnf)
  refine SoundAt.body hmixU Try.func82 rfl rfl rfl 0 ?_
  (repeat' ((conv => whnf); first | refine U.lw_t ?_ | refine U.lw_f ?_ | refine U.lit_t ?_ | refine U.lit_f ?_ | refine U.ob_t ?_ | refine U.ob_c (by first | (with_reducible assumption) | exact bLe (by omega) | exact bLe (by simp at *; omega)) ?_ | refine U.nv_c (by with_reducible assumption) ?_ | refine U.lw_t' (by with_reducible assumption) ?_ | refine U.lw_f' (by with_reducible assumption) ?_ | refine U.lw_c (fun hb => ?_) (fun hb => ?_)))
  (conv => whnf)
  refine SoundAt.body hmixU Try.func99 rfl rfl rfl 0 ?_
  (repeat' ((conv => whnf); first | refine U.lw_t ?_ | refine U.lw_f ?_ | refine U.lit_t ?_ | refine U.lit_f ?_ | refine U.ob_t ?_ | refine U.ob_c (by first | (with_reducible assumption) | exact bLe (by omega) | exact bLe (by simp at *; omega)) ?_ | refine U.nv_c (by with_reducible assumption) ?_ | refine U.lw_t' (by with_reducible assumption) ?_ | refine U.lw_f' (by with_reducible assumption) ?_ | refine U.lw_c (fun hb => ?_) (fun hb => ?_)))
  (conv => whnf)
  refine SoundAt.body hmixU Try.func81 rfl rfl rfl 0 ?_
  (repeat' ((conv => whnf); first | refine U.lw_t ?_ | refine U.lw_f ?_ | refine U.lit_t ?_ | refine U.lit_f ?_ | refine U.ob_t ?_ | refine U.ob_c (by first | (with_reducible assumption) | exact bLe (by omega) | exact bLe (by simp at *; omega)) ?_ | refine U.nv_c (by with_reducible assumption) ?_ | refine U.lw_t' (by with_reducible assumption) ?_ | refine U.lw_f' (by with_reducible assumption) ?_ | refine U.lw_c (fun hb => ?_) (fun hb => ?_)))
  (conv => whnf)
  refine loop_inv (α := Unit) (fun _ => True) (fun _ => (mkF [(0, .slice none 0 0), (1, .int .i64 0), (2, .int .i64 0)], ⟨.e, 0, 0, 0⟩)) (fun _ => 0) () trivial (Cov.renO (fun k => k) rfl rfl (Nat.le_of_ble_eq_true rfl) (Nat.zero_le _) (fun _ _ => rfl) rfl (fun k hk => absurd hk (Nat.not_lt_zero k)) .nil (.cons rfl (.clean _ _ (.flat _ rfl) rfl) (.cons rfl (.clean _ _ (.flat _ rfl) rfl) (.cons rfl (.clean _ _ (.flat _ rfl) rfl) .nil)))) ?_
  rintro ⟨⟩ _
  dsimp only
  (repeat' ((conv => whnf); first | refine U.lw_t ?_ | refine U.lw_f ?_ | refine U.lit_t ?_ | refine U.lit_f ?_ | refine U.ob_t ?_ | refine U.ob_c (by first | (with_reducible assumption) | exact bLe (by omega) | exact bLe (by simp at *; omega)) ?_ | refine U.nv_c (by with_reducible assumption) ?_ | refine U.lw_t' (by with_reducible assumption) ?_ | refine U.lw_f' (by with_reducible assumption) ?_ | refine U.lw_c (fun hb => ?_) (fun hb => ?_)))
  (conv => whnf)
  refine SoundAt.body hmixU Try.func89 rfl rfl rfl 0 ?_
  (repeat' ((conv => whnf); first | refine U.lw_t ?_ | refine U.lw_f ?_ | refine U.lit_t ?_ | refine U.lit_f ?_ | refine U.ob_t ?_ | refine U.ob_c (by first | (with_reducible assumption) | exact bLe (by omega) | exact bLe (by simp at *; omega)) ?_ | refine U.nv_c (by with_reducible assumption) ?_ | refine U.lw_t' (by with_reducible assumption) ?_ | refine U.lw_f' (by with_reducible assumption) ?_ | refine U.lw_c (fun hb => ?_) (fun hb => ?_)))
  (conv => whnf)
  refine loop_inv (α := Unit) (fun _ => True) (fun _ => (mkF [(0, .slice none 0 0), (1, .int .i64 0), (2, .int .i64 0), (6, .int .i64 1)], ⟨.e, 0, 0, 0⟩)) (fun _ => 0) () trivial (Cov.renO (fun k => k) rfl rfl (Nat.le_of_ble_eq_true rfl) (Nat.zero_le _) (fun _ _ => rfl) rfl (fun k hk => absurd hk (Nat.not_lt_zero k)) .nil (.cons rfl (.clean _ _ (.flat _ rfl) rfl) (.cons rfl (.clean _ _ (.flat _ rfl) rfl) (.cons rfl (.clean _ _ (.flat _ rfl) rfl) (.cons rfl (.clean _ _ (.flat _ rfl) rfl) .nil))))) ?_
  rintro ⟨⟩ _
  dsimp only
  (repeat' ((conv => whnf); first | refine U.lw_t ?_ | refine U.lw_f ?_ | refine U.lit_t ?_ | refine U.lit_f ?_ | refine U.ob_t ?_ | refine U.ob_c (by first | (with_reducible assumption) | exact bLe (by omega) | exact bLe (by simp at *; omega)) ?_ | refine U.nv_c (by with_reducible assumption) ?_ | refine U.lw_t' (by with_reducible assumption) ?_ | refine U.lw_f' (by with_reducible assumption) ?_ | refine U.lw_c (fun hb => ?_) (fun hb => ?_)))
  (conv => whnf)
  exact .same (.flat _ rfl) rfl
theorem ccallees_d (g : Gz) (node : Int) (hg : okG g) (hrow : ∀ r ∈ g.st, r.length ≤ 1000) : DenU Try.prog [] 28 [encG g, .int .i64 node] (imS (iL (calV g node))) := by
  refine denU_of_sound hmixU fun Ts => SoundAt.body hmixU Try.func28 rfl rfl rfl 0 ?_
  have c1 := cright_d g hg
  have cg := cleanG g
  unfold calV
  cases hr : rightG g
  · rw [hr] at c1
    rw [if_neg (by simp)]
    obtain ⟨nm, st⟩ := g
    (repeat' ((conv => whnf); first | refine U.lw_t ?_ | refine U.lw_f ?_ | refine U.lit_t ?_ | refine U.lit_f ?_ | refine U.ob_t ?_ | refine U.ob_c (by first | (with_reducible assumption) | exact bLe (by omega) | exact bLe (by simp at *; omega)) ?_ | refine U.nv_c (by with_reducible assumption) ?_ | refine U.SoundAt.u (c1) (by (repeat (first | exact trivial | ((conv => whnf); first | exact trivial | refine And.intro (by first | assumption | exact cleanI _ | exact cleanIL _ | exact NoNm.flat _ rfl) ?_)))) ?_ | refine U.SoundC.u (c1) (by (repeat (first | exact trivial | ((conv => whnf); first | exact trivial | refine And.intro (by first | assumption | exact cleanI _ | exact cleanIL _ | exact NoNm.flat _ rfl) ?_)))) ?_ | refine U.lw_t' (by with_reducible assumption) ?_ | refine U.lw_f' (by with_reducible assumption) ?_ | refine U.lw_c (fun hb => ?_) (fun hb => ?_)))
    (conv => whnf)
    exact .nil
  · rw [hr] at c1
    rw [if_pos rfl]
    have hr2 := hr
    simp only [rightG, Bool.and_eq_true, decide_eq_true_eq] at hr2
    obtain ⟨nm, st⟩ := g
    unfold calR
    dsimp only at *
    by_cases hn : 0 ≤ node ∧ node < (st.length : Int)
    · rw [if_pos hn]
      obtain ⟨i, rfl⟩ : ∃ i : Nat, node = (i : Int) := ⟨node.toNat, by omega⟩
      have hil : i < st.length := by omega
      obtain ⟨row, hrw⟩ : ∃ row, st[i]? = some row := ⟨_, List.getElem?_eq_getElem hil⟩
      have hrm := List.mem_of_getElem? hrw
      have hrl := hrow row hrm
      have hib : i.blt (gL st).length = true := by rw [gL_len]; exact bLe hil
      have hix : nth (gL st) i = some (imS (iL row)) := by rw [nth_eq, gL]; simp [hrw]
      have h0 : decide ((i : Int) < 0) = false := by simp
      have h1 : decide ((i : Int) ≥ ((gL st).length : Int)) = false := by rw [gL_len]; simp; omega
      have hsr : ∀ t ∈ row, ∃ k : Nat, t = (k : Int) ∧ k < nm.length := fun t ht => by
        have h2 := hr2.2
        rw [List.all_eq_true] at h2
        have h3 := h2 row hrm
        rw [List.all_eq_true] at h3
        have h4 := h3 t ht
        simp only [okT, Bool.and_eq_true, decide_eq_true_eq] at h4
        exact ⟨t.toNat, by omega, by omega⟩
      have hpl := callees_plain hsr
      rw [show st.getD (i : Int).toNat [] = row by simp [hrw], ← hpl]
      rcases row with _ | ⟨x, xs⟩
      · (repeat' ((conv => whnf); first | refine U.lw_t ?_ | refine U.lw_f ?_ | refine U.lit_t ?_ | refine U.lit_f ?_ | refine U.ob_t ?_ | refine U.ob_c (by first | (with_reducible assumption) | exact bLe (by omega) | exact bLe (by simp at *; omega)) ?_ | refine U.nv_c (by with_reducible assumption) ?_ | refine U.SoundAt.u (c1) (by (repeat (first | exact trivial | ((conv => whnf); first | exact trivial | refine And.intro (by first | assumption | exact cleanI _ | exact cleanIL _ | exact NoNm.flat _ rfl) ?_)))) ?_ | refine U.SoundC.u (c1) (by (repeat (first | exact trivial | ((conv => whnf); first | exact trivial | refine And.intro (by first | assumption | exact cleanI _ | exact cleanIL _ | exact NoNm.flat _ rfl) ?_)))) ?_ | refine U.lw_t' (by with_reducible assumption) ?_ | refine U.lw_f' (by with_reducible assumption) ?_ | refine U.lw_c (fun hb => ?_) (fun hb => ?_)))
        (conv => whnf)
        refine SoundAt.body hmixU Try.func60 rfl rfl rfl 0 ?_
        (repeat' ((conv => whnf); first | refine U.lw_t ?_ | refine U.lw_f ?_ | refine U.lit_t ?_ | refine U.lit_f ?_ | refine U.ob_t ?_ | refine U.ob_c (by first | (with_reducible assumption) | exact bLe (by omega) | exact bLe (by simp at *; omega)) ?_ | refine U.nv_c (by with_reducible assumption) ?_ | refine U.lw_t' (by with_reducible assumption) ?_ | refine U.lw_f' (by with_reducible assumption) ?_ | refine U.lw_c (fun hb => ?_) (fun hb => ?_)))
        (conv => whnf)
        intro i hi
        rcases List.mem_cons.1 hi with rfl | hi
        · (repeat' ((conv => whnf); first | refine U.lw_t ?_ | refine U.lw_f ?_ | refine U.lit_t ?_ | refine U.lit_f ?_ | refine U.ob_t ?_ | refine U.ob_c (by first | (with_reducible assumption) | exact bLe (by omega) | exact bLe (by simp at *; omega)) ?_ | refine U.nv_c (by with_reducible assumption) ?_ | refine U.SoundAt.u (srtN) (by (repeat (first | exact trivial | ((conv => whnf); first | exact trivial | refine And.intro (by first | assumption | exact cleanI _ | exact cleanIL _ | exact NoNm.flat _ rfl) ?_)))) ?_ | refine U.SoundAt.u (cptN) (by (repeat (first | exact trivial | ((conv => whnf); first | exact trivial | refine And.intro (by first | assumption | exact cleanI _ | exact cleanIL _ | exact NoNm.flat _ rfl) ?_)))) ?_ | refine U.SoundC.u (srtN) (by (repeat (first | exact trivial | ((conv => whnf); first | exact trivial | refine And.intro (by first | assumption | exact cleanI _ | exact cleanIL _ | exact NoNm.flat _ rfl) ?_)))) ?_ | refine U.SoundC.u (cptN) (by (repeat (first | exact trivial | ((conv => whnf); first | exact trivial | refine And.intro (by first | assumption | exact cleanI _ | exact cleanIL _ | exact NoNm.flat _ rfl) ?_)))) ?_ | refine U.lw_t' (by with_reducible assumption) ?_ | refine U.lw_f' (by with_reducible assumption) ?_ | refine U.lw_c (fun hb => ?_) (fun hb => ?_)))
          (conv => whnf)
          exact frz_nilI (by simp [Lib.compact, Lib.compactUpTo])
        · have : i = 1 := by simpa using hi
          subst this
          (repeat' ((conv => whnf); first | refine U.lw_t ?_ | refine U.lw_f ?_ | refine U.lit_t ?_ | refine U.lit_f ?_ | refine U.ob_t ?_ | refine U.ob_c (by first | (with_reducible assumption) | exact bLe (by omega) | exact bLe (by simp at *; omega)) ?_ | refine U.nv_c (by with_reducible assumption) ?_ | refine U.lw_t' (by with_reducible assumption) ?_ | refine U.lw_f' (by with_reducible assumption) ?_ | refine U.lw_c (fun hb => ?_) (fun hb => ?_)))
          (conv => whnf)
          refine sortI_s (es := []) (n := 0) (c := 0) rfl (Nat.zero_le _) rfl (Nat.le_refl _) (Nat.zero_le _) ?_
          (repeat' ((conv => whnf); first | refine U.lw_t ?_ | refine U.lw_f ?_ | refine U.lit_t ?_ | refine U.lit_f ?_ | refine U.ob_t ?_ | refine U.ob_c (by first | (with_reducible assumption) | exact bLe (by omega) | exact bLe (by simp at *; omega)) ?_ | refine U.nv_c (by with_reducible assumption) ?_ | refine U.lw_t' (by with_reducible assumption) ?_ | refine U.lw_f' (by with_reducible assumption) ?_ | refine U.lw_c (fun hb => ?_) (fun hb => ?_)))
          (conv => whnf)
          refine compI_s (es := srtI []) (n := 0) (c := 0) rfl (Nat.zero_le _) (by simp [srtI]) (Nat.le_refl _) (Nat.zero_le _) ?_
          (repeat' ((conv => whnf); first | refine U.lw_t ?_ | refine U.lw_f ?_ | refine U.lit_t ?_ | refine U.lit_f ?_ | refine U.ob_t ?_ | refine U.ob_c (by first | (with_reducible assumption) | exact bLe (by omega) | exact bLe (by simp at *; omega)) ?_ | refine U.nv_c (by with_reducible assumption) ?_ | refine U.lw_t' (by with_reducible assumption) ?_ | refine U.lw_f' (by with_reducible assumption) ?_ | refine U.lw_c (fun hb => ?_) (fun hb => ?_)))
          (conv => whnf)
          exact cpt_frz (es := srtI []) (b := 1) (Nat.zero_le _) rfl (Nat.le_trans (compact_len _) (by simp [srtI]))
      · (repeat' ((conv => whnf); first | refine U.lw_t ?_ | refine U.lw_f ?_ | refine U.lit_t ?_ | refine U.lit_f ?_ | refine U.ob_t ?_ | refine U.ob_c (by first | (with_reducible assumption) | exact bLe (by omega) | exact bLe (by simp at *; omega)) ?_ | refine U.nv_c (by with_reducible assumption) ?_ | refine U.SoundAt.u (c1) (by (repeat (first | exact trivial | ((conv => whnf); first | exact trivial | refine And.intro (by first | assumption | exact cleanI _ | exact cleanIL _ | exact NoNm.flat _ rfl) ?_)))) ?_ | refine U.SoundC.u (c1) (by (repeat (first | exact trivial | ((conv => whnf); first | exact trivial | refine And.intro (by first | assumption | exact cleanI _ | exact cleanIL _ | exact NoNm.flat _ rfl) ?_)))) ?_ | refine U.lw_t' (by with_reducible assumption) ?_ | refine U.lw_f' (by with_reducible assumption) ?_ | refine U.lw_c (fun hb => ?_) (fun hb => ?_)))
        (conv => whnf)
        refine SoundAt.body hmixU Try.func60 rfl rfl rfl 0 ?_
        have hb8 : (Nat.ble ((0 + ((List.map (Value.int IntKind.i64) xs).length + 1)) * 8) 140737488355328 && Nat.ble (0 + ((List.map (Value.int IntKind.i64) xs).length + 1)) 1000000) = true := by
          rw [List.length_map]
          simp only [List.length_cons] at hrl
          rw [bLe (by omega), bLe (by omega)]
          rfl
        (repeat' ((conv => whnf); first | refine U.lw_t ?_ | refine U.lw_f ?_ | refine U.lit_t ?_ | refine U.lit_f ?_ | refine U.ob_t ?_ | refine U.ob_c (iL_one (x :: xs)) ?_ | refine U.ob_c hb8 ?_ | refine U.ob_c (by first | (with_reducible assumption) | exact bLe (by omega) | exact bLe (by simp at *; omega)) ?_ | refine U.nv_c (by with_reducible assumption) ?_ | refine U.lw_t' (by with_reducible assumption) ?_ | refine U.lw_f' (by with_reducible assumption) ?_ | refine U.lw_c (fun hb => ?_) (fun hb => ?_)))
        (conv => whnf)
        refine sortI_s (es := x :: xs) (op := true) ?_ (Nat.zero_le _) (by simp) (Nat.le_refl _) (by simp only [List.length_map]; simp only [List.length_cons] at hrl; omega) ?_
        · exact congrArg (fun l => some (U.Blk.cells 3 l true)) (cellsI (x :: xs))
        (repeat' ((conv => whnf); first | refine U.lw_t ?_ | refine U.lw_f ?_ | refine U.lit_t ?_ | refine U.lit_f ?_ | refine U.ob_t ?_ | refine U.ob_c (by first | (with_reducible assumption) | exact bLe (by omega) | exact bLe (by simp at *; omega)) ?_ | refine U.nv_c (by with_reducible assumption) ?_ | refine U.lw_t' (by with_reducible assumption) ?_ | refine U.lw_f' (by with_reducible assumption) ?_ | refine U.lw_c (fun hb => ?_) (fun hb => ?_)))
        (conv => whnf)
        refine compI_s (es := srtI (x :: xs)) rfl (Nat.zero_le _) (by simp [srtI]) (Nat.le_refl _) (by simp only [List.length_map]; simp only [List.length_cons] at hrl; omega) ?_
        (repeat' ((conv => whnf); first | refine U.lw_t ?_ | refine U.lw_f ?_ | refine U.lit_t ?_ | refine U.lit_f ?_ | refine U.ob_t ?_ | refine U.ob_c (by first | (with_reducible assumption) | exact bLe (by omega) | exact bLe (by simp at *; omega)) ?_ | refine U.nv_c (by with_reducible assumption) ?_ | refine U.lw_t' (by with_reducible assumption) ?_ | refine U.lw_f' (by with_reducible assumption) ?_ | refine U.lw_c (fun hb => ?_) (fun hb => ?_)))
        (conv => whnf)
        exact cpt_frz (es := srtI (x :: xs)) (b := 2) (Nat.zero_le _) rfl (Nat.le_trans (compact_len _) (by simp [srtI]))
    · rw [if_neg hn]
      by_cases h0 : node < 0
      · have h2 : decide (node < 0) = true := decide_eq_true h0
        (repeat' ((conv => whnf); first | refine U.lw_t ?_ | refine U.lw_f ?_ | refine U.lit_t ?_ | refine U.lit_f ?_ | refine U.ob_t ?_ | refine U.ob_c (by first | (with_reducible assumption) | exact bLe (by omega) | exact bLe (by simp at *; omega)) ?_ | refine U.nv_c (by with_reducible assumption) ?_ | refine U.SoundAt.u (c1) (by (repeat (first | exact trivial | ((conv => whnf); first | exact trivial | refine And.intro (by first | assumption | exact cleanI _ | exact cleanIL _ | exact NoNm.flat _ rfl) ?_)))) ?_ | refine U.SoundC.u (c1) (by (repeat (first | exact trivial | ((conv => whnf); first | exact trivial | refine And.intro (by first | assumption | exact cleanI _ | exact cleanIL _ | exact NoNm.flat _ rfl) ?_)))) ?_ | refine U.lw_t' (by with_reducible assumption) ?_ | refine U.lw_f' (by with_reducible assumption) ?_ | refine U.lw_c (fun hb => ?_) (fun hb => ?_)))
        (conv => whnf)
        exact .nil
      · have h2 : decide (node < 0) = false := decide_eq_false h0
        have h3 : decide (node ≥ ((gL st).length : Int)) = true := decide_eq_true (by rw [gL_len]; omega)
        (repeat' ((conv => whnf); first | refine U.lw_t ?_ | refine U.lw_f ?_ | refine U.lit_t ?_ | refine U.lit_f ?_ | refine U.ob_t ?_ | refine U.ob_c (by first | (with_reducible assumption) | exact bLe (by omega) | exact bLe (by simp at *; omega)) ?_ | refine U.nv_c (by with_reducible assumption) ?_ | refine U.SoundAt.u (c1) (by (repeat (first | exact trivial | ((conv => whnf); first | exact trivial | refine And.intro (by first | assumption | exact cleanI _ | exact cleanIL _ | exact NoNm.flat _ rfl) ?_)))) ?_ | refine U.SoundC.u (c1) (by (repeat (first | exact trivial | ((conv => whnf); first | exact trivial | refine And.intro (by first | assumption | exact cleanI _ | exact cleanIL _ | exact NoNm.flat _ rfl) ?_)))) ?_ | refine U.lw_t' (by with_reducible assumption) ?_ | refine U.lw_f' (by with_reducible assumption) ?_ | refine U.lw_c (fun hb => ?_) (fun hb => ?_)))
        (conv => whnf)
        exact .nil
end Go.Proofs.Ythekpmpcbidjiaa
