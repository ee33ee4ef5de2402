
import Derived.Test.YthekpmpcbidjiaaGreatT24
import Derived.Test.YthekpmpcbidjiaaGreatT25
import Derived.Test.YthekpmpcbidjiaaGreatT38
import Derived.Test.YthekpmpcbidjiaaGreatT47
import Derived.Test.YthekpmpcbidjiaaGreatT50
namespace Go.Proofs.YthekpmpcbidjiaaGreat.U
open Go Go.RowKit Go.Sort
set_option linter.unusedVariables false
set_option linter.unusedSimpArgs false
set_option maxRecDepth 100000
set_option maxHeartbeats 4000000
theorem intsAt {P : Program} {f : FuncId} {T : TypeId} {g : List Int → List Int} (hlen : ∀ l, (g l).length = l.length) {ua : Value} {vr : List Int → Nat → Nat → Value}
    (hC : ∀ (d : List Int) (W : World) (r cap : Nat), Go.Sort.Holds (Value.int .i64) W r 0 d.toArray → r < W.heap.size → d.length ≤ cap → d.length ≤ 1000000 → Calls P f #[.slice (some ⟨r, 0, none⟩) d.length cap] W fun e w' => e = .returned (vr d r cap) ∧ ∃ n os, w' = grow (putRow (Value.int .i64) (Sort.ahead W n) r 0 (g d).toArray) os)
    {es : List Int} {s : AS} {b n c : Nat} {op : Bool} (hb : s.heap.get b = some (.cells T (es.map (Value.int .i64)) op)) (hlo : s.lo ≤ b) (hn : es.length = n) (hnc : n ≤ c) (hm : n ≤ 1000000)
    (hres : ∀ (β : Bt) (r sp : Nat), β b = some (r, sp) → VR β ua (vr es r (c + sp))) {K : Value → AS → Prop} (hK : K ua ⟨s.heap.set b (some (.cells T ((g es).map (Value.int .i64)) op)), s.next, s.lo, s.glb⟩) :
    SoundAt P f [.slice (some ⟨b, 0, none⟩) n c] s K := by
  subst hn
  refine ⟨fun hl W0 β W vs hR hfa hv => ?_⟩
  obtain ⟨v0, vs, rfl, hv0, hv⟩ := hv.inv_cons
  cases hv.inv_nil
  obtain ⟨r, sp, hr, rfl⟩ := hv0.sl_inv
  obtain ⟨cs, fz, g1, g2, g3, g4, g5⟩ := hR.blk b _ r sp hb hr
  have g2 := g2 hlo
  subst g2
  have hcell : ∀ j, j < es.length → cs[j]? = some (.int .i64 es[j]!) := fun j hj => by
    have e : (es.map (Value.int .i64))[j]? = some (.int .i64 es[j]!) := by simp [hj]
    obtain ⟨q1, v, q2, q3⟩ := g5 j _ e
    rw [q2, q3.flat1_eq rfl]
  have hH : Go.Sort.Holds (Value.int .i64) W r 0 es.toArray := fun j hj => by
    have hj : j < es.length := by simpa using hj
    refine ⟨?_, ?_⟩
    · simp only [World.cell?, g1, Nat.zero_add]
      rw [show es.toArray[j]! = es[j]! by simp]
      exact hcell j hj
    · simp [World.frozen?, g1]
  have hrl : r < W.heap.size := hR.lt b r sp hr
  refine (hC es W r (c + sp) hH hrl (by omega) hm).mono fun e w' ⟨he, m, os, hw⟩ => ?_
  have hW : w' = grow (Sort.ahead (putRow (Value.int .i64) W r 0 (g es).toArray) m) os := hw
  generalize hW1 : Sort.ahead (putRow (Value.int .i64) W r 0 (g es).toArray) m = W1 at hW
  have z1 : W1.heap.size = W.heap.size := by rw [← hW1]; exact size_putRow ..
  have o1 : ∀ i, i ≠ r → W1.heap[i]? = W.heap[i]? := fun i hi => by
    rw [← hW1]
    show (W.heap.modify r _)[i]? = _
    rw [Array.getElem?_modify, if_neg (Ne.symm hi)]
  have r1 : W1.heap[r]? = some (.cells (putCells (Value.int .i64) 0 (g es).toArray cs) T (0, 0)) := by
    rw [← hW1]
    show (W.heap.modify r _)[r]? = _
    rw [Array.getElem?_modify, if_pos rfl, g1]
    rfl
  have hB1 : Below W0.heap.size W0 W1 := by
    have hge := hR.ge b r sp (by rw [hb]; simp) hr hlo
    refine hR.below.trans ⟨by rw [← hW1]; rfl, by rw [← hW1]; rfl, by rw [← hW1]; rfl, Nat.le_of_eq z1.symm, fun i hi => o1 i (by omega)⟩
  have hb1 : BlkR P β W1 r sp True (.cells T ((g es).map (Value.int .i64)) op) := by
    refine ⟨_, _, r1, fun _ => rfl, g3, ?_, fun i u hu => ?_⟩
    · rw [List.length_map, hlen]
      rw [List.length_map] at g4
      rw [← g4]
      simp [putCells]
    · have hi : i < (g es).length := by
        have := (List.getElem?_eq_some_iff.1 hu).1
        simpa using this
      have hu' : u = .int .i64 (g es)[i]! := by
        rw [List.getElem?_map, List.getElem?_eq_getElem hi] at hu
        cases hu
        simp [hi]
      subst hu'
      refine ⟨rfl, _, ?_, .flat _ rfl⟩
      simp only [putCells, Array.getElem?_mapIdx, hcell i (by rw [← hlen]; exact hi), Option.map_some]
      rw [if_pos ⟨Nat.zero_le _, by simpa using hi⟩]
      simp
  have hR1 := hR.write (by rw [hb]; simp) hr hlo z1 o1 hB1 hb1
  have hB2 : Below W1.heap.size W1 w' := by
    rw [hW]
    exact ⟨rfl, rfl, rfl, by simp, fun i hi => by simp [grow, Array.getElem?_append, hi]⟩
  have hkd : KD W w' := (KD.write g1 ⟨by simp, by simp⟩ o1 z1 (by rw [← hW1]; exact Nat.le_add_right _ _)).trans (KD.below hB2 (by rw [hW]; exact Nat.le_refl _))
  exact ⟨_, _, _, he, hK, (Stp.turn _ (by rw [hb]; simp) hlo (by rw [hb]; intro h; cases h)).x, β, .refl hfa, hR1.later hB2, hres β r sp hr, hkd⟩
end Go.Proofs.YthekpmpcbidjiaaGreat.U
namespace Go.Proofs.YthekpmpcbidjiaaGreat
open Go Go.RowKit Go.Sort U
set_option linter.unusedVariables false
set_option linter.unusedSimpArgs false
set_option maxRecDepth 100000
set_option maxHeartbeats 4000000
def srtI (l : List Int) : List Int := l.mergeSort fun x y => decide (x ≤ y)
def cptI (l : List Int) : List Int := Lib.compact l ++ List.replicate (l.length - (Lib.compact l).length) 0
theorem cptI_len (l : List Int) : (cptI l).length = l.length := by
  have := compact_len l
  simp [cptI]; omega
theorem sortI_s {es : List Int} {s : AS} {b n c : Nat} {op : Bool} (hb : s.heap.get b = some (.cells 3 (iL es) op)) (hlo : s.lo ≤ b) (hn : es.length = n) (hnc : n ≤ c) (hm : n ≤ 1000000) {K : Value → AS → Prop} (hK : K (.tuple ⟨[]⟩) ⟨s.heap.set b (some (.cells 3 (iL (srtI es)) op)), s.next, s.lo, s.glb⟩) : SoundAt Tryz.prog 35 [.slice (some ⟨b, 0, none⟩) n c] s K :=
  intsAt (g := srtI) (fun l => by simp [srtI]) (vr := fun _ _ _ => .tuple #[]) (fun d W r cap hH hr hcap hd => (Tryz.slices_Sort_int r 0 cap d W hH hr (by omega)).mono fun e w' h => h) hb hlo hn hnc hm (fun β r sp _ => .tup [] [] rfl (fun i u v h => by simp at h)) hK
theorem compI_s {es : List Int} {s : AS} {b n c : Nat} {op : Bool} (hb : s.heap.get b = some (.cells 3 (iL es) op)) (hlo : s.lo ≤ b) (hn : es.length = n) (hnc : n ≤ c) (hm : n ≤ 1000000) {K : Value → AS → Prop} (hK : K (.slice (some ⟨b, 0, none⟩) (Lib.compact es).length c) ⟨s.heap.set b (some (.cells 3 (iL (cptI es)) op)), s.next, s.lo, s.glb⟩) : SoundAt Tryz.prog 36 [.slice (some ⟨b, 0, none⟩) n c] s K :=
  intsAt (g := cptI) cptI_len (vr := fun d r cap => .slice (some ⟨r, 0, none⟩) (Lib.compact d).length cap) (fun d W r cap hH hr hcap hd => (Tryz.slices_Compact_int r 0 cap d W hH (by omega) hcap).mono fun e w' ⟨h1, q, h2⟩ => ⟨h1, q, #[], by rw [grow_empty]; exact h2⟩) hb hlo hn hnc hm (fun β r sp h => .sl _ _ _ _ _ _ h) hK
theorem frz_nilI {P : Program} {s : AS} {l : List Int} (h : l = []) : FrzV P s (retC [.slice none 0 0]) (imS (iL l)) := by
  subst h
  exact .nil
theorem cpt_frz {P : Program} {s : AS} {b c : Nat} {T : TypeId} {op : Bool} {es : List Int} (hlo : s.lo ≤ b) (hk : s.heap.get b = some (.cells T (iL (cptI es)) op)) (hc : (Lib.compact es).length ≤ c) : FrzV P s (retC [.slice (some ⟨b, 0, none⟩) (Lib.compact es).length c]) (imS (iL (Lib.compact es))) := by
  refine FrzV.row b _ c 1 T (iL (cptI es)) (iL (Lib.compact es)) op hlo hk iL_1 (by rw [iL_len]) hc (by rw [cellsI, iL_len, iL_len, cptI_len]; exact compact_len es) fun i u v hu hv => ?_
  rw [cellsI] at hv
  have hi : i < (Lib.compact es).length := by have := (List.getElem?_eq_some_iff.1 hv).1; rwa [iL_len] at this
  rw [cptI, iL_app, List.getElem?_append_left (by rw [iL_len]; exact hi), hv] at hu
  cases hu
  obtain ⟨n, _, rfl⟩ := List.mem_map.1 (List.mem_of_getElem? hv)
  exact .clean _ (cleanI n)
theorem cptN : DenU Tryz.prog [] 36 [.slice none 0 0] (.slice none 0 0) := by
  refine denU_of_body hmixU rfl Tryz.func36 rfl rfl rfl 0 ?_
  intro Ts
  (repeat' ((conv => whnf); first | refine goD ?_ | refine U.lw_c (fun hb => ?_) (fun hb => ?_)))
  (conv => whnf)
  exact .clean _ (.flat _ rfl)
theorem srtN : DenU Tryz.prog [] 35 [.slice none 0 0] (.tuple ⟨[]⟩) := by
  refine denU_of_sound hmixU fun Ts => SoundAt.body hmixU Tryz.func35 rfl rfl rfl 0 ?_
  (repeat' ((conv => whnf); first | refine goD ?_ | refine U.lw_c (fun hb => ?_) (fun hb => ?_)))
  (conv => whnf)
  refine SoundAt.body hmixU Tryz.func54 rfl rfl rfl 0 ?_
  (repeat' ((conv => whnf); first | refine goD ?_ | refine U.lw_c (fun hb => ?_) (fun hb => ?_)))
  (conv => whnf)
  refine SoundAt.body hmixU Tryz.func74 rfl rfl rfl 0 ?_
  (repeat' ((conv => whnf); first | refine goD ?_ | refine U.lw_c (fun hb => ?_) (fun hb => ?_)))
  (conv => whnf)
  refine SoundAt.body hmixU Tryz.func53 rfl rfl rfl 0 ?_
  (repeat' ((conv => whnf); first | refine goD ?_ | refine U.lw_c (fun hb => ?_) (fun hb => ?_)))
  (conv => whnf)
  refine loop_inv (α := Unit) (fun _ => True) (fun _ => (mkF [(0, .slice none 0 0), (1, .int .i64 0), (2, .int .i64 0)], ⟨.e, 0, 0, 0⟩)) (fun _ => 0) () trivial (Cov.renI rfl rfl rfl rfl .nil (.cons rfl (.F rfl rfl) (.cons rfl (.F rfl rfl) (.cons rfl (.F rfl rfl) .nil)))) ?_
  rintro ⟨⟩ _
  dsimp only
  (repeat' ((conv => whnf); first | refine goD ?_ | refine U.lw_c (fun hb => ?_) (fun hb => ?_)))
  (conv => whnf)
  refine SoundAt.body hmixU Tryz.func64 rfl rfl rfl 0 ?_
  (repeat' ((conv => whnf); first | refine goD ?_ | refine U.lw_c (fun hb => ?_) (fun hb => ?_)))
  (conv => whnf)
  refine loop_inv (α := Unit) (fun _ => True) (fun _ => (mkF [(0, .slice none 0 0), (1, .int .i64 0), (2, .int .i64 0), (6, .int .i64 1)], ⟨.e, 0, 0, 0⟩)) (fun _ => 0) () trivial (Cov.renI rfl rfl rfl rfl .nil (.cons rfl (.F rfl rfl) (.cons rfl (.F rfl rfl) (.cons rfl (.F rfl rfl) (.cons rfl (.F rfl rfl) .nil))))) ?_
  rintro ⟨⟩ _
  dsimp only
  (repeat' ((conv => whnf); first | refine goD ?_ | refine U.lw_c (fun hb => ?_) (fun hb => ?_)))
  (conv => whnf)
  exact .same (.flat _ rfl) rfl
theorem ccallees_d (g : Gz) (node : Int) (hg : okG g) (hrow : ∀ r ∈ g.st, r.length ≤ 1000) : DenU Tryz.prog [] 13 [encG g, .int .i64 node] (imS (iL (calV g node))) := by
  refine denU_of_sound hmixU fun Ts => SoundAt.body hmixU Tryz.func13 rfl rfl rfl 0 ?_
  have c1 := cright_d g hg
  have cg := cleanG g
  unfold calV
  cases hr : rightG g
  · rw [hr] at c1
    rw [if_neg (by simp)]
    obtain ⟨nm, st⟩ := g
    (repeat' ((conv => whnf); first | refine goD ?_ | refine U.SoundAt.u (c1) clN ?_ | refine U.SoundC.u (c1) clN ?_ | refine U.lw_c (fun hb => ?_) (fun hb => ?_)))
    (conv => whnf)
    exact .nil
  · rw [hr] at c1
    rw [if_pos rfl]
    have hr2 := hr
    simp only [rightG, Bool.and_eq_true, decide_eq_true_eq] at hr2
    obtain ⟨nm, st⟩ := g
    unfold calR
    dsimp only at *
    by_cases hn : 0 ≤ node ∧ node < (st.length : Int)
    · rw [if_pos hn]
      obtain ⟨i, rfl⟩ : ∃ i : Nat, node = (i : Int) := ⟨node.toNat, by omega⟩
      have hil : i < st.length := by omega
      obtain ⟨row, hrw⟩ : ∃ row, st[i]? = some row := ⟨_, List.getElem?_eq_getElem hil⟩
      have hrm := List.mem_of_getElem? hrw
      have hrl := hrow row hrm
      have hib : i.blt (gL st).length = true := by rw [gL_len]; exact bLe hil
      have hix : nth (gL st) i = some (imS (iL row)) := by rw [nth_eq, gL]; simp [hrw]
      have h0 : decide ((i : Int) < 0) = false := by simp
      have h1 : decide ((i : Int) ≥ ((gL st).length : Int)) = false := by rw [gL_len]; simp; omega
      have hsr : ∀ t ∈ row, ∃ k : Nat, t = (k : Int) ∧ k < nm.length := fun t ht => by
        have h2 := hr2.2
        rw [List.all_eq_true] at h2
        have h3 := h2 row hrm
        rw [List.all_eq_true] at h3
        have h4 := h3 t ht
        simp only [okT, Bool.and_eq_true, decide_eq_true_eq] at h4
        exact ⟨t.toNat, by omega, by omega⟩
      have hpl := callees_plain hsr
      rw [show st.getD (i : Int).toNat [] = row by simp [hrw], ← hpl]
      rcases row with _ | ⟨x, xs⟩
      · (repeat' ((conv => whnf); first | refine goD ?_ | refine U.SoundAt.u (c1) clN ?_ | refine U.SoundC.u (c1) clN ?_ | refine U.lw_c (fun hb => ?_) (fun hb => ?_)))
        (conv => whnf)
        refine SoundAt.body hmixU Tryz.func34 rfl rfl rfl 0 ?_
        (repeat' ((conv => whnf); first | refine goD ?_ | refine U.lw_c (fun hb => ?_) (fun hb => ?_)))
        (conv => whnf)
        intro i hi
        rcases List.mem_cons.1 hi with rfl | hi
        · (repeat' ((conv => whnf); first | refine goD ?_ | refine U.SoundAt.u (srtN) clN ?_ | refine U.SoundAt.u (cptN) clN ?_ | refine U.SoundC.u (srtN) clN ?_ | refine U.SoundC.u (cptN) clN ?_ | refine U.lw_c (fun hb => ?_) (fun hb => ?_)))
          (conv => whnf)
          exact frz_nilI (by simp [Lib.compact, Lib.compactUpTo])
        · have : i = 1 := by simpa using hi
          subst this
          (repeat' ((conv => whnf); first | refine goD ?_ | refine U.lw_c (fun hb => ?_) (fun hb => ?_)))
          (conv => whnf)
          refine sortI_s (es := []) (n := 0) (c := 0) rfl (Nat.zero_le _) rfl (Nat.le_refl _) (Nat.zero_le _) ?_
          (repeat' ((conv => whnf); first | refine goD ?_ | refine U.lw_c (fun hb => ?_) (fun hb => ?_)))
          (conv => whnf)
          refine compI_s (es := srtI []) (n := 0) (c := 0) rfl (Nat.zero_le _) (by simp [srtI]) (Nat.le_refl _) (Nat.zero_le _) ?_
          (repeat' ((conv => whnf); first | refine goD ?_ | refine U.lw_c (fun hb => ?_) (fun hb => ?_)))
          (conv => whnf)
          exact cpt_frz (es := srtI []) (b := 1) (Nat.zero_le _) rfl (Nat.le_trans (compact_len _) (by simp [srtI]))
      · (repeat' ((conv => whnf); first | refine goD ?_ | refine U.SoundAt.u (c1) clN ?_ | refine U.SoundC.u (c1) clN ?_ | refine U.lw_c (fun hb => ?_) (fun hb => ?_)))
        (conv => whnf)
        refine SoundAt.body hmixU Tryz.func34 rfl rfl rfl 0 ?_
        have hb8 : (Nat.ble ((0 + ((List.map (Value.int IntKind.i64) xs).length + 1)) * 8) 140737488355328 && Nat.ble (0 + ((List.map (Value.int IntKind.i64) xs).length + 1)) 1000000) = true := by
          rw [List.length_map]
          simp only [List.length_cons] at hrl
          rw [bLe (by omega), bLe (by omega)]
          rfl
        (repeat' ((conv => whnf); first | refine goA ?_ | refine U.ob_c (iL_one (x :: xs)) ?_ | refine U.ob_c hb8 ?_ | refine goB ?_ | refine U.lw_c (fun hb => ?_) (fun hb => ?_)))
        (conv => whnf)
        refine sortI_s (es := x :: xs) (op := true) ?_ (Nat.zero_le _) (by simp) (Nat.le_refl _) (by simp only [List.length_map]; simp only [List.length_cons] at hrl; omega) ?_
        · exact congrArg (fun l => some (U.Blk.cells 3 l true)) (cellsI (x :: xs))
        (repeat' ((conv => whnf); first | refine goD ?_ | refine U.lw_c (fun hb => ?_) (fun hb => ?_)))
        (conv => whnf)
        refine compI_s (es := srtI (x :: xs)) rfl (Nat.zero_le _) (by simp [srtI]) (Nat.le_refl _) (by simp only [List.length_map]; simp only [List.length_cons] at hrl; omega) ?_
        (repeat' ((conv => whnf); first | refine goD ?_ | refine U.lw_c (fun hb => ?_) (fun hb => ?_)))
        (conv => whnf)
        exact cpt_frz (es := srtI (x :: xs)) (b := 2) (Nat.zero_le _) rfl (Nat.le_trans (compact_len _) (by simp [srtI]))
    · rw [if_neg hn]
      by_cases h0 : node < 0
      · have h2 : decide (node < 0) = true := decide_eq_true h0
        (repeat' ((conv => whnf); first | refine goD ?_ | refine U.SoundAt.u (c1) clN ?_ | refine U.SoundC.u (c1) clN ?_ | refine U.lw_c (fun hb => ?_) (fun hb => ?_)))
        (conv => whnf)
        exact .nil
      · have h2 : decide (node < 0) = false := decide_eq_false h0
        have h3 : decide (node ≥ ((gL st).length : Int)) = true := decide_eq_true (by rw [gL_len]; omega)
        (repeat' ((conv => whnf); first | refine goD ?_ | refine U.SoundAt.u (c1) clN ?_ | refine U.SoundC.u (c1) clN ?_ | refine U.lw_c (fun hb => ?_) (fun hb => ?_)))
        (conv => whnf)
        exact .nil
end Go.Proofs.YthekpmpcbidjiaaGreat
namespace Go.Proofs.YthekpmpcbidjiaaGreat
open Go Go.RowKit Go.Sort U
set_option linter.unusedVariables false
set_option linter.unusedSimpArgs false
set_option maxRecDepth 100000
theorem foldO_out {rule : List Int → Nat → Int} {i : Nat} : ∀ (ord F : List Int), (∀ t ∈ ord, ∃ v : Nat, t = (v : Int) ∧ v ≠ i) → gt0 (foldO rule ord F) i = gt0 F i
  | [], F, _ => rfl
  | t :: ord, F, h => by
    rw [foldO_cons, foldO_out ord _ fun t ht => h t (by simp [ht])]
    obtain ⟨v, rfl, hv⟩ := h t (by simp)
    exact gt0_set_ne (Ne.symm hv)
theorem foldO_fix {own : List Int} {st : List (List Int)} {ord F0 : List Int} (hO : OrdOk st ord) (hl : F0.length = st.length) {v : Nat} (hv : (v : Int) ∈ ord) : gt0 (foldO (inl1 own st) ord F0) v = inl1 own st (foldO (inl1 own st) ord F0) v := by
  obtain ⟨a, b, e⟩ := List.append_of_mem hv
  obtain ⟨u, hu, e1⟩ := hO.inn _ hv
  have hvl : v < st.length := by omega
  have hnd := hO.nd
  rw [e] at hnd
  have hin : ∀ t ∈ a ++ (v : Int) :: b, ∃ w : Nat, w < st.length ∧ t = (w : Int) := by rw [← e]; exact hO.inn
  have hcl := hO.cl a b v e
  have hsp : foldO (inl1 own st) ord F0 = foldO (inl1 own st) b ((foldO (inl1 own st) a F0).set v (inl1 own st (foldO (inl1 own st) a F0) v)) := by
    rw [e]
    simp [foldO]
  obtain ⟨_, h2, h3⟩ := List.nodup_append.1 hnd
  obtain ⟨h4, h5⟩ := List.nodup_cons.1 h2
  have hout : ∀ i : Nat, (i : Int) ∉ b → gt0 (foldO (inl1 own st) ord F0) i = gt0 ((foldO (inl1 own st) a F0).set v (inl1 own st (foldO (inl1 own st) a F0) v)) i := fun i hi => by
    rw [hsp]
    refine foldO_out _ _ fun t ht => ?_
    obtain ⟨w, _, rfl⟩ := hin t (by simp [ht])
    exact ⟨w, rfl, fun e => hi (e ▸ ht)⟩
  have hFl : v < (foldO (inl1 own st) a F0).length := by rw [foldO_len, hl]; exact hvl
  rw [hout v h4, gt0_set_same hFl]
  show (st.getD v []).foldl (fun s t => satA s (gt0 (foldO (inl1 own st) a F0) t.toNat)) (gt0 own v) = (st.getD v []).foldl (fun s t => satA s (gt0 (foldO (inl1 own st) ord F0) t.toNat)) (gt0 own v)
  have hag : ∀ t ∈ st.getD v [], gt0 (foldO (inl1 own st) ord F0) t.toNat = gt0 (foldO (inl1 own st) a F0) t.toNat := fun t ht => by
    have hta := hcl t ht
    obtain ⟨w, _, rfl⟩ := hin t (by simp [hta])
    have hwb : ((w : Int).toNat : Int) ∉ b := fun h => h3 _ hta _ (by simp; right; simpa using h) rfl
    rw [hout _ hwb]
    refine gt0_set_ne fun e2 => ?_
    have : w = v := by simpa using e2
    subst this
    exact h3 _ hta _ (by simp) rfl
  generalize foldO (inl1 own st) ord F0 = G at *
  generalize foldO (inl1 own st) a F0 = A at *
  have key : ∀ (l : List Int) (s : Int), (∀ t ∈ l, gt0 G t.toNat = gt0 A t.toNat) → l.foldl (fun s t => satA s (gt0 A t.toNat)) s = l.foldl (fun s t => satA s (gt0 G t.toNat)) s := fun l => by
    induction l with
    | nil => intro s _; rfl
    | cons x l ih =>
      intro s h
      rw [List.foldl_cons, List.foldl_cons, h x (by simp)]
      exact ih _ fun t ht => h t (by simp [ht])
  exact key _ _ hag
theorem fold_ge {F : List Int} (hF : okU F) : ∀ (q : List Int) (s : Int), 0 ≤ s ∧ s ≤ maxU → s ≤ q.foldl (fun s t => satA s (gt0 F t.toNat)) s
  | [], s, _ => Int.le_refl _
  | t :: q, s, h => by
    rw [List.foldl_cons]
    have h1 := okU_at hF t.toNat
    have h2 := satA_in h h1
    refine Int.le_trans ?_ (fold_ge hF q _ h2)
    unfold satA
    split
    · exact h.2
    · omega
theorem min_step {s x m n : Int} (hs : 0 ≤ s ∧ s ≤ maxU) (hx : 0 ≤ x ∧ x ≤ maxU) (hm : m ≤ 2000) (hn : n = min s m) (hlt : n < m) : n + min x (m - n) = min (satA s x) m := by
  unfold satA maxU at *
  split <;> omega
def onesF (g : Gz) : List Int := foldO (inl1 (List.replicate g.st.length 1) g.st) (ordG g).1 (List.replicate g.st.length 0)
theorem onesF_len (g : Gz) : (onesF g).length = g.st.length := by rw [onesF, foldO_len]; simp
theorem onesF_ok (g : Gz) : okU (onesF g) := foldO_ok (fun x hx => by rw [(List.mem_replicate.1 hx).2]; simp [maxU]) _ (okU_zero _)
theorem onesF_at {g : Gz} {v : Nat} (hv : (v : Int) ∈ (ordG g).1) : gt0 (onesF g) v = (g.st.getD v []).foldl (fun s t => satA s (gt0 (onesF g) t.toNat)) 1 := by
  have h1 := foldO_fix (own := List.replicate g.st.length 1) (ordG_ok g) (F0 := List.replicate g.st.length 0) (by simp) hv
  obtain ⟨u, hu, e⟩ := (ordG_ok g).inn _ hv
  have hg : gt0 (List.replicate g.st.length (1 : Int)) v = 1 := by
    have : v < g.st.length := by omega
    simp [gt0, List.getElem?_replicate, this]
  have h2 : inl1 (List.replicate g.st.length 1) g.st (onesF g) v = (g.st.getD v []).foldl (fun s t => satA s (gt0 (onesF g) t.toNat)) (gt0 (List.replicate g.st.length 1) v) := rfl
  rw [hg] at h2
  exact h1.trans h2
end Go.Proofs.YthekpmpcbidjiaaGreat
namespace Go.Proofs.YthekpmpcbidjiaaGreat
open Go Go.RowKit Go.Sort U
set_option linter.unusedVariables false
set_option linter.unusedSimpArgs false
set_option maxRecDepth 100000
set_option maxHeartbeats 4000000
theorem steps_d (g : Gz) (hst : g.st.length ≤ maxI) (hrow : ∀ r ∈ g.st, r.length ≤ maxI) : ∀ (d v : Nat) (m : Int), (v : Int) ∈ (ordG g).1 → (ordG g).1.idxOf (v : Int) < d → 1 ≤ m → m ≤ 2000 → DenU Tryz.prog [] 22 [encG g, .int .i64 v, .int .i64 m] (.int .i64 (min (gt0 (onesF g) v) m))
  | 0, v, m, _, h, _, _ => absurd h (Nat.not_lt_zero _)
  | d + 1, v, m, hv, hd, h1, h2 => by
    have ih := steps_d g hst hrow d
    refine denU_of_sound hmixU fun Ts => SoundAt.body hmixU Tryz.func22 rfl rfl rfl 0 ?_
    have hO := ordG_ok g
    have hF := onesF_ok g
    have hat := onesF_at hv
    obtain ⟨v', hvl, e⟩ := hO.inn _ hv
    have hvv : v' = v := by omega
    subst hvv
    clear e
    obtain ⟨row, hrw⟩ : ∃ row, g.st[v']? = some row := ⟨_, List.getElem?_eq_getElem hvl⟩
    have hrd : g.st.getD v' [] = row := by simp [hrw]
    rw [hrd] at hat
    have hrl := hrow row (List.mem_of_getElem? hrw)
    have hvb : v'.blt (gL g.st).length = true := by rw [gL_len]; exact bLe hvl
    have hvx : nth (gL g.st) v' = some (imS (iL row)) := by rw [nth_eq, gL]; simp [hrw]
    have hin : ∀ t ∈ row, ∃ w : Nat, t = (w : Int) ∧ (w : Int) ∈ (ordG g).1 ∧ (ordG g).1.idxOf (w : Int) < d := fun t ht => by
      obtain ⟨a, b, e⟩ := List.append_of_mem hv
      have hta := hO.cl a b v' e t (by rw [hrd]; exact ht)
      obtain ⟨w, _, rfl⟩ := hO.inn t (by rw [e]; simp [hta])
      obtain ⟨q1, q2⟩ := ord_ahead hO hv (w := w) (by unfold ES; rw [hrd]; exact ht)
      exact ⟨w, rfl, q1, by omega⟩
    generalize onesF g = F at *
    generalize (ordG g).1 = ord at *
    have cg := cleanG g
    obtain ⟨nm, st⟩ := g
    dsimp only at *
    (repeat' ((conv => whnf); first | refine goD ?_ | refine U.lw_c (fun hb => ?_) (fun hb => ?_)))
    (conv => whnf)
    refine loop_inv (α := List Int × List Int × Int) (fun x => x.1 ++ x.2.1 = row ∧ x.2.2 = min (x.1.foldl (fun s t => satA s (gt0 F t.toNat)) 1) m) (fun x => (mkF [(1, .int .i64 v'), (2, .int .i64 m), (3, .pointer (some ⟨0, 0, none⟩)), (6, .int .i64 0), (7, .int .i64 x.2.2), (8, .int .i64 x.1.length)], ⟨mkO [(0, some (.cells 25 [imS (sL nm), imS (gL st)] false))], 1, 0, 0⟩)) (fun x => x.2.1.length) ([], row, 1) ⟨rfl, by simp; omega⟩ (Cov.renI rfl rfl rfl rfl (.cons rfl (.row _ _ _ _ (cleanG_cells ⟨nm, st⟩) rfl) .nil) (.cons rfl .I (.cons rfl .I (.cons rfl (.P rfl) (.cons rfl .I (.cons rfl .I (.cons rfl .I .nil))))))) ?_
    rintro ⟨p, q, n⟩ ⟨p1, p2⟩
    dsimp only at p1 p2
    dsimp only
    have hp0 : 0 ≤ (1 : Int) ∧ (1 : Int) ≤ maxU := by simp [maxU]
    have hpi := fold_in F hF p 1 hp0
    rcases q with _ | ⟨t, q⟩
    · rw [List.append_nil] at p1
      subst p1
      have h4b := U.lt_no iL_map p
      (repeat' ((conv => whnf); first | refine goD ?_ | refine U.lw_c (fun hb => ?_) (fun hb => ?_)))
      (conv => whnf)
      exact .same (.flat _ rfl) (by rw [p2, hat]; rfl)
    · have hrl2 := hrl
      rw [← p1] at hrl2
      obtain ⟨h4b, h4c, h4n, h4w⟩ := U.at4 iL_map p (t) q (hrl2)
      rw [p1] at h4b h4c h4n
      by_cases hn : n < m
      · have g1 : decide (n < m) = true := by simpa using hn
        obtain ⟨w, rfl, hw1, hw2⟩ := hin t (by rw [← p1]; simp)
        have hnp : 1 ≤ n := by
          have := fold_ge hF p 1 hp0
          rw [p2]; omega
        have hwr : IntKind.i64.wrap (m - n) = m - n := by rw [IntKind.wrap_i64]; omega
        have c1 := ih w (m - n) hw1 hw2 (by omega) (by omega)
        rw [← hwr] at c1
        have hw0 := okU_at hF w
        have hms := min_step hpi hw0 h2 p2 hn
        have hwa : IntKind.i64.wrap (n + min (gt0 F w) (IntKind.i64.wrap (m - n))) = min ((p ++ [(w : Int)]).foldl (fun s t => satA s (gt0 F t.toNat)) 1) m := by
          rw [hwr, hms, List.foldl_append, List.foldl_cons, List.foldl_nil]
          rw [show ((w : Nat) : Int).toNat = w from rfl, IntKind.wrap_i64]
          have := satA_in hpi hw0
          omega
        (repeat' ((conv => whnf); first | refine goD ?_ | refine U.SoundAt.u (c1) clN ?_ | refine U.SoundC.u (c1) clN ?_ | refine U.drawX_p (D := U.propX) 16 [] (by decide +kernel) (by decide +kernel) ?_ | refine U.lw_c (fun hb => ?_) (fun hb => ?_)))
        (conv => whnf)
        refine ⟨(p ++ [(w : Int)], q, IntKind.i64.wrap (n + min (gt0 F w) (IntKind.i64.wrap (m - n)))), ⟨by rw [← p1]; simp, hwa⟩, by simp, ?_⟩
        exact (Cov.renI rfl rfl rfl rfl (.cons rfl (.row _ _ _ _ (cleanG_cells ⟨nm, st⟩) rfl) .nil) (.cons rfl .I (.cons rfl .I (.cons rfl (.P rfl) (.cons rfl .I (.cons rfl .I (.cons rfl (.clean _ _ (cleanI _) (congrArg (Value.int .i64) (h4w.symm))) .nil)))))))
      · have g1 : decide (n < m) = false := by simpa using hn
        (repeat' ((conv => whnf); first | refine goD ?_ | refine U.lw_c (fun hb => ?_) (fun hb => ?_)))
        (conv => whnf)
        have hge := fold_ge hF (t :: q) _ hpi
        rw [← List.foldl_append, p1] at hge
        exact .same (.flat _ rfl) (show Value.int .i64 n = _ from congrArg _ (by omega))
end Go.Proofs.YthekpmpcbidjiaaGreat
