
import Derived.Test.YthekpmpcbidjiaaR34
import Derived.Test.YthekpmpcbidjiaaR38
import Derived.Test.YthekpmpcbidjiaaR41
/- Layer 11: calls.Inlined. -/
namespace Go.Proofs.Ythekpmpcbidjiaa
open Go Go.RowKit Go.Sort U
set_option linter.unusedVariables false
set_option linter.unusedSimpArgs false
set_option maxRecDepth 100000
set_option maxHeartbeats 4000000
def ordG (g : Gz) : List Int × Bool := if rightG g = true then orderR g.st else ([], false)
theorem order_g (g : Gz) (hg : okG g) (hst : g.st.length ≤ 29000) (hs : sumL g.st ≤ 500000) : DenU Try.prog [] 10 [encG g] (ordV (ordG g)) := by
  by_cases hr : rightG g = true
  · rw [ordG, if_pos hr, ← order_callees hr]
    exact order_d g hg hr hst hs
  · have hr' : rightG g = false := by simpa using hr
    rw [ordG, if_neg hr]
    refine denU_of_body hmixU rfl Try.func10 rfl rfl rfl 0 ?_
    intro Ts
    have c1 := cright_d g hg
    rw [hr'] at c1
    obtain ⟨nm, st⟩ := g
    have cg := cleanG ⟨nm, st⟩
    (repeat' ((conv => whnf); first | refine U.lw_t ?_ | refine U.lw_f ?_ | refine U.lit_t ?_ | refine U.lit_f ?_ | refine U.ob_t ?_ | refine U.ob_c (by first | (with_reducible assumption) | exact Nat.ble_eq_true_of_le (by omega) | exact Nat.ble_eq_true_of_le (by simp at *; omega)) ?_ | refine U.nv_c (by with_reducible assumption) ?_ | refine ⟨_, c1, (by (repeat (first | exact trivial | ((conv => whnf); first | exact trivial | refine And.intro (by first | assumption | exact cleanI _ | exact cleanEs _ | exact cleanSs _ | exact cleanTs _ | exact cleanE _ | exact cleanIL _ | exact cleanBL _ | exact cleanR _ | exact NoNm.flat _ rfl) ?_)))), tab0 _, ?_⟩ | refine U.lw_t' (by with_reducible assumption) ?_ | refine U.lw_f' (by with_reducible assumption) ?_ | refine U.lw_c (fun hb => ?_) (fun hb => ?_)))
    (conv => whnf)
    exact .tupL (.cons .nil (.cons (.clean _ (.flat _ rfl)) .nil))
theorem ordG_ok (g : Gz) : OrdOk g.st (ordG g).1 := by
  unfold ordG
  split
  · exact ordOk_of g.st
  · exact ⟨List.nodup_nil, fun t ht => (by cases ht), fun a b v e => (by simp at e)⟩
theorem ordG_len {g : Gz} (h : (ordG g).2 = true) : (ordG g).1.length = g.st.length := by
  have h2 := (ordG_ok g).len
  unfold ordG at h h2 ⊢
  split at h
  · rename_i hr
    rw [if_pos hr] at h2 ⊢
    unfold orderR at h h2 ⊢
    split at h
    · cases h
    · rename_i hn
      rw [if_neg hn] at h2 ⊢
      dsimp only at h2 ⊢
      omega
  · cases h
def blL (l : List Bool) : List Value := l.map Value.bool
theorem blL_len (l : List Bool) : (blL l).length = l.length := List.length_map ..
theorem cleanBq (l : List Bool) : ∀ x, x ∈ blL l → NoNm x := fun x hx => by
  obtain ⟨n, _, rfl⟩ := List.mem_map.1 hx
  exact .flat _ rfl
theorem blL_nth {l : List Bool} {i : Nat} (h : i < l.length) : nth (blL l) (0 + i * 1) = some (.bool (l.getD i false)) := by
  rw [Nat.zero_add, Nat.mul_one, nth_eq, blL]
  simp [h]
theorem blL_store {L : List Bool} {i : Nat} {x : Bool} (h : i < L.length) : (blL L).take (0 + i * 1) ++ [Value.bool x] ++ (blL L).drop (0 + i * 1 + [Value.bool x].length) = blL (L.set i x) := by
  rw [Nat.zero_add, Nat.mul_one, List.length_singleton, blL, blL, ← List.map_take, ← List.map_drop, List.set_eq_take_append_cons_drop, if_pos h]
  simp
/-- Which nodes are known. -/
def knO (n : Nat) (pre : List Int) : List Bool := (List.range n).map fun (i : Nat) => decide ((i : Int) ∈ pre)
theorem knO_len (n : Nat) (pre : List Int) : (knO n pre).length = n := by simp [knO]
theorem knO_at {n : Nat} {pre : List Int} {i : Nat} (h : i < n) : (knO n pre).getD i false = decide ((i : Int) ∈ pre) := by simp [knO, h]
theorem knO_snoc {n u : Nat} {pre : List Int} : knO n (pre ++ [(u : Int)]) = (knO n pre).set u true := by
  apply List.ext_getElem (by simp [knO])
  intro i h1 h2
  have hi : i < n := by simpa [knO] using h1
  rw [List.getElem_set]
  by_cases hc : u = i
  · subst hc
    simp [knO]
  · have : ¬ (i : Int) = (u : Int) := by omega
    simp [knO, hc, this]
theorem knO_nil (n : Nat) : blL (knO n []) = repX n [.bool false] := by
  rw [repX_one, blL, knO]
  simp
  exact List.ext_getElem (by simp) fun i h1 h2 => by simp
/-! The memory in which the numbers are told. -/
def ofU : Value := .func (.func 73) ⟨[]⟩ ⟨[.pointer (some ⟨7, 0, none⟩), .pointer (some ⟨3, 0, none⟩), .pointer (some ⟨8, 0, none⟩), .pointer (some ⟨5, 0, none⟩)]⟩
def ruU : Value := .func (.func 43) ⟨[]⟩ ⟨[.pointer (some ⟨1, 0, none⟩), .pointer (some ⟨0, 0, none⟩)]⟩
def stUX (lo : Nat) (g : Gz) (own : List Int) (n : Nat) (F B : List Value) : AS := ⟨mkO [(0, some (.cells 25 [imS (sL g.nm), imS (gL g.st)] false)), (1, some (.cells 32 [imS (uL own)] false)), (2, some (.cells 25 [imS (sL g.nm), imS (gL g.st)] false)), (3, some (.cells 96 [ruU] false)), (4, some (.cells 33 F false)), (5, some (.cells 32 [.slice (some ⟨4, 0, none⟩) n n] false)), (6, some (.cells 4 B false)), (7, some (.cells 136 [.slice (some ⟨6, 0, none⟩) n n] false)), (8, some (.cells 95 [ofU] false))], 9, lo, 0⟩
def stU (lo : Nat) (g : Gz) (own : List Int) (n : Nat) (F : List Int) (B : List Bool) : AS := stUX lo g own n (uL F) (blL B)
theorem of_known (lo : Nat) (g : Gz) (own F : List Int) (B : List Bool) (n j : Nat) (hF : F.length = n) (hB : B.length = n) (hj : j < n) (hk : B.getD j false = true) {K : Value → AS → Prop} (hK : K (.int .u64 (gt0 F j)) (stU lo g own n F B)) : SoundAt Try.prog 73 [.int .i64 (j : Int), .pointer (some ⟨7, 0, none⟩), .pointer (some ⟨3, 0, none⟩), .pointer (some ⟨8, 0, none⟩), .pointer (some ⟨5, 0, none⟩)] (stU lo g own n F B) K := by
  refine SoundAt.body hmixU Try.func73 rfl rfl rfl 0 ?_
  have hjb : j.blt n = true := Nat.ble_eq_true_of_le hj
  have n1 := blL_nth (l := B) (i := j) (by omega)
  have n2 := uL_nth (l := F) (i := j) (by omega)
  rw [hk] at n1
  (repeat' ((conv => whnf); first | refine U.lw_t ?_ | refine U.lw_f ?_ | refine U.lit_t ?_ | refine U.lit_f ?_ | refine U.ob_t ?_ | (conv in (nth _ _) => (change nth _ (0 + j * 1); rw [n1])) | (conv in (nth _ _) => (change nth _ (0 + j * 1); rw [n2])) | refine U.ob_c (by first | (with_reducible assumption) | exact Nat.ble_eq_true_of_le (by omega) | exact Nat.ble_eq_true_of_le (by simp at *; omega)) ?_ | refine U.nv_c (by with_reducible assumption) ?_ | refine U.lw_t' (by with_reducible assumption) ?_ | refine U.lw_f' (by with_reducible assumption) ?_ | refine U.lw_c (fun hb => ?_) (fun hb => ?_)))
  (conv => whnf)
  exact hK
end Go.Proofs.Ythekpmpcbidjiaa
/- Layer 11: there is an order, if, and only if, nothing calls itself round: in plain words. -/
namespace Go.Proofs.Ythekpmpcbidjiaa
open Go Go.RowKit Go.Sort U
set_option linter.unusedVariables false
set_option linter.unusedSimpArgs false
theorem idx_ahead {l a b : List Int} {v t : Int} (hn : l.Nodup) (e : l = a ++ v :: b) (ht : t ∈ a) : l.idxOf t < l.idxOf v := by
  subst e
  have hv : v ∉ a := fun h => (List.nodup_append.1 hn).2.2 v h v (by simp) rfl
  rw [List.idxOf_append, if_pos ht, List.idxOf_append, if_neg hv, List.idxOf_cons_self]
  have := List.idxOf_lt_length_iff.2 ht
  omega
/-- In an order each that is called stands ahead. -/
theorem ord_ahead {R : List (List Int)} {ord : List Int} (h : OrdOk R ord) {v : Nat} (hv : (v : Int) ∈ ord) {w : Nat} (e : ES R v w) : (w : Int) ∈ ord ∧ ord.idxOf (w : Int) < ord.idxOf (v : Int) := by
  obtain ⟨a, b, e1⟩ := List.append_of_mem hv
  have hw := h.cl a b v e1 w e
  exact ⟨by rw [e1]; simp [hw], idx_ahead h.nd e1 hw⟩
theorem ord_reach {R : List (List Int)} {ord : List Int} (h : OrdOk R ord) {v : Nat} (hv : (v : Int) ∈ ord) {w : Nat} (r : Rch R v w) : (w : Int) ∈ ord ∧ ord.idxOf (w : Int) ≤ ord.idxOf (v : Int) := by
  induction r with
  | refl => exact ⟨hv, Nat.le_refl _⟩
  | step _ e ih =>
    obtain ⟨h1, h2⟩ := ih
    obtain ⟨h3, h4⟩ := ord_ahead h h1 e
    exact ⟨h3, by omega⟩
theorem ord_cyc {R : List (List Int)} {ord : List Int} (h : OrdOk R ord) {v : Nat} (hv : (v : Int) ∈ ord) : ¬ Cyc R v := by
  rintro ⟨w, e, r⟩
  obtain ⟨h1, h2⟩ := ord_ahead h hv e
  obtain ⟨_, h4⟩ := ord_reach h h1 r
  omega
theorem walk_reach {R : List (List Int)} {f : Nat → Nat} (hf : ∀ k, ES R (f k) (f (k + 1))) (i : Nat) : ∀ d, Rch R (f i) (f (i + d))
  | 0 => .refl
  | d + 1 => (walk_reach hf i d).step (hf _)
/-- Who goes on for ever among few comes back. -/
theorem walk_cyc {R : List (List Int)} {f : Nat → Nat} (hf : ∀ k, ES R (f k) (f (k + 1))) {n : Nat} (hn : ∀ k, f k < n) : ∃ u, u < n ∧ Cyc R u := by
  by_cases hd : ((List.range (n + 1)).map f).Nodup
  · have h1 : ((List.range (n + 1)).map fun k => (f k : Int)).Nodup := by
      have := hd
      rw [List.Nodup, List.pairwise_map] at this ⊢
      exact this.imp fun h e => h (by omega)
    have h2 := nodup_le (n := n) h1 fun t ht => by
      obtain ⟨k, _, rfl⟩ := List.mem_map.1 ht
      exact ⟨f k, hn k, rfl⟩
    simp at h2
    omega
  · rw [List.Nodup, List.pairwise_iff_getElem] at hd
    simp only [Classical.not_forall] at hd
    obtain ⟨i, j, hi, hj, hij, he⟩ := hd
    have he : f i = f j := by simpa using he
    refine ⟨f i, hn i, f (i + 1), hf i, ?_⟩
    have h3 := walk_reach hf (i + 1) (j - (i + 1))
    rw [show i + 1 + (j - (i + 1)) = j by omega] at h3
    rw [← he] at h3
    exact h3
theorem greedy_end (R : List (List Int)) : ∀ (k : Nat) (out : List Int), (greedy R k out).length = out.length + k ∨ stepO R (greedy R k out) = none
  | 0, out => .inl rfl
  | k + 1, out => by
    rw [greedy]
    cases hs : stepO R out with
    | none => exact .inr hs
    | some v =>
      rcases greedy_end R k (out ++ [(v : Int)]) with h | h
      · left; rw [h]; simp; omega
      · exact .inr h
theorem not_in_out {n : Nat} {out : List Int} (hl : out.length < n) : ∃ v : Nat, v < n ∧ (v : Int) ∉ out := by
  by_cases h : ∃ v : Nat, v < n ∧ (v : Int) ∉ out
  · exact h
  · exfalso
    have h2 : ∀ v : Nat, v < n → (v : Int) ∈ out := fun v hv => by
      by_cases hm : (v : Int) ∈ out
      · exact hm
      · exact absurd ⟨v, hv, hm⟩ h
    have h3 : ((List.range n).map fun (v : Nat) => (v : Int)) ⊆ out := fun t ht => by
      obtain ⟨v, hv, rfl⟩ := List.mem_map.1 ht
      exact h2 v (List.mem_range.1 hv)
    have h4 : ((List.range n).map fun (v : Nat) => (v : Int)).Nodup := by
      rw [List.Nodup, List.pairwise_map]
      exact List.nodup_range.imp fun h e => h (by omega)
    have h5 := h4.length_le_of_subset h3
    simp at h5
    omega
/-- Where none is ready, some ring is. -/
theorem stuck_cyc {R : List (List Int)} (hb : okB R) {out : List Int} (hs : stepO R out = none) (hl : out.length < R.length) : ∃ u, u < R.length ∧ Cyc R u := by
  have hnext : ∀ v : Nat, v < R.length ∧ (v : Int) ∉ out → ∃ w : Nat, (w < R.length ∧ (w : Int) ∉ out) ∧ ES R v w := fun v ⟨hv, hm⟩ => by
    have h1 := List.find?_eq_none.1 hs v (List.mem_range.2 hv)
    by_cases h2 : ∃ t ∈ R.getD v [], t ∉ out
    · obtain ⟨t, ht, hto⟩ := h2
      rw [List.getD_eq_getElem?_getD, List.getElem?_eq_getElem hv] at ht
      obtain ⟨w, rfl, hw⟩ := hb _ (List.getElem_mem hv) t ht
      exact ⟨w, ⟨hw, hto⟩, by unfold ES; rw [List.getD_eq_getElem?_getD, List.getElem?_eq_getElem hv]; exact ht⟩
    · exfalso
      refine h1 (rdy_iff.2 ⟨hm, cntW_zero.2 fun t ht => ?_⟩)
      by_cases hto : t ∈ out
      · exact hto
      · exact absurd ⟨t, ht, hto⟩ h2
  obtain ⟨v0, h0⟩ := not_in_out hl
  let S := { v : Nat // v < R.length ∧ (v : Int) ∉ out }
  let nx : S → S := fun x => ⟨Classical.choose (hnext x.1 x.2), (Classical.choose_spec (hnext x.1 x.2)).1⟩
  have hnx : ∀ x : S, ES R x.1 (nx x).1 := fun x => (Classical.choose_spec (hnext x.1 x.2)).2
  let f : Nat → S := fun k => Nat.rec ⟨v0, h0⟩ (fun _ x => nx x) k
  exact walk_cyc (f := fun k => (f k).1) (fun k => hnx (f k)) (fun k => (f k).2.1)
theorem order_cyc {R : List (List Int)} (hb : okB R) : (orderR R).2 = true ↔ ∀ u, u < R.length → ¬ Cyc R u := by
  constructor
  · intro h u hu
    have hO := ordOk_of R
    unfold orderR at h hO
    split at h
    · cases h
    · rename_i hn
      rw [if_neg hn] at hO
      dsimp only at hO
      have hm : (u : Int) ∈ greedy R R.length [] := by
        by_cases hm : (u : Int) ∈ greedy R R.length []
        · exact hm
        · exfalso
          have h3 : ((u : Int) :: greedy R R.length []).Nodup := List.nodup_cons.2 ⟨hm, hO.nd⟩
          have h4 := nodup_le (n := R.length) h3 fun t ht => by
            rcases List.mem_cons.1 ht with rfl | ht
            · exact ⟨u, hu, rfl⟩
            · exact hO.inn t ht
          simp at h4
          omega
      exact ord_cyc hO hm
  · intro h
    unfold orderR
    split
    · rename_i hlt
      exfalso
      rcases greedy_end R R.length [] with h1 | h1
      · simp at h1; omega
      · obtain ⟨u, hu, hc⟩ := stuck_cyc hb h1 hlt
        exact h u hu hc
    · rfl
end Go.Proofs.Ythekpmpcbidjiaa
