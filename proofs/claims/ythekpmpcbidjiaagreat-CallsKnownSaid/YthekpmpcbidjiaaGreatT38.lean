
import Derived.Test.YthekpmpcbidjiaaGreatT31
import Derived.Test.YthekpmpcbidjiaaGreatT33
import Derived.Test.YthekpmpcbidjiaaGreatT37
namespace Go.Proofs.YthekpmpcbidjiaaGreat
open Go Go.RowKit Go.Sort U
set_option linter.unusedVariables false
set_option linter.unusedSimpArgs false
set_option maxRecDepth 100000
set_option maxHeartbeats 4000000
def ordG (g : Gz) : List Int × Bool := if rightG g = true then orderR g.st else ([], false)
theorem order_g (g : Gz) (hg : okG g) (hst : g.st.length ≤ 29000) (hs : sumL g.st ≤ 500000) : DenU Tryz.prog [] 12 [encG g] (ordV (ordG g)) := by
  by_cases hr : rightG g = true
  · rw [ordG, if_pos hr, ← order_callees hr]
    exact order_d g hg hr hst hs
  · have hr' : rightG g = false := by simpa using hr
    rw [ordG, if_neg hr]
    refine denU_of_body hmixU rfl Tryz.func12 rfl rfl rfl 0 ?_
    intro Ts
    have c1 := cright_d g hg
    rw [hr'] at c1
    obtain ⟨nm, st⟩ := g
    have cg := cleanG ⟨nm, st⟩
    (repeat' ((conv => whnf); first | refine goD ?_ | refine ⟨_, c1, clN, tab0 _, ?_⟩ | refine U.lw_c (fun hb => ?_) (fun hb => ?_)))
    (conv => whnf)
    exact .tupL (.cons .nil (.cons (.clean _ (.flat _ rfl)) .nil))
theorem ordG_ok (g : Gz) : OrdOk g.st (ordG g).1 := by
  unfold ordG
  split
  · exact ordOk_of g.st
  · exact ⟨List.nodup_nil, fun t ht => (by cases ht), fun a b v e => (by simp at e)⟩
theorem ordG_len {g : Gz} (h : (ordG g).2 = true) : (ordG g).1.length = g.st.length := by
  have h2 := (ordG_ok g).len
  unfold ordG at h h2 ⊢
  split at h
  · rename_i hr
    rw [if_pos hr] at h2 ⊢
    unfold orderR at h h2 ⊢
    split at h
    · cases h
    · rename_i hn
      rw [if_neg hn] at h2 ⊢
      dsimp only at h2 ⊢
      omega
  · cases h
def blL (l : List Bool) : List Value := l.map Value.bool
theorem blL_len (l : List Bool) : (blL l).length = l.length := List.length_map ..
theorem cleanBq (l : List Bool) : ∀ x, x ∈ blL l → NoNm x := fun x hx => by
  obtain ⟨n, _, rfl⟩ := List.mem_map.1 hx
  exact .flat _ rfl
theorem blL_nth {l : List Bool} {i : Nat} (h : i < l.length) : nth (blL l) (0 + i * 1) = some (.bool (l.getD i false)) := by
  rw [Nat.zero_add, Nat.mul_one, nth_eq, blL]
  simp [h]
theorem blL_store {L : List Bool} {i : Nat} {x : Bool} (h : i < L.length) : (blL L).take (0 + i * 1) ++ [Value.bool x] ++ (blL L).drop (0 + i * 1 + [Value.bool x].length) = blL (L.set i x) := by
  rw [Nat.zero_add, Nat.mul_one, List.length_singleton, blL, blL, ← List.map_take, ← List.map_drop, List.set_eq_take_append_cons_drop, if_pos h]
  simp
def knO (n : Nat) (pre : List Int) : List Bool := (List.range n).map fun (i : Nat) => decide ((i : Int) ∈ pre)
theorem knO_len (n : Nat) (pre : List Int) : (knO n pre).length = n := by simp [knO]
theorem knO_at {n : Nat} {pre : List Int} {i : Nat} (h : i < n) : (knO n pre).getD i false = decide ((i : Int) ∈ pre) := by simp [knO, h]
theorem knO_snoc {n u : Nat} {pre : List Int} : knO n (pre ++ [(u : Int)]) = (knO n pre).set u true := by
  apply List.ext_getElem (by simp [knO])
  intro i h1 h2
  have hi : i < n := by simpa [knO] using h1
  rw [List.getElem_set]
  by_cases hc : u = i
  · subst hc
    simp [knO]
  · have : ¬ (i : Int) = (u : Int) := by omega
    simp [knO, hc, this]
theorem knO_nil (n : Nat) : blL (knO n []) = repX n [.bool false] := by
  rw [repX_one, blL, knO]
  simp
  exact List.ext_getElem (by simp) fun i h1 h2 => by simp
def ofU : Value := .func (.func 60) ⟨[]⟩ ⟨[.pointer (some ⟨7, 0, none⟩), .pointer (some ⟨3, 0, none⟩), .pointer (some ⟨8, 0, none⟩), .pointer (some ⟨5, 0, none⟩)]⟩
def ruU : Value := .func (.func 44) ⟨[]⟩ ⟨[.pointer (some ⟨1, 0, none⟩), .pointer (some ⟨0, 0, none⟩)]⟩
def stUX (lo : Nat) (g : Gz) (own : List Int) (n : Nat) (F B : List Value) : AS := ⟨mkO [(0, some (.cells 25 [imS (sL g.nm), imS (gL g.st)] false)), (1, some (.cells 31 [imS (uL own)] false)), (2, some (.cells 25 [imS (sL g.nm), imS (gL g.st)] false)), (3, some (.cells 88 [ruU] false)), (4, some (.cells 30 F false)), (5, some (.cells 31 [.slice (some ⟨4, 0, none⟩) n n] false)), (6, some (.cells 4 B false)), (7, some (.cells 109 [.slice (some ⟨6, 0, none⟩) n n] false)), (8, some (.cells 87 [ofU] false))], 9, lo, 0⟩
def stU (lo : Nat) (g : Gz) (own : List Int) (n : Nat) (F : List Int) (B : List Bool) : AS := stUX lo g own n (uL F) (blL B)
theorem of_known (lo : Nat) (g : Gz) (own F : List Int) (B : List Bool) (n j : Nat) (hF : F.length = n) (hB : B.length = n) (hj : j < n) (hk : B.getD j false = true) {K : Value → AS → Prop} (hK : K (.int .u64 (gt0 F j)) (stU lo g own n F B)) : SoundAt Tryz.prog 60 [.int .i64 (j : Int), .pointer (some ⟨7, 0, none⟩), .pointer (some ⟨3, 0, none⟩), .pointer (some ⟨8, 0, none⟩), .pointer (some ⟨5, 0, none⟩)] (stU lo g own n F B) K := by
  refine SoundAt.body hmixU Tryz.func60 rfl rfl rfl 0 ?_
  have hjb : j.blt n = true := bLe hj
  have n1 := blL_nth (l := B) (i := j) (by omega)
  have n2 := uL_nth (l := F) (i := j) (by omega)
  rw [hk] at n1
  (repeat' ((conv => whnf); first | refine goA ?_ | (conv in (nth _ _) => (change nth _ (0 + j * 1); rw [n1])) | (conv in (nth _ _) => (change nth _ (0 + j * 1); rw [n2])) | refine goB ?_ | refine U.lw_c (fun hb => ?_) (fun hb => ?_)))
  (conv => whnf)
  exact hK
end Go.Proofs.YthekpmpcbidjiaaGreat
namespace Go.Proofs.YthekpmpcbidjiaaGreat
open Go Go.RowKit Go.Sort U
set_option linter.unusedVariables false
set_option linter.unusedSimpArgs false
theorem idx_ahead {l a b : List Int} {v t : Int} (hn : l.Nodup) (e : l = a ++ v :: b) (ht : t ∈ a) : l.idxOf t < l.idxOf v := by
  subst e
  have hv : v ∉ a := fun h => (List.nodup_append.1 hn).2.2 v h v (by simp) rfl
  rw [List.idxOf_append, if_pos ht, List.idxOf_append, if_neg hv, List.idxOf_cons_self]
  have := List.idxOf_lt_length_iff.2 ht
  omega
theorem ord_ahead {R : List (List Int)} {ord : List Int} (h : OrdOk R ord) {v : Nat} (hv : (v : Int) ∈ ord) {w : Nat} (e : ES R v w) : (w : Int) ∈ ord ∧ ord.idxOf (w : Int) < ord.idxOf (v : Int) := by
  obtain ⟨a, b, e1⟩ := List.append_of_mem hv
  have hw := h.cl a b v e1 w e
  exact ⟨by rw [e1]; simp [hw], idx_ahead h.nd e1 hw⟩
theorem ord_reach {R : List (List Int)} {ord : List Int} (h : OrdOk R ord) {v : Nat} (hv : (v : Int) ∈ ord) {w : Nat} (r : Rch R v w) : (w : Int) ∈ ord ∧ ord.idxOf (w : Int) ≤ ord.idxOf (v : Int) := by
  induction r with
  | refl => exact ⟨hv, Nat.le_refl _⟩
  | step _ e ih =>
    obtain ⟨h1, h2⟩ := ih
    obtain ⟨h3, h4⟩ := ord_ahead h h1 e
    exact ⟨h3, by omega⟩
theorem ord_cyc {R : List (List Int)} {ord : List Int} (h : OrdOk R ord) {v : Nat} (hv : (v : Int) ∈ ord) : ¬ Cyc R v := by
  rintro ⟨w, e, r⟩
  obtain ⟨h1, h2⟩ := ord_ahead h hv e
  obtain ⟨_, h4⟩ := ord_reach h h1 r
  omega
theorem walk_reach {R : List (List Int)} {f : Nat → Nat} (hf : ∀ k, ES R (f k) (f (k + 1))) (i : Nat) : ∀ d, Rch R (f i) (f (i + d))
  | 0 => .refl
  | d + 1 => (walk_reach hf i d).step (hf _)
theorem walk_cyc {R : List (List Int)} {f : Nat → Nat} (hf : ∀ k, ES R (f k) (f (k + 1))) {n : Nat} (hn : ∀ k, f k < n) : ∃ u, u < n ∧ Cyc R u := by
  by_cases hd : ((List.range (n + 1)).map f).Nodup
  · have h1 : ((List.range (n + 1)).map fun k => (f k : Int)).Nodup := by
      have := hd
      rw [List.Nodup, List.pairwise_map] at this ⊢
      exact this.imp fun h e => h (by omega)
    have h2 := nodup_le (n := n) h1 fun t ht => by
      obtain ⟨k, _, rfl⟩ := List.mem_map.1 ht
      exact ⟨f k, hn k, rfl⟩
    simp at h2
    omega
  · rw [List.Nodup, List.pairwise_iff_getElem] at hd
    simp only [Classical.not_forall] at hd
    obtain ⟨i, j, hi, hj, hij, he⟩ := hd
    have he : f i = f j := by simpa using he
    refine ⟨f i, hn i, f (i + 1), hf i, ?_⟩
    have h3 := walk_reach hf (i + 1) (j - (i + 1))
    rw [show i + 1 + (j - (i + 1)) = j by omega] at h3
    rw [← he] at h3
    exact h3
theorem greedy_end (R : List (List Int)) : ∀ (k : Nat) (out : List Int), (greedy R k out).length = out.length + k ∨ stepO R (greedy R k out) = none
  | 0, out => .inl rfl
  | k + 1, out => by
    rw [greedy]
    cases hs : stepO R out with
    | none => exact .inr hs
    | some v =>
      rcases greedy_end R k (out ++ [(v : Int)]) with h | h
      · left; rw [h]; simp; omega
      · exact .inr h
theorem not_in_out {n : Nat} {out : List Int} (hl : out.length < n) : ∃ v : Nat, v < n ∧ (v : Int) ∉ out := by
  by_cases h : ∃ v : Nat, v < n ∧ (v : Int) ∉ out
  · exact h
  · exfalso
    have h2 : ∀ v : Nat, v < n → (v : Int) ∈ out := fun v hv => by
      by_cases hm : (v : Int) ∈ out
      · exact hm
      · exact absurd ⟨v, hv, hm⟩ h
    have h3 : ((List.range n).map fun (v : Nat) => (v : Int)) ⊆ out := fun t ht => by
      obtain ⟨v, hv, rfl⟩ := List.mem_map.1 ht
      exact h2 v (List.mem_range.1 hv)
    have h4 : ((List.range n).map fun (v : Nat) => (v : Int)).Nodup := by
      rw [List.Nodup, List.pairwise_map]
      exact List.nodup_range.imp fun h e => h (by omega)
    have h5 := h4.length_le_of_subset h3
    simp at h5
    omega
theorem stuck_cyc {R : List (List Int)} (hb : okB R) {out : List Int} (hs : stepO R out = none) (hl : out.length < R.length) : ∃ u, u < R.length ∧ Cyc R u := by
  have hnext : ∀ v : Nat, v < R.length ∧ (v : Int) ∉ out → ∃ w : Nat, (w < R.length ∧ (w : Int) ∉ out) ∧ ES R v w := fun v ⟨hv, hm⟩ => by
    have h1 := List.find?_eq_none.1 hs v (List.mem_range.2 hv)
    by_cases h2 : ∃ t ∈ R.getD v [], t ∉ out
    · obtain ⟨t, ht, hto⟩ := h2
      rw [List.getD_eq_getElem?_getD, List.getElem?_eq_getElem hv] at ht
      obtain ⟨w, rfl, hw⟩ := hb _ (List.getElem_mem hv) t ht
      exact ⟨w, ⟨hw, hto⟩, by unfold ES; rw [List.getD_eq_getElem?_getD, List.getElem?_eq_getElem hv]; exact ht⟩
    · exfalso
      refine h1 (rdy_iff.2 ⟨hm, cntW_zero.2 fun t ht => ?_⟩)
      by_cases hto : t ∈ out
      · exact hto
      · exact absurd ⟨t, ht, hto⟩ h2
  obtain ⟨v0, h0⟩ := not_in_out hl
  let S := { v : Nat // v < R.length ∧ (v : Int) ∉ out }
  let nx : S → S := fun x => ⟨Classical.choose (hnext x.1 x.2), (Classical.choose_spec (hnext x.1 x.2)).1⟩
  have hnx : ∀ x : S, ES R x.1 (nx x).1 := fun x => (Classical.choose_spec (hnext x.1 x.2)).2
  let f : Nat → S := fun k => Nat.rec ⟨v0, h0⟩ (fun _ x => nx x) k
  exact walk_cyc (f := fun k => (f k).1) (fun k => hnx (f k)) (fun k => (f k).2.1)
theorem order_cyc {R : List (List Int)} (hb : okB R) : (orderR R).2 = true ↔ ∀ u, u < R.length → ¬ Cyc R u := by
  constructor
  · intro h u hu
    have hO := ordOk_of R
    unfold orderR at h hO
    split at h
    · cases h
    · rename_i hn
      rw [if_neg hn] at hO
      dsimp only at hO
      have hm : (u : Int) ∈ greedy R R.length [] := by
        by_cases hm : (u : Int) ∈ greedy R R.length []
        · exact hm
        · exfalso
          have h3 : ((u : Int) :: greedy R R.length []).Nodup := List.nodup_cons.2 ⟨hm, hO.nd⟩
          have h4 := nodup_le (n := R.length) h3 fun t ht => by
            rcases List.mem_cons.1 ht with rfl | ht
            · exact ⟨u, hu, rfl⟩
            · exact hO.inn t ht
          simp at h4
          omega
      exact ord_cyc hO hm
  · intro h
    unfold orderR
    split
    · rename_i hlt
      exfalso
      rcases greedy_end R R.length [] with h1 | h1
      · simp at h1; omega
      · obtain ⟨u, hu, hc⟩ := stuck_cyc hb h1 hlt
        exact h u hu hc
    · rfl
theorem bst_way {rows back : List (List Int)} (hT : Tur rows back) (hb : okB rows) (hb2 : okB back) {way : List Int} {v : Nat} (hF : farOk back v way) (hv : v < rows.length) {u b : Nat} (hu : u < rows.length) (h0 : 0 < gt0 way u) (hB : Bst way (rows.getD u []) (b : Int)) : gt0 way u = gt0 way b + 1 ∧ ES rows u b := by
  have hvb : v < back.length := by rw [hT.1]; exact hv
  have hub : u < back.length := by rw [hT.1]; exact hu
  rcases hB with ⟨e, _⟩ | ⟨b', e, h1, h2, h3⟩
  · omega
  · have : b = b' := Int.ofNat_inj.1 e
    subst this
    obtain ⟨w, hw1, hw2, hw3⟩ := far_next (d := (gt0 way u).toNat - 1) hT hb2 hF hvb hub (by omega)
    have hbl := es_lt hb (v := u) h1
    have h4 := (far_edge hT hF hub (by rw [hT.1]; exact hbl) (w := b) h1 h2).2
    refine ⟨?_, h1⟩
    rcases h3 w hw2 (by omega) with h5 | ⟨h5, _⟩ <;> omega
theorem ring_way {rows back : List (List Int)} (hT : Tur rows back) (hb : okB rows) (hb2 : okB back) {way : List Int} {v : Nat} {L : List Nat} (hF : farOk back v way) (hv : v < rows.length) (hL : RingOk rows way v L) : ∀ (d i a : Nat), i + d + 1 = L.length → 0 < i → L[i]? = some a → gt0 way a = ((d + 1 : Nat) : Int)
  | 0, i, a, hd, hi, ha => by
    have hal := hL.lt a (List.mem_of_getElem? ha)
    have hlast : L.getLast? = some a := by
      rw [List.getLast?_eq_getElem?, show L.length - 1 = i by omega]; exact ha
    have hvb : v < back.length := by rw [hT.1]; exact hv
    have h0 := far_v hF hvb
    obtain ⟨_, e2⟩ := hL.cl a hlast
    have hpos : 0 < gt0 way a := by
      obtain ⟨b, hb'⟩ : ∃ b, L[i - 1]? = some b := ⟨_, List.getElem?_eq_getElem (by omega)⟩
      have := (hL.st (i - 1) b a hb' (by rw [show i - 1 + 1 = i by omega]; exact ha)).2.2
      exact this
    have := (bst_way hT hb hb2 hF hv hal hpos e2).1
    omega
  | d + 1, i, a, hd, hi, ha => by
    have hal := hL.lt a (List.mem_of_getElem? ha)
    obtain ⟨b, hb'⟩ : ∃ b, L[i + 1]? = some b := ⟨_, List.getElem?_eq_getElem (by omega)⟩
    have ih := ring_way hT hb hb2 hF hv hL d (i + 1) b (by omega) (by omega) hb'
    obtain ⟨_, e2, _⟩ := hL.st i a b ha hb'
    have hpos : 0 < gt0 way a := by
      obtain ⟨c, hc⟩ : ∃ c, L[i - 1]? = some c := ⟨_, List.getElem?_eq_getElem (by omega)⟩
      exact (hL.st (i - 1) c a hc (by rw [show i - 1 + 1 = i by omega]; exact ha)).2.2
    have := (bst_way hT hb hb2 hF hv hal hpos e2).1
    omega
def MinD (way p : List Int) (best : Int) : Prop := (best = -1 ∧ ∀ x : Nat, (x : Int) ∈ p → gt0 way x < 0) ∨ (0 ≤ best ∧ (∃ x : Nat, (x : Int) ∈ p ∧ gt0 way x = best) ∧ ∀ x : Nat, (x : Int) ∈ p → 0 ≤ gt0 way x → best ≤ gt0 way x)
theorem minD_nil (way : List Int) : MinD way [] (-1) := .inl ⟨rfl, fun x h => by cases h⟩
theorem minD_old {way p : List Int} {best : Int} {w : Nat} (h : MinD way p best) (hw : gt0 way w < 0 ∨ (0 ≤ best ∧ best ≤ gt0 way w)) : MinD way (p ++ [(w : Int)]) best := by
  have key : ∀ x : Nat, (x : Int) ∈ p ++ [(w : Int)] → (x : Int) ∈ p ∨ x = w := fun x hx => by
    rcases List.mem_append.1 hx with hx | hx
    · exact .inl hx
    · exact .inr (Int.ofNat_inj.1 (by simpa using hx))
  rcases h with ⟨e, h⟩ | ⟨e, ⟨y, h1, h2⟩, h3⟩
  · refine .inl ⟨e, fun x hx => ?_⟩
    rcases key x hx with hx | rfl
    · exact h x hx
    · omega
  · refine .inr ⟨e, ⟨y, List.mem_append_left _ h1, h2⟩, fun x hx h0 => ?_⟩
    rcases key x hx with hx | rfl
    · exact h3 x hx h0
    · omega
theorem minD_new {way p : List Int} {best : Int} {w : Nat} (h : MinD way p best) (h0 : 0 ≤ gt0 way w) (hw : best < 0 ∨ gt0 way w < best) : MinD way (p ++ [(w : Int)]) (gt0 way w) := by
  refine .inr ⟨h0, ⟨w, by simp, rfl⟩, fun x hx hx0 => ?_⟩
  rcases List.mem_append.1 hx with hx | hx
  · rcases h with ⟨e, h⟩ | ⟨e, _, h3⟩
    · have := h x hx; omega
    · have := h3 x hx hx0; omega
  · have : x = w := Int.ofNat_inj.1 (by simpa using hx)
    subst this; exact Int.le_refl _
theorem minD_none {rows back : List (List Int)} (hT : Tur rows back) {way : List Int} {v : Nat} {best : Int} (hF : farOk back v way) (hv : v < rows.length) (hb : okB rows) (hc : ¬ Cyc rows v) (h : MinD way (rows.getD v []) best) : best = -1 := by
  rcases h with ⟨e, _⟩ | ⟨e, ⟨x, h1, h2⟩, _⟩
  · exact e
  · exfalso
    have hxl : x < back.length := by rw [hT.1]; exact es_lt hb (v := v) h1
    refine hc ⟨x, h1, ?_⟩
    rcases hF.2 x hxl with ⟨h3, _⟩ | ⟨d, _, h4, _⟩
    · omega
    · have key : ∀ d x, Way back v d x → Rch rows x v := fun d x h => by
        induction h with
        | here => exact .refl
        | step _ e ih => exact .cons ((hT.2 _ _).1 e) ih
      exact key d x h4
theorem minD_bst {way p : List Int} {best : Int} {b : Nat} (h : MinD way p best) (hB : Bst way p (b : Int)) : best = gt0 way b := by
  rcases hB with ⟨e, _⟩ | ⟨b', e, h1, h2, h3⟩
  · omega
  · have : b = b' := Int.ofNat_inj.1 e
    subst this
    rcases h with ⟨_, h4⟩ | ⟨_, ⟨x, h5, h6⟩, h7⟩
    · have := h4 b h1; omega
    · have := h7 b h1 h2
      rcases h3 x h5 (by omega) with h8 | ⟨h8, _⟩ <;> omega
end Go.Proofs.YthekpmpcbidjiaaGreat
