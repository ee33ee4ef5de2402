
import Derived.Test.YthekpmpcbidjiaaGreatT23
import Derived.Test.YthekpmpcbidjiaaGreatT27
namespace Go.Proofs.YthekpmpcbidjiaaGreat
open Go Go.RowKit Go.Sort U
set_option linter.unusedVariables false
set_option linter.unusedSimpArgs false
set_option maxRecDepth 100000
set_option maxHeartbeats 4000000
theorem len_d (l : List Int) : DenU Tryz.prog [] 31 [imS (iL l)] (.int .i64 l.length) := by
  refine denU_of_body hmixU rfl Tryz.func31 rfl rfl rfl 0 ?_
  intro Ts
  (repeat' ((conv => whnf); first | refine goD ?_ | refine U.lw_c (fun hb => ?_) (fun hb => ?_)))
  all_goals (conv => whnf)
  exact .same (.flat _ rfl) (congrArg (Value.int .i64) (by rw [iL_len]))
theorem less_d (l : List Int) (i j : Nat) (x y : Int) (hi : l[i]? = some x) (hj : l[j]? = some y) : DenU Tryz.prog [] 115 [imS (iL l), .int .i64 i, .int .i64 j] (.bool (decide (x < y))) := by
  refine denU_of_body hmixU rfl Tryz.func115 rfl rfl rfl 0 ?_
  intro Ts
  have li := (List.getElem?_eq_some_iff.1 hi).1
  have lj := (List.getElem?_eq_some_iff.1 hj).1
  have bi : i.blt (iL l).length = true := by rw [iL_len]; exact bLe li
  have bj : j.blt (iL l).length = true := by rw [iL_len]; exact bLe lj
  have ni : nth (iL l) i = some (.int .i64 x) := by rw [nth_eq]; simp [iL, hi]
  have nj : nth (iL l) j = some (.int .i64 y) := by rw [nth_eq]; simp [iL, hj]
  (repeat' ((conv => whnf); first | refine goD ?_ | refine U.drawX_p (D := U.propX) 10 [] (by decide +kernel) (by decide +kernel) ?_ | refine U.lw_c (fun hb => ?_) (fun hb => ?_)))
  all_goals (conv => whnf)
  exact .same (.flat _ rfl) rfl
end Go.Proofs.YthekpmpcbidjiaaGreat
namespace Go.Proofs.YthekpmpcbidjiaaGreat
open Go Go.RowKit Go.Sort U
set_option linter.unusedVariables false
set_option linter.unusedSimpArgs false
def froms (rows : List (List Int)) (c : Nat) : List Int := ((List.range rows.length).filter fun i => decide ((c : Int) ∈ rows.getD i [])).map fun (i : Nat) => (i : Int)
def turnedR (rows : List (List Int)) : List (List Int) := (List.range rows.length).map (froms rows)
theorem froms_snoc (rows : List (List Int)) (x : List Int) (c : Nat) : froms (rows ++ [x]) c = froms rows c ++ if (c : Int) ∈ x then [(rows.length : Int)] else [] := by
  have h1 : (List.range rows.length).filter (fun i => decide ((c : Int) ∈ (rows ++ [x]).getD i [])) = (List.range rows.length).filter (fun i => decide ((c : Int) ∈ rows.getD i [])) := List.filter_congr fun i hi => by
    have hi : i < rows.length := List.mem_range.1 hi
    simp [List.getElem?_append_left hi]
  have h2 : (rows ++ [x]).getD rows.length [] = x := by simp
  simp only [froms, List.length_append, List.length_singleton, List.range_succ, List.filter_append, List.map_append, h1]
  congr 1
  by_cases h : (c : Int) ∈ x
  · simp [h]
  · simp [h]
def mid (rows : List (List Int)) (p : List Int) (c : Nat) : List Int := froms rows c ++ if (c : Int) ∈ p then [(rows.length : Int)] else []
theorem mid_nil (rows : List (List Int)) (c : Nat) : mid rows [] c = froms rows c := by simp [mid]
theorem mid_all (rows : List (List Int)) (x : List Int) (c : Nat) : mid rows x c = froms (rows ++ [x]) c := (froms_snoc rows x c).symm
theorem mid_same (rows : List (List Int)) (p : List Int) (t : Nat) (ht : (t : Int) ∉ p) : mid rows (p ++ [(t : Int)]) t = mid rows p t ++ [(rows.length : Int)] := by simp [mid, ht]
theorem mid_other (rows : List (List Int)) (p : List Int) (t c : Nat) (h : c ≠ t) : mid rows (p ++ [(t : Int)]) c = mid rows p c := by
  have : ¬ (c : Int) = (t : Int) := by omega
  simp [mid, this]
theorem rowR_mem {n : Nat} {r : List Int} {t : Int} : t ∈ rowR n r ↔ ∃ i : Nat, i < n ∧ t = (i : Int) ∧ t ∈ r := by
  simp only [rowR, List.mem_map, List.mem_filter, List.mem_range, decide_eq_true_eq]
  constructor
  · rintro ⟨i, ⟨h1, h2⟩, rfl⟩
    exact ⟨i, h1, rfl, h2⟩
  · rintro ⟨i, h1, rfl, h2⟩
    exact ⟨i, ⟨h1, h2⟩, rfl⟩
theorem rowR_lt (n : Nat) (r : List Int) : (rowR n r).Pairwise (· < ·) := by
  refine List.Pairwise.map (R := fun (a b : Nat) => a < b) _ (fun a b h => by omega) ?_
  exact List.pairwise_lt_range.filter _
theorem rowR_nodup (n : Nat) (r : List Int) : (rowR n r).Nodup := (rowR_lt n r).imp fun h => by omega
theorem rowR_len (n : Nat) (r : List Int) : (rowR n r).length ≤ n := by
  rw [rowR, List.length_map]
  exact Nat.le_trans (List.length_filter_le ..) (by simp)
end Go.Proofs.YthekpmpcbidjiaaGreat
namespace Go.Proofs.YthekpmpcbidjiaaGreat.U
open Go Go.RowKit Go.Sort
set_option linter.unusedVariables false
set_option linter.unusedSimpArgs false
theorem SoundAt.c {P : Program} {f : FuncId} {args : List Value} {s : AS} {k : Value → AS → Prop} (h : SoundC P f args s k) : SoundAt P f args s k := by
  refine ⟨fun hl W0 β W vs hR hf hv => ?_⟩
  obtain ⟨u, s', hk, hst, hc⟩ := h.out hl
  refine (hc W0 β W vs hR hf.free hv).mono fun e w' ⟨v, he, β1, h1, h2, h3, h4⟩ => ?_
  exact ⟨v, u, s', he, hk, hst.x, β1, .of h1 hf hst.next, h2, h3, h4⟩
theorem RenV.fnL {n : Nat} {ρ : Ren} {g : FuncId} {a a' b b' : List Value} (h1 : RenL n ρ a a') (h2 : RenL n ρ b b') : RenV n ρ (.func (.func g) ⟨a⟩ ⟨b⟩) (.func (.func g) ⟨a'⟩ ⟨b'⟩) := by
  obtain ⟨e1, e2⟩ := h1.at_
  obtain ⟨e3, e4⟩ := h2.at_
  refine .fn g a a' b b' e1 e3 (fun i u v hu hv => ?_) fun i u v hu hv => ?_
  · obtain ⟨w, q1, q2⟩ := e2 i u hu
    rw [hv] at q1; cases q1; exact q2
  · obtain ⟨w, q1, q2⟩ := e4 i u hu
    rw [hv] at q1; cases q1; exact q2
theorem told_of {l : List (Nat × Option Blk)} {n : Nat} (h : blksO (mkO l) n ⟨fun k => k, fun _ _ => False⟩ l) : ∀ k b, (mkO l).get k = some b → RenB n ⟨fun k => k, fun _ _ => False⟩ b b := fun k b hk => by
  obtain ⟨b', e1, e2⟩ := h.all _ (mkO_get hk) b rfl
  have e1 : (mkO l).get k = some b' := e1
  rw [hk] at e1
  cases e1
  exact e2
theorem SoundC.ofAt {P : Program} {f : FuncId} {args : List Value} {u : Value} {s : AS} {k : Value → AS → Prop} (ha : RenL s.next ⟨fun k => k, fun _ _ => False⟩ args args) (hB : ∀ k b, s.heap.get k = some b → RenB s.next ⟨fun k => k, fun _ _ => False⟩ b b) (hg : s.glb ≤ s.next) (h : SoundAt P f args s fun u' s' => u' = u ∧ s' = s) (hk : k u s) : SoundC P f args s k := by
  refine ⟨fun hl => ⟨u, s, hk, .refl _, fun W0 β W vs hR hf hv => ?_⟩⟩
  let β1 : Bt := ⟨fun k => if k < s.next then β k else none, β.z⟩
  have hm : ∀ k, k < s.next → β1 k = β k := fun k hk => if_pos hk
  have hm' : ∀ k x, β1 k = some x → k < s.next ∧ β k = some x := fun k x hx => by
    have hx : (if k < s.next then β k else none) = some x := hx
    split at hx
    · rename_i h; exact ⟨h, hx⟩
    · cases hx
  have hfr : FreeA β1 s.next := fun k hk => if_neg (by omega)
  have hR1 : Rel P W0 β1 s W := ⟨fun k b r sp hk hr => (hB k b hk).rel (β := β) (β1 := β1) (fun _ _ _ h => h) (fun _ _ _ h => absurd h id) (fun _ _ h => absurd h id) hm id (hR.blk k b r sp hk (hm' k _ hr).2),
    fun k k' r sp sp' hlo hk hk' hr hr' => hR.inj k k' r sp sp' hlo hk hk' (hm' k _ hr).2 (hm' k' _ hr').2, hR.dom, fun k r sp hr => hR.lt k r sp (hm' k _ hr).2, fun k r sp hk hr => hR.ge k r sp hk (hm' k _ hr).2, hR.below, fun g hgl => by rw [hm g (by omega)]; exact hR.glob g hgl, fun r o v hv => ⟨(hR.frz r o v hv).1, fun k sp hlo hk hr => (hR.frz r o v hv).2 k sp hlo hk (hm' k _ hr).2⟩⟩
  have hv1 : VRs β1 args vs := by
    obtain ⟨q1, q2⟩ := ha.at_
    refine ⟨hv.1, fun i x v hx hv' => ?_⟩
    obtain ⟨y, q3, q4⟩ := q2 i x hx
    rw [hx] at q3
    cases q3
    exact q4.rel (β := β) (β1 := β1) (fun _ _ _ h => h) (fun _ _ _ h => absurd h id) hm (hv.2 i x v hx hv')
  refine (h.out hl W0 β1 W vs hR1 hfr hv1).mono fun e w' ⟨v, u', s', he, ⟨hu, hs⟩, hst, β2, x1, x2, x3, x4⟩ => ?_
  subst hu; subst hs
  have hb2 : ∀ k x, β2 k = some x → k < s'.next ∧ β k = some x := fun k x hx => by
    rcases Nat.lt_or_ge k s'.next with h1 | h1
    · rw [x1.keep k h1, hm k h1] at hx
      exact ⟨h1, hx⟩
    · rw [x1.free k h1] at hx; cases hx
  have hb3 : ∀ k, k < s'.next → β2 k = β k := fun k hk => by rw [x1.keep k hk, hm k hk]
  have hle : BLx β2 ⟨β.m, β2.z⟩ := ⟨fun k x hx => (hb2 k x hx).2, fun _ _ _ h => h⟩
  have htr : ∀ k r sp, s'.heap.get k ≠ none → β k = some (r, sp) → β2 k = some (r, sp) := fun k r sp hk hr => by rw [hb3 k (x2.dom k hk)]; exact hr
  refine ⟨v, he, ⟨β.m, β2.z⟩, ⟨⟨fun _ _ h => h, x1.z⟩, fun _ _ => rfl⟩, ⟨fun k b r sp hk hr => ?_, fun k k' r sp sp' hlo hk hk' hr hr' => x2.inj k k' r sp sp' hlo hk hk' (htr k r sp hk hr) (htr k' r sp' hk' hr'), x2.dom, fun k r sp hr => Nat.lt_of_lt_of_le (hR.lt k r sp hr) x4.z, fun k r sp hk hr => x2.ge k r sp hk (htr k r sp hk hr), x2.below, hR.glob, fun r o v hv => ⟨(x2.frz r o v hv).1, fun k sp hlo hk hr => (x2.frz r o v hv).2 k sp hlo hk (htr k r sp hk hr)⟩⟩, x3.growX hle, x4⟩
  exact (x2.blk k b r sp hk (htr k r sp (by rw [hk]; simp) hr)).sameX hle id rfl
end Go.Proofs.YthekpmpcbidjiaaGreat.U
namespace Go.Proofs.YthekpmpcbidjiaaGreat
open Go Go.RowKit Go.Sort U
set_option linter.unusedVariables false
set_option linter.unusedSimpArgs false
set_option maxRecDepth 100000
set_option maxHeartbeats 4000000
theorem src1 {sh : Tr U.Blk} {l : List (Option U.Blk)} (h : ∀ p, Tr.at (.r (.l p)) sh = Tr.at p (gTr 256 l)) (hl : l.length ≤ 65280) {j : Nat} (hj : j < l.length) : sh.get (257 + j) = l[j]?.join := by
  unfold Tr.get
  rw [pt_g1 (by omega) (by omega), h, gTr_at, if_pos (by omega), show 257 + j - 1 - 256 = j by omega]
theorem src2 {sh : Tr U.Blk} {l : List (Option U.Blk)} (h : ∀ p, Tr.at (.r (.r (.r (.r (.l p))))) sh = Tr.at p (gTr 65792 l)) (hl : l.length ≤ 65280) {j : Nat} (hj : j < l.length) : sh.get (65793 + j) = l[j]?.join := by
  unfold Tr.get
  rw [pt_g2 (by omega) (by omega), h, gTr_at, if_pos (by omega), show 65793 + j - 1 - 65792 = j by omega]
def cellsN (n : Nat) (R : Nat → List Int) (nm : Nat → Nat) : List Value := (List.range n).map fun k => rowS (nm k) (iL (R k))
structure RowsAt (sh : Tr U.Blk) (n : Nat) (R : Nat → List Int) (nm : Nat → Nat) : Prop where
  cells : sh.get 0 = some (.cells 26 (cellsN n R nm) false)
  at_ : ∀ k, k < n → R k ≠ [] → sh.get (nm k) = some (.cells 3 (iL (R k)) true)
  inj : ∀ k k', k < n → k' < n → R k ≠ [] → R k' ≠ [] → nm k = nm k' → k = k'
  nz : ∀ k, k < n → R k ≠ [] → nm k ≠ 0
theorem cov_R {P : Program} {N n0 : Nat} {fr : Tr Value} {sh : Tr U.Blk} {nx n : Nat} {l : List (Nat × Value)} {R : Nat → List Int} {nm : Nat → Nat} (h : RowsAt sh n R nm) (bs ρ : Nat → Nat) (h1 : Tr U.Blk) (nx1 : Nat) (hn : n0 ≤ nx1) (hρ : ∀ k, k < n0 → ρ k = k) (hρ0 : ρ 0 = 0) (h0 : 0 < nx1) (hbs : ∀ j, j < n → bs j < nx1 ∧ ρ (bs j) = nm j)
    (hnew : ∀ k b, h1.get k = some b → (k = 0 ∧ b = .cells 26 (cellsN n R bs) false) ∨ ∃ j, j < n ∧ k = bs j ∧ R j ≠ [] ∧ b = .cells 3 (iL (R j)) true) (hf : slotsRen fr n0 ⟨fun k => k, fun _ _ => False⟩ l) : Cov P N n0 fr ⟨sh, nx, 0, 0⟩ (mkF l) ⟨h1, nx1, 0, 0⟩ := by
  refine Cov.gen ρ 0 (fun _ _ => False) (T := 0) (op := false) (xs := []) rfl rfl hn (Nat.zero_le _) hρ (fun k b hk => ?_) (fun k k' hk hk' e => ?_) (fun k hk => absurd hk (Nat.not_lt_zero k)) (Nat.zero_le _) (fun hx => absurd rfl hx) (fun u1 u hu => absurd hu id) fun t u hu => (hf.conv hn hρ).all _ (mkF_mem hu)
  · rcases hnew k b hk with ⟨rfl, rfl⟩ | ⟨j, hj, rfl, hr, rfl⟩
    · refine ⟨h0, fun _ => Nat.zero_le _, fun hx => absurd rfl hx, _, by rw [hρ0]; exact h.cells, .cells _ _ _ _ (RenL.maps _ fun j hj => ?_)⟩
      obtain ⟨q1, q2⟩ := hbs j (List.mem_range.1 hj)
      exact .ofRow q1 q2 rfl
    · obtain ⟨q1, q2⟩ := hbs j hj
      refine ⟨q1, fun _ => Nat.zero_le _, fun hx => absurd rfl hx, _, by rw [q2]; exact h.at_ j hj hr, .row _ _ _ _ ?_ rfl⟩
      have := cleanIC (R j)
      rwa [cellsI] at this
  · obtain ⟨b, hb⟩ := Option.ne_none_iff_exists'.1 hk
    obtain ⟨b', hb'⟩ := Option.ne_none_iff_exists'.1 hk'
    rcases hnew k b hb with ⟨rfl, _⟩ | ⟨j, hj, rfl, hr, _⟩ <;> rcases hnew k' b' hb' with ⟨rfl, _⟩ | ⟨j', hj', rfl, hr', _⟩
    · rfl
    · rw [hρ0, (hbs j' hj').2] at e
      exact absurd e.symm (h.nz j' hj' hr')
    · rw [hρ0, (hbs j hj).2] at e
      exact absurd e (h.nz j hj hr)
    · rw [(hbs j hj).2, (hbs j' hj').2] at e
      rw [h.inj j j' hj hj' hr hr' e]
theorem rowO_some {T : TypeId} {l : List Int} {b : U.Blk} (h : rowO T (iL l) = some b) : l ≠ [] ∧ b = .cells T (iL l) true := by
  cases l with
  | nil => cases h
  | cons x l =>
    refine ⟨by simp, ?_⟩
    have : rowO T (iL (x :: l)) = some (.cells T (cellsAll (iL (x :: l))) true) := rfl
    rw [this, cellsI] at h
    exact (Option.some.inj h).symm
def famR (n : Nat) (R : Nat → List Int) (t : Nat) : List (Option U.Blk) := (List.range n).map fun k => if k = t then none else rowO 3 (iL (R k))
theorem famR_len (n : Nat) (R : Nat → List Int) (t : Nat) : (famR n R t).length = n := by simp [famR]
theorem famR_at {n : Nat} {R : Nat → List Int} {t j : Nat} {b : U.Blk} (h : (famR n R t)[j]? = some (some b)) : j < n ∧ j ≠ t ∧ R j ≠ [] ∧ b = .cells 3 (iL (R j)) true := by
  have hj : j < n := by have := (List.getElem?_eq_some_iff.1 h).1; rwa [famR_len] at this
  simp only [famR, List.getElem?_map, List.getElem?_range hj, Option.map_some, Option.some.injEq] at h
  split at h
  · cases h
  · rename_i hne
    obtain ⟨q1, q2⟩ := rowO_some h
    exact ⟨hj, hne, q1, q2⟩
theorem famR_to {n : Nat} {R : Nat → List Int} {t j : Nat} (hj : j < n) (ht : j ≠ t) (hr : R j ≠ []) : (famR n R t)[j]?.join = some (.cells 3 (iL (R j)) true) := by
  simp only [famR, List.getElem?_map, List.getElem?_range hj, Option.map_some, if_neg ht]
  cases hx : R j with
  | nil => exact absurd hx hr
  | cons x l =>
    show some (U.Blk.cells 3 (cellsAll (iL (x :: l))) true) = _
    rw [cellsI]
def nmO (k : Nat) : Nat := 257 + k
def nmT (t k : Nat) : Nat := if k = t then 65537 else 65793 + k
def stO (n : Nat) (R : Nat → List Int) : AS := ⟨mkOB (base1 (famR n R n)) [(0, some (.cells 26 (cellsN n R nmO) false))], 65537, 0, 0⟩
def stT (n : Nat) (R : Nat → List Int) (t : Nat) (b : Option U.Blk) : AS := ⟨mkOB (base2 (famR n R t)) [(0, some (.cells 26 (cellsN n R (nmT t)) false)), (65537, b)], 131329, 0, 0⟩
theorem cov_O {P : Program} {N : Nat} {fr : Tr Value} {sh : Tr U.Blk} {nx n : Nat} {l : List (Nat × Value)} {R : Nat → List Int} {nm : Nat → Nat} (h : RowsAt sh n R nm) (hn : n ≤ 65000) (hf : slotsRen fr 1 ⟨fun k => k, fun _ _ => False⟩ l) : Cov P N 1 fr ⟨sh, nx, 0, 0⟩ (mkF l) (stO n R) := by
  refine cov_R h nmO (fun k => if 257 ≤ k ∧ k < 257 + n then nm (k - 257) else k) _ 65537 (by omega) (fun k hk => by rw [if_neg (by omega)]) rfl (by omega) (fun j hj => ⟨by unfold nmO; omega, ?_⟩) (fun k b hk => ?_) hf
  · have e : nmO j = 257 + j := rfl
    rw [e, if_pos (by omega), Nat.add_sub_cancel_left]
  · rcases mkOB_get hk with hk | hk
    · simp only [List.mem_cons, Prod.mk.injEq, List.not_mem_nil, or_false] at hk
      exact .inl ⟨hk.1, Option.some.inj hk.2⟩
    · obtain ⟨j, rfl, h1, h2⟩ := base1_get (by rw [famR_len]; omega) hk
      obtain ⟨q1, _, q3, q4⟩ := famR_at h2
      exact .inr ⟨j, q1, rfl, q3, q4⟩
theorem cov_T {P : Program} {N : Nat} {fr : Tr Value} {sh : Tr U.Blk} {nx n : Nat} {l : List (Nat × Value)} {R : Nat → List Int} {nm : Nat → Nat} (h : RowsAt sh n R nm) (hn : n ≤ 65000) (t : Nat) (b : Option U.Blk) (hb : b = if t < n then rowO 3 (iL (R t)) else none) (hf : slotsRen fr 65537 ⟨fun k => k, fun _ _ => False⟩ l) : Cov P N 65537 fr ⟨sh, nx, 0, 0⟩ (mkF l) (stT n R t b) := by
  refine cov_R h (nmT t) (fun k => if k = 65537 then nm t else if 65793 ≤ k ∧ k < 65793 + n then nm (k - 65793) else k) _ 131329 (by omega) (fun k hk => by rw [if_neg (by omega), if_neg (by omega)]) rfl (by omega) (fun j hj => ⟨by unfold nmT; split <;> omega, ?_⟩) (fun k c hk => ?_) hf
  · by_cases hjt : j = t
    · subst hjt
      simp [nmT]
    · have e : nmT t j = 65793 + j := by unfold nmT; rw [if_neg hjt]
      rw [e, if_neg (by omega), if_pos (by omega), Nat.add_sub_cancel_left]
  · rcases mkOB_get hk with hk | hk
    · simp only [List.mem_cons, Prod.mk.injEq, List.not_mem_nil, or_false] at hk
      rcases hk with hk | hk
      · exact .inl ⟨hk.1, Option.some.inj hk.2⟩
      · rw [hb] at hk
        split at hk
        · rename_i ht
          obtain ⟨q1, q2⟩ := rowO_some hk.2.symm
          exact .inr ⟨t, ht, by rw [hk.1]; simp [nmT], q1, q2⟩
        · cases hk.2
    · obtain ⟨j, rfl, h1, h2⟩ := base2_get (by rw [famR_len]; omega) hk
      obtain ⟨q1, q2, q3, q4⟩ := famR_at h2
      exact .inr ⟨j, q1, by unfold nmT; rw [if_neg q2], q3, q4⟩
theorem rows_O {n : Nat} {R : Nat → List Int} (hn : n ≤ 65000) : RowsAt (stO n R).heap n R nmO :=
  ⟨rfl, fun k hk hr => by
    have := src1 (sh := (stO n R).heap) (l := famR n R n) (fun p => rfl) (by rw [famR_len]; omega) (j := k) (by rw [famR_len]; exact hk)
    show (stO n R).heap.get (257 + k) = _
    rw [this, famR_to hk (by omega) hr], fun k k' _ _ _ _ e => by unfold nmO at e; omega, fun k _ _ => by unfold nmO; omega⟩
theorem rows_T {n : Nat} {R : Nat → List Int} (hn : n ≤ 65000) (b : Option U.Blk) : RowsAt (stT n R n b).heap n R (nmT n) :=
  ⟨rfl, fun k hk hr => by
    have := src2 (sh := (stT n R n b).heap) (l := famR n R n) (fun p => rfl) (by rw [famR_len]; omega) (j := k) (by rw [famR_len]; exact hk)
    rw [show nmT n k = 65793 + k by unfold nmT; rw [if_neg (by omega)], this, famR_to hk (by omega) hr], fun k k' h1 h2 _ _ e => by unfold nmT at e; rw [if_neg (by omega), if_neg (by omega)] at e; omega, fun k hk _ => by unfold nmT; rw [if_neg (by omega)]; omega⟩
theorem rows_S {sh : Tr U.Blk} {n t : Nat} {R R' : Nat → List Int} {x : Int} (hn : n ≤ 65000) (ht : t < n) (h1 : R' t = R t ++ [x]) (h2 : ∀ k, k ≠ t → R' k = R k) (g0 : sh.get 0 = some (.cells 26 (cellsN n R' fun k => if k = t then 131330 else 65793 + k) false)) (g1 : sh.get 131330 = some (.cells 3 (iL (R t ++ [x])) true)) (g2 : ∀ p, Tr.at (.r (.r (.r (.r (.l p))))) sh = Tr.at p (gTr 65792 (famR n R t))) : RowsAt sh n R' fun k => if k = t then 131330 else 65793 + k :=
  ⟨g0, fun k hk hr => by
    by_cases hkt : k = t
    · subst hkt
      rw [if_pos rfl, g1, h1]
    · rw [if_neg hkt, src2 g2 (by rw [famR_len]; omega) (by rw [famR_len]; exact hk), famR_to hk hkt (by rw [← h2 k hkt]; exact hr), h2 k hkt], fun k k' h1 h2 _ _ e => by
    have e : (if k = t then 131330 else 65793 + k) = (if k' = t then 131330 else 65793 + k') := e
    split at e <;> split at e <;> omega, fun k hk _ => by show (if k = t then 131330 else 65793 + k) ≠ 0; split <;> omega⟩
theorem cellsN_nth {n j : Nat} {R : Nat → List Int} {nm : Nat → Nat} (hj : j < n) : nth (cellsN n R nm) (0 + j * 1) = some (rowS (nm j) (iL (R j))) := by
  rw [Nat.zero_add, Nat.mul_one, nth_eq]
  simp [cellsN, hj]
theorem cellsN_set {n t : Nat} {R R' : Nat → List Int} {v : Value} {c : Nat} (ht : t < n) (h2 : ∀ k, k ≠ t → R' k = R k) (hv : rowS c (iL (R' t)) = v) : cellsN n R' (fun k => if k = t then c else 65793 + k) = (cellsN n R (nmT t)).take (0 + t * 1) ++ [v] ++ (cellsN n R (nmT t)).drop (0 + t * 1 + [v].length) := by
  rw [Nat.zero_add, Nat.mul_one, cellsN, cellsN, List.length_singleton, storeMap ht]
  refine List.map_congr_left fun k _ => ?_
  by_cases hk : k = t
  · subst hk
    rw [if_pos rfl, if_pos rfl, hv]
  · rw [if_neg hk, if_neg hk, h2 k hk]
    unfold nmT
    rw [if_neg hk]
theorem cellsN_start (rows : List (List Int)) : cellsN rows.length (froms []) nmO = repX ((((gL rows).length : Nat) : Int).toNat) [.slice none 0 0] := by
  rw [repX_one, cellsN, gL_len]
  have : (fun k => rowS (nmO k) (iL (froms [] k))) = fun _ => Value.slice none 0 0 := funext fun k => rfl
  rw [this]
  exact List.ext_getElem (by simp) fun i h1 h2 => by simp
end Go.Proofs.YthekpmpcbidjiaaGreat
