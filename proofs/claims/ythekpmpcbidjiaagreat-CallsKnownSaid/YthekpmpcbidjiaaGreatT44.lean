
import Derived.Test.YthekpmpcbidjiaaGreatT31
import Derived.Test.YthekpmpcbidjiaaGreatT43
namespace Go.Proofs.YthekpmpcbidjiaaGreat
open Go Go.RowKit Go.Sort U
set_option linter.unusedVariables false
set_option linter.unusedSimpArgs false
theorem bst_ex (way : List Int) : ∀ (n : Nat) (p : List Int), p.length = n → p.Pairwise (· < ·) → (∀ x ∈ p, ∃ u : Nat, x = u) → ∃ best, Bst way p best
  | 0, p, h, _, _ => by
    have := List.eq_nil_of_length_eq_zero h
    subst this
    exact ⟨-1, bst_nil way⟩
  | n + 1, p, h, hp, hn => by
    rcases List.eq_nil_or_concat p with rfl | ⟨q, x, rfl⟩
    · simp at h
    rw [List.concat_eq_append] at *
    obtain ⟨w, rfl⟩ := hn x (by simp)
    obtain ⟨best, hB⟩ := bst_ex way n q (by simpa using h) (List.pairwise_append.1 hp).1 fun x hx => hn x (by simp [hx])
    by_cases h0 : gt0 way w < 0
    · exact ⟨best, bst_old hB hp (.inl h0)⟩
    · by_cases hb : best < 0
      · exact ⟨w, bst_new hB (by omega) (.inl hb)⟩
      · by_cases hlt : gt0 way w < gt0 way best.toNat
        · exact ⟨w, bst_new hB (by omega) (.inr ⟨best.toNat, by omega, hlt⟩)⟩
        · exact ⟨best, bst_old hB hp (.inr ⟨best.toNat, by omega, by omega⟩)⟩
theorem bst_one {way p : List Int} {a b : Nat} (h1 : Bst way p (a : Int)) (h2 : Bst way p (b : Int)) : a = b := by
  rcases h1 with ⟨e, _⟩ | ⟨a', e, q1, q2, q3⟩
  · omega
  rcases h2 with ⟨e', _⟩ | ⟨b', e', r1, r2, r3⟩
  · omega
  have ha : a = a' := Int.ofNat_inj.1 e
  have hb : b = b' := Int.ofNat_inj.1 e'
  subst ha; subst hb
  rcases q3 b r1 r2 with h | ⟨h, h'⟩
  · rcases r3 a q1 q2 with g | ⟨g, g'⟩ <;> omega
  · rcases r3 a q1 q2 with g | ⟨g, g'⟩ <;> omega
theorem rg_ex {rows back : List (List Int)} (hT : Tur rows back) (hb : okB rows) (hb2 : okB back) (hr : ∀ r ∈ rows, r.Pairwise (· < ·)) {way : List Int} {v : Nat} (hF : farOk back v way) (hv : v < rows.length) (hc : Cyc rows v) : ∀ (d : Nat) (pre : List Nat) (node : Nat), rows.length < (pre ++ [node]).length + d → Rg rows way v pre node → ∃ L, RingOk rows way v L
  | 0, pre, node, hd, h => by
    have := rg_len h (far_v hF (by rw [hT.1]; exact hv))
    omega
  | d + 1, pre, node, hd, h => by
    have hn := h.lt node (by simp)
    have hrm : rows.getD node [] ∈ rows := by
      rw [List.getD_eq_getElem?_getD, List.getElem?_eq_getElem hn]
      exact List.getElem_mem hn
    obtain ⟨best, hB⟩ := bst_ex way _ (rows.getD node []) rfl (hr _ hrm) fun x hx => by
      obtain ⟨u, e, _⟩ := hb _ hrm x hx
      exact ⟨u, e⟩
    obtain ⟨b, rfl, h1, h2, h3, h4⟩ := h.near hT hb hb2 hF hv hc hB
    by_cases hz : gt0 way b = 0
    · have := far_zero hF (by rw [hT.1]; exact h1) hz
      subst this
      exact ⟨_, h.fin hz h2 hB⟩
    · exact rg_ex hT hb hb2 hr hF hv hc d (pre ++ [node]) b (by simp at hd ⊢; omega) (h.next h1 h2 hB (by omega) h4)
theorem ring_uni {rows back : List (List Int)} (hT : Tur rows back) (hb : okB rows) (hb2 : okB back) {way : List Int} {v : Nat} {L M : List Nat} (hF : farOk back v way) (hv : v < rows.length) (hL : RingOk rows way v L) (hM : RingOk rows way v M) : L = M := by
  have hL0 : 0 < L.length := (List.getElem?_eq_some_iff.1 hL.hd).1
  have hM0 : 0 < M.length := (List.getElem?_eq_some_iff.1 hM.hd).1
  have key : ∀ i, i < L.length → i < M.length → L[i]? = M[i]? := fun i => by
    induction i with
    | zero => intro _ _; rw [hL.hd, hM.hd]
    | succ i ih =>
      intro h1 h2
      have e := ih (by omega) (by omega)
      obtain ⟨a, ha⟩ : ∃ a, L[i]? = some a := ⟨_, List.getElem?_eq_getElem (by omega)⟩
      obtain ⟨b, hb'⟩ : ∃ b, L[i + 1]? = some b := ⟨_, List.getElem?_eq_getElem h1⟩
      obtain ⟨c, hc⟩ : ∃ c, M[i + 1]? = some c := ⟨_, List.getElem?_eq_getElem h2⟩
      have := bst_one (hL.st i a b ha hb').2.1 (hM.st i a c (by rw [← e]; exact ha) hc).2.1
      rw [hb', hc, this]
  have hno : ∀ {L M : List Nat}, RingOk rows way v L → RingOk rows way v M → 0 < L.length → (∀ i, i < L.length → i < M.length → L[i]? = M[i]?) → L.length < M.length → False := fun {L M} hL hM h0 key hlt => by
    obtain ⟨a, ha⟩ : ∃ a, L[L.length - 1]? = some a := ⟨_, List.getElem?_eq_getElem (by omega)⟩
    have hl := (hL.cl a (by rw [List.getLast?_eq_getElem?]; exact ha)).2
    obtain ⟨c, hc⟩ : ∃ c, M[L.length - 1 + 1]? = some c := ⟨_, List.getElem?_eq_getElem (by omega)⟩
    obtain ⟨_, h2, h3⟩ := hM.st (L.length - 1) a c (by rw [← key _ (by omega) (by omega)]; exact ha) hc
    have := bst_one hl h2
    subst this
    have := far_v hF (by rw [hT.1]; exact hv)
    omega
  have hlen : L.length = M.length := by
    rcases Nat.lt_trichotomy L.length M.length with h | h | h
    · exact (hno hL hM hL0 key h).elim
    · exact h
    · exact (hno hM hL hM0 (fun i h1 h2 => (key i h2 h1).symm) h).elim
  refine List.ext_getElem? fun i => ?_
  rcases Nat.lt_or_ge i L.length with hi | hi
  · exact key i hi (by omega)
  · rw [List.getElem?_eq_none hi, List.getElem?_eq_none (by omega)]
theorem DenE.one {P : Program} {f : FuncId} {args : List Value} {Q : Value → Prop} {u : Value} (h : U.DenE P f args Q) (hq : ∀ u', Q u' → u' = u) : U.DenU P [] f args u :=
  ⟨fun z W vs _ hz hv => (h.out z W vs hz hv).mono fun e w' ⟨u', v, z', h1, h2, h3, h4, h5, h6⟩ => ⟨v, z', h2, h3, h4, h5, by rw [hq u' h1] at h6; exact h6⟩⟩
theorem ring_u (g : Gz) (hg : okG g) (hst : g.st.length ≤ 29000) (hs : sumL g.st ≤ 500000) (hR : rightG g = true) : ∃ L : List Nat, L.length ≤ 29000 ∧ DenU Tryz.prog [] 14 [encG g] (imS (iL (nL L))) ∧ DenU Tryz.prog [] 19 [encG g] (imS (iL (nL L))) := by
  have hR2 := hR
  simp only [rightG, Bool.and_eq_true, decide_eq_true_eq] at hR2
  have hok : okRows (calleesR g).length (calleesR g) := callees_ok g hR2.1 (Nat.le_trans hg.1 (by unfold maxI; omega))
  have hcl : (calleesR g).length = g.st.length := by simp [calleesR]
  have hb : okB (calleesR g) := fun r hr x hx => (hok r hr).2.2 x hx
  have hT := tur_turned hb
  have hb2 := okB_turned (calleesR g)
  have hE := ring_e g hg hst hs hR
  by_cases hno : ∀ w, w < (calleesR g).length → ¬ Cyc (calleesR g) w
  · refine ⟨[], by simp, DenE.one hE fun u hu => ?_, rring_d g g.nm.length [] hg hst hR (Nat.le_refl _) (fun w hw => hno w (by rw [hcl]; omega)) (.inl ⟨rfl, rfl⟩)⟩
    rcases hu with ⟨h, _⟩ | ⟨v, way, L, _, h1, h2, _⟩
    · exact h
    · exact absurd h2 (hno v h1)
  · simp only [Classical.not_forall] at hno
    obtain ⟨w, hw, hc⟩ := hno
    have hc : Cyc (calleesR g) w := Classical.not_not.1 hc
    obtain ⟨v, ⟨hv, hcv⟩, hmin⟩ := least_nat (p := fun w => w < (calleesR g).length ∧ Cyc (calleesR g) w) ⟨w, hw, hc⟩
    obtain ⟨way, hW⟩ := far_ex (turnedR (calleesR g)) v
    obtain ⟨L, hL⟩ := rg_ex hT hb hb2 (callees_rise g) hW hv hcv (calleesR g).length [] v (by simp) (rg_init hv)
    have hvn : v < g.nm.length := by
      obtain ⟨x, e, r⟩ := hcv
      have hlast : ∃ y, ES (calleesR g) y v := by
        cases r with
        | refl => exact ⟨_, e⟩
        | step _ e => exact ⟨_, e⟩
      obtain ⟨y, hy⟩ := hlast
      unfold ES at hy
      by_cases hyl : y < g.st.length
      · rw [show (calleesR g).getD y [] = rowR g.nm.length g.st[y] by simp [calleesR, hyl], rowR_mem] at hy
        obtain ⟨i, e, hi, _⟩ := hy
        omega
      · rw [show (calleesR g).getD y [] = [] by simp [calleesR, hyl]] at hy
        cases hy
    refine ⟨L, Nat.le_trans (nodup_len hL.nd hL.lt) (by omega), DenE.one hE fun u hu => ?_, rring_d g v L hg hst hR (by omega) (fun x hx h => ?_) (.inr ⟨hvn, way, hcv, hW, hL⟩)⟩
    · rcases hu with ⟨_, h⟩ | ⟨v', way', L', e, h1, h2, h3, h4, h5⟩
      · exact absurd hcv (h v hv)
      · have : v' = v := Nat.le_antisymm (h3 v hv hcv) (hmin v' ⟨h1, h2⟩)
        subst this
        have := far_unique hW h4
        subst this
        rw [e, ring_uni hT hb hb2 hW hv h5 hL]
    · have := hmin x ⟨by omega, h⟩
      omega
end Go.Proofs.YthekpmpcbidjiaaGreat
namespace Go.Proofs.YthekpmpcbidjiaaGreat
open Go Go.RowKit Go.Sort U
set_option linter.unusedVariables false
set_option linter.unusedSimpArgs false
set_option maxRecDepth 100000
set_option maxHeartbeats 4000000
def depF (F : List Int) (l : List Int) (s : Int) : Int := l.foldl (fun s t => max s (gt0 F t.toNat)) s
def dep1 (st : List (List Int)) (F : List Int) (v : Nat) : Int := depF F (st.getD v []) 0 + 1
def okD (m : Nat) (l : List Int) : Prop := ∀ x ∈ l, 0 ≤ x ∧ x ≤ m
theorem okD_at {m : Nat} {l : List Int} (h : okD m l) (i : Nat) : 0 ≤ gt0 l i ∧ gt0 l i ≤ m := by
  unfold gt0
  rw [List.getD_eq_getElem?_getD]
  cases hi : l[i]? with
  | none => simp
  | some x => exact h x (List.mem_of_getElem? hi)
theorem depF_in {m : Nat} {F : List Int} (hF : okD m F) : ∀ (l : List Int) (s : Int), 0 ≤ s ∧ s ≤ m → 0 ≤ depF F l s ∧ depF F l s ≤ m
  | [], s, h => h
  | t :: l, s, h => by
    have h1 := okD_at hF t.toNat
    exact depF_in hF l (max s (gt0 F t.toNat)) (by omega)
theorem dep1_in {m : Nat} {F : List Int} (hF : okD m F) (st : List (List Int)) (v : Nat) : 0 ≤ dep1 st F v ∧ dep1 st F v ≤ ((m + 1 : Nat) : Int) := by
  have := depF_in hF (st.getD v []) 0 (by omega)
  unfold dep1
  omega
theorem okD_set {m : Nat} {F : List Int} (hF : okD m F) (i : Nat) {x : Int} (hx : 0 ≤ x ∧ x ≤ ((m + 1 : Nat) : Int)) : okD (m + 1) (F.set i x) := fun y hy => by
  rcases List.mem_or_eq_of_mem_set hy with h | rfl
  · have := hF y h; omega
  · exact hx
theorem okD_zero (n : Nat) : okD 0 (List.replicate n 0) := fun x hx => by
  rw [(List.mem_replicate.1 hx).2]
  simp
theorem foldD_ok (st : List (List Int)) : ∀ (ord : List Int) {m : Nat} {F : List Int}, okD m F → okD (m + ord.length) (foldO (dep1 st) ord F)
  | [], m, F, h => h
  | t :: ord, m, F, h => by
    have := foldD_ok st ord (okD_set h t.toNat (dep1_in h st t.toNat))
    rw [foldO_cons, List.length_cons, show m + (ord.length + 1) = m + 1 + ord.length by omega]
    exact this
theorem depF_wrap {m : Nat} {F : List Int} (hF : okD m F) (hm : m ≤ 29000) (l : List Int) : IntKind.i64.wrap (depF F l 0 + 1) = depF F l 0 + 1 := by
  have := depF_in hF l 0 (by omega)
  rw [IntKind.wrap_i64]
  omega
theorem foldD_out {rule : List Int → Nat → Int} {i : Nat} : ∀ (ord F : List Int), (∀ t ∈ ord, ∃ v : Nat, t = (v : Int) ∧ v ≠ i) → gt0 (foldO rule ord F) i = gt0 F i
  | [], F, _ => rfl
  | t :: ord, F, h => by
    rw [foldO_cons, foldD_out ord _ fun t ht => h t (by simp [ht])]
    obtain ⟨v, rfl, hv⟩ := h t (by simp)
    exact gt0_set_ne (Ne.symm hv)
theorem rdeep_d (g : Gz) (hst : g.st.length ≤ 29000) (hrow : ∀ r ∈ g.st, r.length ≤ maxI) : DenU Tryz.prog [] 20 [encG g] (imS (iL (foldO (dep1 g.st) (orderR g.st).1 (List.replicate g.st.length 0)))) := by
  refine denU_of_sound hmixU fun Ts => SoundAt.body hmixU Tryz.func20 rfl rfl rfl 0 ?_
  have c1 := rorder_d g (by omega) hrow
  have hO := ordOk_of g.st
  obtain ⟨nm, st⟩ := g
  have cg := cleanG ⟨nm, st⟩
  dsimp only at hst hrow c1 hO ⊢
  have hmf := mk_full (zs := [.int .i64 0]) (n := (gL st).length) (b := 8) rfl rfl (by decide) (by rw [gL_len]; omega)
  have hol := hO.len
  generalize hord : (orderR st).1 = ord at *
  (repeat' ((conv => whnf); first | refine U.ob_c hmf ?_ | refine goA ?_ | refine U.spineC_p ?_ | refine goB ?_ | refine U.SoundAt.u (c1) clN ?_ | refine U.SoundC.u (c1) clN ?_ | refine U.lw_c (fun hb => ?_) (fun hb => ?_)))
  (conv => whnf)
  refine loop_inv (α := List Int × List Int) (fun x => x.1 ++ x.2 = ord) (fun x => (mkF [(1, .pointer (some ⟨0, 0, none⟩)), (2, .slice none 0 0), (3, .slice (some ⟨1, 0, none⟩) (gL st).length (gL st).length), (4, imS (iL ord)), (6, .int .i64 x.1.length)], ⟨mkO [(0, some (.cells 34 [imS (sL nm), imS (gL st)] false)), (1, some (.cells 3 (iL (foldO (dep1 st) x.1 (List.replicate st.length 0))) false))], 2, 0, 0⟩)) (fun x => x.2.length) ([], ord) rfl (Cov.renI rfl rfl rfl rfl (.cons rfl (.row _ _ _ _ (cleanG_cells ⟨nm, st⟩) rfl) (.cons rfl (.row _ _ _ _ (cleanIl0 _) ((by rw [foldO_nil, iL_zero, gL_len]; rfl))) .nil)) (.cons rfl (.P rfl) (.cons rfl (.F rfl rfl) (.cons rfl (.S rfl rfl rfl) (.cons rfl (.clean _ _ (cleanIL _) rfl) (.cons rfl .I .nil)))))) ?_
  rintro ⟨pre, rest⟩ p1
  dsimp only at p1
  dsimp only
  rcases rest with _ | ⟨x, rest⟩
  · rw [List.append_nil] at p1
    subst p1
    have h3b := U.lt_no iL_map pre
    (repeat' ((conv => whnf); first | refine goD ?_ | refine U.lw_c (fun hb => ?_) (fun hb => ?_)))
    (conv => whnf)
    exact .rowL (k := 1) (Nat.zero_le _) rfl (by rw [cellsI]) iL_1 (by rw [iL_len, foldO_len, gL_len]; simp) (Nat.le_refl _) (cleanIC _)
  · have hpo : (pre ++ x :: rest).length ≤ maxI := by rw [p1]; unfold maxI; omega
    obtain ⟨h3b, h3c, h3n, h3w⟩ := U.at4 iL_map pre (x) rest (hpo)
    have hpl : pre.length ≤ 29000 := by
      have := congrArg List.length p1
      simp at this
      omega
    rw [p1] at h3b h3c h3n
    obtain ⟨u, hul, rfl⟩ := hO.inn x (by rw [← p1]; simp)
    have hFl : (foldO (dep1 st) pre (List.replicate st.length 0)).length = st.length := by rw [foldO_len]; simp
    have hFu := foldD_ok st pre (okD_zero st.length)
    have hF0 : gt0 (foldO (dep1 st) pre (List.replicate st.length 0)) u = 0 := by
      rw [foldD_out pre _ fun t ht => ?_]
      · simp [gt0, List.getElem?_replicate, hul]
      · obtain ⟨w, _, rfl⟩ := hO.inn t (by rw [← p1]; simp [ht])
        refine ⟨w, rfl, fun e => ?_⟩
        subst e
        have := hO.nd
        rw [← p1] at this
        exact (List.nodup_append.1 this).2.2 _ ht (w : Int) (by simp) rfl
    have hfs := foldO_snoc (dep1 st) pre (List.replicate st.length 0) (u : Int)
    rw [show ((u : Nat) : Int).toNat = u from rfl] at hfs
    generalize foldO (dep1 st) pre (List.replicate st.length 0) = F at *
    rw [Nat.zero_add] at hFu
    have hset0 : F.set u 0 = F := by
      refine List.ext_getElem (by simp) fun i h1 h2 => ?_
      rw [List.getElem_set]
      split
      · rename_i e
        subst e
        have h3 := hF0
        simp [gt0, h2] at h3
        exact h3.symm
      · rfl
    obtain ⟨row, hrw⟩ : ∃ row, st[u]? = some row := ⟨st[u], by simp [hul]⟩
    have hrd : st.getD u [] = row := by simp [hrw]
    have hrl := hrow row (List.mem_of_getElem? hrw)
    have hub : u.blt (gL st).length = true := by rw [gL_len]; exact bLe hul
    have hun : nth (gL st) u = some (imS (iL row)) := by rw [nth_eq, gL]; simp [hrw]
    (repeat' ((conv => whnf); first | refine goD ?_ | refine U.lw_c (fun hb => ?_) (fun hb => ?_)))
    (conv => whnf)
    refine loop_inv (α := List Int × List Int) (fun y => y.1 ++ y.2 = row) (fun y => (mkF [(1, .pointer (some ⟨0, 0, none⟩)), (2, .slice none 0 0), (3, .slice (some ⟨1, 0, none⟩) (gL st).length (gL st).length), (4, imS (iL ord)), (6, .int .i64 pre.length), (7, .int .i64 u), (8, .int .i64 y.1.length)], ⟨mkO [(0, some (.cells 34 [imS (sL nm), imS (gL st)] false)), (1, some (.cells 3 (iL (F.set u (depF F y.1 0))) false))], 2, 0, 0⟩)) (fun y => y.2.length) ([], row) rfl (Cov.renI rfl rfl rfl rfl (.cons rfl (.row _ _ _ _ (cleanG_cells ⟨nm, st⟩) rfl) (.cons rfl (.row _ _ _ _ (cleanIl0 _) ((congrArg iL hset0))) .nil)) (.cons rfl (.P rfl) (.cons rfl (.F rfl rfl) (.cons rfl (.S rfl rfl rfl) (.cons rfl (.clean _ _ (cleanIL _) rfl) (.cons rfl .I (.cons rfl .I (.cons rfl .I .nil)))))))) ?_
    rintro ⟨p, q⟩ p3
    dsimp only at p3
    dsimp only
    have hst5 : ∀ (x : Int) (v : Value), 0 + u * 1 + [v].length ≤ (iL (F.set u x)).length := fun x v => by rw [iL_len, List.length_set, hFl, List.length_singleton]; omega
    rcases q with _ | ⟨t, q⟩
    · rw [List.append_nil] at p3
      subst p3
      have h4b := U.lt_no iL_map p
      have hwr := depF_wrap hFu hpl p
      have hdp : dep1 st F u = depF F p 0 + 1 := by rw [dep1, hrd]
      generalize depF F p 0 = s0 at *
      have hn1 := iL_nth0 (L := F.set u s0) (i := u) (by rw [List.length_set]; omega)
      rw [gt0_set_same (by omega)] at hn1
      have es2 := iL_store0 (L := F.set u s0) (i := u) (x := s0 + 1) (by rw [List.length_set]; omega)
      rw [List.set_set] at es2
      (repeat' ((conv => whnf); first | refine goA ?_ | (conv in (nth _ _) => (change nth _ (0 + u * 1); rw [hn1])) | refine U.storeC_p (hst5 s0 _) ?_ | refine goB ?_ | refine U.lw_c (fun hb => ?_) (fun hb => ?_)))
      (conv => whnf)
      refine ⟨(pre ++ [(u : Int)], rest), by rw [← p1]; simp, by simp, ?_⟩
      dsimp only
      rw [hfs, hdp]
      exact (Cov.renI rfl rfl rfl rfl (.cons rfl (.row _ _ _ _ (cleanG_cells ⟨nm, st⟩) rfl) (.cons rfl (.row _ _ _ _ (cleanIl0 _) ((by rw [hwr]; exact es2.symm))) .nil)) (.cons rfl (.P rfl) (.cons rfl (.F rfl rfl) (.cons rfl (.S rfl rfl rfl) (.cons rfl (.clean _ _ (cleanIL _) rfl) (.cons rfl (.clean _ _ (cleanI _) (congrArg (Value.int .i64) (h3w.symm))) .nil))))))
    · have hrl2 := hrl
      rw [← p3] at hrl2
      obtain ⟨h4b, h4c, h4n, h4w⟩ := U.at4 iL_map p (t) q (hrl2)
      rw [p3] at h4b h4c h4n
      have htp := hO.cl pre rest u p1.symm t (by rw [hrd, ← p3]; simp)
      obtain ⟨j, hjl, rfl⟩ := hO.inn t (by rw [← p1]; exact List.mem_append_left _ htp)
      have hju : j ≠ u := fun e => by
        subst e
        have := hO.nd
        rw [← p1] at this
        exact (List.nodup_append.1 this).2.2 _ htp (j : Int) (by simp) rfl
      have hjb : j.blt (gL st).length = true := by rw [gL_len]; exact bLe hjl
      have hss : depF F (p ++ [(j : Int)]) 0 = max (depF F p 0) (gt0 F j) := by simp [depF]
      generalize depF F p 0 = s0 at *
      have hn1 := iL_nth0 (L := F.set u s0) (i := u) (by rw [List.length_set]; omega)
      rw [gt0_set_same (by omega)] at hn1
      have hn2 := iL_nth0 (L := F.set u s0) (i := j) (by rw [List.length_set]; omega)
      rw [gt0_set_ne hju] at hn2
      (repeat' ((conv => whnf); first | refine goA ?_ | (conv in (nth _ _) => (change nth _ (0 + u * 1); rw [hn1])) | (conv in (nth _ _) => (change nth _ (0 + j * 1); rw [hn2])) | refine U.storeC_p (hst5 s0 _) ?_ | refine goB ?_ | refine U.drawX_p (D := U.propX) 19 [] (by decide +kernel) (by decide +kernel) ?_ | refine U.lw_c (fun hb => ?_) (fun hb => ?_)))
      (conv => whnf)
      have es2 := iL_store0 (L := F.set u s0) (i := u) (x := if gt0 F j > s0 then gt0 F j else s0) (by rw [List.length_set]; omega)
      rw [List.set_set] at es2
      refine ⟨(p ++ [(j : Int)], q), by rw [← p3]; simp, by simp, ?_⟩
      dsimp only
      rw [hss]
      rw [max_if]
      exact (Cov.renI rfl rfl rfl rfl (.cons rfl (.row _ _ _ _ (cleanG_cells ⟨nm, st⟩) rfl) (.cons rfl (.row _ _ _ _ (cleanIl0 _) (es2.symm)) .nil)) (.cons rfl (.P rfl) (.cons rfl (.F rfl rfl) (.cons rfl (.S rfl rfl rfl) (.cons rfl (.clean _ _ (cleanIL _) rfl) (.cons rfl .I (.cons rfl .I (.cons rfl (.clean _ _ (cleanI _) (congrArg (Value.int .i64) (h4w.symm))) .nil))))))))
end Go.Proofs.YthekpmpcbidjiaaGreat
