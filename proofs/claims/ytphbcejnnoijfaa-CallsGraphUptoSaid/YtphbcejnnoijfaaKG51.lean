
import Derived.Test.YtphbcejnnoijfaaKG33
import Derived.Test.YtphbcejnnoijfaaKG37
namespace Go.Proofs.Ytphbcejnnoijfaa
open Go Go.RowKit Go.Sort U
set_option linter.unusedVariables false
set_option linter.unusedSimpArgs false
set_option maxRecDepth 100000
set_option maxHeartbeats 8000000
theorem eqNm_d (l : List ByteArray) (hl : l.length ≤ 1000) : DenU Try.prog [] 45 [imS (sL l), imS (sL l)] (.bool true) := by
  refine denU_of_sound hmixU fun Ts => SoundAt.body hmixU Try.func45 rfl rfl rfl 0 ?_
  have kl := cleanSL l
  have hne : (((sL l).length : Int) != ((sL l).length : Int)) = false := by simp
  (repeat' ((conv => whnf); first | refine goD ?_ | refine U.lw_c (fun hb => ?_) (fun hb => ?_)))
  (conv => whnf)
  refine loop_inv (α := List ByteArray × List ByteArray) (fun y => y.1 ++ y.2 = l) (fun y => (mkF [(0, imS (sL l)), (1, imS (sL l)), (4, .bool false), (11, imS (sL l)), (12, .int .i64 (sL l).length), (13, .int .i64 y.1.length)], ⟨.e, 0, 0, 0⟩)) (fun y => y.2.length) ([], l) rfl (Cov.renI rfl rfl rfl rfl .nil (.cons rfl (.clean _ _ (kl) rfl) (.cons rfl (.clean _ _ (kl) rfl) (.cons rfl (.F rfl rfl) (.cons rfl (.clean _ _ (kl) rfl) (.cons rfl .I (.cons rfl .I .nil))))))) ?_
  rintro ⟨pre, rest⟩ p1
  dsimp only at p1
  subst p1
  dsimp only
  rcases rest with _ | ⟨x, rest⟩
  · rw [List.append_nil] at *
    have yb := U.lt_no sL_map pre
    (repeat' ((conv => whnf); first | refine goD ?_ | refine U.lw_c (fun hb => ?_) (fun hb => ?_)))
    (conv => whnf)
    exact .clean _ (.flat _ rfl)
  · have yb := U.lt_yes sL_map pre (x) rest; have yc := U.blt_yes sL_map pre (x) rest; have yn := U.nth_at sL_map pre (x) rest; have yw := U.len_snoc (pre := pre) (x := x) (post := rest) ((Nat.le_trans hl (by decide)))
    have kx : (!(x.toList == x.toList)) = false := by simp
    (repeat' ((conv => whnf); first | refine goD ?_ | refine U.drawX_p (D := U.propX) 9 [] (by decide +kernel) (by decide +kernel) ?_ | refine U.lw_c (fun hb => ?_) (fun hb => ?_)))
    (conv => whnf)
    exact ⟨(pre ++ [x], rest), by simp, by simp, (Cov.renI rfl rfl rfl rfl .nil (.cons rfl (.clean _ _ (kl) rfl) (.cons rfl (.clean _ _ (kl) rfl) (.cons rfl (.F rfl rfl) (.cons rfl (.clean _ _ (kl) rfl) (.cons rfl .I (.cons rfl (.clean _ _ (cleanI _) (congrArg (Value.int .i64) (yw.symm))) .nil)))))))⟩
theorem eqExprs_d (l : List AE) (hl : l.length ≤ 1000) (ih : ∀ e ∈ l, DenU Try.prog [] 47 [encA e, encA e] (.bool true)) : DenU Try.prog [] 46 [imS (encAs l), imS (encAs l), .func (.func 47) ⟨[]⟩ ⟨[]⟩] (.bool true) := by
  refine denU_of_sound hmixU fun Ts => SoundAt.body hmixU Try.func46 rfl rfl rfl 0 ?_
  have kl := cleanAs l
  have hne : (((encAs l).length : Int) != ((encAs l).length : Int)) = false := by simp
  (repeat' ((conv => whnf); first | refine goD ?_ | refine U.lw_c (fun hb => ?_) (fun hb => ?_)))
  (conv => whnf)
  refine loop_inv (α := List AE × List AE) (fun y => y.1 ++ y.2 = l) (fun y => (mkF [(0, imS (encAs l)), (1, imS (encAs l)), (2, .func (.func 47) ⟨[]⟩ ⟨[]⟩), (6, .bool false), (15, imS (encAs l)), (16, .int .i64 (encAs l).length), (17, .int .i64 y.1.length)], ⟨.e, 0, 0, 0⟩)) (fun y => y.2.length) ([], l) rfl (Cov.renI rfl rfl rfl rfl .nil (.cons rfl (.clean _ _ (kl) rfl) (.cons rfl (.clean _ _ (kl) rfl) (.cons rfl (.F rfl rfl) (.cons rfl (.F rfl rfl) (.cons rfl (.clean _ _ (kl) rfl) (.cons rfl .I (.cons rfl .I .nil)))))))) ?_
  rintro ⟨pre, rest⟩ p1
  dsimp only at p1
  subst p1
  dsimp only
  rcases rest with _ | ⟨x, rest⟩
  · rw [List.append_nil] at *
    have yb := U.lt_no encAs_map pre
    (repeat' ((conv => whnf); first | refine goD ?_ | refine U.lw_c (fun hb => ?_) (fun hb => ?_)))
    (conv => whnf)
    exact .clean _ (.flat _ rfl)
  · have yb := U.lt_yes encAs_map pre (x) rest; have yc := U.blt_yes encAs_map pre (x) rest; have yn := U.nth_at encAs_map pre (x) rest; have yw := U.len_snoc (pre := pre) (x := x) (post := rest) ((Nat.le_trans hl (by decide)))
    have c1 := ih x (by simp)
    have kx := cleanA x
    clear ih
    obtain ⟨x1, x2, x3, x4, x5, x6, x7⟩ := x
    (repeat' ((conv => whnf); first | refine goD ?_ | refine U.SoundAt.u (c1) (by (repeat (first | exact trivial | ((conv => whnf); first | exact trivial | refine And.intro (by first | assumption | exact cleanI _ | exact cleanIL _ | exact cleanBL _ | exact NoNm.flat _ rfl) ?_)))) ?_ | refine U.SoundC.u (c1) (by (repeat (first | exact trivial | ((conv => whnf); first | exact trivial | refine And.intro (by first | assumption | exact cleanI _ | exact cleanIL _ | exact cleanBL _ | exact NoNm.flat _ rfl) ?_)))) ?_ | refine U.lw_c (fun hb => ?_) (fun hb => ?_)))
    (conv => whnf)
    exact ⟨(pre ++ [⟨x1, x2, x3, x4, x5, x6, x7⟩], rest), by simp, by simp, (Cov.renI rfl rfl rfl rfl .nil (.cons rfl (.clean _ _ (kl) rfl) (.cons rfl (.clean _ _ (kl) rfl) (.cons rfl (.F rfl rfl) (.cons rfl (.F rfl rfl) (.cons rfl (.clean _ _ (kl) rfl) (.cons rfl .I (.cons rfl (.clean _ _ (cleanI _) (congrArg (Value.int .i64) (yw.symm))) .nil))))))))⟩
theorem eqStmts_d (l : List AS6) (hl : l.length ≤ 1000) (ih : ∀ e ∈ l, DenU Try.prog [] 29 [encT e, encT e] (.bool true)) : DenU Try.prog [] 28 [imS (encTs l), imS (encTs l), .func (.func 29) ⟨[]⟩ ⟨[]⟩] (.bool true) := by
  refine denU_of_sound hmixU fun Ts => SoundAt.body hmixU Try.func28 rfl rfl rfl 0 ?_
  have kl := cleanT6s l
  have hne : (((encTs l).length : Int) != ((encTs l).length : Int)) = false := by simp
  (repeat' ((conv => whnf); first | refine goD ?_ | refine U.lw_c (fun hb => ?_) (fun hb => ?_)))
  (conv => whnf)
  refine loop_inv (α := List AS6 × List AS6) (fun y => y.1 ++ y.2 = l) (fun y => (mkF [(0, imS (encTs l)), (1, imS (encTs l)), (2, .func (.func 29) ⟨[]⟩ ⟨[]⟩), (6, .bool false), (15, imS (encTs l)), (16, .int .i64 (encTs l).length), (17, .int .i64 y.1.length)], ⟨.e, 0, 0, 0⟩)) (fun y => y.2.length) ([], l) rfl (Cov.renI rfl rfl rfl rfl .nil (.cons rfl (.clean _ _ (kl) rfl) (.cons rfl (.clean _ _ (kl) rfl) (.cons rfl (.F rfl rfl) (.cons rfl (.F rfl rfl) (.cons rfl (.clean _ _ (kl) rfl) (.cons rfl .I (.cons rfl .I .nil)))))))) ?_
  rintro ⟨pre, rest⟩ p1
  dsimp only at p1
  subst p1
  dsimp only
  rcases rest with _ | ⟨x, rest⟩
  · rw [List.append_nil] at *
    have yb := U.lt_no encTs_map pre
    (repeat' ((conv => whnf); first | refine goD ?_ | refine U.lw_c (fun hb => ?_) (fun hb => ?_)))
    (conv => whnf)
    exact .clean _ (.flat _ rfl)
  · have yb := U.lt_yes encTs_map pre (x) rest; have yc := U.blt_yes encTs_map pre (x) rest; have yn := U.nth_at encTs_map pre (x) rest; have yw := U.len_snoc (pre := pre) (x := x) (post := rest) ((Nat.le_trans hl (by decide)))
    have c1 := ih x (by simp)
    have kx := cleanT6 x
    clear ih
    obtain ⟨x1, x2, x3, x4, x5, x6, x7⟩ := x
    (repeat' ((conv => whnf); first | refine goD ?_ | refine U.SoundAt.u (c1) (by (repeat (first | exact trivial | ((conv => whnf); first | exact trivial | refine And.intro (by first | assumption | exact cleanI _ | exact cleanIL _ | exact cleanBL _ | exact NoNm.flat _ rfl) ?_)))) ?_ | refine U.SoundC.u (c1) (by (repeat (first | exact trivial | ((conv => whnf); first | exact trivial | refine And.intro (by first | assumption | exact cleanI _ | exact cleanIL _ | exact cleanBL _ | exact NoNm.flat _ rfl) ?_)))) ?_ | refine U.lw_c (fun hb => ?_) (fun hb => ?_)))
    (conv => whnf)
    exact ⟨(pre ++ [⟨x1, x2, x3, x4, x5, x6, x7⟩], rest), by simp, by simp, (Cov.renI rfl rfl rfl rfl .nil (.cons rfl (.clean _ _ (kl) rfl) (.cons rfl (.clean _ _ (kl) rfl) (.cons rfl (.F rfl rfl) (.cons rfl (.F rfl rfl) (.cons rfl (.clean _ _ (kl) rfl) (.cons rfl .I (.cons rfl (.clean _ _ (cleanI _) (congrArg (Value.int .i64) (yw.symm))) .nil))))))))⟩
theorem eqDecls_d (l : List ADc) (hl : l.length ≤ 1000) (ih : ∀ e ∈ l, DenU Try.prog [] 27 [encDc e, encDc e] (.bool true)) : DenU Try.prog [] 26 [imS (encDcs l), imS (encDcs l), .func (.func 27) ⟨[]⟩ ⟨[]⟩] (.bool true) := by
  refine denU_of_sound hmixU fun Ts => SoundAt.body hmixU Try.func26 rfl rfl rfl 0 ?_
  have kl := cleanDcs l
  have hne : (((encDcs l).length : Int) != ((encDcs l).length : Int)) = false := by simp
  (repeat' ((conv => whnf); first | refine goD ?_ | refine U.lw_c (fun hb => ?_) (fun hb => ?_)))
  (conv => whnf)
  refine loop_inv (α := List ADc × List ADc) (fun y => y.1 ++ y.2 = l) (fun y => (mkF [(0, imS (encDcs l)), (1, imS (encDcs l)), (2, .func (.func 27) ⟨[]⟩ ⟨[]⟩), (6, .bool false), (15, imS (encDcs l)), (16, .int .i64 (encDcs l).length), (17, .int .i64 y.1.length)], ⟨.e, 0, 0, 0⟩)) (fun y => y.2.length) ([], l) rfl (Cov.renI rfl rfl rfl rfl .nil (.cons rfl (.clean _ _ (kl) rfl) (.cons rfl (.clean _ _ (kl) rfl) (.cons rfl (.F rfl rfl) (.cons rfl (.F rfl rfl) (.cons rfl (.clean _ _ (kl) rfl) (.cons rfl .I (.cons rfl .I .nil)))))))) ?_
  rintro ⟨pre, rest⟩ p1
  dsimp only at p1
  subst p1
  dsimp only
  rcases rest with _ | ⟨x, rest⟩
  · rw [List.append_nil] at *
    have yb := U.lt_no encDcs_map pre
    (repeat' ((conv => whnf); first | refine goD ?_ | refine U.lw_c (fun hb => ?_) (fun hb => ?_)))
    (conv => whnf)
    exact .clean _ (.flat _ rfl)
  · have yb := U.lt_yes encDcs_map pre (x) rest; have yc := U.blt_yes encDcs_map pre (x) rest; have yn := U.nth_at encDcs_map pre (x) rest; have yw := U.len_snoc (pre := pre) (x := x) (post := rest) ((Nat.le_trans hl (by decide)))
    have c1 := ih x (by simp)
    have kx := cleanDc x
    clear ih
    obtain ⟨x1, x2, x3, x4, x5, x6, x7, x8, x9⟩ := x
    (repeat' ((conv => whnf); first | refine goD ?_ | refine U.SoundAt.u (c1) (by (repeat (first | exact trivial | ((conv => whnf); first | exact trivial | refine And.intro (by first | assumption | exact cleanI _ | exact cleanIL _ | exact cleanBL _ | exact NoNm.flat _ rfl) ?_)))) ?_ | refine U.SoundC.u (c1) (by (repeat (first | exact trivial | ((conv => whnf); first | exact trivial | refine And.intro (by first | assumption | exact cleanI _ | exact cleanIL _ | exact cleanBL _ | exact NoNm.flat _ rfl) ?_)))) ?_ | refine U.lw_c (fun hb => ?_) (fun hb => ?_)))
    (conv => whnf)
    exact ⟨(pre ++ [⟨x1, x2, x3, x4, x5, x6, x7, x8, x9⟩], rest), by simp, by simp, (Cov.renI rfl rfl rfl rfl .nil (.cons rfl (.clean _ _ (kl) rfl) (.cons rfl (.clean _ _ (kl) rfl) (.cons rfl (.F rfl rfl) (.cons rfl (.F rfl rfl) (.cons rfl (.clean _ _ (kl) rfl) (.cons rfl .I (.cons rfl (.clean _ _ (cleanI _) (congrArg (Value.int .i64) (yw.symm))) .nil))))))))⟩
theorem sameE_d (k n : Int) (nm : ByteArray) (o : Int) (l : List AE) (ln cl : Int) (h : DenU Try.prog [] 46 [imS (encAs l), imS (encAs l), .func (.func 47) ⟨[]⟩ ⟨[]⟩] (.bool true)) : DenU Try.prog [] 47 [encA (.mk k n nm o l ln cl), encA (.mk k n nm o l ln cl)] (.bool true) := by
  refine denU_of_sound hmixU fun Ts => SoundAt.body hmixU Try.func47 rfl rfl rfl 0 ?_
  have k1 : (k == k) = true := by simp
  have k2 : (n == n) = true := by simp
  have k3 : (nm.toList == nm.toList) = true := by simp
  have k4 : (o == o) = true := by simp
  have kl := cleanAs l
  (repeat' ((conv => whnf); first | refine goD ?_ | refine U.SoundAt.u (h) (by (repeat (first | exact trivial | ((conv => whnf); first | exact trivial | refine And.intro (by first | assumption | exact cleanI _ | exact cleanIL _ | exact cleanBL _ | exact NoNm.flat _ rfl) ?_)))) ?_ | refine U.SoundC.u (h) (by (repeat (first | exact trivial | ((conv => whnf); first | exact trivial | refine And.intro (by first | assumption | exact cleanI _ | exact cleanIL _ | exact cleanBL _ | exact NoNm.flat _ rfl) ?_)))) ?_ | refine U.lw_c (fun hb => ?_) (fun hb => ?_)))
  (conv => whnf)
  exact .clean _ (.flat _ rfl)
theorem sameS_d (k : Int) (nm : ByteArray) (xs : List AE) (th el : List AS6) (ln cl : Int) (h1 : DenU Try.prog [] 46 [imS (encAs xs), imS (encAs xs), .func (.func 47) ⟨[]⟩ ⟨[]⟩] (.bool true)) (h2 : DenU Try.prog [] 28 [imS (encTs th), imS (encTs th), .func (.func 29) ⟨[]⟩ ⟨[]⟩] (.bool true)) (h3 : DenU Try.prog [] 28 [imS (encTs el), imS (encTs el), .func (.func 29) ⟨[]⟩ ⟨[]⟩] (.bool true)) : DenU Try.prog [] 29 [encT (.mk k nm xs th el ln cl), encT (.mk k nm xs th el ln cl)] (.bool true) := by
  refine denU_of_sound hmixU fun Ts => SoundAt.body hmixU Try.func29 rfl rfl rfl 0 ?_
  have k1 : (k == k) = true := by simp
  have k3 : (nm.toList == nm.toList) = true := by simp
  have kx := cleanAs xs
  have kt := cleanT6s th
  have ke := cleanT6s el
  (repeat' ((conv => whnf); first | refine goD ?_ | refine U.SoundAt.u (h1) (by (repeat (first | exact trivial | ((conv => whnf); first | exact trivial | refine And.intro (by first | assumption | exact cleanI _ | exact cleanIL _ | exact cleanBL _ | exact NoNm.flat _ rfl) ?_)))) ?_ | refine U.SoundAt.u (h2) (by (repeat (first | exact trivial | ((conv => whnf); first | exact trivial | refine And.intro (by first | assumption | exact cleanI _ | exact cleanIL _ | exact cleanBL _ | exact NoNm.flat _ rfl) ?_)))) ?_ | refine U.SoundAt.u (h3) (by (repeat (first | exact trivial | ((conv => whnf); first | exact trivial | refine And.intro (by first | assumption | exact cleanI _ | exact cleanIL _ | exact cleanBL _ | exact NoNm.flat _ rfl) ?_)))) ?_ | refine U.SoundC.u (h1) (by (repeat (first | exact trivial | ((conv => whnf); first | exact trivial | refine And.intro (by first | assumption | exact cleanI _ | exact cleanIL _ | exact cleanBL _ | exact NoNm.flat _ rfl) ?_)))) ?_ | refine U.SoundC.u (h2) (by (repeat (first | exact trivial | ((conv => whnf); first | exact trivial | refine And.intro (by first | assumption | exact cleanI _ | exact cleanIL _ | exact cleanBL _ | exact NoNm.flat _ rfl) ?_)))) ?_ | refine U.SoundC.u (h3) (by (repeat (first | exact trivial | ((conv => whnf); first | exact trivial | refine And.intro (by first | assumption | exact cleanI _ | exact cleanIL _ | exact cleanBL _ | exact NoNm.flat _ rfl) ?_)))) ?_ | refine U.lw_c (fun hb => ?_) (fun hb => ?_)))
  (conv => whnf)
  exact .clean _ (.flat _ rfl)
theorem sameD_d (d : ADc) (h2 : DenU Try.prog [] 28 [imS (encTs d.body), imS (encTs d.body), .func (.func 29) ⟨[]⟩ ⟨[]⟩] (.bool true)) (hp : d.ps.length ≤ 1000) : DenU Try.prog [] 27 [encDc d, encDc d] (.bool true) := by
  obtain ⟨k, nm, lo, hi, sz, ps, bd, ln, cl⟩ := d
  dsimp only at h2 hp
  have h1 := eqNm_d ps hp
  refine denU_of_sound hmixU fun Ts => SoundAt.body hmixU Try.func27 rfl rfl rfl 0 ?_
  have k1 : (k == k) = true := by simp
  have k2 : (lo == lo) = true := by simp
  have k4 : (hi == hi) = true := by simp
  have k5 : (sz == sz) = true := by simp
  have k3 : (nm.toList == nm.toList) = true := by simp
  have kx := cleanSL ps
  have kt := cleanT6s bd
  (repeat' ((conv => whnf); first | refine goD ?_ | refine U.SoundAt.u (h1) (by (repeat (first | exact trivial | ((conv => whnf); first | exact trivial | refine And.intro (by first | assumption | exact cleanI _ | exact cleanIL _ | exact cleanBL _ | exact NoNm.flat _ rfl) ?_)))) ?_ | refine U.SoundAt.u (h2) (by (repeat (first | exact trivial | ((conv => whnf); first | exact trivial | refine And.intro (by first | assumption | exact cleanI _ | exact cleanIL _ | exact cleanBL _ | exact NoNm.flat _ rfl) ?_)))) ?_ | refine U.SoundC.u (h1) (by (repeat (first | exact trivial | ((conv => whnf); first | exact trivial | refine And.intro (by first | assumption | exact cleanI _ | exact cleanIL _ | exact cleanBL _ | exact NoNm.flat _ rfl) ?_)))) ?_ | refine U.SoundC.u (h2) (by (repeat (first | exact trivial | ((conv => whnf); first | exact trivial | refine And.intro (by first | assumption | exact cleanI _ | exact cleanIL _ | exact cleanBL _ | exact NoNm.flat _ rfl) ?_)))) ?_ | refine U.lw_c (fun hb => ?_) (fun hb => ?_)))
  (conv => whnf)
  exact .clean _ (.flat _ rfl)
theorem eqEs_all : ∀ (n : Nat) (l : List AE), szAs l ≤ n → n ≤ 1000 → DenU Try.prog [] 46 [imS (encAs l), imS (encAs l), .func (.func 47) ⟨[]⟩ ⟨[]⟩] (.bool true)
  | 0, l, h, hn => by
    have := szAs_len l
    have : l = [] := List.eq_nil_of_length_eq_zero (by omega)
    subst this
    exact eqExprs_d [] (by simp) fun e he => by cases he
  | n + 1, l, h, hn => eqExprs_d l (Nat.le_trans (szAs_len l) (by omega)) fun e he => by
    obtain ⟨k, m, nm, o, l', ln, cl⟩ := e
    have := szAs_mem he
    rw [szA] at this
    exact sameE_d k m nm o l' ln cl (eqEs_all n l' (by omega) (by omega))
theorem eqSs_all : ∀ (n : Nat) (l : List AS6), szTs l ≤ n → n ≤ 1000 → DenU Try.prog [] 28 [imS (encTs l), imS (encTs l), .func (.func 29) ⟨[]⟩ ⟨[]⟩] (.bool true)
  | 0, l, h, hn => by
    have := szTs_len l
    have : l = [] := List.eq_nil_of_length_eq_zero (by omega)
    subst this
    exact eqStmts_d [] (by simp) fun e he => by cases he
  | n + 1, l, h, hn => eqStmts_d l (Nat.le_trans (szTs_len l) (by omega)) fun e he => by
    obtain ⟨k, nm, xs, th, el, ln, cl⟩ := e
    have := szTs_mem he
    rw [szT] at this
    exact sameS_d k nm xs th el ln cl (eqEs_all _ xs (Nat.le_refl _) (by omega)) (eqSs_all n th (by omega) (by omega)) (eqSs_all n el (by omega) (by omega))
theorem same6_d (p : APr) (h1 : p.ds.length ≤ 300) (h2 : ∀ d ∈ p.ds, d.ps.length ≤ 40) (h3 : szPr p ≤ 300) : DenU Try.prog [] 13 [encPr p, encPr p] (.bool true) := by
  obtain ⟨ds, mn⟩ := p
  unfold szPr at h3
  dsimp only at h1 h2 h3
  have c2 := eqSs_all _ mn (Nat.le_refl _) (by omega)
  have c1 := eqDecls_d ds (by omega) fun d hd => sameD_d d (eqSs_all _ d.body (Nat.le_refl _) (by have := szDs_mem hd; omega)) (by have := h2 d hd; omega)
  refine denU_of_sound hmixU fun Ts => SoundAt.body hmixU Try.func13 rfl rfl rfl 0 ?_
  have kx := cleanDcs ds
  have kt := cleanT6s mn
  (repeat' ((conv => whnf); first | refine goD ?_ | refine U.SoundAt.u (c1) (by (repeat (first | exact trivial | ((conv => whnf); first | exact trivial | refine And.intro (by first | assumption | exact cleanI _ | exact cleanIL _ | exact cleanBL _ | exact NoNm.flat _ rfl) ?_)))) ?_ | refine U.SoundAt.u (c2) (by (repeat (first | exact trivial | ((conv => whnf); first | exact trivial | refine And.intro (by first | assumption | exact cleanI _ | exact cleanIL _ | exact cleanBL _ | exact NoNm.flat _ rfl) ?_)))) ?_ | refine U.SoundC.u (c1) (by (repeat (first | exact trivial | ((conv => whnf); first | exact trivial | refine And.intro (by first | assumption | exact cleanI _ | exact cleanIL _ | exact cleanBL _ | exact NoNm.flat _ rfl) ?_)))) ?_ | refine U.SoundC.u (c2) (by (repeat (first | exact trivial | ((conv => whnf); first | exact trivial | refine And.intro (by first | assumption | exact cleanI _ | exact cleanIL _ | exact cleanBL _ | exact NoNm.flat _ rfl) ?_)))) ?_ | refine U.lw_c (fun hb => ?_) (fun hb => ?_)))
  (conv => whnf)
  exact .clean _ (.flat _ rfl)
end Go.Proofs.Ytphbcejnnoijfaa
