
import Derived.Test.YtblaiilfoiefiaaGreatDoorXT27
import Derived.Test.YtblaiilfoiefiaaGreatDoorXT28
namespace Go.Proofs.YtblaiilfoiefiaaGreatDoor
open Go Go.RowKit Go.Sort U
set_option linter.unusedVariables false
set_option linter.unusedSimpArgs false
set_option maxRecDepth 100000
set_option maxHeartbeats 4000000
theorem one_d (o : Int) : DenU Tryz.prog [] 232 [.int .i64 o] (.bool (oneB o)) := by
  refine denU_of_body hmixU rfl Tryz.func232 rfl rfl rfl 0 ?_
  intro Ts
  (repeat' ((conv => whnf); first | refine goD ?_ | refine U.lw_c (fun hb => ?_) (fun hb => ?_)))
  all_goals (conv => whnf)
  all_goals refine .same (.flat _ rfl) (congrArg Value.bool ?_)
  all_goals unfold oneB
  all_goals rw [hb]
  all_goals rfl
theorem encEs_len (l : List Ex) : (encEs l).length = l.length := by rw [encEs_map, List.length_map]
theorem isE_iff {α : Type} (l : List α) : l.isEmpty = decide (l.length = 0) := by cases l <;> simp
theorem standsE_d (p : Pg) (e : Ex) : DenU Tryz.prog [] 182 [encP p, encE e] (.bool (ownE p.slots p.arrs.length e)) := by
  refine denU_of_body hmixU rfl Tryz.func182 rfl rfl rfl 0 ?_
  intro Ts
  obtain ⟨k, n, a, o, l⟩ := e
  obtain ⟨sl, arrs, ins, procs, main⟩ := p
  have h1 := one_d o
  have hl := encEs_len l
  have ha := iL_len arrs
  obtain ⟨q, hq⟩ : ∃ q, oneB o = q := ⟨_, rfl⟩
  rw [hq] at h1
  dsimp only
  obtain ⟨b, hr⟩ : ∃ b, b = ownE sl arrs.length (.mk k n a o l) := ⟨_, rfl⟩
  rw [← hr]
  simp only [ownE, hq, isE_iff] at hr
  rcases (by omega : k = 0 ∨ k = 1 ∨ k = 2 ∨ k = 3 ∨ k = 4 ∨ (¬ k = 0 ∧ ¬ k = 1 ∧ ¬ k = 2 ∧ ¬ k = 3 ∧ ¬ k = 4)) with rfl | rfl | rfl | rfl | rfl | ⟨k0, k1, k2, k3, k4⟩
  · (repeat' ((conv => whnf); first | refine goD ?_ | refine ⟨_, h1, (by (repeat (first | exact trivial | ((conv => whnf); first | exact trivial | refine And.intro (by first | assumption | exact cleanI _ | exact cleanEs _ | exact cleanSs _ | exact cleanE _ | exact cleanIL _ | exact NoNm.flat _ rfl) ?_)))), tab0 _, ?_⟩ | refine U.lw_c (fun hb => ?_) (fun hb => ?_)))
    all_goals (conv => whnf)
    all_goals refine .same (.flat _ rfl) (congrArg Value.bool ?_)
    all_goals (clear h1; first | grind | (subst hr; simp at *; grind) | skip)
  · (repeat' ((conv => whnf); first | refine goD ?_ | refine ⟨_, h1, (by (repeat (first | exact trivial | ((conv => whnf); first | exact trivial | refine And.intro (by first | assumption | exact cleanI _ | exact cleanEs _ | exact cleanSs _ | exact cleanE _ | exact cleanIL _ | exact NoNm.flat _ rfl) ?_)))), tab0 _, ?_⟩ | refine U.lw_c (fun hb => ?_) (fun hb => ?_)))
    all_goals (conv => whnf)
    all_goals refine .same (.flat _ rfl) (congrArg Value.bool ?_)
    all_goals (clear h1; first | grind | (subst hr; simp at *; grind) | skip)
  · (repeat' ((conv => whnf); first | refine goD ?_ | refine ⟨_, h1, (by (repeat (first | exact trivial | ((conv => whnf); first | exact trivial | refine And.intro (by first | assumption | exact cleanI _ | exact cleanEs _ | exact cleanSs _ | exact cleanE _ | exact cleanIL _ | exact NoNm.flat _ rfl) ?_)))), tab0 _, ?_⟩ | refine U.drawX_p (D := U.propX) 5 [] (by decide +kernel) (by decide +kernel) ?_ | refine U.lw_c (fun hb => ?_) (fun hb => ?_)))
    all_goals (conv => whnf)
    all_goals refine .same (.flat _ rfl) (congrArg Value.bool ?_)
    all_goals (clear h1; first | grind | (subst hr; simp at *; grind) | skip)
  · (repeat' ((conv => whnf); first | refine goD ?_ | refine ⟨_, h1, (by (repeat (first | exact trivial | ((conv => whnf); first | exact trivial | refine And.intro (by first | assumption | exact cleanI _ | exact cleanEs _ | exact cleanSs _ | exact cleanE _ | exact cleanIL _ | exact NoNm.flat _ rfl) ?_)))), tab0 _, ?_⟩ | refine U.lw_c (fun hb => ?_) (fun hb => ?_)))
    all_goals (conv => whnf)
    all_goals refine .same (.flat _ rfl) (congrArg Value.bool ?_)
    all_goals (clear h1; first | grind | (subst hr; simp at *; grind) | skip)
  · (repeat' ((conv => whnf); first | refine goD ?_ | refine ⟨_, h1, (by (repeat (first | exact trivial | ((conv => whnf); first | exact trivial | refine And.intro (by first | assumption | exact cleanI _ | exact cleanEs _ | exact cleanSs _ | exact cleanE _ | exact cleanIL _ | exact NoNm.flat _ rfl) ?_)))), tab0 _, ?_⟩ | refine U.lw_c (fun hb => ?_) (fun hb => ?_)))
    all_goals (conv => whnf)
    all_goals refine .same (.flat _ rfl) (congrArg Value.bool ?_)
    all_goals (clear h1; first | grind | (subst hr; simp at *; grind) | skip)
  · have g0 : (k == 0) = false := by simpa using k0
    have g1 : (k == 1) = false := by simpa using k1
    have g2 : (k == 2) = false := by simpa using k2
    have g3 : (k == 3) = false := by simpa using k3
    have g4 : (k == 4) = false := by simpa using k4
    (repeat' ((conv => whnf); first | refine goD ?_ | refine ⟨_, h1, (by (repeat (first | exact trivial | ((conv => whnf); first | exact trivial | refine And.intro (by first | assumption | exact cleanI _ | exact cleanEs _ | exact cleanSs _ | exact cleanE _ | exact cleanIL _ | exact NoNm.flat _ rfl) ?_)))), tab0 _, ?_⟩ | refine U.lw_c (fun hb => ?_) (fun hb => ?_)))
    all_goals (conv => whnf)
    all_goals refine .same (.flat _ rfl) (congrArg Value.bool ?_)
    all_goals (clear h1; first | grind | (subst hr; simp at *; grind) | skip)
def yl (l : Nat) : Value := .func (.yield l) ⟨[]⟩ ⟨[]⟩
theorem eachq_d (es : List Ex) (hes : es.length ≤ maxI) (ih : ∀ k n a o m, Ex.mk k n a o m ∈ es → IterQ Tryz.prog 162 [imS (encEs m), yl 0] (encEs (postEs m)) (.bool true) (.bool false)) : IterQ Tryz.prog 162 [imS (encEs es), yl 0] (encEs (postEs es)) (.bool true) (.bool false) := by
  refine IterQ.body rfl rfl Tryz.func162 rfl rfl rfl ?_
  refine IterU.seq (IterU.pure hmixU ?_)
  (repeat' ((conv => whnf); first | refine goD ?_ | refine U.lw_c (fun hb => ?_) (fun hb => ?_)))
  refine ⟨mkF [(0, imS (encEs es)), (1, yl 0), (4, .bool false)], .sl0 ⟨rfl, rfl, rfl, trivial⟩, ?_⟩
  refine IterU.seq (IterU.seq (IterU.pure hmixU ?_))
  (repeat' ((conv => whnf); first | refine goD ?_ | refine U.lw_c (fun hb => ?_) (fun hb => ?_)))
  refine ⟨mkF [(1, yl 0), (4, .bool false), (7, imS (encEs es)), (8, .int .i64 (encEs es).length), (9, .int .i64 0)], .sl0 ⟨rfl, rfl, rfl, rfl, rfl, trivial⟩, ?_⟩
  refine IterU.block (IterU.loop (α := List Ex × List Ex) (fun x => x.1 ++ x.2 = es) (fun x => (mkF [(1, yl 0), (4, .bool false), (7, imS (encEs es)), (8, .int .i64 (encEs es).length), (9, .int .i64 x.1.length)], some (encEs (postEs x.2)))) (fun x => x.2.length) ([], es) rfl rfl ?_)
  rintro ⟨pre, rest⟩ h1
  dsimp only at h1 ⊢
  rcases rest with _ | ⟨⟨k, n, a, o, m⟩, post⟩
  · rw [List.append_nil] at h1
    subst h1
    have zb := U.lt_no encEs_map pre
    refine IterU.pure hmixU ?_
    (repeat' ((conv => whnf); first | refine goD ?_ | refine U.lw_c (fun hb => ?_) (fun hb => ?_)))
    (conv => whnf)
    refine ⟨mkF [], .sl0 trivial, IterU.pure hmixU ?_⟩
    (repeat' ((conv => whnf); first | refine goD ?_ | refine U.lw_c (fun hb => ?_) (fun hb => ?_)))
    exact ⟨mkF [(4, .bool true)], .sl0 ⟨rfl, trivial⟩, .inl rfl, fun _ => rfl, fun h => by cases h⟩
  · subst h1
    have zb := U.lt_yes encEs_map pre (Ex.mk k n a o m) post; have zc := U.blt_yes encEs_map pre (Ex.mk k n a o m) post; have zn := U.nth_at encEs_map pre (Ex.mk k n a o m) post; have zw := U.len_snoc (pre := pre) (x := Ex.mk k n a o m) (post := post) (hes)
    rw [show encEs (postEs (.mk k n a o m :: post)) = encEs (postEs m) ++ (encE (.mk k n a o m) :: encEs (postEs post)) by
      rw [postEs, postE, encEs_map, encEs_map, encEs_map, List.map_append, List.map_append, List.append_assoc]; rfl]
    refine IterU.seq (IterU.pure hmixU ?_)
    (repeat' ((conv => whnf); first | refine goD ?_ | refine U.lw_c (fun hb => ?_) (fun hb => ?_)))
    refine ⟨mkF [(1, yl 0), (4, .bool false), (7, imS (encEs (pre ++ .mk k n a o m :: post))), (8, .int .i64 (encEs (pre ++ .mk k n a o m :: post)).length), (9, .int .i64 pre.length), (10, .bool true)], .sl0 ⟨rfl, rfl, rfl, rfl, rfl, congrArg (fun b => some (Value.bool b)) zb, trivial⟩, ?_⟩
    refine IterU.seq (IterU.pure hmixU ?_)
    (repeat' ((conv => whnf); first | refine goD ?_ | refine U.lw_c (fun hb => ?_) (fun hb => ?_)))
    refine ⟨mkF [(1, yl 0), (4, .bool false), (7, imS (encEs (pre ++ .mk k n a o m :: post))), (8, .int .i64 (encEs (pre ++ .mk k n a o m :: post)).length), (9, .int .i64 pre.length)], .sl0 ⟨rfl, rfl, rfl, rfl, rfl, trivial⟩, ?_⟩
    refine IterU.seq (IterU.block (IterU.seq (IterU.pure hmixU ?_)))
    (repeat' ((conv => whnf); first | refine goD ?_ | refine U.lw_c (fun hb => ?_) (fun hb => ?_)))
    refine ⟨mkF [(1, yl 0), (4, .bool false), (6, imP (encE (.mk k n a o m)) 0), (7, imS (encEs (pre ++ .mk k n a o m :: post))), (8, .int .i64 (encEs (pre ++ .mk k n a o m :: post)).length), (9, .int .i64 pre.length)], .box1 (T := 126) (x := encE (.mk k n a o m)) (xs := [.int .i64 k, .int .i64 n, .int .i64 a, .int .i64 o, imS (encEs m)]) rfl rfl rfl rfl (by simp) (cleanE_cells (.mk k n a o m))
          (.cons rfl (.yld 0 0 (by decide) rfl) (.cons rfl (.F rfl rfl) (.cons rfl (.ext _ _ ⟨rfl, rfl⟩) (.cons rfl (.clean _ _ (cleanEs _) rfl) (.cons rfl .I (.cons rfl .I .nil)))))), ?_⟩
    refine IterU.seq (IterU.region (OpsU.cut 3 ?_))
    (repeat' ((conv => whnf); first | refine goD ?_ | refine U.lw_c (fun hb => ?_) (fun hb => ?_)))
    refine ⟨mkF [(1, yl 0), (4, .bool false), (6, imP (encE (.mk k n a o m)) 0), (7, imS (encEs (pre ++ .mk k n a o m :: post))), (8, .int .i64 (encEs (pre ++ .mk k n a o m :: post)).length), (9, .int .i64 pre.length), (14, imS (encEs m)), (15, yl 0)], .sl0 ⟨rfl, rfl, rfl, rfl, rfl, rfl, rfl, rfl, trivial⟩, ?_⟩
    refine OpsU.call rfl rfl rfl rfl rfl rfl (by decide +kernel) rfl (ih k n a o m (by simp)) ?_ ?_
    rotate_left
    · (conv => whnf)
      refine U.ob_c rfl ?_
      (conv => whnf)
      refine OpsU.cut 7 ?_
      (repeat' ((conv => whnf); first | refine goD ?_ | refine U.lw_c (fun hb => ?_) (fun hb => ?_)))
      refine ⟨mkF [(23, .bool true)], .sl0 ⟨rfl, trivial⟩, OpsU.nil ?_⟩
      refine IterU.pure hmixU ?_
      (repeat' ((conv => whnf); first | refine goD ?_ | refine U.lw_c (fun hb => ?_) (fun hb => ?_)))
      exact ⟨mkF [(4, .bool false)], .sl0 ⟨rfl, trivial⟩, .inr rfl, (fun h => by cases h), fun _ => rfl⟩
    (conv => whnf)
    refine U.ob_c rfl ?_
    (conv => whnf)
    refine OpsU.cut 4 ?_
    (repeat' ((conv => whnf); first | refine goD ?_ | refine U.lw_c (fun hb => ?_) (fun hb => ?_)))
    refine ⟨mkF [(1, yl 0), (4, .bool false), (6, imP (encE (.mk k n a o m)) 0), (7, imS (encEs (pre ++ .mk k n a o m :: post))), (8, .int .i64 (encEs (pre ++ .mk k n a o m :: post)).length), (9, .int .i64 pre.length), (18, .bool false), (19, yl 0), (20, encE (.mk k n a o m))], .sl0 ⟨rfl, rfl, rfl, rfl, rfl, rfl, rfl, rfl, rfl, trivial⟩, ?_⟩
    refine OpsU.round rfl rfl rfl rfl rfl (cleanE _) ?_ ?_
    rotate_left
    · (conv => whnf)
      refine U.ob_c rfl ?_
      (conv => whnf)
      refine OpsU.cut 2 ?_
      (repeat' ((conv => whnf); first | refine goD ?_ | refine U.lw_c (fun hb => ?_) (fun hb => ?_)))
      refine ⟨mkF [(23, .bool true)], .sl0 ⟨rfl, trivial⟩, OpsU.nil ?_⟩
      refine IterU.pure hmixU ?_
      (repeat' ((conv => whnf); first | refine goD ?_ | refine U.lw_c (fun hb => ?_) (fun hb => ?_)))
      exact ⟨mkF [(4, .bool false)], .sl0 ⟨rfl, trivial⟩, .inr rfl, (fun h => by cases h), fun _ => rfl⟩
    (conv => whnf)
    refine U.ob_c rfl ?_
    (conv => whnf)
    refine OpsU.cut 2 ?_
    (repeat' ((conv => whnf); first | refine goD ?_ | refine U.lw_c (fun hb => ?_) (fun hb => ?_)))
    refine ⟨mkF [(1, yl 0), (4, .bool false), (7, imS (encEs (pre ++ .mk k n a o m :: post))), (8, .int .i64 (encEs (pre ++ .mk k n a o m :: post)).length), (9, .int .i64 pre.length), (23, .bool false)], .sl0 ⟨rfl, rfl, rfl, rfl, rfl, rfl, trivial⟩, OpsU.nil ?_⟩
    refine IterU.pure hmixU ?_
    (repeat' ((conv => whnf); first | refine goD ?_ | refine U.lw_c (fun hb => ?_) (fun hb => ?_)))
    refine ⟨mkF [(1, yl 0), (4, .bool false), (7, imS (encEs (pre ++ .mk k n a o m :: post))), (8, .int .i64 (encEs (pre ++ .mk k n a o m :: post)).length), (9, .int .i64 pre.length)], .sl0 ⟨rfl, rfl, rfl, rfl, rfl, trivial⟩, IterU.pure hmixU ?_⟩
    (repeat' ((conv => whnf); first | refine goD ?_ | refine U.lw_c (fun hb => ?_) (fun hb => ?_)))
    refine ⟨mkF [(1, yl 0), (4, .bool false), (7, imS (encEs (pre ++ .mk k n a o m :: post))), (8, .int .i64 (encEs (pre ++ .mk k n a o m :: post)).length), (9, .int .i64 (pre ++ [Ex.mk k n a o m]).length)], .sl0 ?_, (pre ++ [.mk k n a o m], post), by simp, by simp, rfl⟩
    exact ⟨rfl, rfl, rfl, rfl, congrArg (fun z => some (Value.int .i64 z)) zw, trivial⟩
theorem eachq_all : ∀ (N : Nat) (es : List Ex), szEs es ≤ N → szEs es ≤ 1000 → IterQ Tryz.prog 162 [imS (encEs es), yl 0] (encEs (postEs es)) (.bool true) (.bool false)
  | 0, es, h0, h1 => eachq_d es (Nat.le_trans (Nat.le_trans (szEs_len es) h1) (by decide)) fun k n a o m hm => by
    have := szEs_mem hm
    have := szE_pos (.mk k n a o m)
    omega
  | N + 1, es, h0, h1 => eachq_d es (Nat.le_trans (Nat.le_trans (szEs_len es) h1) (by decide)) fun k n a o m hm => by
    have := szEs_mem hm
    rw [szE] at this
    exact eachq_all N m (by omega) (by omega)
theorem exprs_q (es : List Ex) (hes : szEs es ≤ 1000) : IterQ Tryz.prog 161 [yl 0, imP (imS (encEs es)) 0] (encEs (postEs es)) undef undef := by
  refine IterQ.body rfl rfl Tryz.func161 rfl rfl rfl ?_
  have e : encEs (postEs es) = encEs (postEs es) ++ [] := (List.append_nil _).symm
  rw [e]
  refine IterU.region (OpsU.cut 2 ?_)
  (repeat' ((conv => whnf); first | refine goD ?_ | refine U.lw_c (fun hb => ?_) (fun hb => ?_)))
  refine ⟨mkF [(3, imS (encEs es)), (4, yl 0)], .sl0 ⟨rfl, rfl, trivial⟩, ?_⟩
  refine OpsU.call rfl rfl rfl rfl rfl rfl (by decide +kernel) rfl (eachq_all 1000 es hes hes) ?_ ?_
  all_goals (conv => whnf)
  all_goals refine U.ob_c rfl ?_
  all_goals (conv => whnf)
  · exact OpsU.nil ⟨.inl rfl, (fun _ => rfl), fun h => by cases h⟩
  · exact OpsU.nil ⟨.inr rfl, (fun h => by cases h), fun _ => rfl⟩
end Go.Proofs.YtblaiilfoiefiaaGreatDoor
