/- Going over expressions of layer 13, operands first: what is yielded. -/
import Derived.Test.YthbhnbnlbhpooaaTJ
import Derived.Test.YthbhnbnlbhpooaaUI
namespace Go.Proofs.Ythbhnbnlbhpooaa
open Go Go.RowKit Go.Sort U
set_option linter.unusedVariables false
set_option linter.unusedSimpArgs false
set_option maxRecDepth 100000
set_option maxHeartbeats 4000000
mutual
def postE : Ex → List Ex
  | .mk k n a o l => postEs l ++ [.mk k n a o l]
def postEs : List Ex → List Ex
  | [] => []
  | e :: l => postE e ++ postEs l
end
def yl (l : Nat) : Value := .func (.yield l) ⟨[]⟩ ⟨[]⟩
theorem each_d (es : List Ex) (hes : es.length ≤ maxI) (ih : ∀ k n a o m, Ex.mk k n a o m ∈ es → IterP Try.prog 23 [imS (encEs m), yl 0] (encEs (postEs m)) (.bool true)) : IterP Try.prog 23 [imS (encEs es), yl 0] (encEs (postEs es)) (.bool true) := by
  refine IterP.body rfl Try.func23 rfl rfl rfl ?_
  refine IterT.seq (IterT.pure hmixU ?_)
  (repeat' ((conv => whnf); first | refine U.lw_t ?_ | refine U.lw_f ?_ | refine U.lit_t ?_ | refine U.lit_f ?_ | refine U.ob_t ?_ | refine U.ob_c (by first | (with_reducible assumption) | exact Nat.ble_eq_true_of_le (by omega) | exact Nat.ble_eq_true_of_le (by simp at *; omega)) ?_ | refine U.nv_c (by with_reducible assumption) ?_ | refine U.lw_t' (by with_reducible assumption) ?_ | refine U.lw_f' (by with_reducible assumption) ?_ | refine U.lw_c (fun hb => ?_) (fun hb => ?_)))
  refine ⟨mkF [(0, imS (encEs es)), (1, yl 0), (4, .bool false)], .sl0 ⟨rfl, rfl, rfl, trivial⟩, ?_⟩
  refine IterT.seq (IterT.seq (IterT.pure hmixU ?_))
  (repeat' ((conv => whnf); first | refine U.lw_t ?_ | refine U.lw_f ?_ | refine U.lit_t ?_ | refine U.lit_f ?_ | refine U.ob_t ?_ | refine U.ob_c (by first | (with_reducible assumption) | exact Nat.ble_eq_true_of_le (by omega) | exact Nat.ble_eq_true_of_le (by simp at *; omega)) ?_ | refine U.nv_c (by with_reducible assumption) ?_ | refine U.lw_t' (by with_reducible assumption) ?_ | refine U.lw_f' (by with_reducible assumption) ?_ | refine U.lw_c (fun hb => ?_) (fun hb => ?_)))
  refine ⟨mkF [(1, yl 0), (4, .bool false), (7, imS (encEs es)), (8, .int .i64 (encEs es).length), (9, .int .i64 0)], .sl0 ⟨rfl, rfl, rfl, rfl, rfl, trivial⟩, ?_⟩
  refine IterT.block (IterT.loop (α := List Ex × List Ex) (fun x => x.1 ++ x.2 = es) (fun x => (mkF [(1, yl 0), (4, .bool false), (7, imS (encEs es)), (8, .int .i64 (encEs es).length), (9, .int .i64 x.1.length)], encEs (postEs x.2))) (fun x => x.2.length) ([], es) rfl rfl ?_)
  rintro ⟨pre, rest⟩ h1
  dsimp only at h1 ⊢
  rcases rest with _ | ⟨⟨k, n, a, o, m⟩, post⟩
  · rw [List.append_nil] at h1
    subst h1
    have zb := U.lt_no encEs_map pre
    refine IterT.pure hmixU ?_
    (repeat' ((conv => whnf); first | refine U.lw_t ?_ | refine U.lw_f ?_ | refine U.lit_t ?_ | refine U.lit_f ?_ | refine U.ob_t ?_ | refine U.ob_c (by first | (with_reducible assumption) | exact Nat.ble_eq_true_of_le (by omega) | exact Nat.ble_eq_true_of_le (by simp at *; omega)) ?_ | refine U.nv_c (by with_reducible assumption) ?_ | refine U.lw_t' (by with_reducible assumption) ?_ | refine U.lw_f' (by with_reducible assumption) ?_ | refine U.lw_c (fun hb => ?_) (fun hb => ?_)))
    (conv => whnf)
    refine ⟨mkF [], .sl0 trivial, IterT.pure hmixU ?_⟩
    (repeat' ((conv => whnf); first | refine U.lw_t ?_ | refine U.lw_f ?_ | refine U.lit_t ?_ | refine U.lit_f ?_ | refine U.ob_t ?_ | refine U.ob_c (by first | (with_reducible assumption) | exact Nat.ble_eq_true_of_le (by omega) | exact Nat.ble_eq_true_of_le (by simp at *; omega)) ?_ | refine U.nv_c (by with_reducible assumption) ?_ | refine U.lw_t' (by with_reducible assumption) ?_ | refine U.lw_f' (by with_reducible assumption) ?_ | refine U.lw_c (fun hb => ?_) (fun hb => ?_)))
    exact ⟨mkF [(4, .bool true)], .sl0 ⟨rfl, trivial⟩, rfl, rfl⟩
  · subst h1
    have zb := U.lt_yes encEs_map pre (Ex.mk k n a o m) post; have zc := U.blt_yes encEs_map pre (Ex.mk k n a o m) post; have zn := U.nth_at encEs_map pre (Ex.mk k n a o m) post; have zw := U.len_snoc (pre := pre) (x := Ex.mk k n a o m) (post := post) (hes)
    rw [show encEs (postEs (.mk k n a o m :: post)) = encEs (postEs m) ++ (encE (.mk k n a o m) :: encEs (postEs post)) by
      rw [postEs, postE, encEs_map, encEs_map, encEs_map, List.map_append, List.map_append, List.append_assoc]; rfl]
    refine IterT.seq (IterT.pure hmixU ?_)
    (repeat' ((conv => whnf); first | refine U.lw_t ?_ | refine U.lw_f ?_ | refine U.lit_t ?_ | refine U.lit_f ?_ | refine U.ob_t ?_ | refine U.ob_c (by first | (with_reducible assumption) | exact Nat.ble_eq_true_of_le (by omega) | exact Nat.ble_eq_true_of_le (by simp at *; omega)) ?_ | refine U.nv_c (by with_reducible assumption) ?_ | refine U.lw_t' (by with_reducible assumption) ?_ | refine U.lw_f' (by with_reducible assumption) ?_ | refine U.lw_c (fun hb => ?_) (fun hb => ?_)))
    refine ⟨mkF [(1, yl 0), (4, .bool false), (7, imS (encEs (pre ++ .mk k n a o m :: post))), (8, .int .i64 (encEs (pre ++ .mk k n a o m :: post)).length), (9, .int .i64 pre.length), (10, .bool true)], .sl0 ⟨rfl, rfl, rfl, rfl, rfl, congrArg (fun b => some (Value.bool b)) zb, trivial⟩, ?_⟩
    refine IterT.seq (IterT.pure hmixU ?_)
    (repeat' ((conv => whnf); first | refine U.lw_t ?_ | refine U.lw_f ?_ | refine U.lit_t ?_ | refine U.lit_f ?_ | refine U.ob_t ?_ | refine U.ob_c (by first | (with_reducible assumption) | exact Nat.ble_eq_true_of_le (by omega) | exact Nat.ble_eq_true_of_le (by simp at *; omega)) ?_ | refine U.nv_c (by with_reducible assumption) ?_ | refine U.lw_t' (by with_reducible assumption) ?_ | refine U.lw_f' (by with_reducible assumption) ?_ | refine U.lw_c (fun hb => ?_) (fun hb => ?_)))
    refine ⟨mkF [(1, yl 0), (4, .bool false), (7, imS (encEs (pre ++ .mk k n a o m :: post))), (8, .int .i64 (encEs (pre ++ .mk k n a o m :: post)).length), (9, .int .i64 pre.length)], .sl0 ⟨rfl, rfl, rfl, rfl, rfl, trivial⟩, ?_⟩
    refine IterT.seq (IterT.block (IterT.seq (IterT.pure hmixU ?_)))
    (repeat' ((conv => whnf); first | refine U.lw_t ?_ | refine U.lw_f ?_ | refine U.lit_t ?_ | refine U.lit_f ?_ | refine U.ob_t ?_ | refine U.ob_c (by first | (with_reducible assumption) | exact Nat.ble_eq_true_of_le (by omega) | exact Nat.ble_eq_true_of_le (by simp at *; omega)) ?_ | refine U.nv_c (by with_reducible assumption) ?_ | refine U.lw_t' (by with_reducible assumption) ?_ | refine U.lw_f' (by with_reducible assumption) ?_ | refine U.lw_c (fun hb => ?_) (fun hb => ?_)))
    refine ⟨mkF [(1, yl 0), (4, .bool false), (6, imP (encE (.mk k n a o m)) 0), (7, imS (encEs (pre ++ .mk k n a o m :: post))), (8, .int .i64 (encEs (pre ++ .mk k n a o m :: post)).length), (9, .int .i64 pre.length)], .box1 (T := 46) (x := encE (.mk k n a o m)) (xs := [.int .i64 k, .int .i64 n, .int .i64 a, .int .i64 o, imS (encEs m)]) rfl rfl rfl rfl (by simp) (cleanE_cells (.mk k n a o m))
          (.cons rfl (.yld 0 0 (by decide) rfl) (.cons rfl (.clean _ _ (.flat _ rfl) rfl) (.cons rfl (.ext _ _ ⟨rfl, rfl⟩) (.cons rfl (.clean _ _ (cleanEs _) rfl) (.cons rfl (.clean _ _ (cleanI _) rfl) (.cons rfl (.clean _ _ (cleanI _) rfl) .nil)))))), ?_⟩
    refine IterT.seq (IterT.region (OpsI.cut 3 ?_))
    (repeat' ((conv => whnf); first | refine U.lw_t ?_ | refine U.lw_f ?_ | refine U.lit_t ?_ | refine U.lit_f ?_ | refine U.ob_t ?_ | refine U.ob_c (by first | (with_reducible assumption) | exact Nat.ble_eq_true_of_le (by omega) | exact Nat.ble_eq_true_of_le (by simp at *; omega)) ?_ | refine U.nv_c (by with_reducible assumption) ?_ | refine U.lw_t' (by with_reducible assumption) ?_ | refine U.lw_f' (by with_reducible assumption) ?_ | refine U.lw_c (fun hb => ?_) (fun hb => ?_)))
    refine ⟨mkF [(1, yl 0), (4, .bool false), (6, imP (encE (.mk k n a o m)) 0), (7, imS (encEs (pre ++ .mk k n a o m :: post))), (8, .int .i64 (encEs (pre ++ .mk k n a o m :: post)).length), (9, .int .i64 pre.length), (14, imS (encEs m)), (15, yl 0)], .sl0 ⟨rfl, rfl, rfl, rfl, rfl, rfl, rfl, rfl, trivial⟩, ?_⟩
    refine OpsI.call rfl rfl rfl rfl rfl (by decide +kernel) rfl (ih k n a o m (by simp)) ?_
    (conv => whnf)
    refine U.ob_c rfl ?_
    (conv => whnf)
    refine OpsI.cut 4 ?_
    (repeat' ((conv => whnf); first | refine U.lw_t ?_ | refine U.lw_f ?_ | refine U.lit_t ?_ | refine U.lit_f ?_ | refine U.ob_t ?_ | refine U.ob_c (by first | (with_reducible assumption) | exact Nat.ble_eq_true_of_le (by omega) | exact Nat.ble_eq_true_of_le (by simp at *; omega)) ?_ | refine U.nv_c (by with_reducible assumption) ?_ | refine U.lw_t' (by with_reducible assumption) ?_ | refine U.lw_f' (by with_reducible assumption) ?_ | refine U.lw_c (fun hb => ?_) (fun hb => ?_)))
    refine ⟨mkF [(1, yl 0), (4, .bool false), (6, imP (encE (.mk k n a o m)) 0), (7, imS (encEs (pre ++ .mk k n a o m :: post))), (8, .int .i64 (encEs (pre ++ .mk k n a o m :: post)).length), (9, .int .i64 pre.length), (18, .bool false), (19, yl 0), (20, encE (.mk k n a o m))], .sl0 ⟨rfl, rfl, rfl, rfl, rfl, rfl, rfl, rfl, rfl, trivial⟩, ?_⟩
    refine OpsI.round rfl rfl rfl rfl rfl (cleanE _) ?_
    (conv => whnf)
    refine U.ob_c rfl ?_
    (conv => whnf)
    refine OpsI.cut 2 ?_
    (repeat' ((conv => whnf); first | refine U.lw_t ?_ | refine U.lw_f ?_ | refine U.lit_t ?_ | refine U.lit_f ?_ | refine U.ob_t ?_ | refine U.ob_c (by first | (with_reducible assumption) | exact Nat.ble_eq_true_of_le (by omega) | exact Nat.ble_eq_true_of_le (by simp at *; omega)) ?_ | refine U.nv_c (by with_reducible assumption) ?_ | refine U.lw_t' (by with_reducible assumption) ?_ | refine U.lw_f' (by with_reducible assumption) ?_ | refine U.lw_c (fun hb => ?_) (fun hb => ?_)))
    refine ⟨mkF [(1, yl 0), (4, .bool false), (7, imS (encEs (pre ++ .mk k n a o m :: post))), (8, .int .i64 (encEs (pre ++ .mk k n a o m :: post)).length), (9, .int .i64 pre.length), (23, .bool false)], .sl0 ⟨rfl, rfl, rfl, rfl, rfl, rfl, trivial⟩, OpsI.nil ?_⟩
    refine IterT.pure hmixU ?_
    (repeat' ((conv => whnf); first | refine U.lw_t ?_ | refine U.lw_f ?_ | refine U.lit_t ?_ | refine U.lit_f ?_ | refine U.ob_t ?_ | refine U.ob_c (by first | (with_reducible assumption) | exact Nat.ble_eq_true_of_le (by omega) | exact Nat.ble_eq_true_of_le (by simp at *; omega)) ?_ | refine U.nv_c (by with_reducible assumption) ?_ | refine U.lw_t' (by with_reducible assumption) ?_ | refine U.lw_f' (by with_reducible assumption) ?_ | refine U.lw_c (fun hb => ?_) (fun hb => ?_)))
    refine ⟨mkF [(1, yl 0), (4, .bool false), (7, imS (encEs (pre ++ .mk k n a o m :: post))), (8, .int .i64 (encEs (pre ++ .mk k n a o m :: post)).length), (9, .int .i64 pre.length)], .sl0 ⟨rfl, rfl, rfl, rfl, rfl, trivial⟩, IterT.pure hmixU ?_⟩
    (repeat' ((conv => whnf); first | refine U.lw_t ?_ | refine U.lw_f ?_ | refine U.lit_t ?_ | refine U.lit_f ?_ | refine U.ob_t ?_ | refine U.ob_c (by first | (with_reducible assumption) | exact Nat.ble_eq_true_of_le (by omega) | exact Nat.ble_eq_true_of_le (by simp at *; omega)) ?_ | refine U.nv_c (by with_reducible assumption) ?_ | refine U.lw_t' (by with_reducible assumption) ?_ | refine U.lw_f' (by with_reducible assumption) ?_ | refine U.lw_c (fun hb => ?_) (fun hb => ?_)))
    refine ⟨mkF [(1, yl 0), (4, .bool false), (7, imS (encEs (pre ++ .mk k n a o m :: post))), (8, .int .i64 (encEs (pre ++ .mk k n a o m :: post)).length), (9, .int .i64 (pre ++ [Ex.mk k n a o m]).length)], .sl0 ?_, (pre ++ [.mk k n a o m], post), by simp, by simp, rfl⟩
    exact ⟨rfl, rfl, rfl, rfl, congrArg (fun z => some (Value.int .i64 z)) zw, trivial⟩
theorem each_all : ∀ (N : Nat) (es : List Ex), szEs es ≤ N → szEs es ≤ 1000 → IterP Try.prog 23 [imS (encEs es), yl 0] (encEs (postEs es)) (.bool true)
  | 0, es, h0, h1 => each_d es (Nat.le_trans (Nat.le_trans (szEs_len es) h1) (by decide)) fun k n a o m hm => by
    have := szEs_mem hm
    have := szE_pos (.mk k n a o m)
    omega
  | N + 1, es, h0, h1 => each_d es (Nat.le_trans (Nat.le_trans (szEs_len es) h1) (by decide)) fun k n a o m hm => by
    have := szEs_mem hm
    rw [szE] at this
    exact each_all N m (by omega) (by omega)
/-- What the program's iterator over expressions yields. -/
theorem exprs_d (es : List Ex) (hes : szEs es ≤ 1000) : IterP Try.prog 22 [yl 0, imP (imS (encEs es)) 0] (encEs (postEs es)) undef := by
  refine IterP.body rfl Try.func22 rfl rfl rfl ?_
  have e : encEs (postEs es) = encEs (postEs es) ++ [] := (List.append_nil _).symm
  rw [e]
  refine IterT.region (OpsI.cut 2 ?_)
  (repeat' ((conv => whnf); first | refine U.lw_t ?_ | refine U.lw_f ?_ | refine U.lit_t ?_ | refine U.lit_f ?_ | refine U.ob_t ?_ | refine U.ob_c (by first | (with_reducible assumption) | exact Nat.ble_eq_true_of_le (by omega) | exact Nat.ble_eq_true_of_le (by simp at *; omega)) ?_ | refine U.nv_c (by with_reducible assumption) ?_ | refine U.lw_t' (by with_reducible assumption) ?_ | refine U.lw_f' (by with_reducible assumption) ?_ | refine U.lw_c (fun hb => ?_) (fun hb => ?_)))
  refine ⟨mkF [(3, imS (encEs es)), (4, yl 0)], .sl0 ⟨rfl, rfl, trivial⟩, ?_⟩
  refine OpsI.call rfl rfl rfl rfl rfl (by decide +kernel) rfl (each_all 1000 es hes hes) ?_
  (conv => whnf)
  refine U.ob_c rfl ?_
  (conv => whnf)
  exact OpsI.nil ⟨rfl, rfl⟩
end Go.Proofs.Ythbhnbnlbhpooaa
