
import Derived.Test.YtphbcejnnoijfaaKG46
namespace Go.Proofs.Ytphbcejnnoijfaa
open Go Go.RowKit Go.Sort U
set_option linter.unusedVariables false
set_option linter.unusedSimpArgs false
set_option maxRecDepth 100000
set_option maxHeartbeats 16000000
theorem of_ok (p : APr) (hf : FewA p) {rows : List (List Int)} (h : ofG p = .inl rows) : DenR Try.prog 8 [encPr p] (uOf (namesD p.ds) rows) (hOf (namesD p.ds) rows) :=
  denR_of_sound hmixU fun Ts => (of_at p hf Ts).mono fun u s _ hq => by
    unfold OfQ at hq
    rw [h] at hq
    exact hq
theorem of_no (p : APr) (hf : FewA p) {f : Int × Int} (h : ofG p = .inr f) : DenU Try.prog [] 8 [encPr p] (.tuple ⟨[.agg ⟨[imS [], imS []]⟩, fltV f.1 f.2 120]⟩) :=
  denU_of_sound hmixU fun Ts => (of_at p hf Ts).mono fun u s _ hq => by
    unfold OfQ at hq
    rw [h] at hq
    subst hq
    exact .tupL (.cons (.aggL (.cons .nil (.cons .nil .nil))) (.cons (.clean _ (.flat _ rfl)) .nil))
theorem strq_eq (a b : ByteArray) : (a.toList == b.toList) = decide (a = b) := by
  rw [ByteArray.toList_eq, ByteArray.toList_eq]
  rw [Bool.eq_iff_iff, beq_iff_eq, decide_eq_true_iff]
  constructor
  · intro h; obtain ⟨⟨l⟩⟩ := a; obtain ⟨⟨m⟩⟩ := b; simp at h; subst h; rfl
  · rintro rfl; rfl
def plZ (ns : List ByteArray) (s : ByteArray) : Int := match getM (mOf ns) s with
  | some i => i
  | none => -1
theorem getM_not {s : ByteArray} : ∀ {n : Nat} {l : List ByteArray}, s ∉ l → getM (mOfF n l) s = none
  | n, [], _ => rfl
  | n, a :: l, h => by
    rw [mOfF, getM, if_neg fun e => h (by rw [e]; simp)]
    exact getM_not fun hm => h (List.mem_cons_of_mem _ hm)
theorem mOfF_app (l : List ByteArray) : ∀ (n : Nat) (a : List ByteArray), mOfF n (a ++ l) = mOfF n a ++ mOfF (n + a.length) l
  | n, [] => rfl
  | n, b :: a => by rw [List.cons_append, mOfF, mOfF, mOfF_app l (n + 1) a, List.cons_append, List.length_cons, show n + 1 + a.length = n + (a.length + 1) by omega]
theorem plZ_mid {pre rest : List ByteArray} {s : ByteArray} (h : s ∉ pre) : plZ (pre ++ s :: rest) s = (pre.length : Int) := by
  rw [plZ, mOf, mOfF_app, getM_app, getM_not h]
  dsimp only
  rw [mOfF, getM, if_pos rfl]
  simp
theorem plZ_none {ns : List ByteArray} {s : ByteArray} (h : s ∉ ns) : plZ ns s = -1 := by
  rw [plZ, mOf, getM_not h]
theorem getM_nn {s : ByteArray} {i : Int} : ∀ {n : Nat} {l : List ByteArray}, getM (mOfF n l) s = some i → 0 ≤ i
  | n, [], h => by cases h
  | n, a :: l, h => by
    rw [mOfF, getM] at h
    split at h
    · cases h; omega
    · exact getM_nn h
theorem place_d (ns : List ByteArray) (s : ByteArray) (hl : ns.length ≤ maxI) : DenU Try.prog [] 24 [imS (sL ns), .string s] (.int .i64 (plZ ns s)) := by
  refine denU_of_body hmixU rfl Try.func24 rfl rfl rfl 0 ?_
  intro Ts
  (repeat' ((conv => whnf); first | refine goD ?_ | refine U.lw_c (fun hb => ?_) (fun hb => ?_)))
  (conv => whnf)
  refine loop_inv (α := List ByteArray × List ByteArray) (fun x => x.1 ++ x.2 = ns ∧ s ∉ x.1) (fun x => (mkF [(0, imS (sL ns)), (1, .string s), (4, .int .i64 0), (5, .int .i64 x.1.length)], ⟨.e, 0, 0, 0⟩)) (fun x => x.2.length) ([], ns) ⟨rfl, by simp⟩ (Cov.slots (Nat.le_refl _) ⟨rfl, rfl, rfl, rfl, trivial⟩) ?_
  rintro ⟨pre, rest⟩ ⟨p1, p2⟩
  dsimp only at p1 p2
  subst p1
  dsimp only
  rcases rest with _ | ⟨x, rest⟩
  · rw [List.append_nil] at *
    have h3b := U.lt_no sL_map pre
    (repeat' ((conv => whnf); first | refine goD ?_ | refine U.lw_c (fun hb => ?_) (fun hb => ?_)))
    (conv => whnf)
    exact .same (.flat _ rfl) (congrArg (Value.int .i64) (plZ_none p2).symm)
  · obtain ⟨h3b, h3c, h3n, h3w⟩ := U.at4 sL_map pre (x) rest (hl)
    by_cases hx : x = s
    · subst hx
      have hb : (x.toList == x.toList) = true := by simp
      (repeat' ((conv => whnf); first | refine goD ?_ | refine U.lw_c (fun hb => ?_) (fun hb => ?_)))
      (conv => whnf)
      exact .same (.flat _ rfl) (congrArg (Value.int .i64) (plZ_mid p2).symm)
    · have hb : (x.toList == s.toList) = false := by rw [strq_eq]; exact decide_eq_false hx
      (repeat' ((conv => whnf); first | refine goD ?_ | refine U.lw_c (fun hb => ?_) (fun hb => ?_)))
      (conv => whnf)
      exact ⟨(pre ++ [x], rest), ⟨by simp, by simp [p2]; exact fun e => hx e.symm⟩, by simp, Cov.slots (s := ⟨.e, 0, 0, 0⟩) (Nat.le_refl 0) ⟨rfl, rfl, rfl, congrArg some (congrArg (Value.int .i64) h3w), trivial⟩⟩
end Go.Proofs.Ytphbcejnnoijfaa
