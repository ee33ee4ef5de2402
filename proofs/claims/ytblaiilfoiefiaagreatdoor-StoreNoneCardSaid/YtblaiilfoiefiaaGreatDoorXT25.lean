
import Derived.Test.YtblaiilfoiefiaaGreatDoorXT24
namespace Go.Proofs.YtblaiilfoiefiaaGreatDoor
open Go Go.RowKit Go.Sort U
set_option linter.unusedVariables false
set_option linter.unusedSimpArgs false
set_option maxRecDepth 100000
set_option maxHeartbeats 4000000
theorem str_eq (a b : ByteArray) : (a.toList == b.toList) = decide (a = b) := by
  rw [ByteArray.toList_eq, ByteArray.toList_eq]
  rw [Bool.eq_iff_iff, beq_iff_eq, decide_eq_true_iff]
  constructor
  · intro h; obtain ⟨⟨l⟩⟩ := a; obtain ⟨⟨m⟩⟩ := b; simp at h; subst h; rfl
  · rintro rfl; rfl
theorem chk_no {pre rest : List UInt8} {c : UInt8} (h : okC pre.isEmpty c = false) : okAll (pre ++ c :: rest) = false := by
  have e : okAll (pre ++ [c]) = false := by rw [okAll_snoc, h, Bool.and_false]
  have e2 : pre ++ c :: rest = (pre ++ [c]) ++ rest := by simp
  rw [e2]
  cases hx : okAll ((pre ++ [c]) ++ rest) with
  | false => rfl
  | true => rw [okAll_app _ _ hx] at e; cases e
theorem wordNo {pre rest : List UInt8} {c : UInt8} (h : okC pre.isEmpty c = false) : wordB ⟨⟨pre ++ c :: rest⟩⟩ = false := by
  unfold wordB
  rw [show (⟨⟨pre ++ c :: rest⟩⟩ : ByteArray).data.toList = pre ++ c :: rest from rfl, chk_no h, Bool.and_false]
theorem str_lt (pre rest : List UInt8) (c : UInt8) : decide (((pre.length : Nat) : Int) < ((⟨⟨pre ++ c :: rest⟩⟩ : ByteArray).size : Int)) = true := decide_eq_true (by
  show ((pre.length : Nat) : Int) < (((pre ++ c :: rest).length : Nat) : Int)
  rw [List.length_append, List.length_cons]; omega)
theorem str_no (pre : List UInt8) : decide (((pre.length : Nat) : Int) < ((⟨⟨pre⟩⟩ : ByteArray).size : Int)) = false := decide_eq_false (by
  show ¬ ((pre.length : Nat) : Int) < ((pre.length : Nat) : Int)
  omega)
theorem str_blt (pre rest : List UInt8) (c : UInt8) : Nat.blt pre.length (pre ++ c :: rest).length = true := bLe (by
  rw [List.length_append, List.length_cons]; omega)
theorem emp_eq (pre : List UInt8) : (((pre.length : Nat) : Int) == 0) = pre.isEmpty := by cases pre <;> simp; omega
theorem word_d (b : ByteArray) : DenU Tryz.prog [] 231 [.string b] (.bool (wordB b)) := by
  obtain ⟨⟨l⟩⟩ := b
  refine denU_of_body hmixU rfl Tryz.func231 rfl rfl rfl 0 ?_
  intro Ts
  (repeat' ((conv => whnf); first | refine goD ?_ | refine U.lw_c (fun hb => ?_) (fun hb => ?_)))
  all_goals (conv => whnf)
  · rw [str_eq] at hb
    have hb : (⟨⟨l⟩⟩ : ByteArray) = ⟨#[]⟩ := of_decide_eq_true hb
    cases hb
    exact .same (.flat _ rfl) rfl
  · have hb : ((⟨⟨l⟩⟩ : ByteArray).size : Int) > 32 := of_decide_eq_true hb
    exact .same (.flat _ rfl) (congrArg Value.bool (by unfold wordB; rw [decide_eq_false (p := (⟨⟨l⟩⟩ : ByteArray).size ≤ 32) (by omega)]; simp))
  · rename_i hb2
    rw [str_eq] at hb2
    have hb : ¬ ((⟨⟨l⟩⟩ : ByteArray).size : Int) > 32 := of_decide_eq_false hb
    have hb : l.length ≤ 32 := by
      have h2 : ¬ (l.length : Int) > 32 := hb
      omega
    have hb1 : 1 ≤ l.length := by
      rcases l with _ | ⟨c, l⟩
      · exact absurd rfl (of_decide_eq_false hb2)
      · simp
    clear hb2
    refine loop_inv (α := List UInt8 × List UInt8) (fun x => x.1 ++ x.2 = l ∧ okAll x.1 = true) (fun x => (mkF [(0, .string ⟨⟨l⟩⟩), (2, .bool false), (3, .int .i64 x.1.length)], ⟨mkO [], 0, 0, 0⟩)) (fun x => x.2.length) ([], l) ⟨rfl, rfl⟩ (Cov.slots (Nat.le_refl 0) ⟨rfl, rfl, rfl, trivial⟩) ?_
    rintro ⟨pre, rest⟩ ⟨p1, p2⟩
    dsimp only at p1 p2
    subst p1
    dsimp only
    rcases rest with _ | ⟨c, rest⟩
    · rw [List.append_nil] at *
      have zb := str_no pre
      (repeat' ((conv => whnf); first | refine goD ?_ | refine U.lw_c (fun hb => ?_) (fun hb => ?_)))
      all_goals (conv => whnf)
      exact .same (.flat _ rfl) (congrArg Value.bool (by
        unfold wordB
        rw [show (⟨⟨pre⟩⟩ : ByteArray).size = pre.length from rfl, show (⟨⟨pre⟩⟩ : ByteArray).data.toList = pre from rfl, p2, decide_eq_true hb, decide_eq_true hb1]; rfl))
    · have zb := str_lt pre rest c
      have zc := str_blt pre rest c
      have zn : nth ((pre ++ c :: rest).map U.byteV) pre.length = some (U.byteV c) := U.nth_at (en := fun l => l.map U.byteV) (fun _ => rfl) pre c rest
      have zw := U.len_snoc (pre := pre) (x := c) (post := rest) (by omega)
      (repeat' ((conv => whnf); first | refine goD ?_ | refine U.lw_c (fun hb => ?_) (fun hb => ?_)))
      all_goals (conv => whnf)
      all_goals try simp only [emp_eq] at *
      all_goals clear zb zc zn
      all_goals first
        | (refine .same (.flat _ rfl) (congrArg Value.bool (wordNo ?_).symm) <;> (simp_all [okC, letB] <;> omega); done)
        | (refine ⟨(pre ++ [c], rest), ⟨by simp, ?_⟩, by simp, Cov.slots (s := ⟨mkO [], 0, 0, 0⟩) (Nat.le_refl 0) ⟨rfl, rfl, congrArg (fun z => some (Value.int .i64 z)) zw, trivial⟩⟩; rw [okAll_snoc, p2]; (simp_all [okC, letB] <;> omega); done)
def kwT : List (Nat × List Value) := [(0, kwB.map Value.string)]
theorem kw_ok : gOk kwT = true := by kernel_rfl
def kwNo (b : ByteArray) (i : Nat) : Bool := (kwB.take i).all fun k => !decide (k = b)
theorem kwNo_end {b : ByteArray} (h : kwNo b 13 = true) : (kwB.any fun k => decide (k = b)) = false := by
  unfold kwNo at h
  rw [show kwB.take 13 = kwB from rfl] at h
  rw [Bool.eq_false_iff]
  intro h2
  obtain ⟨k, hk, h2⟩ := List.any_eq_true.1 h2
  have := List.all_eq_true.1 h k hk
  rw [h2] at this; cases this
theorem kwNo_s {b k : ByteArray} {i : Nat} (hi : i < 13) (hk : kwB[i]? = some k) (h : kwNo b i = true) (h2 : decide (k = b) = false) : kwNo b (i + 1) = true := by
  unfold kwNo at h ⊢
  rw [List.take_add_one, List.all_append, h, hk]
  simp [h2]
theorem kwYes {b k : ByteArray} (hk : k ∈ kwB) (h : k = b) : nameB b = false := by
  unfold nameB
  rw [show (kwB.any fun k => decide (k = b)) = true from List.any_eq_true.2 ⟨k, hk, decide_eq_true h⟩]
  rfl
theorem name_d (b : ByteArray) : DenU Tryz.prog kwT 180 [.string b] (.bool (nameB b)) := by
  refine denU_of_soundT kw_ok fun Ts => SoundAt.body hmixU Tryz.func180 rfl rfl rfl 0 ?_
  (repeat' ((conv => whnf); first | refine goD ?_ | refine U.lw_c (fun hb => ?_) (fun hb => ?_)))
  (conv => whnf)
  refine loop_inv (α := Nat) (fun i => i ≤ 13 ∧ kwNo b i = true) (fun i => (mkF [(0, .string b), (2, .bool false), (5, .agg ⟨kwB.map Value.string⟩), (6, .int .i64 i)], U.start kwT Ts)) (fun i => 13 - i) 0 ⟨by decide, rfl⟩ (Cov.slots (Nat.le_refl _) ⟨rfl, rfl, rfl, rfl, trivial⟩) ?_
  rintro i ⟨h1, h2⟩
  have h3 : i = 13 ∨ i = 0 ∨ i = 1 ∨ i = 2 ∨ i = 3 ∨ i = 4 ∨ i = 5 ∨ i = 6 ∨ i = 7 ∨ i = 8 ∨ i = 9 ∨ i = 10 ∨ i = 11 ∨ i = 12 := by omega
  have hw := word_d b
  rcases h3 with rfl | h3
  · (repeat' ((conv => whnf); first | refine goD ?_ | refine U.SoundAt.u (hw) (by (repeat (first | exact trivial | ((conv => whnf); first | exact trivial | refine And.intro (by first | assumption | exact cleanI _ | exact cleanEs _ | exact cleanSs _ | exact cleanE _ | exact cleanIL _ | exact NoNm.flat _ rfl) ?_)))) ?_ | refine U.SoundC.u (hw) (by (repeat (first | exact trivial | ((conv => whnf); first | exact trivial | refine And.intro (by first | assumption | exact cleanI _ | exact cleanEs _ | exact cleanSs _ | exact cleanE _ | exact cleanIL _ | exact NoNm.flat _ rfl) ?_)))) ?_ | refine U.lw_c (fun hb => ?_) (fun hb => ?_)))
    (conv => whnf)
    exact .same (.flat _ rfl) (congrArg Value.bool (by rw [nameB, kwNo_end h2]; rfl))
  · rcases h3 with rfl | rfl | rfl | rfl | rfl | rfl | rfl | rfl | rfl | rfl | rfl | rfl | rfl
    all_goals (repeat' ((conv => whnf); first | refine goD ?_ | refine U.lw_c (fun hb => ?_) (fun hb => ?_)))
    all_goals (conv => whnf)
    all_goals rw [str_eq] at hb
    all_goals first
      | exact .same (.flat _ rfl) (congrArg Value.bool (kwYes (by repeat (first | exact List.mem_cons_self | apply List.mem_cons_of_mem)) (of_decide_eq_true hb)).symm)
      | exact ⟨_, ⟨Nat.le_of_ble_eq_true rfl, kwNo_s (by decide) rfl h2 hb⟩, Nat.lt_of_lt_of_le (Nat.lt_succ_self _) (Nat.le_refl _), Cov.slots (s := U.start kwT Ts) (Nat.le_refl _) ⟨rfl, rfl, rfl, rfl, trivial⟩⟩
end Go.Proofs.YtblaiilfoiefiaaGreatDoor
