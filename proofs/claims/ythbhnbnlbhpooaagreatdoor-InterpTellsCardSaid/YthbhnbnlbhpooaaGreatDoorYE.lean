/- InterpTells: its walk. -/
import Derived.Test.YthbhnbnlbhpooaaGreatDoorYD
namespace Go.Proofs.YthbhnbnlbhpooaaGreatDoor
open Go Go.RowKit Go.Sort U
set_option linter.unusedVariables false
set_option linter.unusedSimpArgs false
set_option maxRecDepth 100000
set_option maxHeartbeats 4000000
theorem sameR_self (a : Rz) : sameR a a = true := by simp [sameR]
theorem prefR_self (a : Rz) : prefR a a = true := by rw [prefR, sameR_self]; rfl
def wordB (e : Int) : ByteArray := if e = 0 then ⟨#[101, 110, 100, 101, 100]⟩ else if e = 1 then ⟨#[115, 116, 97, 114, 118, 101, 100]⟩ else if e = 2 then ⟨#[116, 114, 97, 112, 112, 101, 100]⟩ else ⟨#[]⟩
theorem wordS_eq (e : Int) : wordS e = .string (wordB e) := by unfold wordS wordB; split; rfl; split; rfl; split <;> rfl
theorem tellsLaw_d (a b : Rz) (e : Int) (oka : okR a) (okb : okR b) : DenU Tryz.prog kwT 3 [encR a, encR b, .int .i64 e] (.bool true) := by
  refine denU_of_soundT kw_ok fun Ts => SoundAt.body hmixU Tryz.func3 rfl rfl rfl 0 ?_
  have c0 := cleanR a
  have c1 := cleanR b
  have tb : ∀ s : AS, s.glb = 3 → s.heap.get 2 = (U.start kwT Ts).heap.get 2 → Tabled kwT s := fun s h1 h2 x hx => by
    rw [kwT, List.mem_singleton] at hx
    subst hx
    exact ⟨by rw [h1]; decide, Ts 2, by rw [h2]; rfl⟩
  have h1 := isame_d a b oka
  have h2 := rsame_d a b oka
  have h3 := ipref_d a b oka
  have h4 := rpref_d a b oka
  have h5 := isame_d a a oka
  have h6 := ipref_d b b okb
  have h7 := word_d e
  have h8 := rword_d e
  have h9 := rsame_d a a oka
  have h10 := result_d a
  have h11 := result_d b
  rw [sameR_self] at h5 h9
  rw [prefR_self] at h6
  rw [wordS_eq] at h7 h8
  generalize wordB e = wb at h7 h8
  generalize sameR a b = q1 at h1 h2
  generalize prefR a b = q2 at h3 h4
  obtain ⟨e1, os, bs, n⟩ := a
  obtain ⟨e2, os', bs', n'⟩ := b
  (repeat' ((conv => whnf); first | refine U.lw_t ?_ | refine U.lw_f ?_ | refine U.lit_t ?_ | refine U.lit_f ?_ | refine U.ob_t ?_ | refine U.SoundAt.uT kw_ok works16_d trivial (tb _ rfl rfl) ?_ | refine U.ob_c (by first | (with_reducible assumption) | exact Nat.ble_eq_true_of_le (by omega) | exact Nat.ble_eq_true_of_le (by simp at *; omega)) ?_ | refine U.nv_c (by with_reducible assumption) ?_ | refine U.lw_t' (by with_reducible assumption) ?_ | refine U.lw_f' (by with_reducible assumption) ?_ | refine U.lw_c (fun hb => ?_) (fun hb => ?_)))
  all_goals (conv => whnf)
  iterate 4 · exact .clean _ (.flat _ rfl)
  rename_i g1 g2 g3
  have g1 : ¬ (100 : Int) < (iL os).length := of_decide_eq_false g1
  have g2 : ¬ (100 : Int) < (bL bs).length := of_decide_eq_false g2
  have g3 : ¬ (100 : Int) < (iL os').length := of_decide_eq_false g3
  have g4 : ¬ (100 : Int) < (bL bs').length := of_decide_eq_false hb
  rw [iL, List.length_map] at g1 g3
  rw [bL, List.length_map] at g2 g4
  have h10 := h10 (by show os.length ≤ _; omega) (by show bs.length ≤ _; omega)
  have h11 := h11 (by show os'.length ≤ _; omega) (by show bs'.length ≤ _; omega)
  (repeat' ((conv => whnf); first | refine U.lw_t ?_ | refine U.lw_f ?_ | refine U.lit_t ?_ | refine U.lit_f ?_ | refine U.ob_t ?_ | refine U.lw_t' (beq_self_eq_true _) ?_ | refine U.SoundC.uT kw_ok works16_d trivial (tb _ rfl rfl) ?_ | refine U.ob_c (by first | (with_reducible assumption) | exact Nat.ble_eq_true_of_le (by omega) | exact Nat.ble_eq_true_of_le (by simp at *; omega)) ?_ | refine U.nv_c (by with_reducible assumption) ?_ | refine U.SoundAt.u (h1) (by (repeat (first | exact trivial | ((conv => whnf); first | exact trivial | refine And.intro (by first | assumption | exact cleanI _ | exact cleanEs _ | exact cleanSs _ | exact cleanTs _ | exact cleanE _ | exact cleanIL _ | exact cleanBL _ | exact cleanR _ | exact NoNm.flat _ rfl) ?_)))) ?_ | refine U.SoundAt.u (h2) (by (repeat (first | exact trivial | ((conv => whnf); first | exact trivial | refine And.intro (by first | assumption | exact cleanI _ | exact cleanEs _ | exact cleanSs _ | exact cleanTs _ | exact cleanE _ | exact cleanIL _ | exact cleanBL _ | exact cleanR _ | exact NoNm.flat _ rfl) ?_)))) ?_ | refine U.SoundAt.u (h3) (by (repeat (first | exact trivial | ((conv => whnf); first | exact trivial | refine And.intro (by first | assumption | exact cleanI _ | exact cleanEs _ | exact cleanSs _ | exact cleanTs _ | exact cleanE _ | exact cleanIL _ | exact cleanBL _ | exact cleanR _ | exact NoNm.flat _ rfl) ?_)))) ?_ | refine U.SoundAt.u (h4) (by (repeat (first | exact trivial | ((conv => whnf); first | exact trivial | refine And.intro (by first | assumption | exact cleanI _ | exact cleanEs _ | exact cleanSs _ | exact cleanTs _ | exact cleanE _ | exact cleanIL _ | exact cleanBL _ | exact cleanR _ | exact NoNm.flat _ rfl) ?_)))) ?_ | refine U.SoundAt.u (h5) (by (repeat (first | exact trivial | ((conv => whnf); first | exact trivial | refine And.intro (by first | assumption | exact cleanI _ | exact cleanEs _ | exact cleanSs _ | exact cleanTs _ | exact cleanE _ | exact cleanIL _ | exact cleanBL _ | exact cleanR _ | exact NoNm.flat _ rfl) ?_)))) ?_ | refine U.SoundAt.u (h6) (by (repeat (first | exact trivial | ((conv => whnf); first | exact trivial | refine And.intro (by first | assumption | exact cleanI _ | exact cleanEs _ | exact cleanSs _ | exact cleanTs _ | exact cleanE _ | exact cleanIL _ | exact cleanBL _ | exact cleanR _ | exact NoNm.flat _ rfl) ?_)))) ?_ | refine U.SoundAt.u (h7) (by (repeat (first | exact trivial | ((conv => whnf); first | exact trivial | refine And.intro (by first | assumption | exact cleanI _ | exact cleanEs _ | exact cleanSs _ | exact cleanTs _ | exact cleanE _ | exact cleanIL _ | exact cleanBL _ | exact cleanR _ | exact NoNm.flat _ rfl) ?_)))) ?_ | refine U.SoundAt.u (h8) (by (repeat (first | exact trivial | ((conv => whnf); first | exact trivial | refine And.intro (by first | assumption | exact cleanI _ | exact cleanEs _ | exact cleanSs _ | exact cleanTs _ | exact cleanE _ | exact cleanIL _ | exact cleanBL _ | exact cleanR _ | exact NoNm.flat _ rfl) ?_)))) ?_ | refine U.SoundAt.u (h9) (by (repeat (first | exact trivial | ((conv => whnf); first | exact trivial | refine And.intro (by first | assumption | exact cleanI _ | exact cleanEs _ | exact cleanSs _ | exact cleanTs _ | exact cleanE _ | exact cleanIL _ | exact cleanBL _ | exact cleanR _ | exact NoNm.flat _ rfl) ?_)))) ?_ | refine U.SoundAt.u (h10) (by (repeat (first | exact trivial | ((conv => whnf); first | exact trivial | refine And.intro (by first | assumption | exact cleanI _ | exact cleanEs _ | exact cleanSs _ | exact cleanTs _ | exact cleanE _ | exact cleanIL _ | exact cleanBL _ | exact cleanR _ | exact NoNm.flat _ rfl) ?_)))) ?_ | refine U.SoundAt.u (h11) (by (repeat (first | exact trivial | ((conv => whnf); first | exact trivial | refine And.intro (by first | assumption | exact cleanI _ | exact cleanEs _ | exact cleanSs _ | exact cleanTs _ | exact cleanE _ | exact cleanIL _ | exact cleanBL _ | exact cleanR _ | exact NoNm.flat _ rfl) ?_)))) ?_ | refine U.SoundC.u (h1) (by (repeat (first | exact trivial | ((conv => whnf); first | exact trivial | refine And.intro (by first | assumption | exact cleanI _ | exact cleanEs _ | exact cleanSs _ | exact cleanTs _ | exact cleanE _ | exact cleanIL _ | exact cleanBL _ | exact cleanR _ | exact NoNm.flat _ rfl) ?_)))) ?_ | refine U.SoundC.u (h2) (by (repeat (first | exact trivial | ((conv => whnf); first | exact trivial | refine And.intro (by first | assumption | exact cleanI _ | exact cleanEs _ | exact cleanSs _ | exact cleanTs _ | exact cleanE _ | exact cleanIL _ | exact cleanBL _ | exact cleanR _ | exact NoNm.flat _ rfl) ?_)))) ?_ | refine U.SoundC.u (h3) (by (repeat (first | exact trivial | ((conv => whnf); first | exact trivial | refine And.intro (by first | assumption | exact cleanI _ | exact cleanEs _ | exact cleanSs _ | exact cleanTs _ | exact cleanE _ | exact cleanIL _ | exact cleanBL _ | exact cleanR _ | exact NoNm.flat _ rfl) ?_)))) ?_ | refine U.SoundC.u (h4) (by (repeat (first | exact trivial | ((conv => whnf); first | exact trivial | refine And.intro (by first | assumption | exact cleanI _ | exact cleanEs _ | exact cleanSs _ | exact cleanTs _ | exact cleanE _ | exact cleanIL _ | exact cleanBL _ | exact cleanR _ | exact NoNm.flat _ rfl) ?_)))) ?_ | refine U.SoundC.u (h5) (by (repeat (first | exact trivial | ((conv => whnf); first | exact trivial | refine And.intro (by first | assumption | exact cleanI _ | exact cleanEs _ | exact cleanSs _ | exact cleanTs _ | exact cleanE _ | exact cleanIL _ | exact cleanBL _ | exact cleanR _ | exact NoNm.flat _ rfl) ?_)))) ?_ | refine U.SoundC.u (h6) (by (repeat (first | exact trivial | ((conv => whnf); first | exact trivial | refine And.intro (by first | assumption | exact cleanI _ | exact cleanEs _ | exact cleanSs _ | exact cleanTs _ | exact cleanE _ | exact cleanIL _ | exact cleanBL _ | exact cleanR _ | exact NoNm.flat _ rfl) ?_)))) ?_ | refine U.SoundC.u (h7) (by (repeat (first | exact trivial | ((conv => whnf); first | exact trivial | refine And.intro (by first | assumption | exact cleanI _ | exact cleanEs _ | exact cleanSs _ | exact cleanTs _ | exact cleanE _ | exact cleanIL _ | exact cleanBL _ | exact cleanR _ | exact NoNm.flat _ rfl) ?_)))) ?_ | refine U.SoundC.u (h8) (by (repeat (first | exact trivial | ((conv => whnf); first | exact trivial | refine And.intro (by first | assumption | exact cleanI _ | exact cleanEs _ | exact cleanSs _ | exact cleanTs _ | exact cleanE _ | exact cleanIL _ | exact cleanBL _ | exact cleanR _ | exact NoNm.flat _ rfl) ?_)))) ?_ | refine U.SoundC.u (h9) (by (repeat (first | exact trivial | ((conv => whnf); first | exact trivial | refine And.intro (by first | assumption | exact cleanI _ | exact cleanEs _ | exact cleanSs _ | exact cleanTs _ | exact cleanE _ | exact cleanIL _ | exact cleanBL _ | exact cleanR _ | exact NoNm.flat _ rfl) ?_)))) ?_ | refine U.SoundC.u (h10) (by (repeat (first | exact trivial | ((conv => whnf); first | exact trivial | refine And.intro (by first | assumption | exact cleanI _ | exact cleanEs _ | exact cleanSs _ | exact cleanTs _ | exact cleanE _ | exact cleanIL _ | exact cleanBL _ | exact cleanR _ | exact NoNm.flat _ rfl) ?_)))) ?_ | refine U.SoundC.u (h11) (by (repeat (first | exact trivial | ((conv => whnf); first | exact trivial | refine And.intro (by first | assumption | exact cleanI _ | exact cleanEs _ | exact cleanSs _ | exact cleanTs _ | exact cleanE _ | exact cleanIL _ | exact cleanBL _ | exact cleanR _ | exact NoNm.flat _ rfl) ?_)))) ?_ | refine U.drawX_p (D := U.propX) 6 [] (by decide +kernel) (by decide +kernel) ?_ | refine U.drawX_p (D := U.propX) 43 [] (by decide +kernel) (by decide +kernel) ?_ | refine U.lw_t' (by with_reducible assumption) ?_ | refine U.lw_f' (by with_reducible assumption) ?_ | refine U.lw_c (fun hb => ?_) (fun hb => ?_)))
  all_goals (conv => whnf)
  all_goals exact .clean _ (.flat _ rfl)
end Go.Proofs.YthbhnbnlbhpooaaGreatDoor
