/- ArithLaws as a call. -/
import Derived.Test.YtljhbdgoknfkcaaGreatDoorE4
namespace Go.Proofs.YtljhbdgoknfkcaaGreatDoor
open Go Go.RowKit Go.Sort
set_option linter.unusedVariables false
set_option linter.unusedSimpArgs false
set_option maxRecDepth 100000

theorem ops_v : DenV Tryz.prog 88 noFacts [] [.s 0] [.row 46 1 3 [.int .i64 13, .int .i64 14, .int .i64 15]] := by
  refine denV_of_body (args := []) hmix Tryz.func88 ?_
  (repeat' ((conv => whnf); first | refine AdN.mk _ _ rfl ?_ | refine DrawN.a (Ob.mk (by decide +kernel) ?_) | refine DrawN.c (Ob.mk (by decide +kernel) ?_) | refine DrawN.b (Ob.mk (by decide +kernel) ?_) | refine Ob.mk (by kernel_rfl) ?_ | (refine Br.mk (fun h => ?_) (fun h => ?_) <;> (first | (exfalso; exact Bool.false_ne_true h) | (exfalso; exact Bool.false_ne_true h.symm) | skip)) | refine SeqN.go ?_)); all_goals (conv => whnf)
  refine RetN.mk [0] (by decide) rfl ?_ ?_ <;> (conv => whnf); (repeat' (first | exact True.intro | exact rfl | refine And.intro ?_ ?_ | decide))
theorem ops_f : DenF Tryz.prog 88 noFacts [] [.s 0] [.row 46 1 3 [.int .i64 13, .int .i64 14, .int .i64 15]] := DenF.fam rfl ops_v
theorem ado_rv {op : Int} {a b : VV} (ha : RV a) (hb : RV b) : RV (ado op a b) := by
  have ci := acong_in (op := op) ha.inn hb.inn
  have wi := cwr_in ci.1 ci.2
  have ii := iof_in (alow_is (spanL op a b)) (alow_is (spanG op a b))
  unfold ado
  split
  · exact rv_bot
  · split
    · exact rv_top
    · split
      · exact rv_one (alow_is _)
      · split
        · exact vmake_rv ⟨by constructor <;> dsimp only <;> decide, by constructor <;> dsimp only <;> decide, wi.1, wi.2⟩
        · split
          · exact vmake_rv ⟨ii.1, ii.2, wi.1, wi.2⟩
          · exact vmake_rv ⟨ii.1, ii.2, ci.1, ci.2⟩
theorem same_r {x y : VV} (h : RV x) (k : RV y) : Den Tryz.prog 70 #[VVal x, VVal y] noFacts (.bool (veq x y)) := by
  have := vSame_d x y h.inn k.inn
  rwa [h.fix, k.fix] at this
set_option maxHeartbeats 4000000 in
theorem arithLaws_d (x y : VV) (op : Int) (hx : InV x) (hy : InV y) : Den Tryz.prog 27 #[VVal x, VVal y, .int .i64 op] tabF (.bool true) := by
  refine den_of_body (args := [VVal x, VVal y, .int .i64 op]) hmix Tryz.func27 ?_
  have ha := vmake_rv hx
  have hb := vmake_rv hy
  have z0 := rv_one (n := 0) ⟨by decide, by decide⟩
  have z1 := rv_one (n := 1) ⟨by decide, by decide⟩
  have M := vMake_d x hx
  have A1 := aDo_d 13 x y hx hy
  have A2 := aDo_d 13 y x hy hx
  rw [ado_comm (.inl rfl) (vmake y)] at A2
  have P1 := aDo_d 15 x y hx hy
  have P2 := aDo_d 15 y x hy hx
  rw [ado_comm (.inr rfl) (vmake y)] at P2
  have Z1 := aDo_d 13 x (vone 0) hx z0.inn
  rw [z0.fix, ado_zero ha] at Z1
  have Z2 := aDo_d 15 (vone 1) x z1.inn hx
  rw [z1.fix, ado_comm (.inr rfl), ado_one ha] at Z2
  have Z3 := aDo_d 14 x (vone 0) hx z0.inn
  rw [z0.fix, ado_less ha] at Z3
  have W1 := aWraps_d 14 (vone 0) y z0.inn hy
  rw [z0.fix] at W1
  have W2 := aWraps_d 14 x y hx hy
  have S := aDo_d 14 x y hx hy
  have N := aNeg_d y hy
  have nr : RV (ado 14 (vone 0) (vmake y)) := ado_rv z0 hb
  have SN := aDo_d 13 x _ hx nr.inn
  rw [nr.fix] at SN
  have SS := same_r (ado_rv (op := 14) ha hb) (ado_rv (op := 13) ha nr)
  have sv : awraps 14 (vone 0) (vmake y) = false → awraps 14 (vmake x) (vmake y) = false → veq (ado 14 (vmake x) (vmake y)) (ado 13 (vmake x) (ado 14 (vone 0) (vmake y))) = true := fun h1 h2 => by
    rw [veq_iff]
    by_cases na : vmake x = vbot
    · rw [na, ado_botL, ado_botL]
    by_cases nb : vmake y = vbot
    · rw [nb, ado_botR, ado_botR, ado_botR]
    exact ado_diff ha hb na nb h1 h2
  have MZ := aDo_d 15 (vmake x) (vone 0) ha.inn z0.inn
  rw [ha.fix, z0.fix] at MZ
  have B := bottom_r ha
  have SG := single_r (ado_rv (op := 15) ha z0)
  have sz : veq (vmake x) vbot = false → ado 15 (vmake x) (vone 0) = vone 0 := fun h => ado_nought ha fun e => by rw [veq_iff.2 e] at h; cases h
  have bf : vmake vbot = vbot := rv_bot.fix
  have L1 := aDo_d op x vbot hx vbot_in
  rw [bf, ado_botR] at L1
  have L2 := aDo_d op vbot y vbot_in hy
  rw [bf, ado_botL] at L2
  have BB := bottom_r rv_bot
  rw [veq_iff.2 rfl] at BB
  have NB := aNeg_d vbot vbot_in
  rw [bf, ado_botR] at NB
  clear ha hb hx hy z1 nr
  generalize vmake x = a at *
  generalize vmake y = b at *
  (repeat' ((conv => whnf); first | refine CallN.anyFresh _ _ ops_f ?_ | refine CallN.any _ M ?_ | refine CallN.any _ A1 ?_ | refine CallN.any _ A2 ?_ | refine CallN.any _ P1 ?_ | refine CallN.any _ P2 ?_ | refine CallN.any _ Z1 ?_ | refine CallN.any _ Z2 ?_ | refine CallN.any _ Z3 ?_ | refine CallN.any _ W1 ?_ | refine CallN.any _ W2 ?_ | refine CallN.any _ S ?_ | refine CallN.any _ N ?_ | refine CallN.any _ SN ?_ | refine CallN.any _ SS ?_ | refine CallN.any _ MZ ?_ | refine CallN.any _ B ?_ | refine CallN.any _ SG ?_ | refine CallN.any _ L1 ?_ | refine CallN.any _ L2 ?_ | refine CallN.any _ BB ?_ | refine CallN.any _ NB ?_ | refine CallN.any _ vBottom_d ?_ | refine CallN.any _ (vOne_d _) ?_ | refine CallN.mk _ works22_d ?_ | refine LoopN.roll 3 ?_ | refine Ob.mk (by decide) ?_ | refine Ob.mk ⟨by decide, by decide⟩ ?_ | refine RowN.mk _ rfl rfl ?_ | refine AdN.mk _ _ rfl ?_ | refine DrawN.a (Ob.mk (by decide +kernel) ?_) | refine DrawN.c (Ob.mk (by decide +kernel) ?_) | refine DrawN.b (Ob.mk (by decide +kernel) ?_) | refine Ob.mk (by kernel_rfl) ?_ | (refine Br.mk (fun h => ?_) (fun h => ?_) <;> (first | (exfalso; exact Bool.false_ne_true h) | (exfalso; exact Bool.false_ne_true h.symm) | skip)) | refine SeqN.go ?_)); all_goals (conv => whnf)
  all_goals (clear M A1 A2 P1 P2 Z1 Z2 Z3 W1 W2 S N SN SS MZ B SG L1 L2 BB NB; first | rfl | (exfalso; grind [vone]))
end Go.Proofs.YtljhbdgoknfkcaaGreatDoor
