/- Contracts of package bitop: Do. -/
import Derived.Test.YtljhbdgoknfkcaaGreatDoorBJ
import Derived.Test.YtljhbdgoknfkcaaGreatDoorBM
namespace Go.Proofs.YtljhbdgoknfkcaaGreatDoor
open Go Go.RowKit Go.Sort
set_option linter.unusedVariables false
set_option linter.unusedSimpArgs false
set_option maxRecDepth 100000

def bshl (a b : VV) : VV := vjoins ((cntI (bmet b) 64).map fun k => bup a k.val)
def bshr (a b : VV) : VV := vjoins ((cntI (bmet b) 64).map fun k => bdown a k.val)
set_option maxHeartbeats 8000000 in
theorem bDo11_d (x y p : VV) (hx : InV x) (hy : InV y) (Q : Den Tryz.prog 94 #[.int .i64 11, VVal (vmake x), VVal (vmake y)] noFacts (VVal p)) : Den Tryz.prog 30 #[.int .i64 11, VVal x, VVal y] noFacts (VVal (bdoV 11 p (bshl (vmake x) (vmake y)) (vmake x) (vmake y))) := by
  refine den_of_body (args := [.int .i64 11, VVal x, VVal y]) hmix Tryz.func30 ?_
  have ra := vmake_rv hx
  have rb := vmake_rv hy
  have M1 := vMake_d x hx
  have M2 := vMake_d y hy
  have B1 := bottom_r ra
  have B2 := bottom_r rb
  have S := single_r rb
  have T := wTraps_d 11
  have C1 := small_d ra
  have C2 := small_d rb
  have R := row1_d _ _ ra rb
  have BB := vBottom_d
  generalize vmake x = a at *
  generalize vmake y = b at *
  change Den Tryz.prog 184 #[VVal a, VVal b] noFacts (VVal (bshl a b)) at R
  generalize hr : bshl a b = r at *
  (repeat' ((conv => whnf); first | refine CallN.anyFresh _ _ rows_f ?_ | refine CallN.any _ M1 ?_ | refine CallN.any _ M2 ?_ | refine CallN.any _ B1 ?_ | refine CallN.any _ B2 ?_ | refine CallN.any _ S ?_ | refine CallN.any _ T ?_ | refine CallN.any _ C1 ?_ | refine CallN.any _ C2 ?_ | refine CallN.any _ Q ?_ | refine CallN.any _ R ?_ | refine CallN.any _ BB ?_ | refine AdN.mk _ _ rfl ?_ | refine DrawN.a (Ob.mk (by decide +kernel) ?_) | refine DrawN.c (Ob.mk (by decide +kernel) ?_) | refine DrawN.b (Ob.mk (by decide +kernel) ?_) | refine Ob.mk (by kernel_rfl) ?_ | (refine Br.mk (fun h => ?_) (fun h => ?_) <;> (first | (exfalso; exact Bool.false_ne_true h) | (exfalso; exact Bool.false_ne_true h.symm) | skip)) | refine SeqN.go ?_)); all_goals (conv => whnf)
  all_goals (clear M1 M2 B1 B2 S T C1 C2 Q R BB ra rb hx hy hr; refine congrArg VVal (?_ : _ = bdoV 11 p r a b); unfold bdoV; (try simp only [decide_eq_true_eq, decide_eq_false_iff_not, beq_iff_eq, beq_eq_false_iff_ne] at *); first | grind | trace_state)
set_option maxHeartbeats 8000000 in
theorem bDo12_d (x y p : VV) (hx : InV x) (hy : InV y) (Q : Den Tryz.prog 94 #[.int .i64 12, VVal (vmake x), VVal (vmake y)] noFacts (VVal p)) : Den Tryz.prog 30 #[.int .i64 12, VVal x, VVal y] noFacts (VVal (bdoV 12 p (bshr (vmake x) (vmake y)) (vmake x) (vmake y))) := by
  refine den_of_body (args := [.int .i64 12, VVal x, VVal y]) hmix Tryz.func30 ?_
  have ra := vmake_rv hx
  have rb := vmake_rv hy
  have M1 := vMake_d x hx
  have M2 := vMake_d y hy
  have B1 := bottom_r ra
  have B2 := bottom_r rb
  have S := single_r rb
  have T := wTraps_d 12
  have C1 := small_d ra
  have C2 := small_d rb
  have R := row2_d _ _ ra rb
  have BB := vBottom_d
  generalize vmake x = a at *
  generalize vmake y = b at *
  change Den Tryz.prog 187 #[VVal a, VVal b] noFacts (VVal (bshr a b)) at R
  generalize hr : bshr a b = r at *
  (repeat' ((conv => whnf); first | refine CallN.anyFresh _ _ rows_f ?_ | refine CallN.any _ M1 ?_ | refine CallN.any _ M2 ?_ | refine CallN.any _ B1 ?_ | refine CallN.any _ B2 ?_ | refine CallN.any _ S ?_ | refine CallN.any _ T ?_ | refine CallN.any _ C1 ?_ | refine CallN.any _ C2 ?_ | refine CallN.any _ Q ?_ | refine CallN.any _ R ?_ | refine CallN.any _ BB ?_ | refine AdN.mk _ _ rfl ?_ | refine DrawN.a (Ob.mk (by decide +kernel) ?_) | refine DrawN.c (Ob.mk (by decide +kernel) ?_) | refine DrawN.b (Ob.mk (by decide +kernel) ?_) | refine Ob.mk (by kernel_rfl) ?_ | (refine Br.mk (fun h => ?_) (fun h => ?_) <;> (first | (exfalso; exact Bool.false_ne_true h) | (exfalso; exact Bool.false_ne_true h.symm) | skip)) | refine SeqN.go ?_)); all_goals (conv => whnf)
  all_goals (clear M1 M2 B1 B2 S T C1 C2 Q R BB ra rb hx hy hr; refine congrArg VVal (?_ : _ = bdoV 12 p r a b); unfold bdoV; (try simp only [decide_eq_true_eq, decide_eq_false_iff_not, beq_iff_eq, beq_eq_false_iff_ne] at *); first | grind | trace_state)
/-- What an operator of the layer makes of two values that are not few numbers. -/
def bres (op : Int) (a b : VV) : VV := if op = 16 then bquot a b else if op = 17 then brest a b else if op = 10 then bboth a b else if op = 8 then beither a b else if op = 9 then bxone a b else if op = 11 then bshl a b else bshr a b
def bop (op : Int) : Prop := (8 ≤ op ∧ op ≤ 12) ∨ op = 16 ∨ op = 17
instance (op : Int) : Decidable (bop op) := by unfold bop; infer_instance
/-- What Do makes of values that are reduced. -/
def bdo (op : Int) (a b : VV) : VV := if bop op then bdoV op (vofs (mpairs op (bs8 a) (bs8 b))) (bres op a b) a b else vtop
set_option maxHeartbeats 8000000 in
theorem bDoN_d (op : Int) (x y : VV) (hx : InV x) (hy : InV y) (h : ¬ bop op) : Den Tryz.prog 30 #[.int .i64 op, VVal x, VVal y] noFacts (VVal vtop) := by
  refine den_of_body (args := [.int .i64 op, VVal x, VVal y]) hmix Tryz.func30 ?_
  have T := vTop_d
  unfold bop at h
  (repeat' ((conv => whnf); first | refine CallN.anyFresh _ _ rows_f ?_ | refine CallN.any _ T ?_ | refine AdN.mk _ _ rfl ?_ | refine DrawN.a (Ob.mk (by decide +kernel) ?_) | refine DrawN.c (Ob.mk (by decide +kernel) ?_) | refine DrawN.b (Ob.mk (by decide +kernel) ?_) | refine Ob.mk (by kernel_rfl) ?_ | (refine Br.mk (fun h => ?_) (fun h => ?_) <;> (first | (exfalso; exact Bool.false_ne_true h) | (exfalso; exact Bool.false_ne_true h.symm) | (exfalso; simp only [decide_eq_true_eq, decide_eq_false_iff_not] at *; omega) | skip)) | refine SeqN.go ?_)); all_goals (conv => whnf)
  all_goals rfl
theorem bDo_d (op : Int) (x y : VV) (hx : InV x) (hy : InV y) : Den Tryz.prog 30 #[.int .i64 op, VVal x, VVal y] noFacts (VVal (bdo op (vmake x) (vmake y))) := by
  unfold bdo
  by_cases h : bop op
  · rw [if_pos h]
    have Q := fun o ho => pairs_d o ho _ _ (vmake_rv hx) (vmake_rv hy)
    have e : op = 8 ∨ op = 9 ∨ op = 10 ∨ op = 11 ∨ op = 12 ∨ op = 16 ∨ op = 17 := by unfold bop at h; omega
    rcases e with rfl | rfl | rfl | rfl | rfl | rfl | rfl
    · exact bDo8_d x y _ hx hy (Q 8 (by decide))
    · exact bDo9_d x y _ hx hy (Q 9 (by decide))
    · exact bDo10_d x y _ hx hy (Q 10 (by decide))
    · exact bDo11_d x y _ hx hy (Q 11 (by decide))
    · exact bDo12_d x y _ hx hy (Q 12 (by decide))
    · exact bDo16_d x y _ hx hy (Q 16 (by decide))
    · exact bDo17_d x y _ hx hy (Q 17 (by decide))
  · rw [if_neg h]
    exact bDoN_d op x y hx hy h
/-! What Do makes of values has what the operator makes of their numbers; single numbers make single ones. -/
theorem bmet_has {b : VV} (rb : RV b) {y : Int} (vy : vin b y) : bmet b (y % 64).toNat = true := by
  have e : (((y % 64).toNat : Nat) : Int) = y % 64 := Int.toNat_of_nonneg (by omega)
  unfold bmet
  split
  · rename_i hf
    unfold bfew at hf
    rw [Bool.and_eq_true, decide_eq_true_eq] at hf
    have := some_has rb vy (most := 64) hf.1 hf.2
    exact List.any_eq_true.2 ⟨y, this, by rw [e]; exact beq_self_eq_true _⟩
  · rw [e]
    have e1 := cwr_fst b.m b.r
    unfold bstep
    rw [e1]
    by_cases h0 : b.m = 0
    · rw [if_pos h0]; rfl
    · rw [if_neg h0]
      obtain ⟨j, hj, ej⟩ := clow_pow h0 rb.inn.m
      have e6 : (64 : Int) = 2 ^ 6 := by decide
      obtain ⟨i, hi, h6, es⟩ : ∃ i, i ≤ j ∧ i ≤ 6 ∧ (if 64 < clow b.m then 64 else clow b.m) = (2 : Int) ^ i := by
        rw [ej]
        by_cases c : (64 : Int) < 2 ^ j
        · rw [if_pos c]
          have h : 6 ≤ j := by
            have := p2mono (k := j) (i := 6)
            omega
          exact ⟨6, h, by omega, e6⟩
        · rw [if_neg c]
          have h : j ≤ 6 := by
            by_cases d : j ≤ 6
            · exact d
            · have := p2mono (k := 7) (i := j) (by omega)
              have e7 : (2 : Int) ^ 7 = 128 := by decide
              omega
          exact ⟨j, Nat.le_refl _, h, rfl⟩
      rw [es, Bool.or_eq_true]
      right
      rw [beq_iff_eq, Int.tmod_eq_emod_of_nonneg (by omega), Int.tmod_eq_emod_of_nonneg rb.inn.r.1]
      rw [← chas_low rb.inn.m vy.2.2 (j := i) (by omega) (fun _ => by rw [ej]; exact pow_dvd (p2mono hi)), e6]
      exact Int.emod_emod_of_dvd y (pow_dvd (p2mono h6))
theorem shl_sound {a b : VV} (ra : RV a) (rb : RV b) {x y : Int} (hx : IS x) (vx : vin a x) (vy : vin b y) : vin (bshl a b) (wopV 11 x y) := by
  have hk : (y % 64).toNat < 64 := by omega
  show vin _ (slK x (y % 64).toNat)
  exact vjoins_has (fun p hp => by obtain ⟨k, _, rfl⟩ := List.mem_map.1 hp; exact bup_rv ra k.val) (wrap_is _) (List.mem_map.2 ⟨⟨_, hk⟩, cntI_has hk hk (bmet_has rb vy), rfl⟩) (up_sound ra hx vx hk)
theorem shr_sound {a b : VV} (ra : RV a) (rb : RV b) {x y : Int} (hx : IS x) (vx : vin a x) (vy : vin b y) : vin (bshr a b) (wopV 12 x y) := by
  have hk : (y % 64).toNat < 64 := by omega
  show vin _ (x / 2 ^ (y % 64).toNat)
  exact vjoins_has (fun p hp => by obtain ⟨k, _, rfl⟩ := List.mem_map.1 hp; exact bdown_rv ra k.val) (div2_is hx _) (List.mem_map.2 ⟨⟨_, hk⟩, cntI_has hk hk (bmet_has rb vy), rfl⟩) (down_sound ra hx vx hk)
theorem bop_rng {op : Int} (h : bop op) : 0 ≤ op ∧ op ≤ 17 := by unfold bop at h; omega
theorem pairs_is {op : Int} (ho : 0 ≤ op ∧ op ≤ 17) {a b : VV} (ra : RV a) : ∀ p ∈ mpairs op (bs8 a) (bs8 b), IS p := by
  intro p hp
  obtain ⟨x, hx, hp⟩ := List.mem_flatMap.1 hp
  obtain ⟨y, _, rfl⟩ := List.mem_map.1 hp
  exact wopV_is ho (some_in_v ra hx).2
/-- THE LAYER'S SOUNDNESS. -/
theorem bdo_sound {op : Int} (hop : bop op) {a b : VV} (ra : RV a) (rb : RV b) {x y : Int} (hx : IS x) (hy : IS y) (vx : vin a x) (vy : vin b y) (hw : wopB op y = true) : vin (bdo op a b) (wopV op x y) := by
  have na := RV.ne vx
  have nb := RV.ne vy
  have ho := bop_rng hop
  unfold bdo bdoV
  rw [if_pos hop, veq_false na, veq_false nb, if_neg (by decide)]
  have nz : op = 16 ∨ op = 17 → y ≠ 0 := by
    intro h e
    rw [e] at hw
    rcases h with rfl | rfl <;> exact absurd hw (by decide)
  split
  · rename_i h
    have y1 := vy.1; have y2 := vy.2.1
    exact absurd (show y = 0 by omega) (nz h.2.2)
  split
  · rename_i h
    rw [Bool.and_eq_true] at h
    unfold bsmall at h
    rw [Bool.and_eq_true, Bool.and_eq_true, decide_eq_true_eq, decide_eq_true_eq] at h
    refine vofs_has (pairs_is ho ra) (List.mem_flatMap.2 ⟨x, some_has ra vx (most := 8) h.1.1 h.1.2, List.mem_map.2 ⟨y, List.mem_filter.2 ⟨some_has rb vy (most := 8) h.2.1 h.2.2, hw⟩, rfl⟩⟩)
  · have e : op = 8 ∨ op = 9 ∨ op = 10 ∨ op = 11 ∨ op = 12 ∨ op = 16 ∨ op = 17 := by unfold bop at hop; omega
    rcases e with rfl | rfl | rfl | rfl | rfl | rfl | rfl
    · exact either_sound ra rb hx hy vx vy
    · exact xor_sound ra rb hx hy vx vy
    · exact both_sound ra rb hx hy vx vy
    · exact shl_sound ra rb hx vx vy
    · exact shr_sound ra rb hx vx vy
    · exact quot_sound ra rb hx hy vx vy (nz (.inl rfl))
    · exact rest_sound ra rb hx hy vx vy (nz (.inr rfl))
theorem bot_bdo {op : Int} {a b : VV} (hop : bop op) (h : a = vbot ∨ b = vbot) : bdo op a b = vbot := by
  unfold bdo bdoV
  rw [if_pos hop]
  rcases h with rfl | rfl
  · rw [veq_iff.2 rfl]; rfl
  · rw [veq_iff.2 rfl, Bool.or_true]; rfl
theorem fold_rv2 {α : Type} {f : α → VV} : ∀ (l : List α) (s : VV), RV s → (∀ q ∈ l, RV (f q)) → RV (l.foldl (fun a q => vjoin a (f q)) s)
  | [], s, hs, hl => hs
  | p :: l, s, hs, hl => fold_rv2 l _ (vjoin_rv hs (hl p (.head _))) fun q hq => hl q (.tail _ hq)
theorem vjoins_rv {l : List VV} (hl : ∀ p ∈ l, RV p) : RV (vjoins l) := fold_rv2 (f := vmake) l vbot rv_bot fun q hq => vmake_rv (hl q hq).inn
theorem brest_rv {a b : VV} (ra : RV a) (rb : RV b) : RV (brest a b) := by
  have ha := ra.inn; have hb := rb.inn
  have i1 := ha.lo; have i2 := ha.hi
  have z : IS 0 := ⟨by decide, by decide⟩
  have im : IS (brM b) := wrap_is _
  have h1 : IS (brI a b).1 := by unfold brI gr; dsimp only; split; (split; exact wrap_is _; exact i1); exact z
  have h2 : IS (brI a b).2 := by unfold brI; dsimp only; split; (split; exact im; exact i2); exact z
  have ii := iof_in h1 h2
  have ci := brC_in ha hb
  unfold brest
  split
  · exact ra
  · exact vmake_rv (x := ⟨(iof (brI a b).1 (brI a b).2).1, (iof (brI a b).1 (brI a b).2).2, (brC a b).1, (brC a b).2⟩) ⟨ii.1, ii.2, ci.1, ci.2⟩
theorem bquot_rv {a b : VV} : RV (bquot a b) := by
  have qi := qspan_is (quoL a (partL b)) (fun q hq => by
    unfold quoL at hq
    obtain ⟨l, hl, hq⟩ := List.mem_flatten.1 hq
    obtain ⟨r, _, rfl⟩ := List.mem_map.1 hl
    simp at hq
    rcases hq with rfl | rfl | rfl | rfl <;> exact wop16_is _ _)
  have ii := iof_in qi.1 qi.2
  unfold bquot
  split
  · exact rv_top
  · exact vmake_rv (x := ⟨(iof (qspan (quoL a (partL b))).1 (qspan (quoL a (partL b))).2).1, (iof (qspan (quoL a (partL b))).1 (qspan (quoL a (partL b))).2).2, 1, 0⟩) ⟨ii.1, ii.2, ⟨by show (0 : Int) ≤ 1; decide, by show (1 : Int) ≤ 18446744073709551615; decide⟩, ⟨by show (0 : Int) ≤ 0; decide, by show (0 : Int) ≤ 18446744073709551615; decide⟩⟩
theorem bxone_rv {a b : VV} (ha : InV a) (hb : InV b) : RV (bxone a b) := by
  have ci := cdig_in ubxor_in ha hb
  have z : IS 0 := ⟨by decide, by decide⟩
  have h1 : IS (oneI a b).1 := by unfold oneI; dsimp only; split; exact z; exact wrap_is _
  have h2 : IS (oneI a b).2 := by
    unfold oneI; dsimp only
    split
    · exact wrap_is _
    split
    · exact ⟨by decide, by decide⟩
    · exact wrap_is _
  have ii := iof_in h1 h2
  exact vmake_rv (x := ⟨(iof (oneI a b).1 (oneI a b).2).1, (iof (oneI a b).1 (oneI a b).2).2, (cdig ubxor a b).1, (cdig ubxor a b).2⟩) ⟨ii.1, ii.2, ci.1, ci.2⟩
theorem beither_rv {a b : VV} (ha : InV a) (hb : InV b) : RV (beither a b) := binvert_rv (bboth_in (binvert_rv ha).inn (binvert_rv hb).inn).inn
theorem bdo_rv {op : Int} {a b : VV} (ra : RV a) (rb : RV b) : RV (bdo op a b) := by
  unfold bdo
  split
  · rename_i hop
    unfold bdoV
    split
    · exact rv_bot
    split
    · exact rv_bot
    split
    · exact vofs_rv (pairs_is (bop_rng hop) ra)
    unfold bres
    split
    · exact bquot_rv
    split
    · exact brest_rv ra rb
    split
    · exact bboth_in ra.inn rb.inn
    split
    · exact beither_rv ra.inn rb.inn
    split
    · exact bxone_rv ra.inn rb.inn
    split
    · exact vjoins_rv fun p hp => by obtain ⟨k, _, rfl⟩ := List.mem_map.1 hp; exact bup_rv ra k.val
    · exact vjoins_rv fun p hp => by obtain ⟨k, _, rfl⟩ := List.mem_map.1 hp; exact bdown_rv ra k.val
  · exact rv_top
/-! Single numbers. -/
theorem bs8_one (n : Int) : bs8 (vone n) = [n] := by
  have e : vcnt (vone n) = 1 := by unfold vcnt; rw [veq_false (by intro h; have := congrArg VV.m h; simp [vone, vbot] at this)]; rfl
  unfold bs8 vnums
  rw [e]
  show [vnum (vone n) 0] = [n]
  unfold vnum
  simp [vone]
theorem vone_nb (n : Int) : vone n ≠ vbot := by intro h; have := congrArg VV.m h; simp [vone, vbot] at this
theorem bsmall_one {n : Int} (h : IS n) : bsmall (vone n) = true := by
  unfold bsmall
  rw [vcard_eq (rv_one h) (vone_nb n)]
  rfl
theorem bdo_one {op x y : Int} (hop : bop op) (hx : IS x) (hy : IS y) : bdo op (vone x) (vone y) = if wopB op y = true then vone (wopV op x y) else vbot := by
  have ho := bop_rng hop
  unfold bdo bdoV
  rw [if_pos hop, veq_false (vone_nb x), veq_false (vone_nb y), if_neg (by decide), bsmall_one hx, bsmall_one hy, bs8_one, bs8_one]
  have e : mpairs op [x] [y] = if wopB op y = true then [wopV op x y] else [] := by
    unfold mpairs mks
    rw [List.flatMap_cons, List.flatMap_nil, List.append_nil]
    by_cases c : wopB op y = true
    · rw [if_pos c, List.filter_cons_of_pos c]; rfl
    · rw [if_neg c, List.filter_cons_of_neg c]; rfl
  split
  · rename_i h
    have h2 : y = 0 := h.2.1
    rw [if_neg]
    rw [h2]
    rcases h.2.2 with rfl | rfl <;> decide
  · rw [if_pos (by rfl), e]
    split
    · show vjoin vbot (vone _) = _
      exact vjoin_bot _
    · rfl
theorem binv_one {n : Int} (a : VV) (ra : RV a) (hn : IS n) (h : vin a n) : vin (boneV 20 a) (-1 - n) := by
  unfold boneV
  rw [veq_false (RV.ne h)]
  exact inv_sound ra hn h
theorem bnot_one {n : Int} (a : VV) (ra : RV a) (hn : IS n) (h : vin a n) : vin (boneV 19 a) (if n = 0 then 1 else 0) := by
  have h1 := h.1; have h2 := h.2.1
  have o1 : IS 1 := ⟨by decide, by decide⟩
  have o0 : IS 0 := ⟨by decide, by decide⟩
  unfold boneV
  rw [veq_false (RV.ne h), if_neg (by decide), if_neg (by decide), if_pos rfl]
  split
  · rename_i q
    have : n = 0 := by omega
    rw [if_pos this]
    exact (vin_one o1 o1).2 rfl
  split
  · refine vin_of (a := 0) (b := 1) (c := (1, 0)) o0 o1 ⟨⟨by decide, by decide⟩, by decide, by decide⟩ (by split <;> assumption) (by split <;> decide) (by split <;> decide) ?_
    show chas 1 0 _ = true
    unfold chas
    simp [Int.emod_one]
  · rename_i q1 q2
    have : n ≠ 0 := by
      rintro rfl
      exact q2 (vhas_iff.2 h)
    rw [if_neg this]
    exact (vin_one o0 o0).2 rfl
end Go.Proofs.YtljhbdgoknfkcaaGreatDoor
