
import Derived.Test.YtblaiilfoiefiaaGreatDoorXT42
import Derived.Test.YtblaiilfoiefiaaGreatDoorXT43
namespace Go.Proofs.YtblaiilfoiefiaaGreatDoor
open Go Go.RowKit Go.Sort U
set_option linter.unusedVariables false
set_option linter.unusedSimpArgs false
set_option maxRecDepth 100000
set_option maxHeartbeats 4000000
structure CZ where
  v : VZ
  k : Bool
def encC (c : CZ) : Value := .agg ⟨[.int .i64 c.v.lo, .int .i64 c.v.hi, .int .u64 c.v.m, .int .u64 c.v.r, .bool c.k]⟩
def cL (l : List CZ) : List Value := l.map encC
theorem cL_map (l : List CZ) : cL l = l.map encC := rfl
theorem cL_len (l : List CZ) : (cL l).length = l.length := List.length_map ..
theorem cleanC (c : CZ) : NoNm (encC c) := .flat _ rfl
theorem cleanC_cells (c : CZ) : ∀ x ∈ cellsOf (encC c), NoNm x := fun x hx => by
  simp only [encC, cellsOf, List.mem_cons, List.not_mem_nil, or_false] at hx
  rcases hx with rfl | rfl | rfl | rfl | rfl <;> exact .flat _ rfl
theorem cleanCC (l : List CZ) : ∀ x, x ∈ cellsAll (cL l) → NoNm x := fun c hc => by
  obtain ⟨v, hv, hc⟩ := List.mem_flatMap.1 hc
  obtain ⟨e, he, rfl⟩ := List.mem_map.1 hv
  exact cleanC_cells e c hc
theorem cleanCL (l : List CZ) : NoNm (imS (cL l)) := .ims _ (cleanCC l)
theorem cL_5 (l : List CZ) : ∀ y, y ∈ cL l → (cellsOf y).length = 5 := fun y hy => by
  obtain ⟨x, _, rfl⟩ := List.mem_map.1 hy
  rfl
theorem cellsC_len : ∀ l : List CZ, (cellsAll (cL l)).length = l.length * 5
  | [] => rfl
  | x :: l => by
    rw [cL, List.map_cons, cellsAll, List.flatMap_cons, List.length_append, ← cellsAll, ← cL, cellsC_len l, List.length_cons]
    show 5 + _ = _
    omega
theorem cellsC_app (a b : List CZ) : cellsAll (cL (a ++ b)) = cellsAll (cL a) ++ cellsAll (cL b) := by
  rw [cL, List.map_append, cellsAll, List.flatMap_append]; rfl
theorem cells_put {l : List CZ} {j : Nat} (hj : j < l.length) (c : CZ) : (cellsAll (cL l)).take (j * 5) ++ cellsOf (encC c) ++ (cellsAll (cL l)).drop (j * 5 + (cellsOf (encC c)).length) = cellsAll (cL (l.set j c)) := by
  have e : l = l.take j ++ l[j] :: l.drop (j + 1) := by rw [List.getElem_cons_drop, List.take_append_drop]
  have e2 : l.set j c = l.take j ++ c :: l.drop (j + 1) := List.set_eq_take_append_cons_drop.trans (by rw [if_pos hj])
  have hlen : (cellsAll (cL (l.take j))).length = j * 5 := by rw [cellsC_len, List.length_take]; congr 1; omega
  rw [e2]
  conv => lhs; rw [e]
  rw [cellsC_app, show l[j] :: l.drop (j + 1) = [l[j]] ++ l.drop (j + 1) from rfl, cellsC_app, List.take_left' hlen, List.drop_append, hlen, cellsC_app, show c :: l.drop (j + 1) = [c] ++ l.drop (j + 1) from rfl, cellsC_app]
  have h5 : (cellsOf (encC c)).length = 5 := rfl
  rw [h5, List.drop_of_length_le (by rw [hlen]; omega), show j * 5 + 5 - j * 5 = 5 by omega, List.nil_append, List.append_assoc]
  congr 1
structure SZ where
  slots : List CZ
  arrs : List CZ
  none : Bool
def encSt (s : SZ) : Value := .agg ⟨[imS (cL s.slots), imS (cL s.arrs), .bool s.none]⟩
theorem cleanSt_cells (s : SZ) : ∀ x ∈ cellsOf (encSt s), NoNm x := fun x hx => by
  simp only [encSt, cellsOf, List.mem_cons, List.not_mem_nil, or_false] at hx
  rcases hx with rfl | rfl | rfl
  · exact cleanCL _
  · exact cleanCL _
  · exact .flat _ rfl
def stV (s : SZ) : Value := imP (encSt s) 0
theorem cleanStV (s : SZ) : NoNm (stV s) := .imp _ _ (cleanSt_cells s)
def zeroC : CZ := ⟨⟨0, 0, 0, 0⟩, false⟩
theorem rep_zero : ∀ n : Nat, cellsAll (cL (List.replicate n zeroC)) = repX n [.int .i64 0, .int .i64 0, .int .u64 0, .int .u64 0, .bool false]
  | 0 => rfl
  | n + 1 => by
    rw [List.replicate_succ, show zeroC :: List.replicate n zeroC = [zeroC] ++ List.replicate n zeroC from rfl, cellsC_app, rep_zero n, repX]; rfl
def putIn (cs : List CZ) (x : In13) : List CZ := cs.set x.slot.toNat ⟨rangeZ x.lo x.hi, x.sec⟩
def st0 (p : Pg) : SZ := ⟨p.ins.foldl putIn (List.replicate p.slots.toNat zeroC), List.replicate p.arrs.length zeroC, false⟩
def inI (n : Int) : Prop := -9223372036854775808 ≤ n ∧ n ≤ 9223372036854775807
theorem right_slots {p : Pg} (h : rightP p = true) : 0 ≤ p.slots ∧ ∀ x ∈ p.ins, 0 ≤ x.slot ∧ x.slot < p.slots := by
  unfold rightP hedP at h
  simp only [Bool.and_eq_true, decide_eq_true_eq] at h
  obtain ⟨⟨⟨⟨⟨⟨h1, _⟩, _⟩, _⟩, h2⟩, _⟩, _⟩ := h
  refine ⟨h1, fun x hx => ?_⟩
  unfold slotB at h2
  simp only [Bool.and_eq_true] at h2
  have := List.all_eq_true.1 h2.1 x.slot (by rw [slotL, List.mem_append]; exact .inl (List.mem_map.2 ⟨x, hx, rfl⟩))
  simpa using this
theorem rep_put {n j : Nat} (hj : j < n) : (cellsAll (cL (List.replicate n zeroC))).take (j * 5) ++ cellsOf (encC zeroC) ++ (cellsAll (cL (List.replicate n zeroC))).drop (j * 5 + (cellsOf (encC zeroC)).length) = cellsAll (cL (List.replicate n zeroC)) := by
  rw [cells_put (by rw [List.length_replicate]; exact hj)]
  congr 2
  apply List.ext_getElem
  · simp
  · intro k h1 h2
    simp [List.getElem_set]
abbrev rowC (l : List CZ) : Option U.Blk := some (.cells 112 (cellsAll (cL l)) false)
abbrev slC (b n : Nat) : Value := .slice (some ⟨b, 0, none⟩) n n
noncomputable abbrev hdS (Ts : Nat → TypeId) (p : Pg) (n : Nat) (cs az : List CZ) : List (Nat × Option U.Blk) := [(0, kwBlk Ts), (1, some (.cells 27 (cellsOf (encP p)) false)), (2, rowC cs), (3, rowC az), (4, some (.cells 213 [slC 2 n, slC 3 az.length, .bool false] false))]
theorem FrzV.boxL {s : AS} {k : Nat} {T : TypeId} {x : Value} {xs : List Value} {op : Bool} (hlo : s.lo ≤ k) (hk : Tr.at (pt k) s.heap = some (.cells T xs op)) (h : FrzL Tryz.prog s xs (cellsOf x)) : FrzV Tryz.prog s (.pointer (some ⟨k, 0, none⟩)) (imP x 0) := .box k T x xs op hlo hk h.at_.1.symm h.at_.2
theorem putIn_len (cs : List CZ) (x : In13) : (putIn cs x).length = cs.length := by rw [putIn, List.length_set]
theorem foldIn_len : ∀ (l : List In13) (cs : List CZ), (l.foldl putIn cs).length = cs.length
  | [], cs => rfl
  | x :: l, cs => by rw [List.foldl_cons, foldIn_len l, putIn_len]
theorem new_d (p : Pg) (hf : FewP p) (hs : p.slots ≤ 400000) (hi : ∀ x ∈ p.ins, inI x.lo ∧ inI x.hi) : DenU Tryz.prog kwT 41 [encP p] (if rightP p = true then .tuple ⟨[stV (st0 p), .int .i64 0]⟩ else .tuple ⟨[.pointer none, .int .i64 2]⟩) := by
  refine denU_of_soundT kw_ok fun Ts => SoundAt.body hmixU Tryz.func41 rfl rfl rfl 0 ?_
  have c1 := right_d p hf
  have k1 := cleanP p
  by_cases hr : rightP p = true
  · rw [if_pos hr]
    obtain ⟨r1, r2⟩ := right_slots hr
    rw [hr] at c1
    clear hr
    have ha := hf.arrs
    have hn := hf.ins
    obtain ⟨sl, arrs, ins, procs, main⟩ := p
    dsimp only at *
    obtain ⟨n, rfl⟩ := Int.eq_ofNat_of_zero_le r1
    have hmk1 := mk_full (zs := [.int .i64 0, .int .i64 0, .int .u64 0, .int .u64 0, .bool false]) (n := n) (b := 40) rfl rfl (by decide) (by omega)
    have hmk2 := mk_full (zs := [.int .i64 0, .int .i64 0, .int .u64 0, .int .u64 0, .bool false]) (n := (iL arrs).length) (b := 40) rfl rfl (by decide) (by rw [iL_len]; omega)
    (repeat' ((conv => whnf); first | refine U.ob_c hmk1 ?_ | refine U.ob_c hmk2 ?_ | refine goA ?_ | refine U.spineC_p ?_ | refine U.SoundAt.uT kw_ok c1 ⟨k1, trivial⟩ (tabK rfl rfl) ?_ | refine goB ?_ | refine U.drawX_p (D := U.propX) 10 [] (by decide +kernel) (by decide +kernel) ?_ | refine U.lw_c (fun hb => ?_) (fun hb => ?_)))
    (conv => whnf)
    obtain ⟨m, hm⟩ : ∃ m, m = arrs.length := ⟨_, rfl⟩
    refine loop_inv (α := Nat) (fun i => i ≤ 2) (fun i => (mkF [(1, .pointer (some ⟨1, 0, none⟩)), (4, .pointer (some ⟨4, 0, none⟩)), (30, .agg ⟨[slC 2 n, slC 3 (List.replicate m zeroC).length]⟩), (31, .int .i64 i)], ⟨mkO (hdS Ts ⟨(n : Int), arrs, ins, procs, main⟩ n (List.replicate n zeroC) (List.replicate m zeroC)), 5, 1, 1⟩)) (fun i => 2 - i) 0 (by decide) ?_ ?_
    · subst hm
      exact (Cov.renO (fun k => k) rfl rfl (Nat.le_of_ble_eq_true rfl) (Nat.le_of_ble_eq_true rfl) (fun _ _ => rfl) rfl (fun k hk => by have hk : k < 1 := hk; obtain rfl : k = 0 := (by omega); rfl) (.cons rfl (.row _ _ _ _ (kwClean) rfl) (.cons rfl (.row _ _ _ _ ((fun c hc => cleanP_cells ⟨(n : Int), arrs, ins, procs, main⟩ c hc)) rfl) (.cons rfl (.row _ _ _ _ ((cleanCC _)) ((rep_zero n))) (.cons rfl (.row _ _ _ _ ((cleanCC _)) ((by rw [rep_zero, iL_len]; rfl))) (.cons rfl (.cells _ _ _ _ (.cons (.S rfl rfl rfl) (.cons (.sl _ _ _ _ _ _ _ (by decide) rfl (by simp [iL_len]) (by simp [iL_len])) (.cons (.F rfl rfl) .nil)))) .nil))))) (.cons rfl (.P rfl) (.cons rfl (.P rfl) (.cons rfl (RenV.aggL (RenL.cons (.sl _ _ _ _ _ _ _ (by decide) rfl rfl rfl) (RenL.cons (.sl _ _ _ _ _ _ _ (by decide) rfl (by simp [iL_len]) (by simp [iL_len])) RenL.nil))) (.cons rfl .I .nil)))))
    have hrl : (List.replicate m zeroC).length = m := List.length_replicate
    intro i hi2
    have h3 : i = 2 ∨ i = 0 ∨ i = 1 := by omega
    rcases h3 with rfl | rfl | rfl
    · (repeat' ((conv => whnf); first | refine goD ?_ | refine U.lw_c (fun hb => ?_) (fun hb => ?_)))
      (conv => whnf)
      refine loop_inv (α := List In13 × List In13) (fun x => x.1 ++ x.2 = ins) (fun x => (mkF [(1, .pointer (some ⟨1, 0, none⟩)), (4, .pointer (some ⟨4, 0, none⟩)), (47, imS (inL ins)), (48, .int .i64 (inL ins).length), (49, .int .i64 x.1.length)], ⟨mkO (hdS Ts ⟨(n : Int), arrs, ins, procs, main⟩ n (x.1.foldl putIn (List.replicate n zeroC)) (List.replicate m zeroC)), 5, 1, 1⟩)) (fun x => x.2.length) ([], ins) rfl (Cov.slots (Nat.le_refl _) ⟨rfl, rfl, rfl, rfl, rfl, trivial⟩) ?_
      rintro ⟨pre, rest⟩ q1
      dsimp only at q1
      subst q1
      dsimp only
      obtain ⟨cs, hcs⟩ : ∃ cs, cs = pre.foldl putIn (List.replicate n zeroC) := ⟨_, rfl⟩
      have hcl : cs.length = n := by rw [hcs, foldIn_len, List.length_replicate]
      rcases rest with _ | ⟨⟨nm, slot, lo, hh, sec⟩, rest⟩
      · rw [List.append_nil] at *
        rw [← hcs]
        have zb := U.lt_no inL_map pre
        (repeat' ((conv => whnf); first | refine goD ?_ | refine U.lw_c (fun hb => ?_) (fun hb => ?_)))
        (conv => whnf)
        rw [show stV (st0 ⟨(n : Int), arrs, pre, procs, main⟩) = stV ⟨cs, List.replicate m zeroC, false⟩ by rw [hcs, hm]; rfl]
        exact .tupL (.cons (FrzV.boxL (Nat.le_of_ble_eq_true rfl) rfl (.cons (.rowL (ys := cL cs) (Nat.le_of_ble_eq_true rfl) rfl rfl (cL_5 cs) (by rw [cL_len, hcl]) (Nat.le_refl _) (cleanCC _)) (.cons (.rowL (ys := cL (List.replicate m zeroC)) (Nat.le_of_ble_eq_true rfl) rfl rfl (cL_5 _) (cL_len _).symm (Nat.le_refl _) (cleanCC _)) (.cons (.clean _ (.flat _ rfl)) .nil)))) (.cons (.clean _ (.flat _ rfl)) .nil))
      · have zb := U.lt_yes inL_map pre (In13.mk nm slot lo hh sec) rest; have zc := U.blt_yes inL_map pre (In13.mk nm slot lo hh sec) rest; have zn := U.nth_at inL_map pre (In13.mk nm slot lo hh sec) rest; have zw := U.len_snoc (pre := pre) (x := In13.mk nm slot lo hh sec) (post := rest) ((by simp at hn ⊢; omega))
        obtain ⟨r3, r4⟩ := r2 ⟨nm, slot, lo, hh, sec⟩ (by simp)
        obtain ⟨i1, i2⟩ := hi ⟨nm, slot, lo, hh, sec⟩ (by simp)
        dsimp only at r3 r4 i1 i2
        obtain ⟨j, rfl⟩ := Int.eq_ofNat_of_zero_le r3
        have hjn : j < n := by omega
        have g2 : Nat.blt j n = true := bLe hjn
        have hrg := range_d lo hh i1 i2
        have e1 : (pre ++ [In13.mk nm (j : Int) lo hh sec]).foldl putIn (List.replicate n zeroC) = cs.set j ⟨rangeZ lo hh, sec⟩ := by rw [List.foldl_append, ← hcs]; rfl
        rw [← hcs]
        generalize rangeZ lo hh = zz at hrg e1
        have hst : 0 + j * 5 + (cellsOf (encC ⟨zz, sec⟩)).length ≤ (cellsAll (cL cs)).length := by rw [cellsC_len, hcl]; show 0 + j * 5 + 5 ≤ _; omega
        have hrp := cells_put (l := cs) (j := j) (by omega) ⟨zz, sec⟩
        (repeat' ((conv => whnf); first | refine goA ?_ | refine U.storeC_p hst ?_ | refine goB ?_ | refine U.SoundAt.u (hrg) (by (repeat (first | exact trivial | ((conv => whnf); first | exact trivial | refine And.intro (by first | assumption | exact cleanI _ | exact cleanEs _ | exact cleanSs _ | exact cleanE _ | exact cleanIL _ | exact NoNm.flat _ rfl) ?_)))) ?_ | refine U.SoundC.u (hrg) (by (repeat (first | exact trivial | ((conv => whnf); first | exact trivial | refine And.intro (by first | assumption | exact cleanI _ | exact cleanEs _ | exact cleanSs _ | exact cleanE _ | exact cleanIL _ | exact NoNm.flat _ rfl) ?_)))) ?_ | refine U.drawX_p (D := U.propX) 15 [] (by decide +kernel) (by decide +kernel) ?_ | refine U.lw_c (fun hb => ?_) (fun hb => ?_)))
        (conv => whnf)
        refine ⟨(pre ++ [⟨nm, (j : Int), lo, hh, sec⟩], rest), by simp, by simp, ?_⟩
        rw [e1]
        exact (Cov.renO (fun k => k) rfl rfl (Nat.le_of_ble_eq_true rfl) (Nat.le_of_ble_eq_true rfl) (fun _ _ => rfl) rfl (fun k hk => by have hk : k < 1 := hk; obtain rfl : k = 0 := (by omega); rfl) (.cons rfl (.row _ _ _ _ (kwClean) rfl) (.cons rfl (.row _ _ _ _ ((fun c hc => cleanP_cells ⟨(n : Int), arrs, _, procs, main⟩ c hc)) rfl) (.cons rfl (.row _ _ _ _ (cleanCC _) ((by rw [Nat.zero_add]; exact hrp.symm))) (.cons rfl (.row _ _ _ _ (cleanCC _) rfl) (.cons rfl (.cells _ _ _ _ (.cons (.S rfl rfl rfl) (.cons (.S rfl rfl rfl) (.cons (.F rfl rfl) .nil)))) .nil))))) (.cons rfl (.P rfl) (.cons rfl (.P rfl) (.cons rfl (.clean _ _ (cleanInL _) rfl) (.cons rfl .I (.cons rfl (.clean _ _ (cleanI _) (congrArg (Value.int .i64) (zw.symm))) .nil))))))
    · (repeat' ((conv => whnf); first | refine goD ?_ | refine U.lw_c (fun hb => ?_) (fun hb => ?_)))
      (conv => whnf)
      refine loop_inv (α := Nat) (fun j => j ≤ n) (fun j => (mkF [(1, .pointer (some ⟨1, 0, none⟩)), (4, .pointer (some ⟨4, 0, none⟩)), (30, .agg ⟨[slC 2 n, slC 3 (List.replicate m zeroC).length]⟩), (31, .int .i64 0), (6, slC 2 n), (35, .int .i64 n), (36, .int .i64 j)], ⟨mkO (hdS Ts ⟨(n : Int), arrs, ins, procs, main⟩ n (List.replicate n zeroC) (List.replicate m zeroC)), 5, 1, 1⟩)) (fun j => n - j) 0 (Nat.zero_le _) (Cov.slots (Nat.le_refl _) ⟨rfl, rfl, rfl, rfl, rfl, rfl, rfl, trivial⟩) ?_
      intro j hj
      by_cases hjn : j < n
      · have g1 : decide ((j : Int) < (n : Int)) = true := decide_eq_true (by omega)
        have g2 : Nat.blt j n = true := bLe hjn
        have hjw := wadd1 (i := j) (by omega)
        have hst : 0 + j * 5 + (cellsOf (encC zeroC)).length ≤ (cellsAll (cL (List.replicate n zeroC))).length := by rw [cellsC_len, List.length_replicate]; show 0 + j * 5 + 5 ≤ _; omega
        have hrp := rep_put (n := n) (j := j) (by omega)
        (repeat' ((conv => whnf); first | refine goA ?_ | refine U.storeC_p hst ?_ | refine goB ?_ | refine U.SoundAt.u (one0_d) (by (repeat (first | exact trivial | ((conv => whnf); first | exact trivial | refine And.intro (by first | assumption | exact cleanI _ | exact cleanEs _ | exact cleanSs _ | exact cleanE _ | exact cleanIL _ | exact NoNm.flat _ rfl) ?_)))) ?_ | refine U.SoundC.u (one0_d) (by (repeat (first | exact trivial | ((conv => whnf); first | exact trivial | refine And.intro (by first | assumption | exact cleanI _ | exact cleanEs _ | exact cleanSs _ | exact cleanE _ | exact cleanIL _ | exact NoNm.flat _ rfl) ?_)))) ?_ | refine U.lw_c (fun hb => ?_) (fun hb => ?_)))
        (conv => whnf)
        exact ⟨j + 1, hjn, Nat.sub_succ_lt_self _ _ hjn, (Cov.renO (fun k => k) rfl rfl (Nat.le_of_ble_eq_true rfl) (Nat.le_of_ble_eq_true rfl) (fun _ _ => rfl) rfl (fun k hk => by have hk : k < 1 := hk; obtain rfl : k = 0 := (by omega); rfl) (.cons rfl (.row _ _ _ _ (kwClean) rfl) (.cons rfl (.row _ _ _ _ ((fun c hc => cleanP_cells ⟨(n : Int), arrs, ins, procs, main⟩ c hc)) rfl) (.cons rfl (.row _ _ _ _ (cleanCC _) ((by rw [Nat.zero_add]; exact hrp.symm))) (.cons rfl (.row _ _ _ _ (cleanCC _) rfl) (.cons rfl (.cells _ _ _ _ (.cons (.S rfl rfl rfl) (.cons (.S rfl rfl rfl) (.cons (.F rfl rfl) .nil)))) .nil))))) (.cons rfl (.P rfl) (.cons rfl (.P rfl) (.cons rfl (RenV.aggL (RenL.cons (.sl _ _ _ _ _ _ _ (by decide) rfl rfl rfl) (RenL.cons (.sl _ _ _ _ _ _ _ (by decide) rfl rfl rfl) RenL.nil))) (.cons rfl .I (.cons rfl (.S rfl rfl rfl) (.cons rfl .I (.cons rfl (.clean _ _ (cleanI _) (congrArg (Value.int .i64) (hjw.symm))) .nil))))))))⟩
      · have g1 : decide ((j : Int) < (n : Int)) = false := decide_eq_false (by omega)
        (repeat' ((conv => whnf); first | refine goD ?_ | refine U.lw_c (fun hb => ?_) (fun hb => ?_)))
        (conv => whnf)
        exact ⟨0 + 1, by decide, by decide, (Cov.renO (fun k => k) rfl rfl (Nat.le_of_ble_eq_true rfl) (Nat.le_of_ble_eq_true rfl) (fun _ _ => rfl) rfl (fun k hk => by have hk : k < 1 := hk; obtain rfl : k = 0 := (by omega); rfl) (.cons rfl (.row _ _ _ _ (kwClean) rfl) (.cons rfl (.row _ _ _ _ ((fun c hc => cleanP_cells ⟨(n : Int), arrs, ins, procs, main⟩ c hc)) rfl) (.cons rfl (.row _ _ _ _ (cleanCC _) rfl) (.cons rfl (.row _ _ _ _ (cleanCC _) rfl) (.cons rfl (.cells _ _ _ _ (.cons (.S rfl rfl rfl) (.cons (.S rfl rfl rfl) (.cons (.F rfl rfl) .nil)))) .nil))))) (.cons rfl (.P rfl) (.cons rfl (.P rfl) (.cons rfl (RenV.aggL (RenL.cons (.sl _ _ _ _ _ _ _ (by decide) rfl rfl rfl) (RenL.cons (.sl _ _ _ _ _ _ _ (by decide) rfl rfl rfl) RenL.nil))) (.cons rfl .I .nil)))))⟩
    · (repeat' ((conv => whnf); first | refine goD ?_ | refine U.lw_c (fun hb => ?_) (fun hb => ?_)))
      (conv => whnf)
      refine loop_inv (α := Nat) (fun j => j ≤ (List.replicate m zeroC).length) (fun j => (mkF [(1, .pointer (some ⟨1, 0, none⟩)), (4, .pointer (some ⟨4, 0, none⟩)), (30, .agg ⟨[slC 2 n, slC 3 (List.replicate m zeroC).length]⟩), (31, .int .i64 1), (6, slC 3 (List.replicate m zeroC).length), (35, .int .i64 (List.replicate m zeroC).length), (36, .int .i64 j)], ⟨mkO (hdS Ts ⟨(n : Int), arrs, ins, procs, main⟩ n (List.replicate n zeroC) (List.replicate m zeroC)), 5, 1, 1⟩)) (fun j => (List.replicate m zeroC).length - j) 0 (Nat.zero_le _) (Cov.slots (Nat.le_refl _) ⟨rfl, rfl, rfl, rfl, rfl, rfl, rfl, trivial⟩) ?_
      intro j hj
      by_cases hjn : j < (List.replicate m zeroC).length
      · have g1 : decide ((j : Int) < ((List.replicate m zeroC).length : Int)) = true := decide_eq_true (by omega)
        have g2 : Nat.blt j (List.replicate m zeroC).length = true := bLe hjn
        have hjw := wadd1 (i := j) (by omega)
        have hst : 0 + j * 5 + (cellsOf (encC zeroC)).length ≤ (cellsAll (cL (List.replicate m zeroC))).length := by rw [cellsC_len, List.length_replicate]; show 0 + j * 5 + 5 ≤ _; omega
        have hrp := rep_put (n := m) (j := j) (by omega)
        (repeat' ((conv => whnf); first | refine goA ?_ | refine U.storeC_p hst ?_ | refine goB ?_ | refine U.SoundAt.u (one0_d) (by (repeat (first | exact trivial | ((conv => whnf); first | exact trivial | refine And.intro (by first | assumption | exact cleanI _ | exact cleanEs _ | exact cleanSs _ | exact cleanE _ | exact cleanIL _ | exact NoNm.flat _ rfl) ?_)))) ?_ | refine U.SoundC.u (one0_d) (by (repeat (first | exact trivial | ((conv => whnf); first | exact trivial | refine And.intro (by first | assumption | exact cleanI _ | exact cleanEs _ | exact cleanSs _ | exact cleanE _ | exact cleanIL _ | exact NoNm.flat _ rfl) ?_)))) ?_ | refine U.lw_c (fun hb => ?_) (fun hb => ?_)))
        (conv => whnf)
        exact ⟨j + 1, hjn, Nat.sub_succ_lt_self _ _ hjn, (Cov.renO (fun k => k) rfl rfl (Nat.le_of_ble_eq_true rfl) (Nat.le_of_ble_eq_true rfl) (fun _ _ => rfl) rfl (fun k hk => by have hk : k < 1 := hk; obtain rfl : k = 0 := (by omega); rfl) (.cons rfl (.row _ _ _ _ (kwClean) rfl) (.cons rfl (.row _ _ _ _ ((fun c hc => cleanP_cells ⟨(n : Int), arrs, ins, procs, main⟩ c hc)) rfl) (.cons rfl (.row _ _ _ _ (cleanCC _) rfl) (.cons rfl (.row _ _ _ _ (cleanCC _) ((by rw [Nat.zero_add]; exact hrp.symm))) (.cons rfl (.cells _ _ _ _ (.cons (.S rfl rfl rfl) (.cons (.S rfl rfl rfl) (.cons (.F rfl rfl) .nil)))) .nil))))) (.cons rfl (.P rfl) (.cons rfl (.P rfl) (.cons rfl (RenV.aggL (RenL.cons (.sl _ _ _ _ _ _ _ (by decide) rfl rfl rfl) (RenL.cons (.sl _ _ _ _ _ _ _ (by decide) rfl rfl rfl) RenL.nil))) (.cons rfl .I (.cons rfl (.S rfl rfl rfl) (.cons rfl .I (.cons rfl (.clean _ _ (cleanI _) (congrArg (Value.int .i64) (hjw.symm))) .nil))))))))⟩
      · have g1 : decide ((j : Int) < ((List.replicate m zeroC).length : Int)) = false := decide_eq_false (by omega)
        (repeat' ((conv => whnf); first | refine goD ?_ | refine U.lw_c (fun hb => ?_) (fun hb => ?_)))
        (conv => whnf)
        exact ⟨1 + 1, by decide, by decide, (Cov.renO (fun k => k) rfl rfl (Nat.le_of_ble_eq_true rfl) (Nat.le_of_ble_eq_true rfl) (fun _ _ => rfl) rfl (fun k hk => by have hk : k < 1 := hk; obtain rfl : k = 0 := (by omega); rfl) (.cons rfl (.row _ _ _ _ (kwClean) rfl) (.cons rfl (.row _ _ _ _ ((fun c hc => cleanP_cells ⟨(n : Int), arrs, ins, procs, main⟩ c hc)) rfl) (.cons rfl (.row _ _ _ _ (cleanCC _) rfl) (.cons rfl (.row _ _ _ _ (cleanCC _) rfl) (.cons rfl (.cells _ _ _ _ (.cons (.S rfl rfl rfl) (.cons (.S rfl rfl rfl) (.cons (.F rfl rfl) .nil)))) .nil))))) (.cons rfl (.P rfl) (.cons rfl (.P rfl) (.cons rfl (RenV.aggL (RenL.cons (.sl _ _ _ _ _ _ _ (by decide) rfl rfl rfl) (RenL.cons (.sl _ _ _ _ _ _ _ (by decide) rfl rfl rfl) RenL.nil))) (.cons rfl .I .nil)))))⟩
  · rw [if_neg hr]
    have hr : rightP p = false := by simpa using hr
    rw [hr] at c1
    (repeat' ((conv => whnf); first | refine goA ?_ | refine U.SoundAt.uT kw_ok c1 ⟨k1, trivial⟩ (tabK rfl rfl) ?_ | refine goB ?_ | refine U.lw_c (fun hb => ?_) (fun hb => ?_)))
    (conv => whnf)
    exact .same (.flat _ rfl) rfl
end Go.Proofs.YtblaiilfoiefiaaGreatDoor
