/- The statement on trap sites: its walk. -/
import Derived.Test.YthbhnbnlbhpooaaTP
import Derived.Test.YthbhnbnlbhpooaaTQ
import Derived.Test.YthbhnbnlbhpooaaTR
import Derived.Test.YthbhnbnlbhpooaaTT
namespace Go.Proofs.Ythbhnbnlbhpooaa
open Go Go.RowKit Go.Sort U
set_option linter.unusedVariables false
set_option linter.unusedSimpArgs false
set_option maxRecDepth 100000
set_option maxHeartbeats 4000000
theorem ownT_mem {k a o : Int} {l : List Ex} {p : Int × Ex} (h : p ∈ ownT k a o l) : szE p.2 ≤ szEs l := by
  unfold ownT at h
  split at h
  · cases l with
    | nil => cases h
    | cons e l => rw [List.mem_singleton] at h; subst h; exact szEs_mem (by simp)
  · split at h
    · rcases l with _ | ⟨e0, _ | ⟨e, l⟩⟩
      · cases h
      · cases h
      · rw [List.mem_singleton] at h; subst h; exact szEs_mem (by simp)
    · cases h
mutual
theorem trE_mem : ∀ (e : Ex) (p : Int × Ex), p ∈ trE e → szE p.2 ≤ szE e
  | .mk k n a o l, p, h => by
    rw [trE, List.mem_append] at h
    rw [szE]
    rcases h with h | h
    · have := trEs_mem l p h; omega
    · have := ownT_mem h; omega
theorem trEs_mem : ∀ (l : List Ex) (p : Int × Ex), p ∈ trEs l → szE p.2 ≤ szEs l
  | [], p, h => by rw [trEs] at h; cases h
  | e :: l, p, h => by
    rw [trEs, List.mem_append] at h
    rw [szEs]
    rcases h with h | h
    · have := trE_mem e p h; omega
    · have := trEs_mem l p h; omega
end
theorem trS_mem {k a : Int} {xs : List Ex} {p : Int × Ex} (h : p ∈ trS k a xs) : szE p.2 ≤ szEs xs := by
  cases xs with
  | nil => cases h
  | cons e l =>
    rw [trS, List.mem_append, List.mem_append] at h
    rw [szEs]
    rcases h with (h | h) | h
    · have := trE_mem e p h; omega
    · split at h
      · rw [List.mem_singleton] at h; subst h; show szE e ≤ _; omega
      · cases h
    · have := trEs_mem l p h; omega
/-- A row of one statement is frozen ahead of a call. -/
theorem cov_row1 {P : Program} {N nx : Nat} {fr : Tr Value} {sh : Tr U.Blk} {l : List (Nat × Value)} (s : St) (c : Nat) {hl : List (Nat × Option U.Blk)} (hc : (hl.map (·.1)).all (fun k => decide (k ≠ c) && decide (k < nx)) = true) (g : sh.get c = some (.cells 26 (cellsOf (encS s)) false)) (hb : blksO sh nx ⟨fun k => k, fun u1 u => u1 = imS (encSs [s]) ∧ u = .slice (some ⟨c, 0, none⟩) 1 1⟩ hl)
    (hf : slotsRen fr nx ⟨fun k => k, fun u1 u => u1 = imS (encSs [s]) ∧ u = .slice (some ⟨c, 0, none⟩) 1 1⟩ l) : Cov P N nx fr ⟨sh, nx, 0, 0⟩ (mkF l) ⟨mkO hl, nx, 0, 0⟩ := by
  have hne : cellsOf (encS s) ≠ [] := by cases s; simp [encS, cellsOf]
  have hk : ∀ k ∈ hl.map (·.1), k ≠ c ∧ k < nx := fun k h => by
    have := List.all_eq_true.1 hc k h
    simpa using this
  refine Cov.gen (fun k => k) c (fun u1 u => u1 = imS (encSs [s]) ∧ u = .slice (some ⟨c, 0, none⟩) 1 1) (T := 26) (op := false) (xs := cellsOf (encS s)) rfl rfl (Nat.le_refl _) (Nat.zero_le _) (fun _ _ => rfl) (fun k b h => ?_) (fun k k' _ _ h => h) (fun k h => absurd h (Nat.not_lt_zero k)) (Nat.zero_le _) (fun _ => g) (fun u1 u ⟨h1, h2⟩ => ?_) fun t u hu => hf.all _ (mkF_mem hu)
  · have hm := mkO_get h
    obtain ⟨q1, q2⟩ := hk k (List.mem_map.2 ⟨_, hm, rfl⟩)
    exact ⟨q2, fun _ => Nat.zero_le _, fun _ => q1, hb.all _ hm b rfl⟩
  · subst h1; subst h2
    exact .row (encSs [s]) 6 1 1 hne (List.append_nil _) rfl (Nat.le_refl _) (cellsS_6 [s]) (cleanS_cells' s)
/-- Behind the inner loop: only the statement's box is told. -/
theorem cov_drop {P : Program} {N nx : Nat} {fr : Tr Value} {sh : Tr U.Blk} {l : List (Nat × Value)} (s : St) (g0 : sh.get 0 = some (.cells 26 (cellsOf (encS s)) false)) (hf : slotsRen fr 3 ⟨fun k => k, fun _ _ => False⟩ l) : Cov P N 3 fr ⟨sh, nx, 0, 0⟩ (mkF l) (stB s) :=
  Cov.renO (fun k => k) rfl rfl (Nat.le_refl 3) (Nat.zero_le _) (fun _ _ => rfl) rfl (fun k hk => absurd hk (Nat.not_lt_zero k)) (.cons g0 (.row _ _ _ _ (cleanS_cells' s) rfl) .nil) hf
theorem cov_end {P : Program} {N nx : Nat} {fr : Tr Value} {sh : Tr U.Blk} {l : List (Nat × Value)} (s : St) (g0 : sh.get 0 = some (.cells 26 (cellsOf (encS s)) false)) (hf : slotsRen fr 65537 ⟨fun k => k, fun _ _ => False⟩ l) : Cov P N 65537 fr ⟨sh, nx, 0, 0⟩ (mkF l) ⟨mkO [(0, some (.cells 26 (cellsOf (encS s)) false))], 131329, 0, 0⟩ :=
  Cov.renO (fun k => k) rfl rfl (by decide) (Nat.zero_le _) (fun _ _ => rfl) rfl (fun k hk => absurd hk (Nat.not_lt_zero k)) (.cons g0 (.row _ _ _ _ (cleanS_cells' s) rfl) .nil) (hf.conv (by decide) fun _ _ => rfl)
theorem irNil (k n a o : Int) : DenU Try.prog [] 10 [.agg ⟨[.int .i64 k, .int .i64 n, .int .i64 a, .int .i64 o, .slice none 0 0]⟩] (encE (.mk k n a o [])) := by
  refine ⟨fun z W vs hg hz hv => (IrExpr_all 1000 (.mk k n a o []) (by rw [szE, szEs]; decide) (Nat.le_refl _)).out z W vs hg hz ?_⟩
  obtain ⟨v, t, rfl, h1, h2⟩ := hv.inv_cons
  obtain ⟨l', h3, rfl⟩ := h1.agg_inv
  refine .cons (.agg _ _ h3.1 fun i u v hu hv' => ?_) h2
  rcases Nat.lt_or_ge i 4 with hi | hi
  · refine h3.2 i u v ?_ hv'
    rcases i with _ | _ | _ | _ | i <;> first | exact hu | omega
  · rcases i with _ | _ | _ | _ | _ | i
    · omega
    · omega
    · omega
    · omega
    · have hu : some (imS []) = some u := hu
      cases hu
      have := h3.2 4 (.slice none 0 0) v rfl hv'
      rw [this.flat1_eq rfl]
      exact .imn
    · simp at hu
theorem law_d (k a no : Int) (xs : List Ex) (th el : List St) (hok : okSs [.mk k a xs th el no]) (hTr : szEs xs ≤ 900 → (trS k a xs).length ≤ 65280 → DenR Try.prog 8 [encS (.mk k a xs th el no)] (lV 0 (trS k a xs)) (lB 1 (trS k a xs) :: famTp (trS k a xs))) : DenU Try.prog [] 3 [encS (.mk k a xs th el no)] (.bool true) := by
  refine denU_of_sound hmixU fun Ts => SoundAt.body hmixU Try.func3 rfl rfl rfl 0 ?_
  have hfew := few_d [.mk k a xs th el no] (irStmts_all _ _ (Nat.le_refl _) hok (by show 1 ≤ maxI; decide))
  have hcp : NoNm (progV [.mk k a xs th el no]) := .agg _ fun x hx => by
    simp only [List.mem_cons, List.not_mem_nil, or_false] at hx
    rcases hx with rfl | rfl | rfl | rfl | rfl
    · exact cleanI _
    · exact .flat _ rfl
    · exact .flat _ rfl
    · exact .flat _ rfl
    · exact cleanSs _
  (repeat' ((conv => whnf); first | refine U.lw_t ?_ | refine U.lw_f ?_ | refine U.lit_t ?_ | refine U.lit_f ?_ | refine U.ob_t ?_ | refine U.ob_c (by first | (with_reducible assumption) | exact Nat.ble_eq_true_of_le (by omega) | exact Nat.ble_eq_true_of_le (by simp at *; omega)) ?_ | refine U.nv_c (by with_reducible assumption) ?_ | refine U.SoundAt.u (works_d) (by (repeat (first | exact trivial | ((conv => whnf); first | exact trivial | refine And.intro (by first | assumption | exact cleanI _ | exact cleanEs _ | exact cleanSs _ | exact cleanTs _ | exact cleanE _ | exact NoNm.flat _ rfl) ?_)))) ?_ | refine U.SoundC.u (works_d) (by (repeat (first | exact trivial | ((conv => whnf); first | exact trivial | refine And.intro (by first | assumption | exact cleanI _ | exact cleanEs _ | exact cleanSs _ | exact cleanTs _ | exact cleanE _ | exact NoNm.flat _ rfl) ?_)))) ?_ | refine U.lw_t' (by with_reducible assumption) ?_ | refine U.lw_f' (by with_reducible assumption) ?_ | refine U.lw_c (fun hb => ?_) (fun hb => ?_)))
  refine SoundAt.cov (args1 := [progV [.mk k a xs th el no], .int .i64 250]) [(0, progV [.mk k a xs th el no]), (1, .int .i64 250)] (cov_row1 (nx := 2) (.mk k a xs th el no) 1 (hl := [(0, some (.cells 26 (cellsOf (encS (.mk k a xs th el no))) false))]) rfl rfl (.cons rfl (.row _ _ _ _ (cleanS_cells' (.mk k a xs th el no)) rfl) .nil) (.cons rfl (RenV.aggL (.cons (.clean _ _ (cleanI _) rfl) (.cons (.clean _ _ (.flat _ rfl) rfl) (.cons (.clean _ _ (.flat _ rfl) rfl) (.cons (.clean _ _ (.flat _ rfl) rfl) (.cons (.ext _ _ ⟨rfl, rfl⟩) .nil)))))) (.cons rfl (.clean _ _ (cleanI _) rfl) .nil))) rfl (fun i u hu => by
    rcases i with _ | _ | i
    · cases hu; rfl
    · cases hu; rfl
    · simp at hu) ?_
  (repeat' ((conv => whnf); first | refine U.lw_t ?_ | refine U.lw_f ?_ | refine U.lit_t ?_ | refine U.lit_f ?_ | refine U.ob_t ?_ | refine U.ob_c (by first | (with_reducible assumption) | exact Nat.ble_eq_true_of_le (by omega) | exact Nat.ble_eq_true_of_le (by simp at *; omega)) ?_ | refine U.nv_c (by with_reducible assumption) ?_ | refine U.SoundAt.u (hfew) (by (repeat (first | exact trivial | ((conv => whnf); first | exact trivial | refine And.intro (by first | assumption | exact cleanI _ | exact cleanEs _ | exact cleanSs _ | exact cleanTs _ | exact cleanE _ | exact NoNm.flat _ rfl) ?_)))) ?_ | refine U.SoundAt.u (works_d) (by (repeat (first | exact trivial | ((conv => whnf); first | exact trivial | refine And.intro (by first | assumption | exact cleanI _ | exact cleanEs _ | exact cleanSs _ | exact cleanTs _ | exact cleanE _ | exact NoNm.flat _ rfl) ?_)))) ?_ | refine U.SoundC.u (hfew) (by (repeat (first | exact trivial | ((conv => whnf); first | exact trivial | refine And.intro (by first | assumption | exact cleanI _ | exact cleanEs _ | exact cleanSs _ | exact cleanTs _ | exact cleanE _ | exact NoNm.flat _ rfl) ?_)))) ?_ | refine U.SoundC.u (works_d) (by (repeat (first | exact trivial | ((conv => whnf); first | exact trivial | refine And.intro (by first | assumption | exact cleanI _ | exact cleanEs _ | exact cleanSs _ | exact cleanTs _ | exact cleanE _ | exact NoNm.flat _ rfl) ?_)))) ?_ | refine U.lw_t' (by with_reducible assumption) ?_ | refine U.lw_f' (by with_reducible assumption) ?_ | refine U.lw_c (fun hb => ?_) (fun hb => ?_)))
  · (conv => whnf)
    exact .clean _ (.flat _ rfl)
  have hc0 : cntL [.mk k a xs th el no] 250 30 ≤ 250 := by simpa using hb
  have hsz : szSs [.mk k a xs th el no] ≤ 250 := by
    have := cntL_few [.mk k a xs th el no] 250 30 (by decide) (by decide)
    omega
  have hxs : szEs xs ≤ 250 := by rw [szSs, szS] at hsz; omega
  have hI := IrStmts_all 1000 [.mk k a xs th el no] (by omega) (Nat.le_refl _)
  have hS := SameStmts_all 1000 [.mk k a xs th el no] (by omega) (by omega)
  have hT := refTraps_d k a no xs th el (by omega)
  have hn0 : nth (encSs [.mk k a xs th el no]) 0 = some (encS (.mk k a xs th el no)) := rfl
  have hcs : NoNm (encS (.mk k a xs th el no)) := .agg _ (cleanS_cells' (.mk k a xs th el no))
  refine SoundAt.cov (args1 := [imS (encSs [.mk k a xs th el no])]) [(0, imS (encSs [.mk k a xs th el no]))] (cov_row1 (nx := 3) (.mk k a xs th el no) 2 (hl := [(0, some (.cells 26 (cellsOf (encS (.mk k a xs th el no))) false))]) rfl rfl (.cons rfl (.row _ _ _ _ (cleanS_cells' (.mk k a xs th el no)) rfl) .nil) (.cons rfl (.ext _ _ ⟨rfl, rfl⟩) .nil)) rfl (fun i u hu => by
    rcases i with _ | i
    · cases hu; rfl
    · simp at hu) ?_
  (repeat' ((conv => whnf); first | refine U.lw_t ?_ | refine U.lw_f ?_ | refine U.lit_t ?_ | refine U.lit_f ?_ | refine U.ob_t ?_ | refine U.ob_c (by first | (with_reducible assumption) | exact Nat.ble_eq_true_of_le (by omega) | exact Nat.ble_eq_true_of_le (by simp at *; omega)) ?_ | refine U.nv_c (by with_reducible assumption) ?_ | refine U.SoundAt.u (hI) (by (repeat (first | exact trivial | ((conv => whnf); first | exact trivial | refine And.intro (by first | assumption | exact cleanI _ | exact cleanEs _ | exact cleanSs _ | exact cleanTs _ | exact cleanE _ | exact NoNm.flat _ rfl) ?_)))) ?_ | refine U.SoundAt.u (hT) (by (repeat (first | exact trivial | ((conv => whnf); first | exact trivial | refine And.intro (by first | assumption | exact cleanI _ | exact cleanEs _ | exact cleanSs _ | exact cleanTs _ | exact cleanE _ | exact NoNm.flat _ rfl) ?_)))) ?_ | refine U.SoundAt.u (works_d) (by (repeat (first | exact trivial | ((conv => whnf); first | exact trivial | refine And.intro (by first | assumption | exact cleanI _ | exact cleanEs _ | exact cleanSs _ | exact cleanTs _ | exact cleanE _ | exact NoNm.flat _ rfl) ?_)))) ?_ | refine U.SoundC.u (hI) (by (repeat (first | exact trivial | ((conv => whnf); first | exact trivial | refine And.intro (by first | assumption | exact cleanI _ | exact cleanEs _ | exact cleanSs _ | exact cleanTs _ | exact cleanE _ | exact NoNm.flat _ rfl) ?_)))) ?_ | refine U.SoundC.u (hT) (by (repeat (first | exact trivial | ((conv => whnf); first | exact trivial | refine And.intro (by first | assumption | exact cleanI _ | exact cleanEs _ | exact cleanSs _ | exact cleanTs _ | exact cleanE _ | exact NoNm.flat _ rfl) ?_)))) ?_ | refine U.SoundC.u (works_d) (by (repeat (first | exact trivial | ((conv => whnf); first | exact trivial | refine And.intro (by first | assumption | exact cleanI _ | exact cleanEs _ | exact cleanSs _ | exact cleanTs _ | exact cleanE _ | exact NoNm.flat _ rfl) ?_)))) ?_ | refine U.lw_t' (by with_reducible assumption) ?_ | refine U.lw_f' (by with_reducible assumption) ?_ | refine U.lw_c (fun hb => ?_) (fun hb => ?_)))
  have hW : (trS k a xs).length ≤ 1000 := by
    cases xs with
    | nil => exact Nat.zero_le _
    | cons e l =>
      have h1 := trE_len e
      have h2 := trEs_len l
      rw [szEs] at hxs
      rw [trS, List.length_append, List.length_append]
      split <;> simp <;> omega
  have hTr := hTr (by omega) (by omega)
  generalize hWd : trS k a xs = W at *
  refine loop_inv (α := Nat) (fun x => x ≤ 2) (fun x => (mkF [(1, .pointer (some ⟨0, 0, none⟩)), (2, .bool false), (3, imS (encSs [.mk k a xs th el no])), (4, imS (encTs W)), (5, .int .i64 x)], stB (.mk k a xs th el no))) (fun x => 2 - x) 0 (by decide) ?_ ?_
  · exact Cov.slots (s := stB (.mk k a xs th el no)) (Nat.le_refl 3) ⟨rfl, rfl, rfl, rfl, rfl, trivial⟩
  intro x hx
  dsimp only
  by_cases h2 : x = 2
  · subst h2
    (repeat' ((conv => whnf); first | refine U.lw_t ?_ | refine U.lw_f ?_ | refine U.lit_t ?_ | refine U.lit_f ?_ | refine U.ob_t ?_ | refine U.ob_c (by first | (with_reducible assumption) | exact Nat.ble_eq_true_of_le (by omega) | exact Nat.ble_eq_true_of_le (by simp at *; omega)) ?_ | refine U.nv_c (by with_reducible assumption) ?_ | refine U.SoundAt.u (works_d) (by (repeat (first | exact trivial | ((conv => whnf); first | exact trivial | refine And.intro (by first | assumption | exact cleanI _ | exact cleanEs _ | exact cleanSs _ | exact cleanTs _ | exact cleanE _ | exact NoNm.flat _ rfl) ?_)))) ?_ | refine U.SoundC.u (works_d) (by (repeat (first | exact trivial | ((conv => whnf); first | exact trivial | refine And.intro (by first | assumption | exact cleanI _ | exact cleanEs _ | exact cleanSs _ | exact cleanTs _ | exact cleanE _ | exact NoNm.flat _ rfl) ?_)))) ?_ | refine U.lw_t' (by with_reducible assumption) ?_ | refine U.lw_f' (by with_reducible assumption) ?_ | refine U.lw_c (fun hb => ?_) (fun hb => ?_)))
    refine SoundAt.cov (args1 := [imS (encSs [.mk k a xs th el no])]) [(0, imS (encSs [.mk k a xs th el no]))] (cov_row1 (nx := 4) (.mk k a xs th el no) 3 (hl := [(0, some (.cells 26 (cellsOf (encS (.mk k a xs th el no))) false))]) rfl rfl (.cons rfl (.row _ _ _ _ (cleanS_cells' (.mk k a xs th el no)) rfl) .nil) (.cons rfl (.ext _ _ ⟨rfl, rfl⟩) .nil)) rfl (fun i u hu => by
      rcases i with _ | i
      · cases hu; rfl
      · simp at hu) ?_
    (repeat' ((conv => whnf); first | refine U.lw_t ?_ | refine U.lw_f ?_ | refine U.lit_t ?_ | refine U.lit_f ?_ | refine U.ob_t ?_ | refine U.ob_c (by first | (with_reducible assumption) | exact Nat.ble_eq_true_of_le (by omega) | exact Nat.ble_eq_true_of_le (by simp at *; omega)) ?_ | refine U.nv_c (by with_reducible assumption) ?_ | refine U.SoundAt.u (hI) (by (repeat (first | exact trivial | ((conv => whnf); first | exact trivial | refine And.intro (by first | assumption | exact cleanI _ | exact cleanEs _ | exact cleanSs _ | exact cleanTs _ | exact cleanE _ | exact NoNm.flat _ rfl) ?_)))) ?_ | refine U.SoundAt.u (hS) (by (repeat (first | exact trivial | ((conv => whnf); first | exact trivial | refine And.intro (by first | assumption | exact cleanI _ | exact cleanEs _ | exact cleanSs _ | exact cleanTs _ | exact cleanE _ | exact NoNm.flat _ rfl) ?_)))) ?_ | refine U.SoundAt.u (works_d) (by (repeat (first | exact trivial | ((conv => whnf); first | exact trivial | refine And.intro (by first | assumption | exact cleanI _ | exact cleanEs _ | exact cleanSs _ | exact cleanTs _ | exact cleanE _ | exact NoNm.flat _ rfl) ?_)))) ?_ | refine U.SoundC.u (hI) (by (repeat (first | exact trivial | ((conv => whnf); first | exact trivial | refine And.intro (by first | assumption | exact cleanI _ | exact cleanEs _ | exact cleanSs _ | exact cleanTs _ | exact cleanE _ | exact NoNm.flat _ rfl) ?_)))) ?_ | refine U.SoundC.u (hS) (by (repeat (first | exact trivial | ((conv => whnf); first | exact trivial | refine And.intro (by first | assumption | exact cleanI _ | exact cleanEs _ | exact cleanSs _ | exact cleanTs _ | exact cleanE _ | exact NoNm.flat _ rfl) ?_)))) ?_ | refine U.SoundC.u (works_d) (by (repeat (first | exact trivial | ((conv => whnf); first | exact trivial | refine And.intro (by first | assumption | exact cleanI _ | exact cleanEs _ | exact cleanSs _ | exact cleanTs _ | exact cleanE _ | exact NoNm.flat _ rfl) ?_)))) ?_ | refine U.lw_t' (by with_reducible assumption) ?_ | refine U.lw_f' (by with_reducible assumption) ?_ | refine U.lw_c (fun hb => ?_) (fun hb => ?_)))
    (conv => whnf)
    exact .clean _ (.flat _ rfl)
  · have hwx : IntKind.i64.wrap (((x : Nat) : Int) + 1) = ((x + 1 : Nat) : Int) := wadd1 (by omega)
    have hb5 : decide (((x : Nat) : Int) < 2) = true := decide_eq_true (by omega)
    (repeat' ((conv => whnf); first | refine U.lw_t ?_ | refine U.lw_f ?_ | refine U.lit_t ?_ | refine U.lit_f ?_ | refine U.ob_t ?_ | refine SoundAt.tell hTr ⟨hcs, trivial⟩ (Nat.zero_le _) (fun _ => (tellW (.mk k a xs th el no) W (by omega)).stp (Nat.zero_le _)) (fun _ => tellW (.mk k a xs th el no) W (by omega)) ?_ | refine U.ob_c (by first | (with_reducible assumption) | exact Nat.ble_eq_true_of_le (by omega) | exact Nat.ble_eq_true_of_le (by simp at *; omega)) ?_ | refine U.nv_c (by with_reducible assumption) ?_ | refine U.SoundAt.u (works_d) (by (repeat (first | exact trivial | ((conv => whnf); first | exact trivial | refine And.intro (by first | assumption | exact cleanI _ | exact cleanEs _ | exact cleanSs _ | exact cleanTs _ | exact cleanE _ | exact NoNm.flat _ rfl) ?_)))) ?_ | refine U.SoundC.u (works_d) (by (repeat (first | exact trivial | ((conv => whnf); first | exact trivial | refine And.intro (by first | assumption | exact cleanI _ | exact cleanEs _ | exact cleanSs _ | exact cleanTs _ | exact cleanE _ | exact NoNm.flat _ rfl) ?_)))) ?_ | refine U.lw_t' (by with_reducible assumption) ?_ | refine U.lw_f' (by with_reducible assumption) ?_ | refine U.lw_c (fun hb => ?_) (fun hb => ?_)))
    rcases W with _ | ⟨w0, W⟩
    · (repeat' ((conv => whnf); first | refine U.lw_t ?_ | refine U.lw_f ?_ | refine U.lit_t ?_ | refine U.lit_f ?_ | refine U.ob_t ?_ | refine U.ob_c (by first | (with_reducible assumption) | exact Nat.ble_eq_true_of_le (by omega) | exact Nat.ble_eq_true_of_le (by simp at *; omega)) ?_ | refine U.nv_c (by with_reducible assumption) ?_ | refine U.SoundAt.u (works_d) (by (repeat (first | exact trivial | ((conv => whnf); first | exact trivial | refine And.intro (by first | assumption | exact cleanI _ | exact cleanEs _ | exact cleanSs _ | exact cleanTs _ | exact cleanE _ | exact NoNm.flat _ rfl) ?_)))) ?_ | refine U.SoundC.u (works_d) (by (repeat (first | exact trivial | ((conv => whnf); first | exact trivial | refine And.intro (by first | assumption | exact cleanI _ | exact cleanEs _ | exact cleanSs _ | exact cleanTs _ | exact cleanE _ | exact NoNm.flat _ rfl) ?_)))) ?_ | refine U.lw_t' (by with_reducible assumption) ?_ | refine U.lw_f' (by with_reducible assumption) ?_ | refine U.lw_c (fun hb => ?_) (fun hb => ?_)))
      refine loop_inv (α := Unit) (fun _ => True) (fun _ => (mkF [(1, .pointer (some ⟨0, 0, none⟩)), (2, .bool false), (3, imS (encSs [.mk k a xs th el no])), (4, imS (encTs [])), (5, .int .i64 x), (6, .slice none 0 0), (7, .int .i64 0)], stW (.mk k a xs th el no) [])) (fun _ => 0) () trivial (Cov.slots (s := stW (.mk k a xs th el no) []) (Nat.le_refl _) ⟨rfl, rfl, rfl, rfl, rfl, rfl, rfl, trivial⟩) ?_
      rintro - -
      (repeat' ((conv => whnf); first | refine U.lw_t ?_ | refine U.lw_f ?_ | refine U.lit_t ?_ | refine U.lit_f ?_ | refine U.ob_t ?_ | refine U.ob_c (by first | (with_reducible assumption) | exact Nat.ble_eq_true_of_le (by omega) | exact Nat.ble_eq_true_of_le (by simp at *; omega)) ?_ | refine U.nv_c (by with_reducible assumption) ?_ | refine U.SoundAt.u (works_d) (by (repeat (first | exact trivial | ((conv => whnf); first | exact trivial | refine And.intro (by first | assumption | exact cleanI _ | exact cleanEs _ | exact cleanSs _ | exact cleanTs _ | exact cleanE _ | exact NoNm.flat _ rfl) ?_)))) ?_ | refine U.SoundC.u (works_d) (by (repeat (first | exact trivial | ((conv => whnf); first | exact trivial | refine And.intro (by first | assumption | exact cleanI _ | exact cleanEs _ | exact cleanSs _ | exact cleanTs _ | exact cleanE _ | exact NoNm.flat _ rfl) ?_)))) ?_ | refine U.lw_t' (by with_reducible assumption) ?_ | refine U.lw_f' (by with_reducible assumption) ?_ | refine U.lw_c (fun hb => ?_) (fun hb => ?_)))
      (conv => whnf)
      exact ⟨x + 1, by omega, by omega, cov_drop (.mk k a xs th el no) rfl (.cons rfl (.ptr 0 0 0 (by decide) rfl) (.cons rfl (.clean _ _ (.flat _ rfl) rfl) (.cons rfl (.clean _ _ (cleanSs _) rfl) (.cons rfl (.clean _ _ (cleanTs _) rfl) (.cons rfl (.clean _ _ (cleanI _) (congrArg (Value.int .i64) hwx.symm)) .nil)))))⟩
    · have hne : ((((W.length + 1 : Nat) : Int)) != (((encTs (w0 :: W)).length : Nat) : Int)) = false := by
        rw [encTs, List.length_map, List.length_cons]; simp
      (repeat' ((conv => whnf); first | refine U.lw_t ?_ | refine U.lw_f ?_ | refine U.lit_t ?_ | refine U.lit_f ?_ | refine U.ob_t ?_ | refine U.ob_c (by first | (with_reducible assumption) | exact Nat.ble_eq_true_of_le (by omega) | exact Nat.ble_eq_true_of_le (by simp at *; omega)) ?_ | refine U.nv_c (by with_reducible assumption) ?_ | refine U.SoundAt.u (works_d) (by (repeat (first | exact trivial | ((conv => whnf); first | exact trivial | refine And.intro (by first | assumption | exact cleanI _ | exact cleanEs _ | exact cleanSs _ | exact cleanTs _ | exact cleanE _ | exact NoNm.flat _ rfl) ?_)))) ?_ | refine U.SoundC.u (works_d) (by (repeat (first | exact trivial | ((conv => whnf); first | exact trivial | refine And.intro (by first | assumption | exact cleanI _ | exact cleanEs _ | exact cleanSs _ | exact cleanTs _ | exact cleanE _ | exact NoNm.flat _ rfl) ?_)))) ?_ | refine U.lw_t' (by with_reducible assumption) ?_ | refine U.lw_f' (by with_reducible assumption) ?_ | refine U.lw_c (fun hb => ?_) (fun hb => ?_)))
      refine loop_inv (α := List (Int × Ex) × List (Int × Ex)) (fun y => y.1 ++ y.2 = w0 :: W) (fun y => (mkF [(1, .pointer (some ⟨0, 0, none⟩)), (2, .bool false), (3, imS (encSs [.mk k a xs th el no])), (4, imS (encTs (w0 :: W))), (5, .int .i64 x), (6, lV 3 (w0 :: W)), (7, .int .i64 y.1.length)], match y.2 with
        | [] => ⟨mkO [(0, some (.cells 26 (cellsOf (encS (.mk k a xs th el no))) false))], 131329, 0, 0⟩
        | cur :: post => stJ (.mk k a xs th el no) y.1 cur post)) (fun y => y.2.length) ([], w0 :: W) rfl (cov_iin _ w0 W (by rw [List.length_cons] at hW; omega) ?_) ?_
      · exact .cons rfl (.ptr 0 0 0 (by decide) rfl) (.cons rfl (.clean _ _ (.flat _ rfl) rfl) (.cons rfl (.clean _ _ (cleanSs _) rfl) (.cons rfl (.clean _ _ (cleanTs _) rfl) (.cons rfl (.clean _ _ (cleanI _) rfl) (.cons rfl (.sl 3 3 0 _ _ _ _ (by decide) rfl rfl rfl) (.cons rfl (.clean _ _ (cleanI _) rfl) .nil))))))
      rintro ⟨pre, rest⟩ h1
      dsimp only at h1 ⊢
      rcases rest with _ | ⟨⟨i1, k1, n1, a1, o1, m1⟩, post⟩
      · rw [List.append_nil] at h1
        subst h1
        have hz0 : decide ((((w0 :: W).length : Nat) : Int) < ((W.length + 1 : Nat) : Int)) = false := decide_eq_false (by rw [List.length_cons]; omega)
        (repeat' ((conv => whnf); first | refine U.lw_t ?_ | refine U.lw_f ?_ | refine U.lit_t ?_ | refine U.lit_f ?_ | refine U.ob_t ?_ | refine U.ob_c (by first | (with_reducible assumption) | exact Nat.ble_eq_true_of_le (by omega) | exact Nat.ble_eq_true_of_le (by simp at *; omega)) ?_ | refine U.nv_c (by with_reducible assumption) ?_ | refine U.SoundAt.u (works_d) (by (repeat (first | exact trivial | ((conv => whnf); first | exact trivial | refine And.intro (by first | assumption | exact cleanI _ | exact cleanEs _ | exact cleanSs _ | exact cleanTs _ | exact cleanE _ | exact NoNm.flat _ rfl) ?_)))) ?_ | refine U.SoundC.u (works_d) (by (repeat (first | exact trivial | ((conv => whnf); first | exact trivial | refine And.intro (by first | assumption | exact cleanI _ | exact cleanEs _ | exact cleanSs _ | exact cleanTs _ | exact cleanE _ | exact NoNm.flat _ rfl) ?_)))) ?_ | refine U.lw_t' (by with_reducible assumption) ?_ | refine U.lw_f' (by with_reducible assumption) ?_ | refine U.lw_c (fun hb => ?_) (fun hb => ?_)))
        (conv => whnf)
        exact ⟨x + 1, by omega, by omega, cov_drop (.mk k a xs th el no) rfl (.cons rfl (.ptr 0 0 0 (by decide) rfl) (.cons rfl (.clean _ _ (.flat _ rfl) rfl) (.cons rfl (.clean _ _ (cleanSs _) rfl) (.cons rfl (.clean _ _ (cleanTs _) rfl) (.cons rfl (.clean _ _ (cleanI _) (congrArg (Value.int .i64) hwx.symm)) .nil)))))⟩
      · have hz0 : decide (((pre.length : Nat) : Int) < ((W.length + 1 : Nat) : Int)) = true := decide_eq_true (by
          have := congrArg List.length h1
          simp at this
          omega)
        have hLd : ∀ q, q = 0 + pre.length * 6 + 0 → nth (rowTp 65793 pre ++ cellsTp 65537 (i1, .mk k1 n1 a1 o1 m1) ++ rowTp (257 + pre.length + 1) post) q = some (.int .i64 i1) := fun q hq => by
          rw [List.append_assoc, show q = (rowTp 65793 pre).length by rw [rowTp_len]; omega]
          exact nth_in _ _ _
        have hdA : ∀ q, q = 0 + pre.length * 6 + 1 → dropL (rowTp 65793 pre ++ cellsTp 65537 (i1, .mk k1 n1 a1 o1 m1) ++ rowTp (257 + pre.length + 1) post) q = .int .i64 k1 :: .int .i64 n1 :: .int .i64 a1 :: .int .i64 o1 :: rowS 65537 (encEs m1) :: rowTp (257 + pre.length + 1) post := fun q hq => by
          rw [dropL_eq, List.append_assoc, show q = (rowTp 65793 pre).length + 1 by rw [rowTp_len]; omega, List.drop_append, List.drop_eq_nil_of_le (by omega), List.nil_append, Nat.add_sub_cancel_left]
          rfl
        have hL5 : ∀ q, q = 0 + pre.length * 6 + 1 + 4 → nth (rowTp 65793 pre ++ cellsTp 65537 (i1, .mk k1 n1 a1 o1 m1) ++ rowTp (257 + pre.length + 1) post) q = some (rowS 65537 (encEs m1)) := fun q hq => by
          have e : rowTp 65793 pre ++ cellsTp 65537 (i1, .mk k1 n1 a1 o1 m1) ++ rowTp (257 + pre.length + 1) post = (rowTp 65793 pre ++ [Value.int .i64 i1, .int .i64 k1, .int .i64 n1, .int .i64 a1, .int .i64 o1]) ++ rowS 65537 (encEs m1) :: rowTp (257 + pre.length + 1) post := by simp [cellsTp]
          rw [e, show q = (rowTp 65793 pre ++ [Value.int .i64 i1, .int .i64 k1, .int .i64 n1, .int .i64 a1, .int .i64 o1]).length by rw [List.length_append, rowTp_len]; simp; omega]
          exact nth_in _ _ _
        have hwt : nth (encTs (w0 :: W)) pre.length = some (encT (i1, .mk k1 n1 a1 o1 m1)) := by
          rw [← h1]
          exact nth_at (fun l => rfl) pre (i1, .mk k1 n1 a1 o1 m1) post
        have hi1 : (i1 != i1) = false := by simp
        have hmm : szEs m1 ≤ 900 := by
          have := trS_mem (k := k) (a := a) (xs := xs) (p := (i1, .mk k1 n1 a1 o1 m1)) (by rw [hWd, ← h1]; simp)
          rw [szE] at this
          omega
        have hSE := SameExpr_all 1000 (.mk k1 n1 a1 o1 m1) (by rw [szE]; omega) (Nat.le_refl _)
        rcases m1 with _ | ⟨e0, m1⟩
        · have hnil : NoNm (.agg ⟨[.int .i64 k1, .int .i64 n1, .int .i64 a1, .int .i64 o1, .slice none 0 0]⟩) := .agg _ fun c hc => by
            simp only [List.mem_cons, List.not_mem_nil, or_false] at hc
            rcases hc with rfl | rfl | rfl | rfl | rfl <;> exact .flat _ rfl
          have hce : NoNm (encE (.mk k1 n1 a1 o1 [])) := cleanE _
          have hpp : pre.length + post.length + 2 ≤ 65280 := by
            have := congrArg List.length h1
            simp at this hW
            omega
          (repeat' ((conv => whnf); first | refine U.lw_t ?_ | refine U.lw_f ?_ | refine U.lit_t ?_ | refine U.lit_f ?_ | refine U.ob_t ?_ | (rw [hLd]; rotate_left; exact rfl) | (rw [hL5]; rotate_left; exact rfl) | (rw [hdA]; rotate_left; exact rfl) | refine U.ob_c (by first | (with_reducible assumption) | exact Nat.ble_eq_true_of_le (by omega) | exact Nat.ble_eq_true_of_le (by simp at *; omega)) ?_ | refine U.nv_c (by with_reducible assumption) ?_ | refine U.SoundAt.u (irNil k1 n1 a1 o1) (by (repeat (first | exact trivial | ((conv => whnf); first | exact trivial | refine And.intro (by first | assumption | exact cleanI _ | exact cleanEs _ | exact cleanSs _ | exact cleanTs _ | exact cleanE _ | exact NoNm.flat _ rfl) ?_)))) ?_ | refine U.SoundAt.u (hSE) (by (repeat (first | exact trivial | ((conv => whnf); first | exact trivial | refine And.intro (by first | assumption | exact cleanI _ | exact cleanEs _ | exact cleanSs _ | exact cleanTs _ | exact cleanE _ | exact NoNm.flat _ rfl) ?_)))) ?_ | refine U.SoundAt.u (works_d) (by (repeat (first | exact trivial | ((conv => whnf); first | exact trivial | refine And.intro (by first | assumption | exact cleanI _ | exact cleanEs _ | exact cleanSs _ | exact cleanTs _ | exact cleanE _ | exact NoNm.flat _ rfl) ?_)))) ?_ | refine U.SoundC.u (irNil k1 n1 a1 o1) (by (repeat (first | exact trivial | ((conv => whnf); first | exact trivial | refine And.intro (by first | assumption | exact cleanI _ | exact cleanEs _ | exact cleanSs _ | exact cleanTs _ | exact cleanE _ | exact NoNm.flat _ rfl) ?_)))) ?_ | refine U.SoundC.u (hSE) (by (repeat (first | exact trivial | ((conv => whnf); first | exact trivial | refine And.intro (by first | assumption | exact cleanI _ | exact cleanEs _ | exact cleanSs _ | exact cleanTs _ | exact cleanE _ | exact NoNm.flat _ rfl) ?_)))) ?_ | refine U.SoundC.u (works_d) (by (repeat (first | exact trivial | ((conv => whnf); first | exact trivial | refine And.intro (by first | assumption | exact cleanI _ | exact cleanEs _ | exact cleanSs _ | exact cleanTs _ | exact cleanE _ | exact NoNm.flat _ rfl) ?_)))) ?_ | refine U.drawX_p (D := U.propX) 26 [] (by decide +kernel) (by decide +kernel) ?_ | refine U.lw_t' (by with_reducible assumption) ?_ | refine U.lw_f' (by with_reducible assumption) ?_ | refine U.lw_c (fun hb => ?_) (fun hb => ?_)))
          refine loop_inv (α := Unit) (fun _ => True) (fun _ => (mkF [(1, .pointer (some ⟨0, 0, none⟩)), (2, .bool false), (3, imS (encSs [.mk k a xs th el no])), (4, imS (encTs (w0 :: W))), (5, .int .i64 x), (6, lV 3 (w0 :: W)), (7, .int .i64 pre.length), (8, .int .i64 0)], stJ (.mk k a xs th el no) pre (i1, .mk k1 n1 a1 o1 []) post)) (fun _ => 0) () trivial (Cov.slots (s := stJ (.mk k a xs th el no) pre (i1, .mk k1 n1 a1 o1 []) post) (Nat.le_refl _) ⟨rfl, rfl, rfl, rfl, rfl, rfl, rfl, rfl, trivial⟩) ?_
          rintro - -
          (repeat' ((conv => whnf); first | refine U.lw_t ?_ | refine U.lw_f ?_ | refine U.lit_t ?_ | refine U.lit_f ?_ | refine U.ob_t ?_ | (rw [hL5]; rotate_left; exact rfl) | refine U.ob_c (by first | (with_reducible assumption) | exact Nat.ble_eq_true_of_le (by omega) | exact Nat.ble_eq_true_of_le (by simp at *; omega)) ?_ | refine U.nv_c (by with_reducible assumption) ?_ | refine U.SoundAt.u (works_d) (by (repeat (first | exact trivial | ((conv => whnf); first | exact trivial | refine And.intro (by first | assumption | exact cleanI _ | exact cleanEs _ | exact cleanSs _ | exact cleanTs _ | exact cleanE _ | exact NoNm.flat _ rfl) ?_)))) ?_ | refine U.SoundC.u (works_d) (by (repeat (first | exact trivial | ((conv => whnf); first | exact trivial | refine And.intro (by first | assumption | exact cleanI _ | exact cleanEs _ | exact cleanSs _ | exact cleanTs _ | exact cleanE _ | exact NoNm.flat _ rfl) ?_)))) ?_ | refine U.lw_t' (by with_reducible assumption) ?_ | refine U.lw_f' (by with_reducible assumption) ?_ | refine U.lw_c (fun hb => ?_) (fun hb => ?_)))
          (conv => whnf)
          have hpw : IntKind.i64.wrap (((pre.length : Nat) : Int) + 1) = ((pre ++ [(i1, Ex.mk k1 n1 a1 o1 [])]).length : Int) := by
            rw [wadd1 (by omega), List.length_append]; rfl
          rcases post with _ | ⟨w, post⟩
          · refine ⟨(pre ++ [(i1, .mk k1 n1 a1 o1 [])], []), by simpa using h1, by simp, cov_end (.mk k a xs th el no) rfl ?_⟩
            exact (.cons rfl (.ptr 0 0 0 (by decide) rfl) (.cons rfl (.clean _ _ (.flat _ rfl) rfl) (.cons rfl (.clean _ _ (cleanSs _) rfl) (.cons rfl (.clean _ _ (cleanTs _) rfl) (.cons rfl (.clean _ _ (cleanI _) rfl) (.cons rfl (.sl 3 3 0 _ _ _ _ (by decide) rfl rfl rfl) (.cons rfl (.clean _ _ (cleanI _) (congrArg (Value.int .i64) hpw.symm)) .nil)))))))
          · refine ⟨(pre ++ [(i1, .mk k1 n1 a1 o1 [])], w :: post), by simpa using h1, by simp, cov_nxt _ pre _ w post (by rw [List.length_cons] at hpp; omega) rfl rfl (fun p => rfl) ?_⟩
            exact (.cons rfl (.ptr 0 0 0 (by decide) rfl) (.cons rfl (.clean _ _ (.flat _ rfl) rfl) (.cons rfl (.clean _ _ (cleanSs _) rfl) (.cons rfl (.clean _ _ (cleanTs _) rfl) (.cons rfl (.clean _ _ (cleanI _) rfl) (.cons rfl (.sl 3 3 0 _ _ _ _ (by decide) rfl rfl rfl) (.cons rfl (.clean _ _ (cleanI _) (congrArg (Value.int .i64) hpw.symm)) .nil)))))))
        · (repeat' ((conv => whnf); first | refine U.lw_t ?_ | refine U.lw_f ?_ | refine U.lit_t ?_ | refine U.lit_f ?_ | refine U.ob_t ?_ | (rw [hLd]; rotate_left; exact rfl) | (rw [hL5]; rotate_left; exact rfl) | (rw [hdA]; rotate_left; exact rfl) | refine irC k1 n1 a1 o1 e0 m1 (by omega) 65537 rfl rfl ?_ | refine SoundC.uF hSE rfl (.cons (FrzV.aggL (.cons (.clean _ (cleanI _)) (.cons (.clean _ (cleanI _)) (.cons (.clean _ (cleanI _)) (.cons (.clean _ (cleanI _)) (.cons (FrzV.ofRow (z := 5) (T := 50) (Nat.zero_le _) rfl (cellsE_5 _) (cleanEsC _)) .nil)))))) (.cons (.clean _ (cleanE (.mk k1 n1 a1 o1 (e0 :: m1)))) .nil)) ?_ | refine U.ob_c (by first | (with_reducible assumption) | exact Nat.ble_eq_true_of_le (by omega) | exact Nat.ble_eq_true_of_le (by simp at *; omega)) ?_ | refine U.nv_c (by with_reducible assumption) ?_ | refine U.SoundAt.u (works_d) (by (repeat (first | exact trivial | ((conv => whnf); first | exact trivial | refine And.intro (by first | assumption | exact cleanI _ | exact cleanEs _ | exact cleanSs _ | exact cleanTs _ | exact cleanE _ | exact NoNm.flat _ rfl) ?_)))) ?_ | refine U.SoundC.u (works_d) (by (repeat (first | exact trivial | ((conv => whnf); first | exact trivial | refine And.intro (by first | assumption | exact cleanI _ | exact cleanEs _ | exact cleanSs _ | exact cleanTs _ | exact cleanE _ | exact NoNm.flat _ rfl) ?_)))) ?_ | refine U.drawX_p (D := U.propX) 26 [] (by decide +kernel) (by decide +kernel) ?_ | refine U.lw_t' (by with_reducible assumption) ?_ | refine U.lw_f' (by with_reducible assumption) ?_ | refine U.lw_c (fun hb => ?_) (fun hb => ?_)))
          have hpp : pre.length + post.length + 2 ≤ 65280 := by
            have := congrArg List.length h1
            simp at this hW
            omega
          refine loop_inv (α := Nat × List Value) (fun y => y.1 ≤ (encEs m1).length + 1 ∧ y.2.length = ((encEs m1).length + 1) * 5 ∧ ∀ c ∈ y.2, NoNm c) (fun y => (mkF [(1, .pointer (some ⟨0, 0, none⟩)), (2, .bool false), (3, imS (encSs [.mk k a xs th el no])), (4, imS (encTs (w0 :: W))), (5, .int .i64 x), (6, lV 3 (w0 :: W)), (7, .int .i64 pre.length), (8, .int .i64 y.1)], stK (.mk k a xs th el no) pre (i1, .mk k1 n1 a1 o1 (e0 :: m1)) post y.2)) (fun y => (encEs m1).length + 1 - y.1) (0, cellsAll (encEs (e0 :: m1))) ⟨Nat.zero_le _, ?_, cleanEsC _⟩ (cov_k _ pre _ post _ hpp (cleanEsC _) rfl rfl rfl (fun p => rfl) ?_) ?_
          · rw [cellsEs_len, encEs_map, List.length_map]; rfl
          · exact (.cons rfl (.ptr 0 0 0 (by decide) rfl) (.cons rfl (.clean _ _ (.flat _ rfl) rfl) (.cons rfl (.clean _ _ (cleanSs _) rfl) (.cons rfl (.clean _ _ (cleanTs _) rfl) (.cons rfl (.clean _ _ (cleanI _) rfl) (.cons rfl (.sl 3 3 0 _ _ _ _ (by decide) rfl rfl rfl) (.cons rfl (.clean _ _ (cleanI _) rfl) (.cons rfl (.clean _ _ (cleanI _) rfl) .nil))))))))
          rintro ⟨jj, cells⟩ ⟨q1, q2, q3⟩
          dsimp only at q1 q2 q3 ⊢
          by_cases hjl : jj = (encEs m1).length + 1
          · have hjt : decide (((jj : Nat) : Int) < (((encEs m1).length + 1 : Nat) : Int)) = false := decide_eq_false (by omega)
            (repeat' ((conv => whnf); first | refine U.lw_t ?_ | refine U.lw_f ?_ | refine U.lit_t ?_ | refine U.lit_f ?_ | refine U.ob_t ?_ | (rw [hL5]; rotate_left; exact rfl) | refine U.ob_c (by first | (with_reducible assumption) | exact Nat.ble_eq_true_of_le (by omega) | exact Nat.ble_eq_true_of_le (by simp at *; omega)) ?_ | refine U.nv_c (by with_reducible assumption) ?_ | refine U.SoundAt.u (works_d) (by (repeat (first | exact trivial | ((conv => whnf); first | exact trivial | refine And.intro (by first | assumption | exact cleanI _ | exact cleanEs _ | exact cleanSs _ | exact cleanTs _ | exact cleanE _ | exact NoNm.flat _ rfl) ?_)))) ?_ | refine U.SoundC.u (works_d) (by (repeat (first | exact trivial | ((conv => whnf); first | exact trivial | refine And.intro (by first | assumption | exact cleanI _ | exact cleanEs _ | exact cleanSs _ | exact cleanTs _ | exact cleanE _ | exact NoNm.flat _ rfl) ?_)))) ?_ | refine U.lw_t' (by with_reducible assumption) ?_ | refine U.lw_f' (by with_reducible assumption) ?_ | refine U.lw_c (fun hb => ?_) (fun hb => ?_)))
            (conv => whnf)
            have hpw : IntKind.i64.wrap (((pre.length : Nat) : Int) + 1) = ((pre ++ [(i1, Ex.mk k1 n1 a1 o1 (e0 :: m1))]).length : Int) := by
              rw [wadd1 (by omega), List.length_append]; rfl
            rcases post with _ | ⟨w, post⟩
            · refine ⟨(pre ++ [(i1, .mk k1 n1 a1 o1 (e0 :: m1))], []), by simpa using h1, by simp, cov_end (.mk k a xs th el no) rfl ?_⟩
              exact (.cons rfl (.ptr 0 0 0 (by decide) rfl) (.cons rfl (.clean _ _ (.flat _ rfl) rfl) (.cons rfl (.clean _ _ (cleanSs _) rfl) (.cons rfl (.clean _ _ (cleanTs _) rfl) (.cons rfl (.clean _ _ (cleanI _) rfl) (.cons rfl (.sl 3 3 0 _ _ _ _ (by decide) rfl rfl rfl) (.cons rfl (.clean _ _ (cleanI _) (congrArg (Value.int .i64) hpw.symm)) .nil)))))))
            · refine ⟨(pre ++ [(i1, .mk k1 n1 a1 o1 (e0 :: m1))], w :: post), by simpa using h1, by simp, cov_nxt _ pre _ w post (by rw [List.length_cons] at hpp; omega) rfl rfl (fun p => rfl) ?_⟩
              exact (.cons rfl (.ptr 0 0 0 (by decide) rfl) (.cons rfl (.clean _ _ (.flat _ rfl) rfl) (.cons rfl (.clean _ _ (cleanSs _) rfl) (.cons rfl (.clean _ _ (cleanTs _) rfl) (.cons rfl (.clean _ _ (cleanI _) rfl) (.cons rfl (.sl 3 3 0 _ _ _ _ (by decide) rfl rfl rfl) (.cons rfl (.clean _ _ (cleanI _) (congrArg (Value.int .i64) hpw.symm)) .nil)))))))
          · have hjt : decide (((jj : Nat) : Int) < (((encEs m1).length + 1 : Nat) : Int)) = true := decide_eq_true (by omega)
            have hjb : Nat.blt jj ((encEs m1).length + 1) = true := Nat.ble_eq_true_of_le (by omega)
            have hst : 0 + jj * 5 + [Value.int .i64 0, .int .i64 77, .int .i64 0, .int .i64 0, .slice none 0 0].length ≤ cells.length := by simp; omega
            (repeat' ((conv => whnf); first | refine U.lw_t ?_ | refine U.lw_f ?_ | refine U.lit_t ?_ | refine U.lit_f ?_ | refine U.ob_t ?_ | (rw [hL5]; rotate_left; exact rfl) | refine U.storeC_p hst ?_ | refine U.ob_c (by first | (with_reducible assumption) | exact Nat.ble_eq_true_of_le (by omega) | exact Nat.ble_eq_true_of_le (by simp at *; omega)) ?_ | refine U.nv_c (by with_reducible assumption) ?_ | refine U.SoundAt.u (works_d) (by (repeat (first | exact trivial | ((conv => whnf); first | exact trivial | refine And.intro (by first | assumption | exact cleanI _ | exact cleanEs _ | exact cleanSs _ | exact cleanTs _ | exact cleanE _ | exact NoNm.flat _ rfl) ?_)))) ?_ | refine U.SoundC.u (works_d) (by (repeat (first | exact trivial | ((conv => whnf); first | exact trivial | refine And.intro (by first | assumption | exact cleanI _ | exact cleanEs _ | exact cleanSs _ | exact cleanTs _ | exact cleanE _ | exact NoNm.flat _ rfl) ?_)))) ?_ | refine U.lw_t' (by with_reducible assumption) ?_ | refine U.lw_f' (by with_reducible assumption) ?_ | refine U.lw_c (fun hb => ?_) (fun hb => ?_)))
            (conv => whnf)
            have hjw : IntKind.i64.wrap (((jj : Nat) : Int) + 1) = ((jj + 1 : Nat) : Int) := wadd1 (by
              rw [encEs_map, List.length_map] at q1 hjl
              have := szEs_len m1
              rw [szEs] at hmm
              omega)
            have hcl : ∀ c ∈ cells.take (0 + jj * 5) ++ [Value.int .i64 0, .int .i64 77, .int .i64 0, .int .i64 0, .slice none 0 0] ++ cells.drop (0 + jj * 5 + 5), NoNm c := fun c hc => by
              rcases List.mem_append.1 hc with hc | hc
              · rcases List.mem_append.1 hc with hc | hc
                · exact q3 c (List.mem_of_mem_take hc)
                · simp only [List.mem_cons, List.not_mem_nil, or_false] at hc
                  rcases hc with rfl | rfl | rfl | rfl | rfl <;> exact .flat _ rfl
              · exact q3 c (List.mem_of_mem_drop hc)
            refine ⟨(jj + 1, _), ⟨by omega, ?_, hcl⟩, by omega, cov_k _ pre _ post _ hpp hcl rfl rfl rfl (fun p => rfl) ?_⟩
            · simp [q2]; omega
            · exact (.cons rfl (.ptr 0 0 0 (by decide) rfl) (.cons rfl (.clean _ _ (.flat _ rfl) rfl) (.cons rfl (.clean _ _ (cleanSs _) rfl) (.cons rfl (.clean _ _ (cleanTs _) rfl) (.cons rfl (.clean _ _ (cleanI _) rfl) (.cons rfl (.sl 3 3 0 _ _ _ _ (by decide) rfl rfl rfl) (.cons rfl (.clean _ _ (cleanI _) rfl) (.cons rfl (.clean _ _ (cleanI _) (congrArg (Value.int .i64) hjw.symm)) .nil))))))))
end Go.Proofs.Ythbhnbnlbhpooaa
