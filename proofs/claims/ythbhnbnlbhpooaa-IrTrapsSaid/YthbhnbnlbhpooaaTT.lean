/- How the statement's walk tells the program's trap sites. -/
import Derived.Test.YthbhnbnlbhpooaaTM
import Derived.Test.YthbhnbnlbhpooaaUK
namespace Go.Proofs.Ythbhnbnlbhpooaa
open Go Go.RowKit Go.Sort U
set_option linter.unusedVariables false
set_option linter.unusedSimpArgs false
set_option maxRecDepth 100000
set_option maxHeartbeats 4000000
/-- The state of the statement's walk: the statement in its box. -/
def stB (s : St) : AS := ⟨mkO [(0, some (.cells 26 (cellsOf (encS s)) false))], 3, 0, 0⟩
/-- With the trap sites. -/
def stW (s : St) (W : List (Int × Ex)) : AS := ⟨mkOB (base1 (famTp W)) [(0, some (.cells 26 (cellsOf (encS s)) false)), (3, lB 257 W)], 65537, 0, 0⟩
def sigW (len m k : Nat) : Nat := if k < 3 then len + k else if 257 ≤ k ∧ k < 257 + m then k - 256 else 0
theorem tellW (s : St) (W : List (Int × Ex)) (hW : W.length ≤ 65280) : TellR (stB s) (stW s W) (lV 0 W) (lV 3 W) (lB 1 W :: famTp W) (sigW (W.length + 1) W.length) := by
  have hlen : (lB 1 W :: famTp W).length = W.length + 1 := by rw [List.length_cons, famTp_len]
  have hfl : (famTp W).length ≤ 65280 := by rw [famTp_len]; exact hW
  have h3 : sigW (W.length + 1) W.length 3 = 0 := by unfold sigW; rw [if_neg (by omega), if_neg (by omega)]
  have hj : ∀ j, j < W.length → sigW (W.length + 1) W.length (257 + j) = 1 + j := fun j hj => by
    unfold sigW; rw [if_neg (by omega), if_pos (by omega)]; omega
  have told : ∀ k b, 3 ≤ k → (stW s W).heap.get k = some b → (k = 3 ∧ lB 257 W = some b) ∨ ∃ j, k = 257 + j ∧ j < W.length ∧ (famTp W)[j]? = some (some b) := fun k b hk h => by
    rcases mkOB_get h with h' | h'
    · simp only [List.mem_cons, Prod.mk.injEq, List.not_mem_nil, or_false] at h'
      rcases h' with ⟨q1, _⟩ | ⟨q1, q2⟩
      · omega
      · exact .inl ⟨q1, q2.symm⟩
    · obtain ⟨j, h1, h2, h3⟩ := base1_get hfl h'
      rw [famTp_len] at h2
      exact .inr ⟨j, h1, h2, h3⟩
  refine ⟨rfl, rfl, by show 3 ≤ 65537; omega, fun k hk => ?_, fun k hk => ?_, fun k h1 h2 => ?_, fun k b h1 h2 => ?_, fun k k' h1 h2 h4 h5 h6 => ?_, ?_⟩
  · have hk : k < 3 := hk
    have : k = 0 ∨ k = 1 ∨ k = 2 := by omega
    rcases this with rfl | rfl | rfl <;> rfl
  · have hk : k < 3 := hk
    rw [hlen]; unfold sigW; rw [if_pos hk]
  · have h1 : 3 ≤ k := h1
    rw [hlen]; unfold sigW; rw [if_neg (by omega)]
    split <;> omega
  · rcases told k b h1 h2 with ⟨rfl, h⟩ | ⟨j, rfl, h7, h⟩
    · refine ⟨by show 3 < 65537; omega, ?_⟩
      rw [h3]
      cases W with
      | nil => cases h
      | cons w t =>
        cases h
        exact ⟨_, rfl, .cells _ _ _ _ (rowTp_ren (w :: t) fun j h => ⟨by show 257 + j < 65537; omega, hj j h⟩)⟩
    · refine ⟨by show 257 + j < 65537; omega, b, ?_, famTp_ren h⟩
      rw [hj j h7, Nat.add_comm 1 j, List.getElem?_cons_succ, h]
  · obtain ⟨b, hb⟩ := Option.ne_none_iff_exists'.1 h4
    obtain ⟨b', hb'⟩ := Option.ne_none_iff_exists'.1 h5
    rcases told k b h1 hb with ⟨rfl, _⟩ | ⟨j, rfl, h7, _⟩ <;> rcases told k' b' h2 hb' with ⟨rfl, _⟩ | ⟨j', rfl, h8, _⟩
    · rfl
    · rw [h3, hj j' h8] at h6; omega
    · rw [h3, hj j h7] at h6; omega
    · rw [hj j h7, hj j' h8] at h6; omega
  · exact lV_ren (by show 3 < 65537; omega) h3 W
/-! A round over the trap sites: the row of operands that is looked at has a number of its own. -/
def famJ (n : Nat) (post : List (Int × Ex)) : List (Option U.Blk) := List.replicate (n + 1) none ++ famTp post
theorem famJ_at {n : Nat} {post : List (Int × Ex)} {j : Nat} {b : U.Blk} (h : (famJ n post)[j]? = some (some b)) : ∃ i, j = n + 1 + i ∧ i < post.length ∧ (famTp post)[i]? = some (some b) := by
  rcases Nat.lt_or_ge j (n + 1) with h1 | h1
  · rw [famJ, List.getElem?_append_left (by simpa using h1), List.getElem?_replicate, if_pos h1] at h
    cases h
  · rw [famJ, List.getElem?_append_right (by simpa using h1), List.length_replicate] at h
    have := (List.getElem?_eq_some_iff.1 h).1
    rw [famTp_len] at this
    exact ⟨j - (n + 1), by omega, this, h⟩
theorem famJ_to {n : Nat} {post : List (Int × Ex)} {i : Nat} (hi : i < post.length) : (famJ n post)[n + 1 + i]? = (famTp post)[i]? := by
  rw [famJ, List.getElem?_append_right (by simp), List.length_replicate, Nat.add_sub_cancel_left]
theorem famJ_len (n : Nat) (post : List (Int × Ex)) : (famJ n post).length = n + 1 + post.length := by rw [famJ, List.length_append, List.length_replicate, famTp_len]
def stJ (s : St) (pre : List (Int × Ex)) (cur : Int × Ex) (post : List (Int × Ex)) : AS := ⟨mkOB (base1 (famJ pre.length post)) [(0, some (.cells 26 (cellsOf (encS s)) false)), (3, some (.cells 48 (rowTp 65793 pre ++ cellsTp 65537 cur ++ rowTp (257 + pre.length + 1) post) true)), (65537, rowN 46 (encEs (argsE cur.2)))], 131329, 0, 0⟩
def rhoJ (n k : Nat) : Nat := if k = 65537 then 257 + n else k
/-- Into the first round. -/
theorem cov_iin {P : Program} {N : Nat} {fr : Tr Value} {l : List (Nat × Value)} (s : St) (w : Int × Ex) (W : List (Int × Ex)) (hW : W.length + 1 ≤ 65280) (hf : slotsRen fr 65537 ⟨fun k => k, fun _ _ => False⟩ l) : Cov P N 65537 fr (stW s (w :: W)) (mkF l) (stJ s [] w W) := by
  have hfl : (famJ 0 W).length ≤ 65280 := by rw [famJ_len]; omega
  have hfl0 : (famTp (w :: W)).length ≤ 65280 := by rw [famTp_len]; exact hW
  have hr0 : ∀ k, k < 65537 → rhoJ 0 k = k := fun k hk => by unfold rhoJ; rw [if_neg (by omega)]
  have hr1 : rhoJ 0 65537 = 257 := rfl
  refine Cov.fam2 (rhoJ 0) 0 (fun _ _ => False) (T := 0) (op := false) (xs := []) 257 _ (famJ 0 W) rfl rfl (by decide) (Nat.zero_le _) hr0 rfl (fun k b h => base1_get hfl h) (by rw [famJ_len]; omega) (fun j b h => ?_) rfl (fun h => absurd rfl h) (fun h => absurd rfl h) (fun j j' b b' h h' e => ?_) (fun k hk j b h => ?_) ?_ (fun h => absurd rfl h) (fun u1 u h => absurd h id) (hf.conv (by omega) hr0)
  · obtain ⟨i, rfl, h1, h2⟩ := famJ_at h
    refine ⟨b, ?_, famTp_ren h2⟩
    rw [hr0 _ (by omega), src1 (fun p => rfl) hfl0 (by rw [famTp_len, List.length_cons]; omega), show 0 + 1 + i = i + 1 by omega, famTp, List.map_cons, List.getElem?_cons_succ, ← famTp, h2]
    rfl
  · obtain ⟨i, rfl, h1, _⟩ := famJ_at h
    obtain ⟨i', rfl, h1', _⟩ := famJ_at h'
    rw [hr0 _ (by omega), hr0 _ (by omega)] at e; omega
  · obtain ⟨i, rfl, h1, _⟩ := famJ_at h
    rw [hr0 (257 + (0 + 1 + i)) (by omega)]
    simp only [List.map_cons, List.map_nil, List.mem_cons, List.not_mem_nil, or_false] at hk
    rcases hk with rfl | rfl | rfl
    · rw [hr0 0 (by omega)]; omega
    · rw [hr0 3 (by omega)]; omega
    · rw [hr1]; omega
  · refine .cons rfl (.row _ _ _ _ (cleanS_cells' s) rfl) (.cons rfl (.cells _ _ _ _ ?_) ⟨fun b hb => ⟨b, ?_, rowN_ren hb⟩, trivial⟩)
    · show RenL _ _ ([] ++ cellsTp 65537 w ++ rowTp (257 + 0 + 1) W) (cellsTp 257 w ++ rowTp (257 + 1) W)
      rw [List.nil_append]
      exact RenL.app (cellsTp_ren (by omega) hr1 w) (rowTp_ren W fun j hj => ⟨by omega, by rw [show (⟨rhoJ 0, fun _ _ => False⟩ : Ren) (257 + 0 + 1 + j) = 257 + 0 + 1 + j from hr0 _ (by omega)]⟩)
    · show (stW s (w :: W)).heap.get 257 = some b
      have := src1 (sh := (stW s (w :: W)).heap) (l := famTp (w :: W)) (fun p => rfl) hfl0 (j := 0) (by rw [famTp_len, List.length_cons]; omega)
      rw [show (257 : Nat) = 257 + 0 from rfl, this, ← hb]; rfl
def rhoN (n k : Nat) : Nat := if k = 65537 then 257 + n + 1 else if k = 65793 + n then 65537 else k
/-- Into the next round: the row that was looked at is told no more. -/
theorem cov_nxt {P : Program} {N nx : Nat} {fr : Tr Value} {sh : Tr U.Blk} {l : List (Nat × Value)} (s : St) (pre : List (Int × Ex)) (cur w : Int × Ex) (post : List (Int × Ex)) (hW : pre.length + post.length + 2 ≤ 65280)
    (g0 : sh.get 0 = some (.cells 26 (cellsOf (encS s)) false)) (g1 : sh.get 3 = some (.cells 48 (rowTp 65793 pre ++ cellsTp 65537 cur ++ rowTp (257 + pre.length + 1) (w :: post)) true)) (g2 : ∀ p, Tr.at (.r (.l p)) sh = Tr.at p (gTr 256 (famJ pre.length (w :: post))))
    (hf : slotsRen fr 65537 ⟨fun k => k, fun _ _ => False⟩ l) : Cov P N 65537 fr ⟨sh, nx, 0, 0⟩ (mkF l) (stJ s (pre ++ [cur]) w post) := by
  have hpl : (pre ++ [cur]).length = pre.length + 1 := by simp
  have hfl : (famJ (pre ++ [cur]).length post).length ≤ 65280 := by rw [famJ_len, hpl]; omega
  have hfl0 : (famJ pre.length (w :: post)).length ≤ 65280 := by rw [famJ_len, List.length_cons]; omega
  have hr0 : ∀ k, k < 65537 → rhoN pre.length k = k := fun k hk => by unfold rhoN; rw [if_neg (by omega), if_neg (by omega)]
  have hr1 : rhoN pre.length 65537 = 257 + pre.length + 1 := by unfold rhoN; rw [if_pos rfl]
  have hr2 : ∀ j, j < pre.length → rhoN pre.length (65793 + j) = 65793 + j := fun j hj => by unfold rhoN; rw [if_neg (by omega), if_neg (by omega)]
  have hr3 : rhoN pre.length (65793 + pre.length) = 65537 := by unfold rhoN; rw [if_neg (by omega), if_pos rfl]
  refine Cov.fam2 (rhoN pre.length) 0 (fun _ _ => False) (T := 0) (op := false) (xs := []) 257 _ (famJ (pre ++ [cur]).length post) rfl rfl (by show 65537 ≤ 131329; omega) (Nat.zero_le _) hr0 rfl (fun k b h => base1_get hfl h) (by rw [famJ_len, hpl]; omega) (fun j b h => ?_) ?_ (fun h => absurd rfl h) (fun h => absurd rfl h) (fun j j' b b' h h' e => ?_) (fun k hk j b h => ?_) ?_ (fun h => absurd rfl h) (fun u1 u h => absurd h id) (hf.conv (by omega) hr0)
  · obtain ⟨i, rfl, h1, h2⟩ := famJ_at h
    rw [hpl]
    refine ⟨b, ?_, famTp_ren h2⟩
    rw [hr0 _ (by omega), src1 g2 hfl0 (by rw [famJ_len, List.length_cons]; omega), show pre.length + 1 + 1 + i = pre.length + 1 + (i + 1) by omega, famJ_to (by rw [List.length_cons]; omega), famTp, List.map_cons, List.getElem?_cons_succ, ← famTp, h2]
    rfl
  · refine List.all_eq_true.2 fun k hk => ?_
    have hkk : ∀ k, k ∈ [0, 3, 65537] → k < 131329 ∧ ((k < 65537 ∧ rhoN pre.length k = k ∧ k ≤ 3) ∨ (k = 65537 ∧ rhoN pre.length k = 257 + pre.length + 1)) := fun k hk => by
      simp only [List.mem_cons, List.not_mem_nil, or_false] at hk
      rcases hk with rfl | rfl | rfl
      · exact ⟨by omega, .inl ⟨by omega, hr0 _ (by omega), by omega⟩⟩
      · exact ⟨by omega, .inl ⟨by omega, hr0 _ (by omega), by omega⟩⟩
      · exact ⟨by omega, .inr ⟨rfl, hr1⟩⟩
    obtain ⟨q1, q2⟩ := hkk k hk
    simp only [Bool.and_eq_true, decide_eq_true_eq, List.all_eq_true]
    refine ⟨⟨q1, fun _ => Nat.zero_le _⟩, fun k' hk' e => ?_⟩
    obtain ⟨q3, q4⟩ := hkk k' hk'
    rcases q2 with ⟨a1, a2, a3⟩ | ⟨a1, a2⟩ <;> rcases q4 with ⟨b1, b2, b3⟩ | ⟨b1, b2⟩ <;> rw [a2, b2] at e <;> omega
  · obtain ⟨i, rfl, h1, _⟩ := famJ_at h
    obtain ⟨i', rfl, h1', _⟩ := famJ_at h'
    rw [hpl] at e ⊢
    rw [hr0 _ (by omega), hr0 _ (by omega)] at e; omega
  · obtain ⟨i, rfl, h1, _⟩ := famJ_at h
    rw [hpl, hr0 (257 + (pre.length + 1 + 1 + i)) (by omega)]
    simp only [List.map_cons, List.map_nil, List.mem_cons, List.not_mem_nil, or_false] at hk
    rcases hk with rfl | rfl | rfl
    · rw [hr0 0 (by omega)]; omega
    · rw [hr0 3 (by omega)]; omega
    · rw [hr1]; omega
  · refine .cons (by rw [show (⟨rhoN pre.length, fun _ _ => False⟩ : Ren) 0 = 0 from hr0 0 (by omega)]; exact g0) (.row _ _ _ _ (cleanS_cells' s) rfl) (.cons (by rw [show (⟨rhoN pre.length, fun _ _ => False⟩ : Ren) 3 = 3 from hr0 3 (by omega)]; exact g1) (.cells _ _ _ _ ?_) ⟨fun b hb => ⟨b, ?_, rowN_ren hb⟩, trivial⟩)
    · rw [rowTp_snoc, hpl, rowTp, List.append_assoc, List.append_assoc, List.append_assoc]
      refine RenL.app (rowTp_ren pre fun j hj => ⟨by omega, hr2 j hj⟩) (RenL.app (cellsTp_ren (by omega) hr3 cur) (RenL.app (cellsTp_ren (by omega) hr1 w) (rowTp_ren post fun j hj => ⟨by omega, ?_⟩)))
      show rhoN pre.length (257 + (pre.length + 1) + 1 + j) = 257 + pre.length + 1 + 1 + j
      rw [hr0 _ (by omega)]; omega
    · show sh.get (rhoN pre.length 65537) = some b
      rw [hr1, show 257 + pre.length + 1 = 257 + (pre.length + 1 + 0) by omega, src1 g2 hfl0 (j := pre.length + 1 + 0) (by rw [famJ_len, List.length_cons]; omega), famJ_to (by rw [List.length_cons]; omega), ← hb]
      rfl
/-- In the inner loop: the row that is written over has some cells. -/
def stK (s : St) (pre : List (Int × Ex)) (cur : Int × Ex) (post : List (Int × Ex)) (cells : List Value) : AS := ⟨mkOB (base1 (famJ pre.length post)) [(0, some (.cells 26 (cellsOf (encS s)) false)), (3, some (.cells 48 (rowTp 65793 pre ++ cellsTp 65537 cur ++ rowTp (257 + pre.length + 1) post) true)), (65537, some (.cells 46 cells false))], 131330, 0, 0⟩
theorem cov_k {P : Program} {N nx : Nat} {fr : Tr Value} {sh : Tr U.Blk} {l : List (Nat × Value)} (s : St) (pre : List (Int × Ex)) (cur : Int × Ex) (post : List (Int × Ex)) (cells : List Value) (hW : pre.length + post.length + 2 ≤ 65280) (hcl : ∀ x, x ∈ cells → NoNm x)
    (g0 : sh.get 0 = some (.cells 26 (cellsOf (encS s)) false)) (g1 : sh.get 3 = some (.cells 48 (rowTp 65793 pre ++ cellsTp 65537 cur ++ rowTp (257 + pre.length + 1) post) true)) (g3 : sh.get 65537 = some (.cells 46 cells false)) (g2 : ∀ p, Tr.at (.r (.l p)) sh = Tr.at p (gTr 256 (famJ pre.length post)))
    (hf : slotsRen fr 65538 ⟨fun k => k, fun _ _ => False⟩ l) : Cov P N 131330 fr ⟨sh, nx, 0, 0⟩ (mkF l) (stK s pre cur post cells) := by
  have hfl : (famJ pre.length post).length ≤ 65280 := by rw [famJ_len]; omega
  refine Cov.fam2 (fun k => k) 0 (fun _ _ => False) (T := 0) (op := false) (xs := []) 257 _ (famJ pre.length post) rfl rfl (Nat.le_refl 131330) (Nat.zero_le _) (fun _ _ => rfl) rfl (fun k b h => base1_get hfl h) (by rw [famJ_len]; omega) (fun j b h => ?_) rfl (fun h => absurd rfl h) (fun h => absurd rfl h) (fun j j' b b' _ _ e => by have e : 257 + j = 257 + j' := e; omega) (fun k hk j b h => ?_) ?_ (fun h => absurd rfl h) (fun u1 u h => absurd h id) (hf.conv (by omega) fun _ _ => rfl)
  · obtain ⟨i, rfl, h1, h2⟩ := famJ_at h
    refine ⟨b, ?_, famTp_ren h2⟩
    show sh.get (257 + (pre.length + 1 + i)) = some b
    rw [src1 g2 hfl (by rw [famJ_len]; omega), h]; rfl
  · obtain ⟨i, rfl, h1, _⟩ := famJ_at h
    simp only [List.map_cons, List.map_nil, List.mem_cons, List.not_mem_nil, or_false] at hk
    show k ≠ 257 + (pre.length + 1 + i)
    omega
  · exact .cons g0 (.row _ _ _ _ (cleanS_cells' s) rfl) (.cons g1 (.cells _ _ _ _ (RenL.app (RenL.app (rowTp_ren pre fun j hj => ⟨by omega, rfl⟩) (cellsTp_ren (by omega) rfl cur)) (rowTp_ren post fun j hj => ⟨by omega, rfl⟩))) (.cons g3 (.row _ _ _ _ hcl rfl) .nil))
def stK0 (s : St) (pre : List (Int × Ex)) (cur : Int × Ex) (post : List (Int × Ex)) : AS := ⟨mkOB (base1 (famJ pre.length post)) [(0, some (.cells 26 (cellsOf (encS s)) false)), (3, some (.cells 48 (rowTp 65793 pre ++ cellsTp 65537 cur ++ rowTp (257 + pre.length + 1) post) true))], 131330, 0, 0⟩
theorem cov_k0 {P : Program} {N nx : Nat} {fr : Tr Value} {sh : Tr U.Blk} {l : List (Nat × Value)} (s : St) (pre : List (Int × Ex)) (cur : Int × Ex) (post : List (Int × Ex)) (hW : pre.length + post.length + 2 ≤ 65280)
    (g0 : sh.get 0 = some (.cells 26 (cellsOf (encS s)) false)) (g1 : sh.get 3 = some (.cells 48 (rowTp 65793 pre ++ cellsTp 65537 cur ++ rowTp (257 + pre.length + 1) post) true)) (g2 : ∀ p, Tr.at (.r (.l p)) sh = Tr.at p (gTr 256 (famJ pre.length post)))
    (hf : slotsRen fr 65538 ⟨fun k => k, fun _ _ => False⟩ l) : Cov P N 131330 fr ⟨sh, nx, 0, 0⟩ (mkF l) (stK0 s pre cur post) := by
  have hfl : (famJ pre.length post).length ≤ 65280 := by rw [famJ_len]; omega
  refine Cov.fam2 (fun k => k) 0 (fun _ _ => False) (T := 0) (op := false) (xs := []) 257 _ (famJ pre.length post) rfl rfl (Nat.le_refl 131330) (Nat.zero_le _) (fun _ _ => rfl) rfl (fun k b h => base1_get hfl h) (by rw [famJ_len]; omega) (fun j b h => ?_) rfl (fun h => absurd rfl h) (fun h => absurd rfl h) (fun j j' b b' _ _ e => by have e : 257 + j = 257 + j' := e; omega) (fun k hk j b h => ?_) ?_ (fun h => absurd rfl h) (fun u1 u h => absurd h id) (hf.conv (by omega) fun _ _ => rfl)
  · obtain ⟨i, rfl, h1, h2⟩ := famJ_at h
    refine ⟨b, ?_, famTp_ren h2⟩
    show sh.get (257 + (pre.length + 1 + i)) = some b
    rw [src1 g2 hfl (by rw [famJ_len]; omega), h]; rfl
  · obtain ⟨i, rfl, h1, _⟩ := famJ_at h
    simp only [List.map_cons, List.map_nil, List.mem_cons, List.not_mem_nil, or_false] at hk
    show k ≠ 257 + (pre.length + 1 + i)
    omega
  · exact .cons g0 (.row _ _ _ _ (cleanS_cells' s) rfl) (.cons g1 (.cells _ _ _ _ (RenL.app (RenL.app (rowTp_ren pre fun j hj => ⟨by omega, rfl⟩) (cellsTp_ren (by omega) rfl cur)) (rowTp_ren post fun j hj => ⟨by omega, rfl⟩))) .nil)
end Go.Proofs.Ythbhnbnlbhpooaa
