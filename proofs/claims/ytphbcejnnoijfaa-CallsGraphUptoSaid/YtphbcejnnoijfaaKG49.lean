
import Derived.Test.YtphbcejnnoijfaaKG48
namespace Go.Proofs.Ytphbcejnnoijfaa
open Go Go.RowKit Go.Sort U
set_option linter.unusedVariables false
set_option linter.unusedSimpArgs false
set_option maxRecDepth 100000
set_option maxHeartbeats 16000000
noncomputable abbrev stZ (p : APr) (w1 w2 : Value) (f : Int × Int × Int) : AS := ⟨mkO [(0, some (bPr p)), (1, some (bPr6 p)), (2, some (bGr1 w1 w2)), (3, some (.cells 41 [.int .i64 f.1, .int .i64 f.2.1, .int .i64 f.2.2] false))], 4, 0, 0⟩
noncomputable abbrev stA (p : APr) (w1 w2 : Value) (f : Int × Int × Int) (names : Option U.Blk) (rows : List (List Int)) : AS := ⟨mkOB (base1 (famR rows.length (Rf rows) rows.length)) [(0, some (bPr p)), (1, some (bPr6 p)), (2, some (bGr1 w1 w2)), (3, some (.cells 41 [.int .i64 f.1, .int .i64 f.2.1, .int .i64 f.2.2] false)), (4, names), (5, sB nmO rows)], 65537, 0, 0⟩
noncomputable abbrev stB (p : APr) (w1 w2 : Value) (f : Int × Int × Int) (ns : List ByteArray) (names : Option U.Blk) (rows : List (List Int)) : AS := ⟨mkOB (base1 (famR rows.length (Rf rows) rows.length)) [(0, some (bPr p)), (1, some (bPr6 p)), (2, some (bGr1 w1 w2)), (3, some (.cells 41 [.int .i64 f.1, .int .i64 f.2.1, .int .i64 f.2.2] false)), (4, names), (5, sB nmO rows), (65537, some (bGr (rowS 4 (sL ns)) (sV 5 rows))), (65538, some bF)], 65539, 0, 0⟩
def nmS (t k : Nat) : Nat := if k = t then 65539 else 65793 + k
noncomputable abbrev stS (p : APr) (w1 w2 : Value) (f : Int × Int × Int) (ns : List ByteArray) (rv rows : List (List Int)) (t : Nat) (b : Option U.Blk) : AS := ⟨mkOB (base2 (famR rows.length (Rf rows) t)) [(0, some (bPr p)), (1, some (bPr6 p)), (2, some (bGr1 w1 w2)), (3, some (.cells 41 [.int .i64 f.1, .int .i64 f.2.1, .int .i64 f.2.2] false)), (5, some (.cells 54 (cellsN rows.length (Rf rows) (nmS t)) true)), (65537, some (bGr (rowS 4 (sL ns)) (sV 5 rv))), (65539, b)], 131329, 0, 0⟩
def sigO (n k : Nat) : Nat := if k < 4 then n + 2 + k else if k = 5 then 1 else if 257 ≤ k ∧ k < 257 + n then k - 255 else 0
theorem tellO (p : APr) (w1 w2 : Value) (f : Int × Int × Int) (ns : List ByteArray) (names : Option U.Blk) (hnm : names = rowO 9 (sL ns)) (rows : List (List Int)) (hn : rows.length ≤ 65000) : TellR (stZ p w1 w2 f) (stA p w1 w2 f names rows) (uOf ns rows) (.tuple ⟨[.agg ⟨[rowS 4 (sL ns), sV 5 rows]⟩, fltV 0 0 0]⟩) (hOf ns rows) (sigO rows.length) := by
  have hl : (hOf ns rows).length = rows.length + 2 := by simp [hOf, famR_len]
  have h4 : sigO rows.length 4 = 0 := by unfold sigO; rw [if_neg (by omega), if_neg (by omega), if_neg (by omega)]
  have h5 : sigO rows.length 5 = 1 := by unfold sigO; rw [if_neg (by omega), if_pos rfl]
  have hj : ∀ j, j < rows.length → sigO rows.length (257 + j) = 2 + j := fun j hj => by
    unfold sigO; rw [if_neg (by omega), if_neg (by omega), if_pos (by omega)]; omega
  have told : ∀ k b, 4 ≤ k → (stA p w1 w2 f names rows).heap.get k = some b → (k = 4 ∧ rowO 9 (sL ns) = some b) ∨ (k = 5 ∧ sB nmO rows = some b) ∨ ∃ j, k = 257 + j ∧ j < rows.length ∧ Rf rows j ≠ [] ∧ b = .cells 3 (iL (Rf rows j)) true := fun k b hk h => by
    rcases mkOB_get h with h' | h'
    · simp only [List.mem_cons, Prod.mk.injEq, List.not_mem_nil, or_false] at h'
      rcases h' with ⟨q1, _⟩ | ⟨q1, _⟩ | ⟨q1, _⟩ | ⟨q1, _⟩ | ⟨q1, q2⟩ | ⟨q1, q2⟩
      · omega
      · omega
      · omega
      · omega
      · exact .inl ⟨q1, hnm ▸ q2.symm⟩
      · exact .inr (.inl ⟨q1, q2.symm⟩)
    · obtain ⟨j, h1, h2, h3⟩ := base1_get (by rw [famR_len]; omega) h'
      obtain ⟨q1, _, q3, q4⟩ := famR_at h3
      exact .inr (.inr ⟨j, h1, q1, q3, q4⟩)
  refine ⟨rfl, rfl, by show 4 ≤ 65537; omega, fun k hk => ?_, fun k hk => ?_, fun k h1 h2 => ?_, fun k b h1 h2 => ?_, fun k k' h1 h2 h4 h5 h6 => ?_, ?_⟩
  · have hk : k < 4 := hk
    have : k = 0 ∨ k = 1 ∨ k = 2 ∨ k = 3 := by omega
    rcases this with rfl | rfl | rfl | rfl <;> rfl
  · have hk : k < 4 := hk
    rw [hl]; unfold sigO; rw [if_pos hk]
  · have h1 : 4 ≤ k := h1
    rw [hl]; unfold sigO; rw [if_neg (by omega)]
    split
    · omega
    · split <;> omega
  · rcases told k b h1 h2 with ⟨rfl, h⟩ | ⟨rfl, h⟩ | ⟨j, rfl, h7, h8, rfl⟩
    · refine ⟨by show 4 < 65537; omega, b, ?_, rowOS_ren h⟩
      rw [h4]
      exact congrArg some h
    · obtain ⟨q1, rfl⟩ := sB_some h
      refine ⟨by show 5 < 65537; omega, .cells 54 (cellsN rows.length (Rf rows) fun k => 2 + k) true, ?_, .cells _ _ _ _ (RenL.maps _ fun j hj2 => ?_)⟩
      · rw [h5]
        exact congrArg some (sB_get q1)
      · have hj2 := List.mem_range.1 hj2
        exact .ofRow (by show 257 + j < 65537; omega) (hj j hj2) rfl
    · refine ⟨by show 257 + j < 65537; omega, _, ?_, .row _ _ _ _ (by have := cleanIC (Rf rows j); rwa [cellsI] at this) rfl⟩
      rw [hj j h7, Nat.add_comm 2 j]
      show (famR rows.length (Rf rows) rows.length)[j]? = _
      have := famR_to (n := rows.length) (R := Rf rows) (t := rows.length) h7 (by omega) h8
      rw [List.getElem?_eq_getElem (by rw [famR_len]; exact h7)] at this ⊢
      exact congrArg some this
  · obtain ⟨b, hb⟩ := Option.ne_none_iff_exists'.1 h4
    obtain ⟨b', hb'⟩ := Option.ne_none_iff_exists'.1 h5
    have e4 : sigO rows.length 4 = 0 := by unfold sigO; rw [if_neg (by omega), if_neg (by omega), if_neg (by omega)]
    have e5 : sigO rows.length 5 = 1 := by unfold sigO; rw [if_neg (by omega), if_pos rfl]
    rcases told k b h1 hb with ⟨rfl, _⟩ | ⟨rfl, _⟩ | ⟨j, rfl, h7, _⟩ <;> rcases told k' b' h2 hb' with ⟨rfl, _⟩ | ⟨rfl, _⟩ | ⟨j', rfl, h8, _⟩ <;> first | rfl | (simp only [e4, e5, hj _ h7, hj _ h8] at h6; omega) | (simp only [e4, e5, hj _ h7] at h6; omega) | (simp only [e4, e5, hj _ h8] at h6; omega) | (rw [e4, e5] at h6; omega) | (rw [e5, e4] at h6; omega)
  · refine .tup _ _ rfl fun i a b ha hb => ?_
    rcases i with _ | _ | i
    · cases ha; cases hb
      exact RenV.aggL (.cons (.ofRow (by show 4 < 65537; omega) h4 rfl) (.cons (sV_ren rows (by show 5 < 65537; omega) h5) .nil))
    · cases ha; cases hb
      exact .F rfl rfl
    · simp at ha
theorem frzS {P : Program} {s : AS} {c : Nat} {rows : List (List Int)} {nm : Nat → Nat} (h : RowsX s.heap c rows.length (Rf rows) nm) (hlo : s.lo = 0) : U.FrzV P s (sV c rows) (imS (gL rows)) := by
  cases rows with
  | nil => exact .nil
  | cons r l =>
    refine FrzV.row c _ _ 1 54 (cellsN (r :: l).length (Rf (r :: l)) nm) (gL (r :: l)) true (by rw [hlo]; exact Nat.zero_le _) (h.cells (by simp)) gL_1 (by rw [gL_len]; rfl) (Nat.le_refl _) (by rw [cellsG, gL_len, cellsN_len]; exact Nat.le_refl _) fun i u v hu hv => ?_
    rw [cellsG, gL_map, List.getElem?_map, Option.map_eq_some_iff] at hv
    rw [cellsN, List.getElem?_map, Option.map_eq_some_iff] at hu
    obtain ⟨x, hk1, rfl⟩ := hv
    obtain ⟨k', hk2, rfl⟩ := hu
    have hi : i < (r :: l).length := (List.getElem?_eq_some_iff.1 hk1).1
    rw [List.getElem?_range hi] at hk2
    cases hk2
    have hx : Rf (r :: l) i = x := by
      unfold Rf
      rw [List.getD_eq_getElem?_getD, hk1]; rfl
    rw [hx]
    rcases x with _ | ⟨y, ys⟩
    · exact .nil
    · have := h.at_ i hi (by rw [hx]; simp)
      rw [hx] at this
      refine .ofRow (T := 3) (by rw [hlo]; exact Nat.zero_le _) (this.trans ?_) iL_1 (cleanIC _)
      show _ = some (U.Blk.cells 3 (cellsAll (iL (y :: ys))) true)
      rw [cellsI]
theorem rowsB {p : APr} {w1 w2 : Value} {f : Int × Int × Int} {ns : List ByteArray} {names : Option U.Blk} {rows : List (List Int)} (hn : rows.length ≤ 65000) : RowsX (stB p w1 w2 f ns names rows).heap 5 rows.length (Rf rows) nmO := by
  refine ⟨fun h0 => ?_, fun k hk hr => ?_, fun k k' _ _ _ _ e => by unfold nmO at e; omega, fun k _ _ => by unfold nmO; omega⟩
  · rw [← sB_get h0]; rfl
  · have := src1 (sh := (stB p w1 w2 f ns names rows).heap) (l := famR rows.length (Rf rows) rows.length) (fun p => rfl) (by rw [famR_len]; omega) (j := k) (by rw [famR_len]; exact hk)
    show (stB p w1 w2 f ns names rows).heap.get (257 + k) = _
    rw [this, famR_to hk (by omega) hr]
theorem cov_S {P : Program} {N nx : Nat} {fr : Tr Value} {sh : Tr U.Blk} {l : List (Nat × Value)} {p : APr} {w1 w2 : Value} {f : Int × Int × Int} {ns : List ByteArray} {rv rows : List (List Int)} {nm : Nat → Nat} (hc1 : NoNm w1) (hc2 : NoNm w2) (h : RowsX sh 5 rows.length (Rf rows) nm) (h0 : rows ≠ []) (hn : rows.length ≤ 65000) (t : Nat) (b : Option U.Blk) (hb : b = if t < rows.length then rowO 3 (iL (Rf rows t)) else none) (hnm : ∀ j, j < rows.length → Rf rows j ≠ [] → 5 < nm j ∧ nm j ≠ 65537)
    (g0 : sh.get 0 = some (bPr p)) (g1 : sh.get 1 = some (bPr6 p)) (g2 : sh.get 2 = some (bGr1 w1 w2)) (g3 : sh.get 3 = some (.cells 41 [.int .i64 f.1, .int .i64 f.2.1, .int .i64 f.2.2] false)) (g4 : sh.get 65537 = some (bGr (rowS 4 (sL ns)) (sV 5 rv))) (hf : slotsRen fr 65539 ⟨fun k => k, fun _ _ => False⟩ l) : Cov P N 65539 fr ⟨sh, nx, 0, 0⟩ (mkF l) (stS p w1 w2 f ns rv rows t b) := by
  have hl0 : rows.length ≠ 0 := fun e => h0 (List.eq_nil_of_length_eq_zero e)
  have hρ : ∀ k, k < 65539 → (fun k => if k = 65539 then nm t else if 65793 ≤ k ∧ k < 65793 + rows.length then nm (k - 65793) else k) k = k := fun k hk => by
    show (if k = 65539 then nm t else if 65793 ≤ k ∧ k < 65793 + rows.length then nm (k - 65793) else k) = k
    rw [if_neg (by omega), if_neg (by omega)]
  refine cov_RX h [(0, some (bPr p)), (1, some (bPr6 p)), (2, some (bGr1 w1 w2)), (3, some (.cells 41 [.int .i64 f.1, .int .i64 f.2.1, .int .i64 f.2.2] false)), (65537, some (bGr (rowS 4 (sL ns)) (sV 5 rv)))] (nmS t) (fun k => if k = 65539 then nm t else if 65793 ≤ k ∧ k < 65793 + rows.length then nm (k - 65793) else k) _ 131329 (by omega) hρ (c := 5) ⟨by omega, rfl⟩ (fun j hj => ⟨by unfold nmS; split <;> omega, ?_⟩) (fun k hk => ?_) ?_ (fun k b' hk => ?_) (hf.conv (by omega) hρ)
  · by_cases hjt : j = t
    · subst hjt
      simp [nmS]
    · have e : nmS t j = 65793 + j := by unfold nmS; rw [if_neg hjt]
      rw [e, if_neg (by omega), if_pos (by omega), Nat.add_sub_cancel_left]
  · simp only [List.map_cons, List.map_nil, List.mem_cons, List.not_mem_nil, or_false] at hk
    refine ⟨by omega, by omega, fun j hj hr => ?_⟩
    have := hnm j hj hr
    omega
  · refine .cons g0 (.row _ _ _ _ (cleanPr_cells p) rfl) (.cons g1 (.row _ _ _ _ (cleanPr_cells p) rfl) (.cons g2 (.cells _ _ _ _ (.cons (.clean _ _ hc1 rfl) (.cons (.clean _ _ hc2 rfl) .nil))) (.cons g3 (.cells _ _ _ _ (.cons (.F rfl rfl) (.cons (.F rfl rfl) (.cons (.F rfl rfl) .nil)))) (.cons ((congrArg (fun k => sh.get k) (hρ 65537 (by omega))).trans g4) (.cells _ _ _ _ (.cons (.ofRow (by omega) rfl rfl) (.cons (sV_ren rv (by omega) rfl) .nil))) .nil))))
  · rcases mkOB_get hk with hk | hk
    · simp only [List.mem_cons, Prod.mk.injEq, List.not_mem_nil, or_false] at hk ⊢
      rcases hk with hk | hk | hk | hk | hk | hk | hk
      · exact .inr (.inr (.inl hk))
      · exact .inr (.inr (.inr (.inl hk)))
      · exact .inr (.inr (.inr (.inr (.inl hk))))
      · exact .inr (.inr (.inr (.inr (.inr (.inl hk)))))
      · exact .inl ⟨hk.1, hl0, Option.some.inj hk.2⟩
      · exact .inr (.inr (.inr (.inr (.inr (.inr hk)))))
      · rw [hb] at hk
        split at hk
        · rename_i ht
          obtain ⟨q1, q2⟩ := rowO_some hk.2.symm
          exact .inr (.inl ⟨t, ht, by rw [hk.1]; simp [nmS], q1, q2⟩)
        · cases hk.2
    · obtain ⟨j, rfl, h1, h2⟩ := base2_get (by rw [famR_len]; omega) hk
      obtain ⟨q1, q2, q3, q4⟩ := famR_at h2
      exact .inr (.inl ⟨j, q1, by unfold nmS; rw [if_neg q2], q3, q4⟩)
theorem rowsL_mem {m : MSI} {N : Nat} : ∀ {l : List (List AS6)} {q : List (List Int)}, rowsL m l = .inl q → (∀ b ∈ l, szTs b ≤ N) → ∀ r ∈ q, r.length ≤ N
  | [], q, h, _, r, hr => by rw [rowsL] at h; cases h; cases hr
  | b :: l, q, h, hb, r, hr => by
    rw [rowsL] at h
    cases h1 : siteL m (callsTs b) with
    | inr f => rw [h1] at h; cases h
    | inl r0 =>
      rw [h1] at h
      dsimp only at h
      cases h2 : rowsL m l with
      | inr f => rw [h2] at h; cases h
      | inl q' =>
        rw [h2] at h
        cases h
        rcases List.mem_cons.1 hr with rfl | hr
        · rw [siteL_len h1]
          exact Nat.le_trans (callsTs_len b) (hb b (by simp))
        · exact rowsL_mem h2 (fun b hb' => hb b (List.mem_cons_of_mem _ hb')) r hr
def spV : Value := .string ⟨#[115, 112, 111, 105, 108, 116]⟩
def spN (k : Nat) (l : List ByteArray) : List Value := List.replicate k spV ++ sL l
theorem spN_0 (n0 : ByteArray) (l : List ByteArray) : some (U.Blk.cells 9 (spN 0 (n0 :: l)) true) = rowO 9 (sL (n0 :: l)) := by
  show _ = some (U.Blk.cells 9 (cellsAll (sL (n0 :: l))) true)
  rw [cellsS]; rfl
theorem spN_nth (k : Nat) (x : ByteArray) (l : List ByteArray) : nth (spN k (x :: l)) (0 + k * 1) = some (.string x) := by
  rw [Nat.zero_add, Nat.mul_one, nth_eq, spN, List.getElem?_append_right (by simp)]
  simp [sL]
theorem spN_len (k : Nat) (l : List ByteArray) : (spN k l).length = k + l.length := by simp [spN, sL]
theorem spN_set (k : Nat) (x : ByteArray) (l : List ByteArray) : spN (k + 1) l = (spN k (x :: l)).take (0 + k * 1) ++ [spV] ++ (spN k (x :: l)).drop (0 + k * 1 + [spV].length) := by
  rw [Nat.zero_add, Nat.mul_one, spN, spN, List.take_append_of_le_length (by simp), List.take_of_length_le (by simp), List.length_singleton, List.drop_append, List.replicate_succ']
  simp [sL]
def sp99 (k : Nat) (l : List Int) : List Int := List.replicate k 99 ++ l
theorem sp99_len (k : Nat) (l : List Int) : (sp99 k l).length = k + l.length := by simp [sp99]
theorem sp99_set (k : Nat) (x : Int) (l : List Int) : iL (sp99 (k + 1) l) = (iL (sp99 k (x :: l))).take (0 + k * 1) ++ [.int .i64 99] ++ (iL (sp99 k (x :: l))).drop (0 + k * 1 + [Value.int .i64 99].length) := by
  rw [Nat.zero_add, Nat.mul_one, List.length_singleton]
  simp only [iL, sp99, List.map_append, List.map_replicate, List.map_cons]
  rw [List.take_append_of_le_length (by simp), List.take_of_length_le (by simp), List.drop_append, List.replicate_succ']
  simp
def spR (pre rest : List (List Int)) : List (List Int) := pre.map (fun r => List.replicate r.length 99) ++ rest
theorem spR_len (pre rest : List (List Int)) : (spR pre rest).length = (pre ++ rest).length := by simp [spR]
theorem spR_at (pre rest : List (List Int)) (x : List Int) : Rf (spR pre (x :: rest)) pre.length = x := by
  have := Rf_mid (a := pre.map fun r => List.replicate r.length 99) (r := x) (b := rest)
  rw [List.length_map] at this
  exact this
theorem spR_snoc (pre rest : List (List Int)) (x : List Int) : spR (pre ++ [x]) rest = pre.map (fun r => List.replicate r.length 99) ++ List.replicate x.length 99 :: rest := by simp [spR]
theorem spR_at' (pre rest : List (List Int)) (x : List Int) : Rf (spR (pre ++ [x]) rest) pre.length = List.replicate x.length 99 := by
  rw [spR_snoc]
  have := Rf_mid (a := pre.map fun r => List.replicate r.length 99) (r := List.replicate x.length 99) (b := rest)
  rw [List.length_map] at this
  exact this
theorem spR_ne (pre rest : List (List Int)) (x : List Int) {k : Nat} (h : k ≠ pre.length) : Rf (spR (pre ++ [x]) rest) k = Rf (spR pre (x :: rest)) k := by
  rw [spR_snoc, spR]
  unfold Rf
  rw [List.getD_eq_getElem?_getD, List.getD_eq_getElem?_getD]
  rcases Nat.lt_or_ge k pre.length with h1 | h1
  · rw [List.getElem?_append_left (by simpa using h1), List.getElem?_append_left (by simpa using h1)]
  · rw [List.getElem?_append_right (by simpa using h1), List.getElem?_append_right (by simpa using h1), List.length_map]
    obtain ⟨m, hm⟩ : ∃ m, k - pre.length = m + 1 := ⟨k - pre.length - 1, by omega⟩
    rw [hm]; rfl
theorem rowS_lenI (b : Nat) {l m : List Int} (h : l.length = m.length) : rowS b (iL l) = rowS b (iL m) := by
  cases l with
  | nil =>
    cases m with
    | nil => rfl
    | cons y m => simp at h
  | cons x l =>
    cases m with
    | nil => simp at h
    | cons y m =>
      show Value.slice (some ⟨b, 0, none⟩) ((iL l).length + 1) ((iL l).length + 1) = .slice (some ⟨b, 0, none⟩) ((iL m).length + 1) ((iL m).length + 1)
      rw [iL_len, iL_len, show l.length = m.length by simpa using h]
def bAt : List (List Int) → Option U.Blk
  | (y :: ys) :: _ => some (.cells 3 (iL (y :: ys)) true)
  | _ => none
theorem rowI_eq (y : Int) (ys : List Int) : some (U.Blk.cells 3 (iL (y :: ys)) true) = rowO 3 (iL (y :: ys)) := by
  show _ = some (U.Blk.cells 3 (cellsAll (iL (y :: ys))) true)
  rw [cellsI]
theorem bAt_eq (pre rest : List (List Int)) : bAt rest = if pre.length < (spR pre rest).length then rowO 3 (iL (Rf (spR pre rest) pre.length)) else none := by
  cases rest with
  | nil => rw [if_neg (by simp [spR])]; rfl
  | cons x rest =>
    rw [if_pos (by simp [spR]), spR_at]
    cases x with
    | nil => rfl
    | cons y ys => exact rowI_eq y ys
theorem cells_nth (pre rest : List (List Int)) (x : List Int) : nth (cellsN (spR pre (x :: rest)).length (Rf (spR pre (x :: rest))) (nmS pre.length)) (0 + pre.length * 1) = some (rowS 65539 (iL x)) := by
  rw [cellsN_nth (by simp [spR]), spR_at, show nmS pre.length pre.length = 65539 by simp [nmS]]
theorem rowsE {sh : Tr U.Blk} {pre rest : List (List Int)} {x : List Int} (hn : (pre ++ x :: rest).length ≤ 65000) (g0 : sh.get 5 = some (.cells 54 (cellsN (spR pre (x :: rest)).length (Rf (spR pre (x :: rest))) (nmS pre.length)) true)) (g1 : x ≠ [] → sh.get 65539 = some (.cells 3 (iL (List.replicate x.length 99)) true)) (g2 : ∀ p, Tr.at (.r (.r (.r (.r (.l p))))) sh = Tr.at p (gTr 65792 (famR (spR pre (x :: rest)).length (Rf (spR pre (x :: rest))) pre.length))) : RowsX sh 5 (spR (pre ++ [x]) rest).length (Rf (spR (pre ++ [x]) rest)) (nmS pre.length) := by
  have hl : (spR (pre ++ [x]) rest).length = (spR pre (x :: rest)).length := by simp [spR]
  have hl2 : (spR pre (x :: rest)).length ≤ 65000 := by rw [spR_len]; exact hn
  refine ⟨fun _ => ?_, fun k hk hr => ?_, fun k k' hk hk' _ _ e => ?_, fun k hk _ => ?_⟩
  · rw [g0, hl]
    congr 2
    unfold cellsN
    refine List.map_congr_left fun k hk => rowS_lenI _ ?_
    by_cases h : k = pre.length
    · subst h
      rw [spR_at', spR_at]; simp
    · rw [spR_ne _ _ _ h]
  · rw [hl] at hk
    by_cases hkn : k = pre.length
    · subst hkn
      rw [spR_at'] at hr ⊢
      rw [show nmS pre.length pre.length = 65539 by simp [nmS], g1 fun e => hr (by rw [e]; rfl)]
    · rw [spR_ne _ _ _ hkn] at hr ⊢
      rw [show nmS pre.length k = 65793 + k by unfold nmS; rw [if_neg hkn], src2 g2 (by rw [famR_len]; omega) (by rw [famR_len]; exact hk), famR_to hk hkn hr]
  · rw [hl] at hk hk'
    unfold nmS at e
    split at e <;> split at e <;> omega
  · unfold nmS
    split <;> omega
theorem fault_d (a b e : Int) : DenU Try.prog [] 9 [fltV a b e] (fltV a b e) := by
  refine denU_of_body hmixU rfl Try.func9 rfl rfl rfl 0 ?_
  intro Ts
  have c1 := pos_d a b
  (repeat' ((conv => whnf); first | refine goD ?_ | refine ⟨_, c1, (by (repeat (first | exact trivial | ((conv => whnf); first | exact trivial | refine And.intro (by first | assumption | exact cleanI _ | exact cleanIL _ | exact cleanBL _ | exact NoNm.flat _ rfl) ?_)))), tab0 _, ?_⟩ | refine U.drawX_p (D := U.propX) 6 [] (by decide +kernel) (by decide +kernel) ?_ | refine U.lw_c (fun hb => ?_) (fun hb => ?_)))
  (conv => whnf)
  exact .clean _ (.flat _ rfl)
theorem same_d (a b : List Int) (ha : a.length ≤ maxI) : DenU Try.prog [] 12 [imS (iL a), imS (iL b)] (.bool (decide (a = b))) := by
  refine denU_of_body hmixU rfl Try.func12 rfl rfl rfl 0 ?_
  intro Ts
  by_cases hl : a.length = b.length
  · have hne : (((iL a).length : Int) != ((iL b).length : Int)) = false := by rw [iL_len, iL_len, hl]; simp
    (repeat' ((conv => whnf); first | refine goD ?_ | refine U.lw_c (fun hb => ?_) (fun hb => ?_)))
    (conv => whnf)
    refine loop_inv (α := List Int × List Int × List Int) (fun x => x.1 ++ x.2.1 = a ∧ x.1 ++ x.2.2 = b) (fun x => (mkF [(0, imS (iL a)), (1, imS (iL b)), (4, .bool false), (5, .int .i64 x.1.length)], ⟨.e, 0, 0, 0⟩)) (fun x => x.2.1.length) ([], a, b) ⟨rfl, rfl⟩ (Cov.slots (Nat.le_refl _) ⟨rfl, rfl, rfl, rfl, trivial⟩) ?_
    rintro ⟨pre, ra, rb⟩ ⟨h1, h2⟩
    dsimp only at h1 h2
    subst h1 h2
    dsimp only
    have hlr : ra.length = rb.length := by simp at hl; exact hl
    rcases ra with _ | ⟨x, ra⟩
    · have hrb : rb = [] := List.eq_nil_of_length_eq_zero (by simpa using hlr.symm)
      subst hrb
      rw [List.append_nil]
      have h3b := U.lt_no iL_map pre
      (repeat' ((conv => whnf); first | refine goD ?_ | refine U.lw_c (fun hb => ?_) (fun hb => ?_)))
      (conv => whnf)
      exact .same (.flat _ rfl) (by rw [decide_eq_true rfl]; rfl)
    · rcases rb with _ | ⟨y, rb⟩
      · simp at hlr
      · obtain ⟨h3b, h3c, h3n, h3w⟩ := U.at4 iL_map pre (x) ra (ha)
        have h4b := U.lt_yes iL_map pre (y) rb; have h4c := U.blt_yes iL_map pre (y) rb; have h4n := U.nth_at iL_map pre (y) rb
        (repeat' ((conv => whnf); first | refine goD ?_ | refine U.drawX_p (D := U.propX) 9 [] (by decide +kernel) (by decide +kernel) ?_ | refine U.lw_c (fun hb => ?_) (fun hb => ?_)))
        all_goals (conv => whnf)
        · have hne : ¬ x = y := by simpa using hb
          exact .same (.flat _ rfl) (by rw [decide_eq_false (fun e => hne (by simp at e; exact e.1))]; rfl)
        · have hxy : x = y := by simpa using hb
          subst hxy
          exact ⟨(pre ++ [x], ra, rb), ⟨by simp, by simp⟩, by simp, Cov.slots (s := ⟨.e, 0, 0, 0⟩) (Nat.le_refl _) ⟨rfl, rfl, rfl, congrArg some (congrArg (Value.int .i64) h3w), trivial⟩⟩
  · have hne : (((iL a).length : Int) != ((iL b).length : Int)) = true := by rw [iL_len, iL_len]; simp; omega
    (repeat' ((conv => whnf); first | refine goD ?_ | refine U.lw_c (fun hb => ?_) (fun hb => ?_)))
    (conv => whnf)
    exact .same (.flat _ rfl) (by rw [decide_eq_false (fun e => hl (by rw [e]))]; rfl)
end Go.Proofs.Ytphbcejnnoijfaa
