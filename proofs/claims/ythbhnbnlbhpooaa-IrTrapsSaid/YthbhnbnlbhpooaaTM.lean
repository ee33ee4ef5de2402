/- Rows of trap sites, whose operands' rows are a family: how states that have one are told anew. -/
import Derived.Test.YthbhnbnlbhpooaaTK
import Derived.Test.YthbhnbnlbhpooaaTE
import Derived.Test.YthbhnbnlbhpooaaUJ
namespace Go.Proofs.Ythbhnbnlbhpooaa
open Go Go.RowKit Go.Sort U
set_option linter.unusedVariables false
set_option linter.unusedSimpArgs false
set_option maxRecDepth 100000
set_option maxHeartbeats 4000000
def argsE : Ex → List Ex
  | .mk _ _ _ _ l => l
/-- A trap site in a row: its operands' row has the number b. -/
def cellsTp (b : Nat) : Int × Ex → List Value
  | (i, .mk k n a o l) => [.int .i64 i, .int .i64 k, .int .i64 n, .int .i64 a, .int .i64 o, rowS b (encEs l)]
def rowTp : Nat → List (Int × Ex) → List Value
  | _, [] => []
  | b, p :: l => cellsTp b p ++ rowTp (b + 1) l
def famTp (l : List (Int × Ex)) : List (Option U.Blk) := l.map fun p => rowN 46 (encEs (argsE p.2))
def lV (L : Nat) : List (Int × Ex) → Value
  | [] => .slice none 0 0
  | _ :: l => .slice (some ⟨L, 0, none⟩) (l.length + 1) (l.length + 1)
def lB (b : Nat) : List (Int × Ex) → Option U.Blk
  | [] => none
  | p :: l => some (.cells 48 (rowTp b (p :: l)) true)
theorem cellsTp_len (b : Nat) : ∀ p, (cellsTp b p).length = 6
  | (_, .mk ..) => rfl
theorem rowTp_len : ∀ (b : Nat) (l : List (Int × Ex)), (rowTp b l).length = l.length * 6
  | _, [] => rfl
  | b, p :: l => by rw [rowTp, List.length_append, cellsTp_len, rowTp_len (b + 1) l, List.length_cons]; omega
theorem rowTp_snoc (p : Int × Ex) : ∀ (b : Nat) (l : List (Int × Ex)), rowTp b (l ++ [p]) = rowTp b l ++ cellsTp (b + l.length) p
  | b, [] => by simp [rowTp]
  | b, q :: l => by rw [List.cons_append, rowTp, rowTp, rowTp_snoc p (b + 1) l, List.append_assoc, List.length_cons, show b + 1 + l.length = b + (l.length + 1) by omega]
theorem famTp_snoc (p : Int × Ex) (l : List (Int × Ex)) : famTp (l ++ [p]) = famTp l ++ [rowN 46 (encEs (argsE p.2))] := by simp [famTp]
theorem famTp_len (l : List (Int × Ex)) : (famTp l).length = l.length := by simp [famTp]
theorem rowN_ren {n : Nat} {ρ : Ren} {m : List Ex} {b : U.Blk} (h : rowN 46 (encEs m) = some b) : RenB n ρ b b := by
  cases m with
  | nil => cases h
  | cons e m => cases h; exact .row _ _ _ _ (cleanEsC (e :: m)) rfl
theorem famTp_ren {n : Nat} {ρ : Ren} {l : List (Int × Ex)} {j : Nat} {b : U.Blk} (h : (famTp l)[j]? = some (some b)) : RenB n ρ b b := by
  rw [famTp, List.getElem?_map] at h
  cases hx : l[j]? with
  | none => rw [hx] at h; cases h
  | some p => rw [hx] at h; exact rowN_ren (Option.some.inj h)
theorem cellsTp_ren {n : Nat} {ρ : Ren} {b1 b2 : Nat} (h1 : b1 < n) (h2 : ρ b1 = b2) : ∀ p, RenL n ρ (cellsTp b1 p) (cellsTp b2 p)
  | (i, .mk k m a o l) => .cons (.clean _ _ (cleanI _) rfl) (.cons (.clean _ _ (cleanI _) rfl) (.cons (.clean _ _ (cleanI _) rfl) (.cons (.clean _ _ (cleanI _) rfl) (.cons (.clean _ _ (cleanI _) rfl) (.cons (.ofRow h1 h2 rfl) .nil)))))
theorem rowTp_ren {n : Nat} {ρ : Ren} : ∀ {b1 b2 : Nat} (l : List (Int × Ex)), (∀ j, j < l.length → b1 + j < n ∧ ρ (b1 + j) = b2 + j) → RenL n ρ (rowTp b1 l) (rowTp b2 l)
  | b1, b2, [], _ => .nil
  | b1, b2, p :: l, h => by
    rw [rowTp, rowTp]
    have h0 := h 0 (by simp)
    refine RenL.app (cellsTp_ren h0.1 h0.2 p) (rowTp_ren l fun j hj => ?_)
    have := h (j + 1) (by simp; omega)
    rw [show b1 + 1 + j = b1 + (j + 1) by omega, show b2 + 1 + j = b2 + (j + 1) by omega]
    exact this
theorem lV_ren {n : Nat} {ρ : Ren} {L1 L2 : Nat} (h1 : L1 < n) (h2 : ρ L1 = L2) : ∀ l, RenV n ρ (lV L1 l) (lV L2 l)
  | [] => .clean _ _ (.flat _ rfl) rfl
  | _ :: l => .sl _ _ _ _ _ _ _ h1 h2 rfl rfl
theorem lB_ren {n : Nat} {ρ : Ren} {b1 b2 L : Nat} {sh : Tr U.Blk} {l : List (Int × Ex)} (h : ∀ j, j < l.length → b1 + j < n ∧ ρ (b1 + j) = b2 + j) (hs : sh.get L = lB b2 l) {b : U.Blk} (hb : lB b1 l = some b) : ∃ b', sh.get L = some b' ∧ RenB n ρ b b' := by
  cases l with
  | nil => cases hb
  | cons p l => cases hb; exact ⟨_, hs, .cells _ _ _ _ (rowTp_ren (p :: l) h)⟩
theorem src1 {sh : Tr U.Blk} {l : List (Option U.Blk)} (h : ∀ p, Tr.at (.r (.l p)) sh = Tr.at p (gTr 256 l)) (hl : l.length ≤ 65280) {j : Nat} (hj : j < l.length) : sh.get (257 + j) = l[j]?.join := by
  unfold Tr.get
  rw [pt_g1 (by omega) (by omega), h, gTr_at, if_pos (by omega), show 257 + j - 1 - 256 = j by omega]
theorem src2 {sh : Tr U.Blk} {l : List (Option U.Blk)} (h : ∀ p, Tr.at (.r (.r (.r (.r (.l p))))) sh = Tr.at p (gTr 65792 l)) (hl : l.length ≤ 65280) {j : Nat} (hj : j < l.length) : sh.get (65793 + j) = l[j]?.join := by
  unfold Tr.get
  rw [pt_g2 (by omega) (by omega), h, gTr_at, if_pos (by omega), show 65793 + j - 1 - 65792 = j by omega]
/-- The state ahead of each expression. -/
def stH (s : St) (ws : List (Int × Ex)) : AS := ⟨mkOB (base1 (famTp ws)) [(0, some (.cells 26 (cellsOf (encS s)) false)), (1, some (.cells 41 [lV 2 ws] false)), (2, lB 257 ws)], 65537, 0, 0⟩
/-- The state ahead of each round of the range over one expression's parts. -/
def stC (s : St) (lp : U.Blk) (ws : List (Int × Ex)) : AS := ⟨mkOB (base2 (famTp ws)) [(0, some (.cells 26 (cellsOf (encS s)) false)), (1, some (.cells 41 [lV 65600 ws] false)), (65540, some lp), (65600, lB 65793 ws)], 131329, 0, 0⟩
theorem cleanS_cells' (s : St) : ∀ x, x ∈ cellsOf (encS s) → NoNm x := by
  cases s with
  | mk k a xs th el no =>
    intro x hx
    have hx : x ∈ [Value.int .i64 k, .int .i64 a, imS (encEs xs), imS (encSs th), imS (encSs el), .int .i64 no] := hx
    simp only [List.mem_cons, List.not_mem_nil, or_false] at hx
    rcases hx with rfl | rfl | rfl | rfl | rfl | rfl
    · exact cleanI _
    · exact cleanI _
    · exact cleanEs _
    · exact cleanSs _
    · exact cleanSs _
    · exact cleanI _
def rhoIn (m k : Nat) : Nat := if k = 65600 then 2 else if 65793 ≤ k ∧ k < 65793 + m then 257 + (k - 65793) else k
/-- Into the range: the row of one expression, and the box of it, are frozen; the family goes to other numbers. -/
theorem cov_in {P : Program} {N nx : Nat} {fr : Tr Value} {sh : Tr U.Blk} (s : St) (e : Ex) (ws : List (Int × Ex)) (hws : ws.length ≤ 65280) {st : LoopState} {pe : Option Code} {fl : Tr Value} {N1 : Nat} {ps : List Tmp} {asg bo : Code} {T : TypeId}
    (hnx : nx = 65541) (g0 : sh.get 0 = some (.cells 26 (cellsOf (encS s)) false)) (g1 : sh.get 1 = some (.cells 41 [lV 2 ws] false)) (g2 : sh.get 2 = lB 257 ws) (g3 : sh.get 65538 = some (.cells T (cellsOf (encE e)) false)) (g4 : sh.get 65539 = some (.cells 23 [.slice (some ⟨65538, 0, none⟩) 1 1] false)) (g5 : sh.get 65540 = some (.loop st pe fl N1 ps asg bo)) (g6 : ∀ p, Tr.at (.r (.l p)) sh = Tr.at p (gTr 256 (famTp ws)))
    (g7 : Tr.at (pt 3) fl = some (.pointer (some ⟨1, 0, none⟩))) (f0 : Tr.at (pt 0) fr = some (yl 65540)) (f1 : Tr.at (pt 1) fr = some (.pointer (some ⟨65539, 0, none⟩))) :
    Cov P N nx fr ⟨sh, nx, 0, 0⟩ (mkF [(0, yl 65540), (1, imP (imS (encEs [e])) 0)]) (stC s (.loop st pe (mkF [(3, .pointer (some ⟨1, 0, none⟩))]) N1 ps asg bo) ws) := by
  subst hnx
  have hfl : (famTp ws).length ≤ 65280 := by rw [famTp_len]; exact hws
  have hget0 : ∀ {j : Nat} {b : U.Blk}, (famTp ws)[j]? = some (some b) → sh.get (257 + j) = some b := fun {j b} h => by
    rw [src1 g6 hfl (List.getElem?_eq_some_iff.1 h).1, h]; rfl
  have hne : cellsOf (encE e) ≠ [] := by cases e; simp [encE, cellsOf]
  have hloop : ∀ {n : Nat} {F : Value → Value → Prop} {ρ : Nat → Nat} {fa : Tr Value}, 1 < n → ρ 1 = 1 → Tr.at (pt 3) fa = some (.pointer (some ⟨1, 0, none⟩)) → RenB n ⟨ρ, F⟩ (.loop st pe (mkF [(3, .pointer (some ⟨1, 0, none⟩))]) N1 ps asg bo) (.loop st pe fa N1 ps asg bo) := fun h1 h2 h3 => .loop _ _ _ _ _ _ _ _ fun t u hu => by
    have := mkF_mem hu
    simp only [List.mem_singleton, Prod.mk.injEq] at this
    obtain ⟨rfl, rfl⟩ := this
    exact ⟨_, h3, .ptr 1 1 0 h1 h2⟩
  have c1 : Cov P N 65541 fr ⟨sh, 65541, 0, 0⟩ (mkF [(0, yl 65540), (1, .pointer (some ⟨65539, 0, none⟩))]) ⟨mkOB (base1 (famTp ws)) [(0, some (.cells 26 (cellsOf (encS s)) false)), (1, some (.cells 41 [lV 2 ws] false)), (2, lB 257 ws), (65539, some (.cells 23 [imS (encEs [e])] false)), (65540, some (.loop st pe (mkF [(3, .pointer (some ⟨1, 0, none⟩))]) N1 ps asg bo))], 65541, 0, 0⟩ := by
    refine Cov.fam (fun k => k) 65538 (fun u1 u => u1 = imS (encEs [e]) ∧ u = .slice (some ⟨65538, 0, none⟩) 1 1) (T := T) (op := false) (xs := cellsOf (encE e)) 257 _ (famTp ws) rfl rfl (Nat.le_refl _) (Nat.zero_le _) (fun _ _ => rfl) rfl (fun k b h => base1_get hfl h) (by omega) (fun j b h => ⟨b, hget0 h, famTp_ren h⟩) rfl (fun _ => rfl) (fun _ j hj => by show 257 + j ≠ 65538; omega) (fun j j' _ _ h => by have h : 257 + j = 257 + j' := h; omega) (fun k hk j hj => ?_) ?_ (fun _ => g3) (fun u1 u ⟨h1, h2⟩ => ?_) ?_
    · simp only [List.map_cons, List.map_nil, List.mem_cons, List.not_mem_nil, or_false] at hk
      show k ≠ 257 + j
      omega
    · refine .cons g0 (.row _ _ _ _ (cleanS_cells' s) rfl) (.cons g1 (.cells _ _ _ _ (.cons (lV_ren (by omega) rfl ws) .nil)) ⟨fun b hb => lB_ren (fun j hj => ⟨by omega, rfl⟩) g2 hb, .cons g4 (.cells _ _ _ _ (.cons (.ext _ _ ⟨rfl, rfl⟩) .nil)) (.cons g5 (hloop (by omega) rfl g7) .nil)⟩)
    · subst h1; subst h2
      exact .row (encEs [e]) 5 1 1 hne (List.append_nil _) rfl (Nat.le_refl _) (cellsE_5 [e]) (cleanE_cells e)
    · exact .cons f0 (.yld _ _ (by omega) rfl) (.cons f1 (.ptr _ _ _ (by omega) rfl) .nil)
  refine c1.trans ?_
  have hr : ∀ j, j < ws.length → rhoIn ws.length (65793 + j) = 257 + j := fun j hj => by
    unfold rhoIn; rw [if_neg (by omega), if_pos (by omega)]; omega
  have hr0 : ∀ k, k < 65541 → rhoIn ws.length k = k := fun k hk => by
    unfold rhoIn; rw [if_neg (by omega), if_neg (by omega)]
  refine Cov.fam (rhoIn ws.length) 65539 (fun u1 u => u1 = imP (imS (encEs [e])) 0 ∧ u = .pointer (some ⟨65539, 0, none⟩)) (T := 23) (op := false) (xs := [imS (encEs [e])]) 65793 _ (famTp ws) rfl rfl (by decide) (Nat.zero_le _) hr0 rfl (fun k b h => base2_get hfl h) (by omega) (fun j b h => ?_) rfl (fun _ => rfl) (fun _ j hj => ?_) (fun j j' hj hj' h => ?_) (fun k hk j hj => ?_) ?_ (fun _ => rfl) (fun u1 u ⟨h1, h2⟩ => ?_) ?_
  · have hj := (List.getElem?_eq_some_iff.1 h).1
    rw [famTp_len] at hj
    exact ⟨b, by rw [hr j hj, src1 (fun p => rfl) hfl (by rw [famTp_len]; exact hj), h]; rfl, famTp_ren h⟩
  · rw [famTp_len] at hj; rw [hr j hj]; omega
  · rw [famTp_len] at hj hj'
    rw [hr j hj, hr j' hj'] at h; omega
  · rw [famTp_len] at hj
    rw [hr j hj]
    simp only [List.map_cons, List.map_nil, List.mem_cons, List.not_mem_nil, or_false] at hk
    rcases hk with rfl | rfl | rfl | rfl
    · rw [hr0 0 (by omega)]; omega
    · rw [hr0 1 (by omega)]; omega
    · rw [hr0 65540 (by omega)]; omega
    · rw [show rhoIn ws.length 65600 = 2 from rfl]; omega
  · refine .cons rfl (.row _ _ _ _ (cleanS_cells' s) rfl) (.cons rfl (.cells _ _ _ _ (.cons (lV_ren (by omega) rfl ws) .nil)) (.cons rfl (hloop (by omega) rfl rfl) ⟨fun b hb => lB_ren (fun j hj => ⟨by omega, hr j hj⟩) rfl hb, trivial⟩))
  · subst h1; subst h2
    exact .box _ 0 (by simp) rfl fun x hx => by
      rw [List.mem_singleton] at hx; subst hx; exact cleanEs _
  · exact .cons rfl (.yld _ _ (by omega) rfl) (.cons rfl (.ext _ _ ⟨rfl, rfl⟩) .nil)
theorem lV_snoc (L : Nat) (ws : List (Int × Ex)) (p : Int × Ex) : lV L (ws ++ [p]) = .slice (some ⟨L, 0, none⟩) (ws.length + 1) (ws.length + 1) := by
  cases ws with
  | nil => rfl
  | cons w t => simp [lV]
theorem lB_snoc (b : Nat) (ws : List (Int × Ex)) (p : Int × Ex) : lB b (ws ++ [p]) = some (.cells 48 (rowTp b ws ++ cellsTp (b + ws.length) p) true) := by
  rw [← rowTp_snoc]
  cases ws with
  | nil => rfl
  | cons w t => rfl
theorem loop_ren {n : Nat} {F : Value → Value → Prop} {ρ : Nat → Nat} {fa : Tr Value} {st : LoopState} {pe : Option Code} {N1 : Nat} {ps : List Tmp} {asg bo : Code} (h1 : 1 < n) (h2 : ρ 1 = 1) (h3 : Tr.at (pt 3) fa = some (.pointer (some ⟨1, 0, none⟩))) : RenB n ⟨ρ, F⟩ (.loop st pe (mkF [(3, .pointer (some ⟨1, 0, none⟩))]) N1 ps asg bo) (.loop st pe fa N1 ps asg bo) :=
  .loop _ _ _ _ _ _ _ _ fun t u hu => by
    have := mkF_mem hu
    simp only [List.mem_singleton, Prod.mk.injEq] at this
    obtain ⟨rfl, rfl⟩ := this
    exact ⟨_, h3, .ptr 1 1 0 h1 h2⟩
/-- Behind a round that adds nothing. -/
theorem cov_same {P : Program} {N n0 nx : Nat} {fr : Tr Value} {sh : Tr U.Blk} {l : List (Nat × Value)} (s : St) (ws : List (Int × Ex)) (hws : ws.length ≤ 65280) {st : LoopState} {pe : Option Code} {fl : Tr Value} {N1 : Nat} {ps : List Tmp} {asg bo : Code}
    (hn0 : n0 ≤ 65541) (g0 : sh.get 0 = some (.cells 26 (cellsOf (encS s)) false)) (g1 : sh.get 1 = some (.cells 41 [lV 65600 ws] false)) (g2 : sh.get 65600 = lB 65793 ws) (g5 : sh.get 65540 = some (.loop st pe fl N1 ps asg bo)) (g6 : ∀ p, Tr.at (.r (.r (.r (.r (.l p))))) sh = Tr.at p (gTr 65792 (famTp ws)))
    (g7 : Tr.at (pt 3) fl = some (.pointer (some ⟨1, 0, none⟩))) (hf : slotsRen fr n0 ⟨fun k => k, fun _ _ => False⟩ l) :
    Cov P N n0 fr ⟨sh, nx, 0, 0⟩ (mkF l) (stC s (.loop st pe (mkF [(3, .pointer (some ⟨1, 0, none⟩))]) N1 ps asg bo) ws) := by
  have hfl : (famTp ws).length ≤ 65280 := by rw [famTp_len]; exact hws
  have hget0 : ∀ {j : Nat} {b : U.Blk}, (famTp ws)[j]? = some (some b) → sh.get (65793 + j) = some b := fun {j b} h => by
    rw [src2 g6 hfl (List.getElem?_eq_some_iff.1 h).1, h]; rfl
  refine Cov.fam (fun k => k) 0 (fun _ _ => False) (T := 0) (op := false) (xs := []) 65793 _ (famTp ws) rfl rfl (by show n0 ≤ 131329; omega) (Nat.zero_le _) (fun _ _ => rfl) rfl (fun k b h => base2_get hfl h) (by omega) (fun j b h => ⟨b, hget0 h, famTp_ren h⟩) rfl (fun h => absurd rfl h) (fun h => absurd rfl h) (fun j j' _ _ h => by have h : 65793 + j = 65793 + j' := h; omega) (fun k hk j hj => ?_) ?_ (fun h => absurd rfl h) (fun u1 u h => absurd h id) (hf.conv (by omega) fun _ _ => rfl)
  · simp only [List.map_cons, List.map_nil, List.mem_cons, List.not_mem_nil, or_false] at hk
    show k ≠ 65793 + j
    omega
  · exact .cons g0 (.row _ _ _ _ (cleanS_cells' s) rfl) (.cons g1 (.cells _ _ _ _ (.cons (lV_ren (by omega) rfl ws) .nil)) (.cons g5 (loop_ren (by omega) rfl g7) ⟨fun b hb => lB_ren (fun j hj => ⟨by omega, rfl⟩) g2 hb, trivial⟩))
def rhoM (La c2 m k : Nat) : Nat := if k = 65600 then La else if k = 65793 + m then c2 else k
/-- Behind a round that adds a trap site. -/
theorem cov_more {P : Program} {N n0 nx : Nat} {fr : Tr Value} {sh : Tr U.Blk} {l : List (Nat × Value)} (s : St) (ws : List (Int × Ex)) (p : Int × Ex) (La c2 : Nat) (hws : ws.length + 1 ≤ 65280) {st : LoopState} {pe : Option Code} {fl : Tr Value} {N1 : Nat} {ps : List Tmp} {asg bo : Code}
    (hn0 : n0 ≤ 65541) (hL : 131329 ≤ La) (h2 : 131329 ≤ c2) (hne : La ≠ c2) (g0 : sh.get 0 = some (.cells 26 (cellsOf (encS s)) false)) (g1 : sh.get 1 = some (.cells 41 [.slice (some ⟨La, 0, none⟩) (ws.length + 1) (ws.length + 1)] false)) (g2 : sh.get La = some (.cells 48 (rowTp 65793 ws ++ cellsTp c2 p) true)) (g3 : sh.get c2 = rowN 46 (encEs (argsE p.2))) (g5 : sh.get 65540 = some (.loop st pe fl N1 ps asg bo)) (g6 : ∀ p, Tr.at (.r (.r (.r (.r (.l p))))) sh = Tr.at p (gTr 65792 (famTp ws)))
    (g7 : Tr.at (pt 3) fl = some (.pointer (some ⟨1, 0, none⟩))) (hf : slotsRen fr n0 ⟨fun k => k, fun _ _ => False⟩ l) :
    Cov P N n0 fr ⟨sh, nx, 0, 0⟩ (mkF l) (stC s (.loop st pe (mkF [(3, .pointer (some ⟨1, 0, none⟩))]) N1 ps asg bo) (ws ++ [p])) := by
  have hfl : (famTp (ws ++ [p])).length ≤ 65280 := by rw [famTp_len, List.length_append, List.length_singleton]; exact hws
  have hfl0 : (famTp ws).length ≤ 65280 := by rw [famTp_len]; omega
  have hlen : (famTp (ws ++ [p])).length = ws.length + 1 := by rw [famTp_len, List.length_append, List.length_singleton]
  have hr : ∀ j, j < ws.length → rhoM La c2 ws.length (65793 + j) = 65793 + j := fun j hj => by
    unfold rhoM; rw [if_neg (by omega), if_neg (by omega)]
  have hr2 : rhoM La c2 ws.length (65793 + ws.length) = c2 := by unfold rhoM; rw [if_neg (by omega), if_pos rfl]
  have hr0 : ∀ k, k < 65541 → rhoM La c2 ws.length k = k := fun k hk => by
    unfold rhoM; rw [if_neg (by omega), if_neg (by omega)]
  have hrL : rhoM La c2 ws.length 65600 = La := rfl
  have hj2 : ∀ j, j < ws.length + 1 → (j < ws.length ∧ rhoM La c2 ws.length (65793 + j) = 65793 + j) ∨ (j = ws.length ∧ rhoM La c2 ws.length (65793 + j) = c2) := fun j hj => by
    rcases Nat.lt_or_ge j ws.length with h | h
    · exact .inl ⟨h, hr j h⟩
    · have : j = ws.length := by omega
      subst this
      exact .inr ⟨rfl, hr2⟩
  have hkeys : ∀ k, k ∈ [0, 1, 65540, 65600] → k < 131329 ∧ ((k < 65541 ∧ rhoM La c2 ws.length k = k) ∨ (k = 65600 ∧ rhoM La c2 ws.length k = La)) := fun k hk => by
    simp only [List.mem_cons, List.not_mem_nil, or_false] at hk
    rcases hk with rfl | rfl | rfl | rfl
    · exact ⟨by omega, .inl ⟨by omega, hr0 _ (by omega)⟩⟩
    · exact ⟨by omega, .inl ⟨by omega, hr0 _ (by omega)⟩⟩
    · exact ⟨by omega, .inl ⟨by omega, hr0 _ (by omega)⟩⟩
    · exact ⟨by omega, .inr ⟨rfl, rfl⟩⟩
  refine Cov.fam (rhoM La c2 ws.length) 0 (fun _ _ => False) (T := 0) (op := false) (xs := []) 65793 _ (famTp (ws ++ [p])) rfl rfl (by show n0 ≤ 131329; omega) (Nat.zero_le _) (fun k hk => hr0 k (by omega)) rfl (fun k b h => base2_get hfl h) (by omega) (fun j b h => ?_) ?_ (fun h => absurd rfl h) (fun h => absurd rfl h) (fun j j' hj hj' h => ?_) (fun k hk j hj => ?_) ?_ (fun h => absurd rfl h) (fun u1 u h => absurd h id) (hf.conv (by omega) fun k hk => hr0 k (by omega))
  · have hj := (List.getElem?_eq_some_iff.1 h).1
    rw [hlen] at hj
    rcases hj2 j hj with ⟨h3, h4⟩ | ⟨rfl, h4⟩
    · rw [famTp_snoc, List.getElem?_append_left (by rw [famTp_len]; exact h3)] at h
      exact ⟨b, by rw [h4, src2 g6 hfl0 (by rw [famTp_len]; exact h3), h]; rfl, famTp_ren h⟩
    · rw [famTp_snoc, List.getElem?_append_right (by rw [famTp_len]; exact Nat.le_refl _), famTp_len, Nat.sub_self] at h
      have h : rowN 46 (encEs (argsE p.2)) = some b := by simpa using h
      exact ⟨b, by rw [h4, g3, h], rowN_ren h⟩
  · refine List.all_eq_true.2 fun k hk => ?_
    obtain ⟨q1, q2⟩ := hkeys k hk
    simp only [Bool.and_eq_true, decide_eq_true_eq, List.all_eq_true]
    refine ⟨⟨q1, fun _ => Nat.zero_le _⟩, fun k' hk' e => ?_⟩
    obtain ⟨q3, q4⟩ := hkeys k' hk'
    rcases q2 with ⟨a1, a2⟩ | ⟨a1, a2⟩ <;> rcases q4 with ⟨b1, b2⟩ | ⟨b1, b2⟩ <;> rw [a2, b2] at e <;> omega
  · rw [hlen] at hj hj'
    rcases hj2 j hj with ⟨a1, a2⟩ | ⟨a1, a2⟩ <;> rcases hj2 j' hj' with ⟨b1, b2⟩ | ⟨b1, b2⟩ <;> rw [a2, b2] at h <;> omega
  · rw [hlen] at hj
    obtain ⟨q1, q2⟩ := hkeys k hk
    rcases q2 with ⟨a1, a2⟩ | ⟨a1, a2⟩ <;> rcases hj2 j hj with ⟨b1, b2⟩ | ⟨b1, b2⟩ <;> rw [a2, b2] <;> omega
  · refine .cons (by rw [show (⟨rhoM La c2 ws.length, fun _ _ => False⟩ : Ren) 0 = 0 from hr0 0 (by omega)]; exact g0) (.row _ _ _ _ (cleanS_cells' s) rfl) (.cons (by rw [show (⟨rhoM La c2 ws.length, fun _ _ => False⟩ : Ren) 1 = 1 from hr0 1 (by omega)]; exact g1) (.cells _ _ _ _ (.cons ?_ .nil)) (.cons (by rw [show (⟨rhoM La c2 ws.length, fun _ _ => False⟩ : Ren) 65540 = 65540 from hr0 65540 (by omega)]; exact g5) (loop_ren (by omega) (hr0 1 (by omega)) g7) ⟨fun b hb => ?_, trivial⟩))
    · rw [lV_snoc]
      exact .sl _ _ _ _ _ _ _ (by omega) rfl rfl rfl
    · rw [lB_snoc] at hb
      cases hb
      exact ⟨_, g2, .cells _ _ _ _ (RenL.app (rowTp_ren ws fun j hj => ⟨by omega, hr j hj⟩) (cellsTp_ren (by omega) hr2 p))⟩
def rhoOut (m k : Nat) : Nat := if k = 2 then 65600 else if 257 ≤ k ∧ k < 257 + m then 65793 + (k - 257) else k
/-- Out of the range. -/
theorem cov_out {P : Program} {N : Nat} {fr : Tr Value} {l : List (Nat × Value)} (s : St) (lp : U.Blk) (ws : List (Int × Ex)) (hws : ws.length ≤ 65280) (hf : slotsRen fr 2 ⟨fun k => k, fun _ _ => False⟩ l) : Cov P N 2 fr (stC s lp ws) (mkF l) (stH s ws) := by
  have hfl : (famTp ws).length ≤ 65280 := by rw [famTp_len]; exact hws
  have hr : ∀ j, j < ws.length → rhoOut ws.length (257 + j) = 65793 + j := fun j hj => by
    unfold rhoOut; rw [if_neg (by omega), if_pos (by omega)]; omega
  have hr0 : ∀ k, k < 2 → rhoOut ws.length k = k := fun k hk => by
    unfold rhoOut; rw [if_neg (by omega), if_neg (by omega)]
  refine Cov.fam (rhoOut ws.length) 0 (fun _ _ => False) (T := 0) (op := false) (xs := []) 257 _ (famTp ws) rfl rfl (by decide) (Nat.zero_le _) hr0 rfl (fun k b h => base1_get hfl h) (by omega) (fun j b h => ?_) rfl (fun h => absurd rfl h) (fun h => absurd rfl h) (fun j j' hj hj' h => ?_) (fun k hk j hj => ?_) ?_ (fun h => absurd rfl h) (fun u1 u h => absurd h id) (hf.conv (by omega) hr0)
  · have hj := (List.getElem?_eq_some_iff.1 h).1
    rw [famTp_len] at hj
    exact ⟨b, by rw [hr j hj, src2 (fun p => rfl) hfl (by rw [famTp_len]; exact hj), h]; rfl, famTp_ren h⟩
  · rw [famTp_len] at hj hj'
    rw [hr j hj, hr j' hj'] at h; omega
  · rw [famTp_len] at hj
    rw [hr j hj]
    simp only [List.map_cons, List.map_nil, List.mem_cons, List.not_mem_nil, or_false] at hk
    rcases hk with rfl | rfl | rfl
    · rw [hr0 0 (by omega)]; omega
    · rw [hr0 1 (by omega)]; omega
    · rw [show rhoOut ws.length 2 = 65600 from rfl]; omega
  · exact .cons rfl (.row _ _ _ _ (cleanS_cells' s) rfl) (.cons rfl (.cells _ _ _ _ (.cons (lV_ren (by omega) rfl ws) .nil)) ⟨fun b hb => lB_ren (fun j hj => ⟨by omega, hr j hj⟩) rfl hb, trivial⟩)
end Go.Proofs.Ythbhnbnlbhpooaa
