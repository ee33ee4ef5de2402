/- The abstract machine with unknowns: iterators: a state of which much is not looked at; rounds one behind the other. No condition. -/
import Derived.Test.YthbhnbnlbhpooaaGreatDoorUG
namespace Go.Proofs.YthbhnbnlbhpooaaGreatDoor.U
open Go Go.RowKit Go.Sort
set_option linter.unusedVariables false
set_option linter.unusedSimpArgs false

theorem CodeS.seqT {P : Program} {N : Nat} {a b : Code} {fr : Tr Value} {s : AS} {k : KontC Prop} (fr2 : Tr Value) (s2 : AS) (ha : CodeS P N a fr s fun e fr' s' => e = .normal ∧ Cov P N s.next fr' s' fr2 s2) (hb : CodeS P N b fr2 s2 k) : CodeS P N (a.seq b) fr s k :=
  .seq ha fun e fr1 s1 ⟨h1, h2⟩ _ => by subst h1; exact ⟨fr2, s2, h2, hb⟩
/-- A state told anew, the frame aside. -/
structure CovS (P : Program) (n0 : Nat) (s s1 : AS) : Prop where
  lo : s1.lo = s.lo
  glb : s1.glb = s.glb
  next : n0 ≤ s1.next
  keep : ∀ (k : Nat), k < s.lo → s1.heap.get k = s.heap.get k
  rel : ∀ (W0 : World) (β : Bt) (W : World), Rel P W0 β s W → FreeA β s.next → ∃ β1 : Bt, (∀ k, k < n0 → β1 k = β k) ∧ FreeA β1 s1.next ∧ FrzLe W0.heap.size β β1 ∧ Rel P W0 β1 s1 W
theorem CovS.of {P : Program} {n0 : Nat} {s s1 : AS} (h : Cov P 0 n0 .e s .e s1) : CovS P n0 s s1 :=
  ⟨h.lo, h.glb, h.next, h.keep, fun W0 β W hR hf => by
    obtain ⟨β1, h1, h2, h3, h4, _⟩ := h.rel W0 β W { tmps := #[], defers := [] } hR hf ⟨rfl, fun t u hu => (by rw [Tr.at_e] at hu; cases hu), fun t ht => (by rw [Tr.at_e] at ht; exact absurd rfl ht)⟩
    exact ⟨β1, h1, h2, h3, h4⟩⟩
/-- With a frame whose names are old. -/
theorem CovS.frame {P : Program} {N n0 : Nat} {s s1 : AS} {fr : Tr Value} {l : List (Nat × Value)} (h : CovS P n0 s s1) (hf : slotsRen fr n0 ⟨fun k => k, fun _ _ => False⟩ l) : Cov P N n0 fr s (mkF l) s1 :=
  ⟨h.lo, h.glb, h.next, h.keep, fun W0 β W a hR hfa hF => by
    obtain ⟨β1, h1, h2, h3, h4⟩ := h.rel W0 β W hR hfa
    refine ⟨β1, h1, h2, h3, h4, hF.size, fun t u hu => ?_, fun t ht => ?_⟩
    · obtain ⟨v, q1, q2⟩ := hf.all _ (mkF_mem hu)
      exact q2.rel (β := β) (β1 := β1) h3.1 (fun _ _ _ h => absurd h id) h1 (hF.at_ t v q1)
    · obtain ⟨u, hu⟩ := Option.ne_none_iff_exists'.1 ht
      obtain ⟨v, q1, _⟩ := hf.all _ (mkF_mem hu)
      exact hF.lt t (by rw [q1]; simp)⟩
/-- A state in which nothing is laid behind the number 65536. -/
structure St3 where
  a : Tr Blk
  g : Tr Blk
  z : Tr Blk
def stA (c : St3) : AS := ⟨.n c.a none (.n c.g none (.n c.z none .e)), 65537, 0, 0⟩
/-- The names in it lie below. -/
def Told3 (c : St3) : Prop := ∀ k b, (stA c).heap.get k = some b → k < 65537 ∧ RenB 65537 ⟨fun k => k, fun _ _ => False⟩ b b
/-- Only the frame is told anew. -/
theorem Cov.fr {P : Program} {N : Nat} {fr : Tr Value} {s : AS} {l : List (Nat × Value)} (h : slotsOk fr l) : Cov P N s.next fr s (mkF l) s := .slots (Nat.le_refl _) h
/-- A box that was laid behind 65536 is frozen. -/
theorem Cov.boxed {P : Program} {N : Nat} {fr : Tr Value} {c : St3} {h0 : Tr Blk} {T : TypeId} {x : Value} {xs : List Value} {n lo glb : Nat} {l : List (Nat × Value)} (hn : n = 65538) (hlo : lo = 0) (hglb : glb = 0) (hc : Told3 c) (hh : h0 = (stA c).heap.set 65537 (some (.cells T xs false))) (e : cellsOf x = xs) (hx : xs ≠ []) (hcl : ∀ y, y ∈ xs → NoNm y)
    (hf : slotsRen fr 65537 ⟨fun k => k, fun u1 u => u1 = imP x 0 ∧ u = .pointer (some ⟨65537, 0, none⟩)⟩ l) : Cov P N (stA c).next fr ⟨h0, n, lo, glb⟩ (mkF l) (stA c) := by
  subst hn; subst hlo; subst hglb; subst hh
  have hg : ∀ k b, (stA c).heap.get k = some b → ((stA c).heap.set 65537 (some (Blk.cells T xs false))).get k = some b := fun k b h => by
    rw [Tr.get_set, if_neg (by have := (hc k b h).1; omega)]; exact h
  refine Cov.gen (fun k => k) 65537 (fun u1 u => u1 = imP x 0 ∧ u = .pointer (some ⟨65537, 0, none⟩)) (T := T) (op := false) (xs := xs) rfl rfl (Nat.le_refl _) (Nat.zero_le _) (fun _ _ => rfl) (fun k b h => ?_) (fun k k' _ _ h => h) (fun k h => absurd h (Nat.not_lt_zero k)) (Nat.zero_le _) (fun _ => ?_) (fun u1 u ⟨h1, h2⟩ => ?_) fun t u hu => ?_
  · obtain ⟨h1, h2⟩ := hc k b h
    refine ⟨h1, fun _ => Nat.zero_le _, fun _ => by omega, b, hg k b h, ?_⟩
    exact h2.mono fun _ _ h => absurd h id
  · show ((stA c).heap.set 65537 (some (Blk.cells T xs false))).get 65537 = _
    rw [Tr.get_set, if_pos rfl]
  · subst h1; subst h2
    exact .box x 0 hx e hcl
  · exact hf.all _ (mkF_mem hu)
/-- Rounds of a range over a function, one behind the other: each goes on. -/
def Chain (P : Program) (l : Nat) : List Value → St3 → St3 → Prop
  | [], c, c' => c = c'
  | x :: xs, c, c' => ∃ c1, SoundRound P l [x] (stA c) (fun u t => u = .bool true ∧ CovS P 65537 t (stA c1)) ∧ Told3 c1 ∧ Chain P l xs c1 c'
theorem Chain.app {P : Program} {l : Nat} : ∀ {xs ys : List Value} {c c' : St3}, Chain P l (xs ++ ys) c c' → Told3 c → ∃ c1, Chain P l xs c c1 ∧ Told3 c1 ∧ Chain P l ys c1 c'
  | [], ys, c, c', h, ht => ⟨c, rfl, ht, h⟩
  | x :: xs, ys, c, c', ⟨c1, h1, h2, h3⟩, ht => by
    obtain ⟨c2, q1, q2, q3⟩ := Chain.app h3 h2
    exact ⟨c2, ⟨c1, h1, h2, q1⟩, q2, q3⟩
end Go.Proofs.YthbhnbnlbhpooaaGreatDoor.U
