/- ValueTells as a call. -/
import Derived.Test.YtljhbdgoknfkcaaGreatDoorK7
import Derived.Test.YtljhbdgoknfkcaaGreatDoorJ0
import Derived.Test.YtljhbdgoknfkcaaGreatDoorG1
namespace Go.Proofs.YtljhbdgoknfkcaaGreatDoor
open Go Go.RowKit Go.Sort
set_option linter.unusedVariables false
set_option linter.unusedSimpArgs false
set_option maxRecDepth 100000

theorem le_orL' {F G : Facts} : FLe F (orF F G) := ⟨fun _ _ _ h => .inl h, fun _ _ h => .inl h⟩
theorem le_orR' {F G : Facts} : FLe G (orF F G) := ⟨fun _ _ _ h => .inr h, fun _ _ h => .inr h⟩
theorem cellsIv {F : Facts} {l : List Int} {b off : Nat} {K : List Value → Prop} (hF : FLe (rowF b off (IVl l)) F) (n : Int) (h0 : 0 ≤ n) (h : n < (l.length : Int)) (k : K [.int .i64 (l.getD n.toNat 0)]) : CellsN F b (off + n.toNat * 1) 1 K := by
  refine .mk _ (fun j v hj => hF.1 _ _ _ ⟨rfl, n.toNat + j, by omega, ?_⟩) rfl k
  have h2 : n.toNat < l.length := by omega
  rcases j with _ | j
  · simp at hj
    subst hj
    unfold IVl
    rw [Nat.add_zero, List.getElem?_map, List.getElem?_eq_getElem h2]
    simp [List.getD, h2]
  · simp at hj
theorem same_d (l : List Int) (hl : l.length ≤ 1000) : DenA Tryz.prog 51 noFacts [.r 1 l.length (IVl l), .r 1 l.length (IVl l)] (.bool true) := by
  refine DenA.fam ?_
  intro ad1 b1 off1 c1 hs1 _ ad2 b2 off2 c2 hs2 _
  have F1 : FLe (rowF b1 off1 (IVl l)) (orF (orF noFacts (rowF b1 off1 (IVl l))) (rowF b2 off2 (IVl l))) := ⟨fun b o x h => .inl (.inr h), fun b p h => .inl (.inr h)⟩
  have F2 : FLe (rowF b2 off2 (IVl l)) (orF (orF noFacts (rowF b1 off1 (IVl l))) (rowF b2 off2 (IVl l))) := le_orR'
  generalize orF (orF noFacts (rowF b1 off1 (IVl l))) (rowF b2 off2 (IVl l)) = F at *
  refine den_of_body (args := [.slice ad1 l.length c1, .slice ad2 l.length c2]) hmix Tryz.func51 ?_
  (repeat' ((conv => whnf); first | refine AdN.mk _ _ rfl ?_ | refine DrawN.a (Ob.mk (by decide +kernel) ?_) | refine DrawN.c (Ob.mk (by decide +kernel) ?_) | refine DrawN.b (Ob.mk (by decide +kernel) ?_) | refine Ob.mk (by kernel_rfl) ?_ | (refine Br.mk (fun h => ?_) (fun h => ?_) <;> (first | (exfalso; exact Bool.false_ne_true h) | (exfalso; exact Bool.false_ne_true h.symm) | skip)) | refine SeqN.go ?_)); all_goals (conv => whnf)
  · exfalso; simp at *
  refine LoopN.mk {i : Nat // i ≤ l.length} (fun i => [(5, .v (.int .i64 i.1))]) (fun _ => []) (fun i => l.length - i.1) ⟨0, Nat.zero_le _⟩ ?_ ?_
  · (conv => whnf); (repeat' (first | exact True.intro | exact rfl | refine And.intro ?_ ?_ | decide))
  (conv => whnf)
  rintro ⟨i, hi⟩
  have o1 : decide ((i : Int) < (l.length : Int)) = true → 0 ≤ (i : Int) ∧ (i : Int) < (l.length : Int) := fun h => ⟨Int.natCast_nonneg _, of_decide_eq_true h⟩
  (repeat' ((conv => whnf); first | refine Ob.mk (o1 ‹_›) ?_ | refine AdN.mk b1 off1 (hs1 (by have := (o1 ‹_›).2; omega)) ?_ | refine AdN.mk b2 off2 (hs2 (by have := (o1 ‹_›).2; omega)) ?_ | refine cellsIv F1 (i : Int) (o1 ‹_›).1 (o1 ‹_›).2 ?_ | refine cellsIv F2 (i : Int) (o1 ‹_›).1 (o1 ‹_›).2 ?_ | refine AdN.mk _ _ rfl ?_ | refine DrawN.a (Ob.mk (by decide +kernel) ?_) | refine DrawN.c (Ob.mk (by decide +kernel) ?_) | refine DrawN.b (Ob.mk (by decide +kernel) ?_) | refine Ob.mk (by kernel_rfl) ?_ | (refine Br.mk (fun h => ?_) (fun h => ?_) <;> (first | (exfalso; exact Bool.false_ne_true h) | (exfalso; exact Bool.false_ne_true h.symm) | skip)) | refine SeqN.go ?_)); all_goals (conv => whnf)
  all_goals first
    | rfl
    | (have h' := (o1 ‹_›).2
       refine RoundN.mk ⟨i + 1, by omega⟩ (by show l.length - (i + 1) < l.length - i; omega) ?_
       (conv => whnf); (repeat' (first | exact True.intro | exact rfl | refine And.intro ?_ ?_ | decide))
       all_goals (refine congrArg (Value.int _) ?_; dsimp only; rw [i64_in (by omega) (by omega)]; omega))
    | (exfalso; simp at *; done)
    | trace_state
theorem DenA.nilL {P : Program} {f : FuncId} {F : Facts} {z : Nat} {rest : List AR} {v : Value} (h : DenA P f F (.r z 0 [] :: rest) v) : DenA P f F (.v (.slice none 0 0) :: rest) v :=
  ⟨fun W us hW ha => by
    obtain ⟨u, us', rfl, rfl, h2⟩ := ha
    exact h.out W _ hW ⟨_, us', rfl, ⟨by simp, none, 0, rfl, fun h => by omega⟩, h2⟩⟩
theorem DenA.nilR {P : Program} {f : FuncId} {F : Facts} {z : Nat} {a : AR} {v : Value} (h : DenA P f F [a, .r z 0 []] v) : DenA P f F [a, .v (.slice none 0 0)] v :=
  ⟨fun W us hW ha => by
    obtain ⟨u, us', rfl, h1, u2, us2, rfl, rfl, h2⟩ := ha
    exact h.out W _ hW ⟨u, _, rfl, h1, _, us2, rfl, ⟨by simp, none, 0, rfl, fun h => by omega⟩, h2⟩⟩
theorem same_nil : Den Tryz.prog 51 #[.slice none 0 0, .slice none 0 0] noFacts (.bool true) := by
  have h := (DenA.nilL (DenA.nilR (same_d [] (by decide))))
  exact ⟨fun W hW => h.out W [.slice none 0 0, .slice none 0 0] hW ⟨_, _, rfl, rfl, _, [], rfl, rfl, rfl⟩⟩
theorem storeI {i : Nat} {ns : List Int} (h : i < ns.length) : storeV (IVl (List.replicate i 77 ++ ns.drop i)) (i * 1) [Value.int .i64 77] = IVl (List.replicate (i + 1) 77 ++ ns.drop (i + 1)) := by
  have hd : ns.drop i = ns[i] :: ns.drop (i + 1) := List.drop_eq_getElem_cons h
  rw [hd, Nat.mul_one]
  generalize ns[i] = y
  generalize ns.drop (i + 1) = r
  clear hd h
  induction i with
  | zero => rfl
  | succ i ih =>
    have e : ∀ (x : Value) (l : List Value) (n : Nat) (v : Value), storeV (x :: l) (n + 1) [v] = x :: storeV l n [v] := fun x l n v => rfl
    show storeV (Value.int .i64 77 :: IVl (List.replicate i 77 ++ y :: r)) (i + 1) _ = _
    rw [e, ih]
    rfl
end Go.Proofs.YtljhbdgoknfkcaaGreatDoor
