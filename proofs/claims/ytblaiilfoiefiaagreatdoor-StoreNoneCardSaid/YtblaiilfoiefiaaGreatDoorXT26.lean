
import Derived.Test.YtblaiilfoiefiaaGreatDoorXT23
import Derived.Test.YtblaiilfoiefiaaGreatDoorXT25
namespace Go.Proofs.YtblaiilfoiefiaaGreatDoor.U
open Go Go.RowKit Go.Sort
set_option linter.unusedVariables false
set_option linter.unusedSimpArgs false
set_option maxRecDepth 100000
set_option maxHeartbeats 4000000
def mE {K V : Type} (ek : K → Value) (ev : V → Value) (m : List (K × V)) : List (Value × Value) := m.map fun e => (ek e.1, ev e.2)
theorem mE_len {K V : Type} {ek : K → Value} {ev : V → Value} (m : List (K × V)) : (mE ek ev m).length = m.length := List.length_map ..
theorem mE_app {K V : Type} {ek : K → Value} {ev : V → Value} (a b : List (K × V)) : mE ek ev (a ++ b) = mE ek ev a ++ mE ek ev b := List.map_append
theorem mE_snoc {K V : Type} {ek : K → Value} {ev : V → Value} (m : List (K × V)) (z : K) (u : V) : mE ek ev m ++ [(ek z, ev u)] = mE ek ev (m ++ [(z, u)]) := by rw [mE_app]; rfl
theorem mE_noNm {K V : Type} {ek : K → Value} {ev : V → Value} (h : ∀ u, NoNm (ev u)) (m : List (K × V)) : ∀ e ∈ mE ek ev m, NoNm e.2 := fun e he => by
  obtain ⟨x, _, rfl⟩ := List.mem_map.1 he
  exact h _
def lookM {K V : Type} [DecidableEq K] (z : K) : List (K × V) → Nat → Option (Nat × V)
  | [], _ => none
  | (y, u) :: m, i => if z = y then some (i, u) else lookM z m (i + 1)
theorem lookM_none {K V : Type} [DecidableEq K] {z : K} : ∀ {m : List (K × V)} {i : Nat}, z ∉ m.map (·.1) → lookM z m i = none
  | [], i, h => rfl
  | (y, u) :: m, i, h => by
    simp only [List.map_cons, List.mem_cons, not_or] at h
    rw [lookM, if_neg h.1]
    exact lookM_none h.2
theorem lookM_mid {K V : Type} [DecidableEq K] {z : K} {u : V} {q : List (K × V)} : ∀ {p : List (K × V)} {i : Nat}, z ∉ p.map (·.1) → lookM z (p ++ (z, u) :: q) i = some (i + p.length, u)
  | [], i, h => by simp [lookM]
  | (y, v) :: p, i, h => by
    simp only [List.map_cons, List.mem_cons, not_or] at h
    rw [List.cons_append, lookM, if_neg h.1, lookM_mid h.2]
    simp; omega
theorem look_cases {K V : Type} [DecidableEq K] (z : K) : ∀ (m : List (K × V)), (z ∉ m.map (·.1)) ∨ ∃ p u q, m = p ++ (z, u) :: q ∧ z ∉ p.map (·.1)
  | [] => .inl (by simp)
  | (y, u) :: m => by
    by_cases h : z = y
    · subst h
      exact .inr ⟨[], u, m, rfl, by simp⟩
    · rcases look_cases z m with h1 | ⟨p, v, q, rfl, h2⟩
      · exact .inl (by simp only [List.map_cons, List.mem_cons, not_or]; exact ⟨h, h1⟩)
      · exact .inr ⟨(y, u) :: p, v, q, rfl, by simp only [List.map_cons, List.mem_cons, not_or]; exact ⟨h, h2⟩⟩
def KeyOk {K : Type} [DecidableEq K] (P : Program) (kt : TypeId) (d : TypeDesc) (ek : K → Value) : Prop := ∀ (V : Type) (ev : V → Value) (z : K) (m : List (K × V)), findC P kt d (ek z) (mE ek ev m) = some ((lookM z m 0).map fun r => (r.1, ev r.2))
theorem keyOk_arr {K : Type} [DecidableEq K] {P : Program} {kt : TypeId} {a : TypeId} {n : Nat} {ek : K → Value} (h : ∀ a b, pureRun P (Op.equal kt (ek a) (ek b)) = some (decide (a = b))) (hs : ∀ a, Instr.sameBits 10000 (ek a) (ek a) = true) : KeyOk P kt (.array a n) ek := fun V ev z m => by
  have key : ∀ (m : List (K × V)) (i : Nat), findA P kt (ek z) (mE ek ev m) i = some ((lookM z m i).map fun r => (r.1, ev r.2)) := fun m => by
    induction m with
    | nil => intro i; rfl
    | cons e m ih =>
      intro i
      obtain ⟨y, u⟩ := e
      show findA P kt (ek z) ((ek y, ev u) :: mE ek ev m) i = _
      rw [findA, h z y, lookM]
      by_cases hz : z = y
      · subst hz
        simp [hs]
      · simp only [hz, decide_false, if_false]
        rw [natC_eq]
        exact ih (i + 1)
  exact key m 0
theorem keyOk_flat {K : Type} [DecidableEq K] {P : Program} {kt : TypeId} {d : TypeDesc} {ek : K → Value} (hd : ∀ a n, d ≠ .array a n) (h : ∀ a b, Instr.sameNow d (ek a) (ek b) = some (decide (a = b))) : KeyOk P kt d ek := fun V ev z m => by
  have key : ∀ (m : List (K × V)) (i : Nat), findO d (ek z) (mE ek ev m) i = some ((lookM z m i).map fun r => (r.1, ev r.2)) := fun m => by
    induction m with
    | nil => intro i; rfl
    | cons e m ih =>
      intro i
      obtain ⟨y, u⟩ := e
      show findO d (ek z) ((ek y, ev u) :: mE ek ev m) i = _
      rw [findO, h z y, lookM]
      by_cases hz : z = y
      · subst hz
        simp
      · simp only [hz, decide_false, if_false]
        exact ih (i + 1)
  have e : findC P kt d (ek z) (mE ek ev m) = findO d (ek z) (mE ek ev m) 0 := by
    unfold findC
    split
    · rename_i a n
      exact absurd rfl (hd a n)
    · rfl
  rw [e, key]
theorem KeyOk.none {K V : Type} [DecidableEq K] {P : Program} {kt : TypeId} {d : TypeDesc} {ek : K → Value} {ev : V → Value} (h : KeyOk P kt d ek) {z : K} {m : List (K × V)} (hz : z ∉ m.map (·.1)) : findC P kt d (ek z) (mE ek ev m) = some none := by
  rw [h V ev z m, lookM_none hz]
  rfl
theorem KeyOk.mid {K V : Type} [DecidableEq K] {P : Program} {kt : TypeId} {d : TypeDesc} {ek : K → Value} {ev : V → Value} (h : KeyOk P kt d ek) {z : K} {p q : List (K × V)} {u : V} (hz : z ∉ p.map (·.1)) : findC P kt d (ek z) (mE ek ev (p ++ (z, u) :: q)) = some (some (p.length, ev u)) := by
  rw [h V ev z _, lookM_mid hz]
  simp
theorem nthN_range {n i : Nat} (h : i < n) : nthN (List.range n) i = some i := by
  rw [nthN_eq]
  simp [h]
theorem idxB_from {b : Nat} : ∀ (n c i : Nat), c ≤ b → b < c + n → idxB b (List.range' c n) i = some (i + (b - c))
  | 0, c, i, h1, h2 => by omega
  | n + 1, c, i, h1, h2 => by
    rw [List.range'_succ, idxB]
    split
    · rename_i hb
      have := Nat.eq_of_beq_eq_true hb
      rw [this]; simp
    · rename_i hb
      have := Nat.ne_of_beq_eq_false hb
      rw [natC_eq, idxB_from n (c + 1) (i + 1) (by omega) (by omega)]
      congr 1; omega
theorem idxB_range {n b : Nat} (h : b < n) : idxB b (List.range n) 0 = some b := by
  rw [List.range_eq_range', idxB_from n 0 0 (by omega) (by omega)]
  simp
theorem range_snoc (n : Nat) : List.range n ++ [n] = List.range (n + 1) := (List.range_succ ..).symm
theorem idxB_snoc (n : Nat) : idxB n (List.range n ++ [n]) 0 = some n := by rw [range_snoc]; exact idxB_range (by omega)
theorem nthP_at {K V : Type} {ek : K → Value} {ev : V → Value} {m : List (K × V)} {i : Nat} {z : K} {u : V} (h : m[i]? = some (z, u)) : nthP (mE ek ev m) i = some (ek z, ev u) := by
  rw [nthP_eq]
  simp [mE, h]
theorem setP_mid {K V : Type} {ek : K → Value} {ev : V → Value} (p q : List (K × V)) (z : K) (u w : V) : setL (mE ek ev (p ++ (z, u) :: q)) p.length (ek z, ev w) = mE ek ev (p ++ (z, w) :: q) := by
  rw [setL_eq]
  simp [mE]
theorem nthP_setP {l : List (Value × Value)} {n : Nat} {e : Value × Value} (h : n < l.length) : nthP (setL l n e) n = some e := by
  rw [nthP_eq, setL_eq]
  simp [h]
theorem setP_setP {l : List (Value × Value)} {n : Nat} {e e' : Value × Value} : setL (setL l n e) n e' = setL l n e' := by
  rw [setL_eq, setL_eq, setL_eq]
  simp
theorem nthP_snoc {l : List (Value × Value)} {n : Nat} {e : Value × Value} (h : n = l.length) : nthP (l ++ [e]) n = some e := by
  rw [nthP_eq]
  simp [h]
theorem setP_snoc {l : List (Value × Value)} {n : Nat} {e e' : Value × Value} (h : n = l.length) : setL (l ++ [e]) n e' = l ++ [e'] := by
  rw [setL_eq]
  simp [h]
theorem bornB_range (n : Nat) : bornB n n (List.range n) = true := by
  simp [bornB]
theorem left_nil {seen : List Nat} {n : Nat} (h : leftI seen (List.range n) 0 = []) : ∀ i, i < n → i ∈ seen := fun i hi => by
  by_cases hs : i ∈ seen
  · exact hs
  · have := (leftI_mem (seen := seen) (List.range n) 0 i).2 ⟨i, i, by omega, by simp [hi], hs⟩
    rw [h] at this
    cases this
theorem left_in {seen : List Nat} {n i : Nat} (h : i ∈ leftI seen (List.range n) 0) : i < n ∧ i ∉ seen := by
  obtain ⟨j, b, e1, e2, e3⟩ := (leftI_mem (List.range n) 0 i).1 h
  have hj : j < n := by
    by_cases hj : j < n
    · exact hj
    · rw [List.getElem?_eq_none (by simp; omega)] at e2
      cases e2
  have : b = j := by
    simp [hj] at e2
    exact e2.symm
  subst this
  exact ⟨by omega, by rw [show i = b by omega]; exact e3⟩
theorem onV_p {α : Type} {x : Option α} {u : α} {k : α → Prop} (hx : x = some u) (h : k u) : onV propX.toDom x k := by rw [hx]; exact h
theorem valB_int (k : IntKind) (n : Int) : valB (.int k n) (.int k n) = true := by simp [valB, valB1]
theorem exB_map {K V : Type} {ek : K → Value} {ev : V → Value} (hk : ∀ a, valB (ek a) (ek a) = true) (hv : ∀ a, valB (ev a) (ev a) = true) {es : List (Value × Value)} {m : List (K × V)} (he : es = mE ek ev m) {bs : List Nat} {cl : Nat} {c : Bool} (hc : c = true) : (exB (some (.map es bs cl)) (.map es bs cl) && c) = true := by
  have key : ∀ m : List (K × V), entsB (mE ek ev m) (mE ek ev m) = true := fun m => by
    induction m with
    | nil => rfl
    | cons e m ih =>
      show (valB (ek e.1) (ek e.1) && valB (ev e.2) (ev e.2) && entsB (mE ek ev m) (mE ek ev m)) = true
      rw [hk, hv, ih]
      rfl
  subst he
  show (entsB (mE ek ev m) (mE ek ev m) && (decide (bs = bs) && Nat.beq cl cl) && c) = true
  rw [key, hc, decide_eq_true rfl, Nat.beq_refl]
  rfl
theorem RenB.mapE {n : Nat} {ρ : Ren} {es es' : List (Value × Value)} {bs bs' : List Nat} {cl cl' : Nat} (he : es = es') (hb : bs = bs') (hc : cl = cl') (h : ∀ e ∈ es, NoNm e.2) : RenB n ρ (.map es bs cl) (.map es' bs' cl') := by
  subst he; subst hb; subst hc
  exact .map _ _ _ h
theorem nodup_len : ∀ {n : Nat} {l : List Nat}, l.Nodup → (∀ i ∈ l, i < n) → l.length ≤ n
  | 0, [], _, _ => Nat.le_refl _
  | 0, x :: l, _, h => absurd (h x List.mem_cons_self) (Nat.not_lt_zero _)
  | n + 1, l, hn, h => by
    have h2 : (l.erase n).length ≤ n := nodup_len (hn.erase n) fun i hi => by
      have h3 := (hn.mem_erase_iff).1 hi
      have := h i h3.2
      omega
    by_cases hm : n ∈ l
    · rw [List.length_erase_of_mem hm] at h2; omega
    · rw [List.erase_of_not_mem hm] at h2; omega
theorem mk_cap {zs : List Value} {n : Nat} {b : Int} (h1 : zs.all flat1 = true) (h2 : zs.all Value.oneCell' = true) (h3 : 0 ≤ b ∧ b ≤ 100) (hn : n ≤ 500000) : (zs.all flat1 && zs.all Value.oneCell' && decide ((0 : Int) ≤ 0) && decide ((0 : Int) ≤ (n : Int)) && decide ((n : Int) * b ≤ 140737488355328) && decide ((n : Int) ≤ 1000000)) = true := by
  have : (n : Int) * b ≤ 500000 * 100 := Int.mul_le_mul (by omega) h3.2 h3.1 (by omega)
  simp only [h1, h2, Bool.and_eq_true, decide_eq_true_eq]
  refine ⟨⟨⟨⟨⟨trivial, trivial⟩, Int.le_refl _⟩, by omega⟩, by omega⟩, by omega⟩
theorem mk_full {zs : List Value} {n : Nat} {b : Int} (h1 : zs.all flat1 = true) (h2 : zs.all Value.oneCell' = true) (h3 : 0 ≤ b ∧ b ≤ 100) (hn : n ≤ 500000) : (zs.all flat1 && zs.all Value.oneCell' && decide ((0 : Int) ≤ (n : Int)) && decide ((n : Int) ≤ (n : Int)) && decide ((n : Int) * b ≤ 140737488355328) && decide ((n : Int) ≤ 1000000)) = true := by
  have : (n : Int) * b ≤ 500000 * 100 := Int.mul_le_mul (by omega) h3.2 h3.1 (by omega)
  simp only [h1, h2, Bool.and_eq_true, decide_eq_true_eq]
  refine ⟨⟨⟨⟨⟨trivial, trivial⟩, by omega⟩, Int.le_refl _⟩, by omega⟩, by omega⟩
theorem CodeS.then_ {P : Program} {N : Nat} {a b : Code} {fr : Tr Value} {s : AS} {k : KontC Prop} (fr2 : Tr Value) (s2 : AS) (ha : CodeS P N a fr s fun e fr1 s1 => match e with | .normal => Cov P N s.next fr1 s1 fr2 s2 | e => k e fr1 s1) (hb : CodeS P N b fr2 s2 k) : CodeS P N (a.seq b) fr s k :=
  CodeS.seq ha fun e fr1 s1 h _ => by
    cases e <;> first
      | exact ⟨fr2, s2, h, hb⟩
      | exact h
end Go.Proofs.YtblaiilfoiefiaaGreatDoor.U
namespace Go.Proofs.YtblaiilfoiefiaaGreatDoor
open Go Go.RowKit Go.Sort U
set_option linter.unusedVariables false
set_option linter.unusedSimpArgs false
set_option maxRecDepth 100000
set_option maxHeartbeats 4000000
def arrOk (n : Int) : Bool := decide (1 ≤ n) && decide (n ≤ 1024)
theorem arr_pos : ∀ {l : List Int}, l.all arrOk = true → 0 ≤ l.sum
  | [], _ => by simp
  | x :: l, h => by
    simp only [List.all_cons, Bool.and_eq_true, arrOk, decide_eq_true_eq] at h
    have := arr_pos (l := l) h.2
    rw [List.sum_cons]; omega
theorem arr_no (pre rest : List Int) (x : Int) (h : arrOk x = false) : arrsB (pre ++ x :: rest) = false := by
  unfold arrsB
  rw [show (fun n : Int => decide (1 ≤ n) && decide (n ≤ 1024)) = arrOk from rfl, List.all_append, List.all_cons, h]
  simp
theorem arr_big (pre rest : List Int) (x : Int) (h : 4096 < (pre ++ [x]).sum) : arrsB (pre ++ x :: rest) = false := by
  unfold arrsB
  rw [show (fun n : Int => decide (1 ≤ n) && decide (n ≤ 1024)) = arrOk from rfl, show pre ++ x :: rest = (pre ++ [x]) ++ rest by simp]
  by_cases hr : rest.all arrOk = true
  · have := arr_pos hr
    have h2 : ¬ ((pre ++ [x]) ++ rest).sum ≤ 4096 := by rw [List.sum_append]; omega
    rw [decide_eq_false h2, Bool.and_false]
  · rw [List.all_append]
    simp [hr]
theorem rarr_d (l : List Int) (hl : l.length ≤ 20) : DenU Tryz.prog [] 107 [imS (iL l)] (.bool (arrsB l)) := by
  refine denU_of_body hmixU rfl Tryz.func107 rfl rfl rfl 0 ?_
  intro Ts
  (repeat' ((conv => whnf); first | refine goD ?_ | refine U.lw_c (fun hb => ?_) (fun hb => ?_)))
  (conv => whnf)
  refine loop_inv (α := List Int × List Int) (fun x => x.1 ++ x.2 = l ∧ x.1.all arrOk = true ∧ x.1.sum ≤ 4096) (fun x => (mkF [(2, .bool false), (3, .int .i64 x.1.sum), (6, imS (iL l)), (7, .int .i64 (iL l).length), (8, .int .i64 x.1.length)], ⟨mkO [], 0, 0, 0⟩)) (fun x => x.2.length) ([], l) ⟨rfl, rfl, by simp⟩ (Cov.slots (Nat.le_refl 0) ⟨rfl, rfl, rfl, rfl, rfl, trivial⟩) ?_
  rintro ⟨pre, rest⟩ ⟨p1, p2, p3⟩
  dsimp only at p1 p2 p3
  subst p1
  dsimp only
  rcases rest with _ | ⟨x, rest⟩
  · rw [List.append_nil]
    have zb := U.lt_no iL_map pre
    (repeat' ((conv => whnf); first | refine goD ?_ | refine U.lw_c (fun hb => ?_) (fun hb => ?_)))
    (conv => whnf)
    exact .same (.flat _ rfl) (congrArg Value.bool (by unfold arrsB; rw [show (fun n : Int => decide (1 ≤ n) && decide (n ≤ 1024)) = arrOk from rfl, p2, decide_eq_true p3]; rfl))
  · have zb := U.lt_yes iL_map pre (x) rest; have zc := U.blt_yes iL_map pre (x) rest; have zn := U.nth_at iL_map pre (x) rest; have zw := U.len_snoc (pre := pre) (x := x) (post := rest) ((by simp at hl ⊢; omega))
    have hp := arr_pos p2
    (repeat' ((conv => whnf); first | refine goD ?_ | refine U.lw_c (fun hb => ?_) (fun hb => ?_)))
    all_goals (conv => whnf)
    all_goals simp only [decide_eq_true_eq, decide_eq_false_iff_not] at *
    all_goals first
      | (refine .same (.flat _ rfl) (congrArg Value.bool (arr_no pre rest x ?_).symm); simp only [arrOk, Bool.and_eq_false_iff, decide_eq_false_iff_not]; omega; done)
      | (have hx : IntKind.i64.wrap (pre.sum + x) = (pre ++ [x]).sum := by rw [IntKind.wrap_i64, List.sum_append]; simp; omega)
        rw [hx] at hb
        first
          | (refine .same (.flat _ rfl) (congrArg Value.bool (arr_big pre rest x ?_).symm); omega; done)
          | (refine ⟨(pre ++ [x], rest), ⟨by simp, ?_, ?_⟩, by simp, Cov.slots (s := ⟨mkO [], 0, 0, 0⟩) (Nat.le_refl 0) ⟨rfl, congrArg (fun z => some (Value.int .i64 z)) hx, rfl, rfl, congrArg (fun z => some (Value.int .i64 z)) zw, trivial⟩⟩
             · rw [List.all_append, p2]; simp [arrOk]; omega
             · show (pre ++ [x]).sum ≤ 4096; omega)
structure CntK {K : Type} (m : List (K × Int)) (s : List K) : Prop where
  nd : (m.map (·.1)).Nodup
  iff : ∀ k, k ∈ m.map (·.1) ↔ k ∈ s
theorem CntK.nil {K : Type} : CntK ([] : List (K × Int)) [] := ⟨by simp, by simp⟩
theorem CntK.new {K : Type} {m : List (K × Int)} {s : List K} (h : CntK m s) {z : K} {u : Int} (hz : z ∉ m.map (·.1)) : CntK (m ++ [(z, u)]) (s ++ [z]) := by
  refine ⟨?_, fun k => ?_⟩
  · rw [List.map_append, List.nodup_append]
    refine ⟨h.nd, by simp, ?_⟩
    rintro a ha b hb rfl
    simp at hb
    subst hb
    exact hz ha
  · rw [List.map_append, List.mem_append, List.mem_append, h.iff]
    simp
theorem CntK.old {K : Type} {a b : List (K × Int)} {z : K} {u w : Int} {s : List K} (h : CntK (a ++ (z, u) :: b) s) : CntK (a ++ (z, w) :: b) (s ++ [z]) := by
  have e : (a ++ (z, w) :: b).map (·.1) = (a ++ (z, u) :: b).map (·.1) := by simp
  refine ⟨by rw [e]; exact h.nd, fun k => ?_⟩
  rw [e, h.iff, List.mem_append, List.mem_singleton]
  constructor
  · exact .inl
  · rintro (hk | rfl)
    · exact hk
    · exact (h.iff k).1 (by simp)
theorem nd_len {K : Type} [DecidableEq K] : ∀ {l s : List K}, l.Nodup → (∀ x ∈ l, x ∈ s) → l.length ≤ s.length
  | [], s, _, _ => Nat.zero_le _
  | a :: l, s, h, hs => by
    rw [List.nodup_cons] at h
    have h1 := nd_len (l := l) (s := s.erase a) h.2 fun x hx => (List.mem_erase_of_ne (by rintro rfl; exact h.1 hx)).2 (hs x (by simp [hx]))
    rw [List.length_erase_of_mem (hs a (by simp))] at h1
    have := List.length_pos_of_mem (hs a (by simp))
    rw [List.length_cons]; omega
theorem nd_lt {K : Type} [DecidableEq K] : ∀ {s l : List K}, l.Nodup → (∀ x ∈ l, x ∈ s) → ¬ s.Nodup → l.length < s.length
  | [], l, _, _, h => absurd List.nodup_nil h
  | a :: s, l, hl, hs, h => by
    rw [List.length_cons]
    by_cases ha : a ∈ s
    · have := nd_len (s := s) hl fun x hx => by
        rcases List.mem_cons.1 (hs x hx) with rfl | h
        · exact ha
        · exact h
      omega
    · have h2 : ¬ s.Nodup := fun hn => h (List.nodup_cons.2 ⟨ha, hn⟩)
      have h3 := nd_lt (s := s) (l := l.erase a) (hl.erase a) (fun x hx => by
        have hx' := (hl.mem_erase_iff).1 hx
        rcases List.mem_cons.1 (hs x hx'.2) with rfl | h
        · exact absurd rfl hx'.1
        · exact h) h2
      have := List.length_erase (a := a) (l := l)
      split at this <;> omega
theorem CntK.len {K : Type} [DecidableEq K] {m : List (K × Int)} {s : List K} (h : CntK m s) : m.length ≤ s.length ∧ (m.length = s.length ↔ s.Nodup) := by
  have h1 := nd_len h.nd fun k hk => (h.iff k).1 hk
  rw [List.length_map] at h1
  refine ⟨h1, fun e => ?_, fun e => ?_⟩
  · by_cases hn : s.Nodup
    · exact hn
    · have := nd_lt h.nd (fun k hk => (h.iff k).1 hk) hn
      rw [List.length_map] at this
      omega
  · have := nd_len e fun k hk => (h.iff k).2 hk
    rw [List.length_map] at this
    omega
end Go.Proofs.YtblaiilfoiefiaaGreatDoor
namespace Go.Proofs.YtblaiilfoiefiaaGreatDoor.U
open Go Go.RowKit Go.Sort
set_option linter.unusedVariables false
set_option linter.unusedSimpArgs false
theorem SoundAt.c {P : Program} {f : FuncId} {args : List Value} {s : AS} {k : Value → AS → Prop} (h : SoundC P f args s k) : SoundAt P f args s k := by
  refine ⟨fun hl W0 β W vs hR hf hv => ?_⟩
  obtain ⟨u, s', hk, hst, hc⟩ := h.out hl
  refine (hc W0 β W vs hR hf.free hv).mono fun e w' ⟨v, he, β1, h1, h2, h3, h4⟩ => ?_
  exact ⟨v, u, s', he, hk, hst.x, β1, .of h1 hf hst.next, h2, h3, h4⟩
theorem RenV.fnL {n : Nat} {ρ : Ren} {g : FuncId} {a a' b b' : List Value} (h1 : RenL n ρ a a') (h2 : RenL n ρ b b') : RenV n ρ (.func (.func g) ⟨a⟩ ⟨b⟩) (.func (.func g) ⟨a'⟩ ⟨b'⟩) := by
  obtain ⟨e1, e2⟩ := h1.at_
  obtain ⟨e3, e4⟩ := h2.at_
  refine .fn g a a' b b' e1 e3 (fun i u v hu hv => ?_) fun i u v hu hv => ?_
  · obtain ⟨w, q1, q2⟩ := e2 i u hu
    rw [hv] at q1; cases q1; exact q2
  · obtain ⟨w, q1, q2⟩ := e4 i u hu
    rw [hv] at q1; cases q1; exact q2
end Go.Proofs.YtblaiilfoiefiaaGreatDoor.U
