/- What the evaluation says of a function's body holds of the function's calls. No condition but the closed checks that are named. -/
import Derived.Test.YtiefoahdikmilaaA6
import Derived.Deep.LoopGhost
import Derived.Scope
namespace Go.Proofs.Ytiefoahdikmilaa
open Go Go.RowKit Go.Sort
set_option linter.unusedVariables false
set_option linter.unusedSimpArgs false

/-- What is known, told with less. -/
def leA (n : Nat) (x y : AV) : Prop :=
  match y with
  | .junk => True
  | .v u => match x with
    | .v u' => u' = u
    | .lit b => u = .bool b
    | _ => False
  | .lit b => match x with
    | .v u' => u' = .bool b
    | .lit b' => b' = b
    | _ => False
  | .p k off => match x with
    | .p k' off' => k' = k ∧ off' = off ∧ k < n
    | _ => False
def leL (n : Nat) : List AV → List AV → Prop
  | [], [] => True
  | x :: l, y :: m => leA n x y ∧ leL n l m
  | _, _ => False
def leO (n : Nat) : List (List AV) → List (List AV) → Prop
  | _, [] => True
  | c :: l, d :: m => leL n c d ∧ leO n l m
  | _, _ => False
def leS (fr : List AV) (own : List (List AV)) (fr' : List AV) (own' : List (List AV)) : Prop :=
  lenK own' 0 fun n => leL n fr fr' ∧ leO n own own'

/-- The slots in the mask are forgotten. -/
def junkK (m : Nat) : List AV → Nat → (List AV → Prop) → Prop
  | [], _, K => K []
  | x :: l, i, K => match Nat.testBit m i with
    | true => junkK m l (i + 1) fun l => K (.junk :: l)
    | false => junkK m l (i + 1) fun l => K (x :: l)
def junkL (m : Nat) : List AV → Nat → List AV
  | [], _ => []
  | x :: l, i => match Nat.testBit m i with
    | true => .junk :: junkL m l (i + 1)
    | false => x :: junkL m l (i + 1)
theorem junkK_eq (m : Nat) : ∀ (l : List AV) (i : Nat) (K : List AV → Prop), junkK m l i K = K (junkL m l i)
  | [], i, K => rfl
  | x :: l, i, K => by
    unfold junkK junkL
    cases Nat.testBit m i <;> simp [junkK_eq m l]
def updL : List AV → List (Nat × AV) → List AV
  | fr, [] => fr
  | fr, (n, x) :: l => updL (setL fr n x) l
def forceA : List AV → (List AV → Prop) → Prop
  | [], K => K []
  | x :: l, K => match x with
    | .v u => forceA l fun l => K (.v u :: l)
    | .lit b => forceA l fun l => K (.lit b :: l)
    | .p k off => forceA l fun l => K (.p k off :: l)
    | .junk => forceA l fun l => K (.junk :: l)
theorem forceA_eq : ∀ (l : List AV) (K : List AV → Prop), forceA l K = K l
  | [], K => rfl
  | x :: l, K => by cases x <;> simp [forceA, forceA_eq l]
/-- The slots that a piece of code writes. -/
def opWrites : List Oper → Nat
  | [] => 0
  | o :: l => match o.dst with
    | some d => 2 ^ d ||| opWrites l
    | none => opWrites l
def writes : Code → Nat
  | .region _ ops _ => opWrites ops.toList
  | .seq a b => writes a ||| writes b
  | .cond _ a b => writes a ||| writes b
  | .block _ c => writes c
  | .loop c => writes c
  | .scope c => writes c
  | _ => 0
inductive RoundN {α : Type} (I : α → List AV × List (List AV)) (μ : α → Nat) (n : Nat) (fr : List AV) (own : List (List AV)) : Prop where
  | mk (y : α) (hlt : μ y < n) (hle : leS fr own (I y).1 (I y).2) : RoundN I μ n fr own
/-- A loop: the slots that it writes are told anew, by what is handed on from round to round. -/
inductive LoopN (W : Nat) (fr : List AV) (own : List (List AV)) (body : List AV → List (List AV) → (Exit → List AV → List (List AV) → Prop) → Prop) (K : Exit → List AV → List (List AV) → Prop) : Prop where
  | mk (α : Type) (s : α → List (Nat × AV)) (o : α → List (List AV)) (μ : α → Nat) (x : α) (h0 : junkK W fr 0 fun fr0 => leS fr own (updL fr0 (s x)) (o x))
      (hr : junkK W fr 0 fun fr0 => ∀ x, forceA (updL fr0 (s x)) fun fr1 => body fr1 (o x) fun e fr own => match e with
        | .normal => RoundN (fun y => (updL fr0 (s y), o y)) μ (μ x) fr own
        | e => K e fr own) : LoopN W fr own body K

/-- A branch that may come back: what follows may be told once for all ways. -/
def isIf : Code → Bool
  | .seq (.region _ _ _) (.cond _ _ _) => true
  | .cond _ _ _ => true
  | .block _ _ => true
  | _ => false
inductive EndN {α : Type} (I : α → List AV × List (List AV)) (fr : List AV) (own : List (List AV)) : Prop where
  | mk (y : α) (hle : leS fr own (I y).1 (I y).2) : EndN I fr own
inductive SeqN (W : Nat) (fr : List AV) (own : List (List AV)) (A : (Exit → List AV → List (List AV) → Prop) → Prop) (B : List AV → List (List AV) → Prop) (K : Exit → List AV → List (List AV) → Prop) : Prop where
  | go (h : A fun e fr own => match e with
      | .normal => B fr own
      | e => K e fr own) : SeqN W fr own A B K
  | cut (α : Type) (s : α → List (Nat × AV)) (o : α → List (List AV)) (hA : junkK W fr 0 fun fr0 => A fun e fr own => match e with
      | .normal => EndN (fun x => (updL fr0 (s x), o x)) fr own
      | e => K e fr own) (hB : junkK W fr 0 fun fr0 => ∀ x, forceA (updL fr0 (s x)) fun fr1 => B fr1 (o x)) : SeqN W fr own A B K

theorem SeqN.join {W : Nat} {fr : List AV} {own : List (List AV)} {A : (Exit → List AV → List (List AV) → Prop) → Prop} {B : List AV → List (List AV) → Prop} {K : Exit → List AV → List (List AV) → Prop}
    (hA : junkK W fr 0 fun fr0 => A fun e fr own' => match e with
      | .normal => EndN (fun (_ : Unit) => (fr0, own)) fr own'
      | e => K e fr own') (hB : junkK W fr 0 fun fr0 => B fr0 own) : SeqN W fr own A B K := by
  simp only [junkK_eq] at hA hB
  refine .cut Unit (fun _ => []) (fun _ => own) ?_ ?_
  · rw [junkK_eq]; exact hA
  · rw [junkK_eq]; intro _; rw [forceA_eq]; exact hB

def codeK (P : Program) (F : Facts) : Code → List AV → List (List AV) → (Exit → List AV → List (List AV) → Prop) → Prop
  | .skip, fr, own, K => K .normal fr own
  | .region _ ops draw, fr, own, K => match draw with
    | false => opsK P F ops.toList ops.toList fr own fun fr own => K .normal fr own
    | true => drawK P F ops.toList fr own fun fr own => K .normal fr own
  | .seq a b, fr, own, K => match isIf a with
    | true => SeqN (writes a) fr own (codeK P F a fr own) (fun fr own => codeK P F b fr own K) K
    | false => codeK P F a fr own fun e fr own => match e with
      | .normal => codeK P F b fr own K
      | e => K e fr own
  | .cond c a b, fr, own, K => match ev fr c with
    | some (.v (.bool t)) => Br t (codeK P F a fr own K) (codeK P F b fr own K)
    | some (.lit t) => match t with
      | true => codeK P F a fr own K
      | false => codeK P F b fr own K
    | _ => False
  | .block id c, fr, own, K => codeK P F c fr own fun e fr own => match e with
    | .exit id' => match decide (id' = id) with
      | true => K .normal fr own
      | false => K (.exit id') fr own
    | e => K e fr own
  | .loop c, fr, own, K => LoopN (writes c) fr own (codeK P F c) K
  | .exit id, fr, own, K => K (.exit id) fr own
  | .ret, fr, own, K => K .ret fr own
  | .label _, fr, own, K => K .normal fr own
  | .scope c, fr, own, K => codeK P F c fr own fun e fr own => match e with
    | .goto _ => False
    | e => K e fr own
  | _, _, _, _ => False

def padK : Nat → (List AV → Prop) → Prop
  | 0, K => K []
  | n + 1, K => padK n fun l => K (.v undef :: l)
def catK : List Value → List AV → (List AV → Prop) → Prop
  | [], l, K => K l
  | x :: xs, l, K => catK xs l fun l => K (.v x :: l)
def bodyK (P : Program) (F : Facts) (fn : Func) (args : List Value) (R : Value → Prop) : Prop :=
  match fn.body with
  | some c => padK (fn.ntmps - args.length) fun l => catK args l fun fr => codeK P F c fr [] fun e fr own => match e with
    | .normal => resK P fr own fn.results.toList fun l => R (retV l)
    | .ret => resK P fr own fn.results.toList fun l => R (retV l)
    | _ => False
  | none => False

theorem padK_eq : ∀ (n : Nat) (K : List AV → Prop), padK n K = K (List.replicate n (.v undef))
  | 0, K => rfl
  | n + 1, K => by simp [padK, padK_eq n, List.replicate_succ]
theorem catK_eq : ∀ (xs : List Value) (l : List AV) (K : List AV → Prop), catK xs l K = K (xs.map .v ++ l)
  | [], l, K => rfl
  | x :: xs, l, K => by simp [catK, catK_eq xs]

variable {P : Program} {F : Facts} {ids : List Nat} {fr : List AV} {own : List (List AV)} {a : Act} {w0 w : World}

theorem leA_sound {n : Nat} {x y : AV} {u : Value} (h : leA n x y) (hx : x.Is ids u) : y.Is (ids.take n) u := by
  unfold leA at h
  cases y with
  | junk => trivial
  | v z =>
    cases x <;> simp only at h
    · subst h; exact hx
    · subst h; exact hx
  | lit b =>
    cases x <;> simp only at h
    · subst h; exact hx
    · subst h; exact hx
  | p k off =>
    cases x <;> simp only at h
    obtain ⟨rfl, rfl, hk⟩ := h
    obtain ⟨b, h1, h2⟩ := hx
    exact ⟨b, by rw [List.getElem?_take_of_lt hk]; exact h1, h2⟩
theorem leL_len {n : Nat} : ∀ (l m : List AV), leL n l m → l.length = m.length
  | [], [], _ => rfl
  | x :: l, y :: m, h => by simp [leL_len l m h.2]
  | [], _ :: _, h => h.elim
  | _ :: _, [], h => h.elim
theorem leL_at {n : Nat} : ∀ (l m : List AV), leL n l m → ∀ (i : Nat) (y : AV), m[i]? = some y → ∃ x, l[i]? = some x ∧ leA n x y
  | [], [], _, i, y, hy => by simp at hy
  | x :: l, z :: m, h, 0, y, hy => by simp at hy; subst hy; exact ⟨x, by simp, h.1⟩
  | x :: l, z :: m, h, i + 1, y, hy => by
    obtain ⟨x', h1, h2⟩ := leL_at l m h.2 i y (by simpa using hy)
    exact ⟨x', by simpa using h1, h2⟩
  | [], _ :: _, h, _, _, _ => h.elim
  | _ :: _, [], h, _, _, _ => h.elim
theorem leL_sound {n : Nat} {l m : List AV} {tmps : Array Value} (h : leL n l m) (hf : FrIs ids l tmps) : FrIs (ids.take n) m tmps :=
  ⟨(leL_len l m h).symm.trans hf.len, fun i y hy => by
    obtain ⟨x, h1, h2⟩ := leL_at l m h i y hy
    obtain ⟨u, h3, h4⟩ := hf.at_ i x h1
    exact ⟨u, h3, leA_sound h2 h4⟩⟩
theorem leO_len {n : Nat} : ∀ (l m : List (List AV)), leO n l m → m.length ≤ l.length
  | _, [], _ => by simp
  | c :: l, d :: m, h => by simp [leO_len l m h.2]
  | [], _ :: _, h => h.elim
theorem leO_at {n : Nat} : ∀ (l m : List (List AV)), leO n l m → ∀ (i : Nat) (d : List AV), m[i]? = some d → ∃ c, l[i]? = some c ∧ leL n c d
  | _, [], _, i, d, hd => by simp at hd
  | c :: l, e :: m, h, 0, d, hd => by simp at hd; subst hd; exact ⟨c, by simp, h.1⟩
  | c :: l, e :: m, h, i + 1, d, hd => by
    obtain ⟨x', h1, h2⟩ := leO_at l m h.2 i d (by simpa using hd)
    exact ⟨x', by simpa using h1, h2⟩
  | [], _ :: _, h, _, _, _ => h.elim

theorem leS_sound {fr' : List AV} {own' : List (List AV)} (h : leS fr own fr' own') (hH : Holds w0 F ids fr own a w) : Holds w0 F (ids.take own'.length) fr' own' a w := by
  unfold leS at h
  rw [lenK_eq, Nat.add_zero] at h
  obtain ⟨h1, h2⟩ := h
  have hl := leO_len _ _ h2
  refine ⟨⟨by rw [List.length_take, hH.mem.len]; omega, fun k cells hk => ?_, hH.mem.sat⟩, leL_sound h1 hH.fr, hH.dfr, hH.nodup.sublist (List.take_sublist _ _), fun b hb => hH.ge b (List.mem_of_mem_take hb), fun b o x hF hb => hH.dis b o x hF (List.mem_of_mem_take hb), hH.below⟩
  obtain ⟨c, q1, q2⟩ := leO_at _ _ h2 k cells hk
  obtain ⟨b, xs, T, r1, r2, r3⟩ := hH.mem.blk k c q1
  have hlt := (List.getElem?_eq_some_iff.1 hk).1
  exact ⟨b, xs, T, by rw [List.getElem?_take_of_lt hlt]; exact r1, r2, leL_sound q2 r3⟩

theorem codeK_sound (hm : P.follows .mixedOrders = true) : ∀ (c : Code) (ids : List Nat) (fr : List AV) (own : List (List AV)) (K : Exit → List AV → List (List AV) → Prop) (Q : Exit → Act → World → Prop) (a : Act) (w : World), codeK P F c fr own K → Holds w0 F ids fr own a w →
    (∀ e ids' fr' own' a' w', Holds w0 F ids' fr' own' a' w' → K e fr' own' → Q e a' w') → c.wp P Q a w := by
  intro c
  induction c with
  | skip => intro ids fr own K Q a w h hH hn; exact wp_skip (hn _ _ _ _ _ _ hH h)
  | region id ops draw =>
    intro ids fr own K Q a w h hH hn
    cases draw with
    | false => exact wp_region_list (by have := opsK_sound (Q := Q) _ _ _ _ _ _ h hH (fun ids' fr' own' a' w' hH' hK => hn _ _ _ _ _ _ hH' hK); simpa using this)
    | true => have := draw_sound (id := id) (Q := Q) hm h hH (fun ids' fr' own' a' w' hH' hK => hn _ _ _ _ _ _ hH' hK); simpa using this
  | seq x y ihx ihy =>
    intro ids fr own K Q a w h hH hn
    unfold codeK at h
    split at h
    · rcases h with h | ⟨α, s, o, hA, hB⟩
      · refine wp_seq (ihx _ _ _ _ _ _ _ h hH fun e ids' fr' own' a' w' hH' hK => ?_)
        cases e with
        | normal => exact ihy _ _ _ _ _ _ _ hK hH' hn
        | _ => exact hn _ _ _ _ _ _ hH' hK
      · simp only [junkK_eq, forceA_eq] at hA hB
        refine wp_seq (ihx _ _ _ _ _ _ _ hA hH fun e ids' fr' own' a' w' hH' hK => ?_)
        cases e with
        | normal =>
          obtain ⟨z, hle⟩ := hK
          exact ihy _ _ _ _ _ _ _ (hB z) (leS_sound hle hH') hn
        | _ => exact hn _ _ _ _ _ _ hH' hK
    · refine wp_seq (ihx _ _ _ _ _ _ _ h hH fun e ids' fr' own' a' w' hH' hK => ?_)
      cases e with
      | normal => exact ihy _ _ _ _ _ _ _ hK hH' hn
      | _ => exact hn _ _ _ _ _ _ hH' hK
  | cond c x y ihx ihy =>
    intro ids fr own K Q a w h hH hn
    unfold codeK at h
    split at h
    · rename_i t hc
      exact wp_cond_split (ev_is hH.fr hc) (fun ht => ihx _ _ _ _ _ _ _ (h.t ht) hH hn) (fun ht => ihy _ _ _ _ _ _ _ (h.f ht) hH hn)
    · rename_i t hc
      cases t with
      | true => exact wp_cond_true (ev_is hH.fr hc) (ihx _ _ _ _ _ _ _ h hH hn)
      | false => exact wp_cond_false (ev_is hH.fr hc) (ihy _ _ _ _ _ _ _ h hH hn)
    · exact h.elim
  | block id c ih =>
    intro ids fr own K Q a w h hH hn
    refine wp_block (ih _ _ _ _ _ _ _ h hH fun e ids' fr' own' a' w' hH' hK => ?_)
    cases e with
    | exit id' =>
      simp only [Exit.inBlock]
      by_cases he : id' = id
      · simp only [he, decide_true] at hK
        rw [if_pos he]
        exact hn _ _ _ _ _ _ hH' hK
      · simp only [he, decide_false] at hK
        rw [if_neg he]
        exact hn _ _ _ _ _ _ hH' hK
    | _ => exact hn _ _ _ _ _ _ hH' hK
  | loop c ih =>
    intro ids fr own K Q a w h hH hn
    obtain ⟨α, s, o, μ, x, h0, hr⟩ := h
    simp only [junkK_eq, forceA_eq] at h0 hr
    refine wp_loop_ghost (fun n a w => ∃ x ids, μ x = n ∧ Holds w0 F ids (updL (junkL (writes c) fr 0) (s x)) (o x) a w) (μ x) ⟨x, _, rfl, leS_sound h0 hH⟩ ?_
    rintro n a w ⟨x, ids, rfl, hH⟩
    refine ih _ _ _ _ _ _ _ (hr x) hH fun e ids' fr' own' a' w' hH' hK => ?_
    cases e with
    | normal =>
      obtain ⟨y, hy, hle⟩ := hK
      exact ⟨μ y, hy, y, _, rfl, leS_sound hle hH'⟩
    | _ => exact hn _ _ _ _ _ _ hH' hK
  | exit id => intro ids fr own K Q a w h hH hn; exact wp_exit (hn _ _ _ _ _ _ hH h)
  | ret => intro ids fr own K Q a w h hH hn; exact wp_ret (hn _ _ _ _ _ _ hH h)
  | label l => intro ids fr own K Q a w h hH hn; exact wp_label (hn _ _ _ _ _ _ hH h)
  | scope c ih =>
    intro ids fr own K Q a w h hH hn
    refine wp_scope_straight (ih _ _ _ _ _ _ _ h hH fun e ids' fr' own' a' w' hH' hK => ?_)
    cases e with
    | goto l => exact hK
    | _ => exact hn _ _ _ _ _ _ hH' hK
  | _ => intro ids fr own K Q a w h hH hn; exact h.elim

def resF (a : Act) (r : ResultVar) : Sem Value :=
  match r with
  | .tmp t => pure (a.tmps.getD t undef)
  | .cell x t => do loadVar t (← asAddr (a.tmps.getD x undef))
theorem resF_cons {r : ResultVar} {rs : List ResultVar} {u : Value} {vs : List Value} (h1 : (resF a r).run P w = .ok u w) (h2 : (rs.mapM (resF a)).run P w = .ok vs w) : ((r :: rs).mapM (resF a)).run P w = .ok (u :: vs) w := by
  rw [List.mapM_cons]
  simp only [Sem.run_bind, h1, Result.andThen_ok, h2, Sem.run_pure]

theorem resK_sound : ∀ (rs : List ResultVar) (K : List Value → Prop), resK P fr own rs K → Holds w0 F ids fr own a w → ∃ vs, K vs ∧ (rs.mapM (resF a)).run P w = .ok vs w
  | [], K, h, hH => ⟨[], h, by simp⟩
  | .tmp t :: rs, K, h, hH => by
    have key : ∀ (x : AV) (u : Value), nth fr t = some x → (∀ z, x.Is ids z → z = u) → (resF a (.tmp t)).run P w = .ok u w := fun x u hx hu => by
      rw [nth_eq] at hx
      obtain ⟨z, h1, h2⟩ := hH.fr.at_ t x hx
      simp [resF, h1, hu z h2]
    unfold resK at h
    split at h
    · rename_i u hu
      obtain ⟨vs, h1, h2⟩ := resK_sound rs _ h hH
      exact ⟨_, h1, resF_cons (key _ u hu (fun z hz => hz)) h2⟩
    · rename_i b hu
      obtain ⟨vs, h1, h2⟩ := resK_sound rs _ h hH
      exact ⟨_, h1, resF_cons (key _ (.bool b) hu (fun z hz => hz)) h2⟩
    · exact h.elim
  | .cell x t :: rs, K, h, hH => by
    unfold resK at h
    split at h
    · rename_i k off hx
      split at h
      · rename_i cells hc
        rw [nth_eq] at hx hc
        obtain ⟨y, h1, h2, h3⟩ := loadK_sound h
        obtain ⟨z, q1, q2⟩ := hH.fr.at_ x _ hx
        obtain ⟨b, r1, rfl⟩ := q2
        obtain ⟨b', xs, T, s1, s2, s3⟩ := hH.mem.blk k cells hc
        obtain rfl : b' = b := Option.some.inj (s1.symm.trans r1)
        obtain ⟨u, hu, hrun⟩ := h3 ids w b' xs T s2 s3
        have hr : (resF a (.cell x t)).run P w = .ok u w := by simp [resF, q1, asAddr, hrun]
        cases y with
        | v u' =>
          obtain rfl : u = u' := hu
          obtain ⟨vs, g1, g2⟩ := resK_sound rs _ h1 hH
          exact ⟨_, g1, resF_cons hr g2⟩
        | lit b =>
          obtain rfl : u = .bool b := hu
          obtain ⟨vs, g1, g2⟩ := resK_sound rs _ h1 hH
          exact ⟨_, g1, resF_cons hr g2⟩
        | p k off => exact h1.elim
        | junk => exact h1.elim
      · exact h.elim
    · exact h.elim

theorem run_results {fn : Func} {vs : List Value} (h : (fn.results.toList.mapM (resF a)).run P w = .ok vs w) : (results fn a.tmps).run P w = .ok (retV vs) w := by
  have e : results fn a.tmps = (do let vs ← fn.results.mapM (resF a); pure (if h : vs.size = 1 then vs[0] else .tuple vs)) := rfl
  rw [e, Array.mapM_eq_mapM_toList]
  simp only [Sem.run_bind, Sem.run_map, h, Result.andThen_ok]
  match vs with
  | [] => rfl
  | [u] => rfl
  | u :: u' :: l => simp [retV]

/-- THE LAW. -/
theorem den_of_body {f : FuncId} {fn : Func} {args : List Value} {v : Value} (hm : P.follows .mixedOrders = true) (hf : P.funcs[f]? = some fn) (h : bodyK P F fn args (fun u => u = v)) : Den P f args.toArray F v := by
  constructor
  intro W hF
  unfold bodyK at h
  split at h
  · rename_i c hc
    rw [padK_eq, catK_eq] at h
    refine calls_of_wp hf hc (codeK_sound (w0 := W) hm c [] _ _ _ _ _ _ h ?_ fun e ids' fr' own' a' w' hH hK => ?_)
    · refine ⟨⟨rfl, fun k cells hk => by simp at hk, hF⟩, ⟨by simp, fun i x hx => ?_⟩, rfl, by simp, by simp, by simp, Below.refl _ _⟩
      by_cases hi : i < args.length
      · rw [List.getElem?_append_left (by simpa using hi)] at hx
        simp only [List.getElem?_map, Option.map_eq_some_iff] at hx
        obtain ⟨u, hu, rfl⟩ := hx
        refine ⟨u, ?_, rfl⟩
        rw [Array.getElem?_append_left (by simpa using hi)]
        simpa using hu
      · rw [List.getElem?_append_right (by simp; omega)] at hx
        rw [Array.getElem?_append_right (by simp; omega)]
        simp only [List.length_map, List.getElem?_replicate] at hx
        split at hx
        · rename_i hlt
          cases hx
          exact ⟨undef, by simp [Array.getElem?_replicate]; omega, rfl⟩
        · cases hx
    · have fin : resK P fr' own' fn.results.toList (fun l => retV l = v) → bodyPost P fn (fun e w' => e = .returned v ∧ Below W.heap.size W w') .normal a' w' := fun hr => by
        obtain ⟨vs, h1, h2⟩ := resK_sound _ _ hr hH
        exact ⟨hH.dfr, _, run_results h2, by rw [h1], hH.below⟩
      cases e with
      | normal => exact fin hK
      | ret => exact fin hK
      | _ => exact hK.elim
  · exact h.elim

end Go.Proofs.Ytiefoahdikmilaa
