
import Derived.Test.YtphbcejnnoijfaaKG33
import Derived.Test.YtphbcejnnoijfaaKG34
namespace Go.Proofs.Ytphbcejnnoijfaa
open Go Go.RowKit Go.Sort U
set_option linter.unusedVariables false
set_option linter.unusedSimpArgs false
set_option maxRecDepth 100000
set_option maxHeartbeats 4000000
def gW : Gz := ⟨[⟨#[112]⟩, ⟨#[113]⟩], [[1, 1], [], [0, 1]]⟩
def hW : Gz := ⟨[⟨#[112]⟩, ⟨#[113]⟩], [[1, 1], [0], [0, 1]]⟩
def chkTup (ys : List Value) (u : Value) (s : AS) : Bool := match u with
  | .tuple ⟨[a, .bool true]⟩ => chkRow ys a s
  | _ => false
theorem chkTup_frz {P : Program} {ys : List Value} {u : Value} {s : AS} (h : chkTup ys u s = true) : FrzN P s u (.tuple ⟨[imS ys, .bool true]⟩) := by
  unfold chkTup at h
  split at h
  · rename_i a
    refine .tup _ _ rfl fun i u v hu hv => ?_
    rcases i with _ | _ | i
    · simp at hu hv; subst hu; subst hv; exact chkRow_frz h
    · simp at hu hv; subst hu; subst hv; exact .flat _ rfl
    · simp at hu
  · cases h
theorem orderW : DenN Try.prog 17 [encG gW] (.tuple ⟨[imS (iL [1, 0, 2]), .bool true]⟩) := denN_closed hmixU (chk := chkTup (iL [1, 0, 2])) (fun _ _ h => chkTup_frz h) 100000 60 60 fun Ts => by kernel_rfl
theorem inlinedW : DenN Try.prog 18 [encG gW, imS (uL [10, 3, 1])] (imS (uL [16, 3, 20])) := denN_closed hmixU (chk := chkRow (uL [16, 3, 20])) (fun _ _ h => chkRow_frz h) 100000 60 60 fun Ts => by kernel_rfl
theorem deepW : DenN Try.prog 19 [encG gW] (imS (iL [2, 1, 3])) := denN_closed hmixU (chk := chkRow (iL [2, 1, 3])) (fun _ _ h => chkRow_frz h) 100000 60 60 fun Ts => by kernel_rfl
end Go.Proofs.Ytphbcejnnoijfaa
namespace Go.Proofs.Ytphbcejnnoijfaa.U
open Go Go.RowKit Go.Sort
set_option linter.unusedVariables false
set_option linter.unusedSimpArgs false
def leafB (u y : Value) : Bool := match u, y with
  | .slice none 0 0, .slice none 0 0 => true
  | u, y => valB1 u y
theorem valB1_flat {u v : Value} (h : valB1 u v = true) : flat1 u = true := by
  unfold valB1 at h
  split at h
  · rfl
  · rfl
  · rfl
  · cases h
theorem leafB_eq {u y : Value} (h : leafB u y = true) : u = y ∧ flat1 u = true := by
  unfold leafB at h
  split at h
  · exact ⟨rfl, rfl⟩
  · exact ⟨valB1_eq h, valB1_flat h⟩
theorem flat1_V {u : Value} (h : flat1 u = true) : flatV u = true := by
  cases u <;> first | exact h | (simp [flat1] at h)
def allV (f : Value → Value → Bool) : List Value → List Value → Bool
  | [], [] => true
  | a :: l, b :: m => f a b && allV f l m
  | _, _ => false
theorem allV_at {f : Value → Value → Bool} : ∀ {l m : List Value}, allV f l m = true → l.length = m.length ∧ ∀ (i : Nat) (u v : Value), l[i]? = some u → m[i]? = some v → f u v = true
  | [], [], _ => ⟨rfl, fun i u v h => by simp at h⟩
  | a :: l, b :: m, h => by
    simp only [allV, Bool.and_eq_true] at h
    obtain ⟨h1, h2⟩ := allV_at h.2
    refine ⟨by simp [h1], fun i u v hu hv => ?_⟩
    cases i with
    | zero => simp at hu hv; subst hu; subst hv; exact h.1
    | succ i => simp at hu hv; exact h2 i u v hu hv
  | [], _ :: _, h => by cases h
  | _ :: _, [], h => by cases h
theorem NoNm.cells {x : Value} (h : NoNm x) : ∀ c ∈ cellsOf x, NoNm c := by
  intro c hc
  cases h with
  | flat _ h =>
    cases x with
    | agg l =>
      obtain ⟨l⟩ := l
      exact .flat c (flat1_V (List.all_eq_true.1 h c hc))
    | _ => simp [cellsOf] at hc; subst hc; exact .flat _ h
  | agg l h => exact h c hc
  | ims xs h => simp [cellsOf, imS] at hc; subst hc; exact .ims xs h
  | imp x o h => simp [cellsOf, imP] at hc; subst hc; exact .imp x o h
  | ime => simp [cellsOf, imE] at hc; subst hc; exact .ime
def eqS (f : Value → Value → Bool) (u y : Value) : Bool := match u with
  | .agg ⟨l⟩ => match y with
    | .agg ⟨m⟩ => allV f l m
    | _ => false
  | .func (.yield 0) ⟨l⟩ ⟨[.bool true]⟩ => match y with
    | .func (.yield 0) ⟨m⟩ ⟨[.bool true]⟩ => allV f l m
    | _ => false
  | u => leafB u y
def eqV : Nat → Value → Value → Bool
  | 0 => fun _ _ => false
  | n + 1 => eqS (eqV n)
theorem allV_eq {f : Value → Value → Bool} (hf : ∀ u y, f u y = true → u = y ∧ NoNm u) : ∀ {l m : List Value}, allV f l m = true → l = m ∧ ∀ x ∈ l, NoNm x
  | [], [], _ => ⟨rfl, fun x h => by cases h⟩
  | a :: l, b :: m, h => by
    simp only [allV, Bool.and_eq_true] at h
    obtain ⟨h1, h2⟩ := hf _ _ h.1
    obtain ⟨h3, h4⟩ := allV_eq hf h.2
    refine ⟨by rw [h1, h3], fun x hx => ?_⟩
    rcases List.mem_cons.1 hx with rfl | hx
    · exact h2
    · exact h4 x hx
  | [], _ :: _, h => by cases h
  | _ :: _, [], h => by cases h
theorem eqV_eq : ∀ (n : Nat) (u y : Value), eqV n u y = true → u = y ∧ NoNm u
  | 0, u, y, h => by cases h
  | n + 1, u, y, h => by
    have h : eqS (eqV n) u y = true := h
    unfold eqS at h
    split at h
    · split at h
      · obtain ⟨e, h2⟩ := allV_eq (eqV_eq n) h
        exact ⟨by rw [e], .agg _ h2⟩
      · cases h
    · split at h
      · obtain ⟨e, h2⟩ := allV_eq (eqV_eq n) h
        refine ⟨by rw [e], .ims _ fun c hc => ?_⟩
        obtain ⟨x, hx, hc⟩ := List.mem_flatMap.1 hc
        exact (h2 x hx).cells c hc
      · cases h
    · obtain ⟨e, h2⟩ := leafB_eq h
      exact ⟨e, .flat _ (flat1_V h2)⟩
def sameS (f : Value → Value → Bool) (s : AS) (u y : Value) : Bool := match y with
  | .agg ⟨m⟩ => match u with
    | .agg ⟨l⟩ => allV f l m
    | _ => false
  | .tuple ⟨m⟩ => match u with
    | .tuple ⟨l⟩ => allV f l m
    | _ => false
  | .func (.yield 0) ⟨ys⟩ ⟨[.bool true]⟩ => match u with
    | .slice none 0 0 => ys.isEmpty
    | .slice (some ⟨k, 0, none⟩) i c => match Tr.at (pt k) s.heap with
      | some (.cells _ xs _) => decide (s.lo ≤ k) && (decide (i = ys.length) && (decide (i ≤ c) && ((ys.all fun y => decide ((cellsOf y).length = (cellsOf (ys.headD y)).length)) && allV f (xs.take (cellsAll ys).length) (cellsAll ys))))
      | _ => false
    | _ => false
  | _ => false
def sameR : Nat → AS → Value → Value → Bool
  | 0, _ => fun _ _ => false
  | n + 1, s => fun u y => eqV (n + 1) u y || sameS (sameR n s) s u y
theorem szB_eq {ys : List Value} (h : (ys.all fun y => decide ((cellsOf y).length = (cellsOf (ys.headD y)).length)) = true) : ∀ y ∈ ys, (cellsOf y).length = (cellsOf (ys.headD (.bool true))).length := by
  intro y hy
  have := of_decide_eq_true (List.all_eq_true.1 h y hy)
  cases ys with
  | nil => cases hy
  | cons a l => exact this
theorem sameR_frz {P : Program} {s : AS} : ∀ (n : Nat) (u y : Value), sameR n s u y = true → FrzV P s u y
  | 0, u, y, h => by cases h
  | n + 1, u, y, h => by
    replace h := Bool.or_eq_true_iff.1 (show (eqV (n + 1) u y || sameS (sameR n s) s u y) = true from h)
    rcases h with h | h
    · obtain ⟨e, h2⟩ := eqV_eq _ _ _ h
      exact .same h2 e
    unfold sameS at h
    split at h
    · split at h
      · obtain ⟨h1, h2⟩ := allV_at h
        exact .agg _ _ h1 fun i u v hu hv => sameR_frz n u v (h2 i u v hu hv)
      · cases h
    · split at h
      · obtain ⟨h1, h2⟩ := allV_at h
        exact .tup _ _ h1 fun i u v hu hv => sameR_frz n u v (h2 i u v hu hv)
      · cases h
    · rename_i ys
      split at h
      · have : ys = [] := by simpa using h
        subst this
        exact .nil
      · split at h
        · rename_i k i c _ T xs op hk
          simp only [Bool.and_eq_true] at h
          obtain ⟨h1, h2, h3, h4, h5⟩ := h
          obtain ⟨h6, h7⟩ := allV_at h5
          have hle : (cellsAll ys).length ≤ xs.length := by rw [List.length_take] at h6; omega
          refine .row k i c _ T xs ys op (of_decide_eq_true h1) hk (szB_eq h4) (of_decide_eq_true h2) (of_decide_eq_true h3) hle fun j u v hu hv => sameR_frz n u v (h7 j u v ?_ hv)
          have hj : j < (cellsAll ys).length := (List.getElem?_eq_some_iff.1 hv).1
          rw [List.getElem?_take_of_lt hj]; exact hu
        · cases h
      · cases h
    · cases h
theorem sameR_L {P : Program} {s : AS} {n : Nat} : ∀ {l m : List Value}, allV (sameR n s) l m = true → FrzL P s l m
  | [], [], _ => trivial
  | a :: l, b :: m, h => by
    simp only [allV, Bool.and_eq_true] at h
    exact .cons (sameR_frz n a b h.1) (sameR_L h.2)
  | [], _ :: _, h => by cases h
  | _ :: _, [], h => by cases h
structure Con where
  own : Bool
  f : FuncId
  args : List Value
  u : Value
def Con.ok (P : Program) (c : Con) : Prop := if c.own then DenN P c.f c.args c.u else DenU P [] c.f c.args c.u
def Con.fits (c : Con) (f : FuncId) (args : List Value) (s : AS) : Bool := Nat.beq c.f f && (if c.own then allV (sameR 8 (seen s)) args c.args else allV (eqV 8) args c.args)
theorem NoNms.of : ∀ {l : List Value}, (∀ x ∈ l, NoNm x) → NoNms l
  | [], _ => trivial
  | a :: l, h => ⟨h a (by simp), NoNms.of fun x hx => h x (by simp [hx])⟩
theorem Con.at {P : Program} {c : Con} (h : c.ok P) {f : FuncId} {args : List Value} {s : AS} (hf : c.fits f args s = true) {k : Value → AS → Prop} (hk : k c.u s) : SoundAt P f args s k := by
  obtain ⟨own, g, al, u⟩ := c
  simp only [Con.fits, Bool.and_eq_true] at hf
  obtain ⟨h1, h2⟩ := hf
  have h1 : g = f := Nat.eq_of_beq_eq_true h1
  subst h1
  cases own
  · simp [Con.ok] at h
    simp at h2
    obtain ⟨e, h3⟩ := allV_eq (eqV_eq 8) h2
    subst e
    exact SoundAt.u h (.of h3) hk
  · simp [Con.ok] at h
    simp at h2
    exact SoundAt.nF h (sameR_L h2) hk
noncomputable def conX (cs : List Con) (cx : CallFX Bool) : CallFX Bool := ⟨fun f args s kp k => cs.rec (cx.call f args s kp k) fun c _ ih => cond (c.fits f args s) (k c.u s) ih, cx.round⟩
theorem conX_ok {P : Program} {cs : List Con} (hc : ∀ c ∈ cs, c.ok P) {cx : CallFX Bool} (hx : CallX P boolX cx) : CallX P boolX (conX cs cx) := by
  refine ⟨fun f args s kp k hl h W0 β W vs hR hfr hv => ?_, hx.round⟩
  replace h : (cs.rec (cx.call f args s kp k) fun c _ ih => cond (c.fits f args s) (k c.u s) ih : Bool) = true := h
  induction cs with
  | nil => exact hx.call f args s kp k hl h W0 β W vs hR hfr hv
  | cons c cs ih =>
    by_cases hf : c.fits f args s = true
    · replace h : cond (c.fits f args s) (k c.u s) (cs.rec (cx.call f args s kp k) fun c _ ih => cond (c.fits f args s) (k c.u s) ih : Bool) = true := h
      rw [hf] at h
      exact ((Con.at (hc c (by simp)) hf (k := fun u s' => k u s' = true) h).out hl W0 β W vs hR hfr hv).mono fun e w' h => .inl h
    · replace h : cond (c.fits f args s) (k c.u s) (cs.rec (cx.call f args s kp k) fun c _ ih => cond (c.fits f args s) (k c.u s) ih : Bool) = true := h
      rw [Bool.eq_false_iff.2 hf] at h
      exact ih (fun c hc' => hc c (by simp [hc'])) h
noncomputable def callT (P : Program) (cs : List Con) (fuel : Nat) (cf : CallF Bool) : Nat → CallFX Bool
  | 0 => badX boolX
  | n + 1 => conX cs ⟨bodyX boolX P cf (callT P cs fuel cf n) fuel, roundX boolX P cf (callT P cs fuel cf n) fuel⟩
theorem callT_ok {P : Program} (hm : P.follows .mixedOrders = true) {cs : List Con} (hc : ∀ c ∈ cs, c.ok P) {cf : CallF Bool} (hcf : CallOk P boolD cf) (fuel : Nat) : ∀ n, CallX P boolX (callT P cs fuel cf n)
  | 0 => badX_ok
  | n + 1 => conX_ok hc ⟨bodyX_sound (D := boolX) hm hcf (callT_ok hm hc hcf fuel n) fuel, roundX_sound (D := boolX) hm hcf (callT_ok hm hc hcf fuel n) fuel⟩
theorem denN_closedC {P : Program} (hm : P.follows .mixedOrders = true) (cs : List Con) (hc : ∀ c ∈ cs, c.ok P) {f : FuncId} {args : List Value} {u : Value} {chk : Value → AS → Bool} (hk : ∀ u' s', chk u' s' = true → FrzN P s' u' u) (fuel n m : Nat) (h : ∀ Ts, ((callT P cs fuel (callN boolD P fuel (badF boolD) m) n).call f args (start [] Ts) (noX Bool boolX) chk) = true) : DenN P f args u :=
  denN_of_sound hm fun Ts => ⟨fun hl W0 β W vs hR hf hv => ((callT_ok hm hc (callN_ok (D := boolD) hm badF_ok fuel m) fuel n).call f args (start [] Ts) (noX Bool boolX) chk hl (h Ts) W0 β W vs hR hf hv).mono fun e w' h => (by
    rcases h with ⟨v, u, s', e1, e2, e3, e4⟩ | ⟨_, _, _, h, _⟩
    · exact ⟨v, u, s', e1, hk _ _ e2, e3, e4⟩
    · exact absurd h boolX.nb)⟩
end Go.Proofs.Ytphbcejnnoijfaa.U
namespace Go.Proofs.Ytphbcejnnoijfaa
open Go Go.RowKit Go.Sort U
set_option linter.unusedVariables false
set_option linter.unusedSimpArgs false
set_option maxRecDepth 100000
set_option maxHeartbeats 4000000
theorem calleesH : DenU Try.prog [] 32 [encG hW] (imS (gL [[1], [0], [0, 1]])) := callees_d hW ⟨by decide, by simp [hW, maxI], by simp [hW, maxI]⟩ (by decide) (by decide) (by decide)
theorem ringHW : DenN Try.prog 20 [encG hW] (imS (iL [0, 1])) := denN_closedC hmixU [⟨false, 32, [encG hW], imS (gL [[1], [0], [0, 1]])⟩] (by intro c hc; simp at hc; subst hc; exact calleesH) (chk := chkRow (iL [0, 1])) (fun _ _ h => chkRow_frz h) 100000 60 60 fun Ts => by kernel_rfl
theorem ringGW : DenN Try.prog 20 [encG gW] (imS (iL [])) := denN_closed hmixU (chk := chkRow (iL [])) (fun _ _ h => chkRow_frz h) 100000 60 60 fun Ts => by kernel_rfl
def chkT (u : Value) (_ : AS) : Bool := match u with
  | .bool true => true
  | _ => false
theorem chkT_frz {P : Program} {u : Value} {s : AS} (h : chkT u s = true) : FrzN P s u (.bool true) := by
  unfold chkT at h
  split at h
  · exact .flat _ rfl
  · cases h
def worksC : List Con := [⟨true, 17, [encG gW], .tuple ⟨[imS (iL [1, 0, 2]), .bool true]⟩⟩, ⟨true, 18, [encG gW, imS (uL [10, 3, 1])], imS (uL [16, 3, 20])⟩, ⟨true, 19, [encG gW], imS (iL [2, 1, 3])⟩, ⟨true, 20, [encG hW], imS (iL [0, 1])⟩, ⟨true, 20, [encG gW], imS (iL [])⟩]
theorem worksC_ok : ∀ c ∈ worksC, c.ok Try.prog := by
  intro c hc
  simp only [worksC, List.mem_cons, List.not_mem_nil, or_false] at hc
  rcases hc with rfl | rfl | rfl | rfl | rfl
  · exact orderW
  · exact inlinedW
  · exact deepW
  · exact ringHW
  · exact ringGW
theorem works_n : DenN Try.prog 5 [] (.bool true) := denN_closedC hmixU worksC worksC_ok (chk := chkT) (fun _ _ h => chkT_frz h) 100000 60 60 fun Ts => by kernel_rfl
theorem works_d : DenU Try.prog [] 5 [] (.bool true) := works_n.u
end Go.Proofs.Ytphbcejnnoijfaa
