/- EnvNone, for every call: the row. No condition but the tables. -/
import Derived.Test.YtmcjdbkjiedolaaGreatDoorP
import Derived.Test.YtmcjdbkjiedolaaGreatDoorUW
import Derived.Test.YtmcjdbkjiedolaaGreatDoorH26
import Derived.Test.YtmcjdbkjiedolaaGreatDoorCards
import Derived.Test.YtmcjdbkjiedolaaGreatDoorTie
import Derived.SevenTiedAt
import Derived.Handed
import Derived.LaidLaws
import Derived.LaidHandle
import Derived.LaidSub
import Derived.Lib.LaidTab
namespace Go.Proofs.YtmcjdbkjiedolaaGreatDoor
open Go Go.ChangeShapes Go.WideShapes Go.ChangeAt Go.RowKit Go.Joins
set_option linter.unusedVariables false
set_option maxRecDepth 100000

/-- A table of strings, as a row lists it. -/
def strData {H : Type} (bs : List (List UInt8)) : DataW H := .agg (bs.map fun b => .lit (.string b))
def strCells (bs : List (List UInt8)) : List Value := bs.map fun b => .string ⟨b.toArray⟩
theorem cells_of_strs {H : Type} {enc : TypeId × Value → H} {P : Program} {w : World} {base : Nat} {sp : Nat → Bool} {held : Bool} {fuel : Nat} {t e : TypeId} {n : Nat} {cs : List Value} {bs : List (List UInt8)} {p : List MemPlace}
    (ht : P.underlying t = some (.array n e)) (he : P.underlying e = some .string) (hce : P.cellsOf e = 1) (hct : P.cellsOf t = n)
    (h : DataW.trod enc P w base sp held fuel t cs = some (strData bs, p)) : cs = strCells bs := by
  cases fuel with
  | zero => simp [DataW.trod] at h
  | succ fuel =>
    simp only [DataW.trod, ht, hce, hct, Nat.mul_one] at h
    split at h
    · rename_i hl
      obtain ⟨xs, hm, hx⟩ := Option.map_eq_some_iff.1 h
      have hxs : xs.map (·.1) = bs.map fun b => (DataW.lit (.string b) : DataW H) := by
        have := congrArg Prod.fst hx
        simpa [strData] using this
      have hxl : xs.length = n := by simpa using Lib.mapM_length hm
      have hzl : bs.length = n := by
        have := congrArg List.length hxs
        simp at this
        omega
      apply List.ext_getElem?
      intro i
      by_cases hi : i < n
      · obtain ⟨b, hb, hf⟩ := Lib.mapM_at hm i i (by simp [hi])
        obtain ⟨z, hc, rfl, _⟩ := DataW.trod_string he hf
        have h1 : cs[i]? = some (.string z) := by
          have := congrArg (·[0]?) hc
          simpa [List.getElem?_take, List.getElem?_drop] using this
        have h2 : (xs.map (·.1))[i]? = some (DataW.lit (.string z.data.toList) : DataW H) := by simp [hb]
        rw [hxs] at h2
        simp only [List.getElem?_map, Option.map_eq_some_iff, DataW.lit.injEq, Lit.string.injEq] at h2
        obtain ⟨z', hz', hz2⟩ := h2
        have hz3 : (⟨z'.toArray⟩ : ByteArray) = z := by rw [hz2]
        simp [h1, strCells, hz', hz3]
      · rw [List.getElem?_eq_none (by omega), List.getElem?_eq_none (by simp [strCells]; omega)]
    · cases h
theorem laid_strs {P : Program} {W : World} {name : String} {bs : List (List UInt8)} {g : Nat} {t e : TypeId} {n : Nat} (hg : P.globalNamed name = some g) (hty : (P.globals[g]?).map (·.type) = some t)
    (ht : P.underlying t = some (.array n e)) (he : P.underlying e = some .string) (hce : P.cellsOf e = 1) (hct : P.cellsOf t = n) : ∀ {l : List (String × DataW Unit)} {ps : List MemPlace}, DataW.LaidVars P W l ps → (name, strData bs) ∈ l → ∃ T fz, W.heap[g]? = some (.cells ⟨strCells bs⟩ T fz)
  | [], _, _, hm => by cases hm
  | (n', d) :: l, ps, h, hm => by
    obtain ⟨g', t', cs, fuel, p, q, hg', ht', hvar, hd, hrest, _⟩ := h
    rcases List.mem_cons.1 hm with hm | hm
    · cases hm
      obtain rfl := Option.some.inj (hg.symm.trans hg')
      obtain rfl := Option.some.inj (hty.symm.trans ht')
      have hc := cells_of_strs ht he hce hct hd
      unfold World.var? at hvar
      rw [hg] at hvar
      simp only [Option.bind_some] at hvar
      split at hvar
      · rename_i cs' T fz hh
        cases hvar
        refine ⟨T, fz, ?_⟩
        rw [hh, ← hc]
      · cases hvar
    · exact laid_strs hg hty ht he hce hct hrest hm
theorem glob_kw : Tryz.prog.globalNamed "sieveholes/ast.keywords" = some 0 := by kernel_rfl
theorem glob_sg : Tryz.prog.globalNamed "sieveholes/token.signs" = some 2 := by kernel_rfl
theorem type_kw : (Tryz.prog.globals[0]?).map (·.type) = some 497 := by kernel_rfl
theorem type_sg : (Tryz.prog.globals[2]?).map (·.type) = some 626 := by kernel_rfl
def kwB : List (List UInt8) := [[97, 114, 114, 97, 121], [99, 97, 108, 108], [101, 108, 115, 101], [105, 102], [105, 110], [109, 97, 105, 110], [111, 117, 116, 112, 117, 116], [112, 114, 111, 99], [112, 117, 98, 108, 105, 99], [115, 101, 99, 114, 101, 116], [115, 107, 105, 112], [118, 97, 114], [119, 104, 105, 108, 101]]
def sgB : List (List UInt8) := [[124, 124], [38, 38], [61, 61], [33, 61], [60, 61], [62, 61], [60, 60], [62, 62], [60], [62], [61], [43], [45], [42], [47], [37], [38], [124], [94], [33], [126], [40], [41], [123], [125], [91], [93], [44], [59]]
theorem sat_env {W : World} (h : laidMetH Tryz.prog Rows.envNoneRow.laid W) : Sat envF W := by
  have e : (Rows.envNoneRow.laid.filter fun x => x.2.handleName?.isNone) = [("sieveholes/ast.keywords", strData kwB), ("sieveholes/token.signs", strData sgB)] := by kernel_rfl
  have h2 := (laidMetH_iff.1 h).1
  rw [e] at h2
  obtain ⟨ps, h3, _⟩ := h2
  refine ⟨fun b o x hx => hx.elim, fun b p hp => ?_⟩
  obtain ⟨xs, hm, rfl⟩ := hp
  rcases List.mem_cons.1 hm with hm | hm
  · cases hm
    obtain ⟨T, fz, h4⟩ := laid_strs (bs := kwB) glob_kw type_kw Tryz.underlying497 Tryz.underlying9 (by kernel_rfl) (by kernel_rfl) h3 (by simp)
    exact ⟨_, h4, T, fz, rfl⟩
  · rcases List.mem_cons.1 hm with hm | hm
    · cases hm
      obtain ⟨T, fz, h4⟩ := laid_strs (bs := sgB) glob_sg type_sg Tryz.underlying626 Tryz.underlying9 (by kernel_rfl) (by kernel_rfl) h3 (by simp)
      exact ⟨_, h4, T, fz, rfl⟩
    · cases hm
/-- The cells of a listed table. -/
def tabCells : DataW Unit → Array Value
  | .agg ds => (ds.map fun | .lit (.int k n) => Value.int k n | .lit (.string s) => Value.string ⟨s.toArray⟩ | _ => Value.bool false).toArray
  | _ => #[]
def layAt (g : Nat) (d : DataW Unit) (h : Array Obj) : Array Obj := h.modify g fun
  | .cells _ t frozen => .cells (tabCells d) t frozen
  | o => o
noncomputable def laidWorld (os : Os) : World :=
  { World.holding Tryz.prog os ⟨#[], #[], []⟩ with heap := layAt 2 Rows.laid_sieveholes_token_signs (layAt 0 Rows.laid_sieveholes_ast_keywords (World.holding Tryz.prog os ⟨#[], #[], []⟩).heap) }
theorem laidWorld_met (os : Os) (args : Array Value) : laidMetH Tryz.prog Rows.envNoneRow.laid ((laidWorld os).forCall (fun _ _ => 0) ⟨#[], args, []⟩).memory :=
  laidMetH_of_parts (laidMet_of_run' 8 (by kernel_rfl) (by kernel_rfl)) (by kernel_rfl)

/-- A call that came in. -/
theorem open_act {H : Type} {enc : TypeId × Value → H} {W : World} {base : Nat} {spare : Nat → Bool} {held : Bool} {v : Value} {d : DataW H} {p : List MemPlace} {b0 : Nat} {r : Reach} (hv : Value.okWide Tryz.prog W r b0 48 v) (h : DataW.Trod enc Tryz.prog W base spare held 48 v d p) : ∃ x0 x1 x2 x3 : Int, v = .agg #[.int .i64 x0, .int .i64 x1, .int .i64 x2, .int .i64 x3] := by
  obtain ⟨cs, rfl, hsz⟩ := okWide_struct Tryz.underlying48 hv
  obtain ⟨fuel, hf⟩ := h
  obtain ⟨y0, y1, y2, y3, n, _, hl, h0, h1, h2, h3⟩ := trod_struct4 Tryz.underlying48 hf
  have c64 : Tryz.prog.cellsOf 2 = 1 := by kernel_rfl
  have cint : Tryz.prog.cellsOf 3 = 1 := by kernel_rfl
  have cact : Tryz.prog.cellsOf 48 = 4 := by kernel_rfl
  obtain ⟨c0, c1, c2, c3, rfl⟩ : ∃ c0 c1 c2 c3, cs = #[c0, c1, c2, c3] := by
    rcases cs with ⟨l⟩
    rw [cact] at hsz
    match l, hsz with
    | [c0, c1, c2, c3], _ => exact ⟨c0, c1, c2, c3, rfl⟩
  obtain ⟨a, e0, _, _⟩ := DataW.trod_int Tryz.underlying3 h0
  obtain ⟨b, e1, _, _⟩ := DataW.trod_int Tryz.underlying3 h1
  obtain ⟨c, e2, _, _⟩ := DataW.trod_int Tryz.underlying2 h2
  obtain ⟨d, e3, _, _⟩ := DataW.trod_int Tryz.underlying2 h3
  rw [show (Value.agg #[c0, c1, c2, c3]).cells.toList = [c0, c1, c2, c3] from rfl] at e0 e1 e2 e3
  simp only [c64, cint, List.drop_zero, List.take_succ_cons, List.take_zero, List.drop_succ_cons, List.cons.injEq, and_true] at e0 e1 e2 e3
  subst e0 e1 e2 e3
  exact ⟨a, b, c, d, rfl⟩

set_option maxHeartbeats 1000000 in
theorem envNone_lifted (os : Os) (started : os.Started) (H : Type) (enc : TypeId × Value → H) :
    ReturnsInHanded {} Tryz.checked os 4 .any (fun w args => (Rows.envNoneSpec.pre enc Tryz.prog Tryz.f4 [] false w args ∧ laidMetH Tryz.prog Rows.envNoneRow.laid w) ∧ sizedMet enc Tryz.prog Tryz.f4 (OpenSpec.ofChange Rows.envNoneSpec) false w args) (Rows.envNoneSpec.post enc Tryz.prog Tryz.f4 false true false false) := by
  refine returnsInHanded_of_change_and (C := Tryz.checked) (X := fun w _ => laidMetH Tryz.prog Rows.envNoneRow.laid w) (fun _ _ _ hh h => h.of_heap hh) own started (by kernel_rfl) Tryz.func4
    (ChangeSpec.witness_at (enc := enc) (C := Tryz.checked) (os := os) (X := fun w _ => laidMetH Tryz.prog Rows.envNoneRow.laid w) false (laidWorld os) #[.agg #[.int .i64 0, .int .i64 0, .int .i64 0, .int .i64 0]] 8 rfl (by kernel_rfl) (by kernel_rfl) (by kernel_rfl) (by kernel_rfl) (by kernel_rfl) (laidWorld_met os _)) ?_
  intro W base args ds gs before hval0 hW _ _ hL _
  have hval : ∀ (j : Nat) t v, Tryz.f4.params[j]? = some t → args[j]? = some v → Value.okWide Tryz.prog W .any base t v := hval0
  have hW' := hW
  obtain ⟨p, q, hA0, hV, hpq, hfz, hnd⟩ := hW
  have hA : DataW.TrodAll enc Tryz.prog W 0 (fun _ => true) true Tryz.f4.params.toList args.toList ds p := hA0
  rw [Tryz.params4] at hA hval
  obtain ⟨v0, d0, rfl, rfl, h0⟩ := trodAll_one hA
  obtain ⟨rfl, rfl⟩ := trodVars_none hV
  obtain ⟨x0, x1, x2, x3, rfl⟩ := open_act (hval 0 _ v0 rfl rfl) h0
  refine ((envNone_d x0 x1 x2 x3).out W (sat_env hL)).mono fun e W' ⟨he, hb⟩ => ?_
  subst he
  exact ⟨_, rfl, post_law laidOut (by kernel_rfl) rfl hW' rfl rfl Tryz.underlying4 hb⟩

set_option maxHeartbeats 1000000 in
theorem envNone_holds : Rows.EnvNoneSaid :=
  OpenClaim.holds_of_wide 4 Tryz.f4 rfl rfl rfl rfl rfl rfl rfl ⟨rfl, rfl, rfl, rfl, rfl⟩ rfl rfl rfl rfl rfl (by kernel_rfl) Tryz.func4 envNone_facts
    (of_decide_eq_true (by kernel_rfl)) (by unfold Func.isWrapper; rw [if_neg (of_decide_eq_false (by kernel_rfl))]; exact ⟨rfl, rfl⟩)
    (fun os started H enc _ => envNone_lifted os started H enc)

end Go.Proofs.YtmcjdbkjiedolaaGreatDoor
