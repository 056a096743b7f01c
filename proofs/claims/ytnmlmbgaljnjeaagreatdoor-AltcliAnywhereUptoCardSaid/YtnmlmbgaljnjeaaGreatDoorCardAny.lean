/- AltcliAnywhere, the second form's card: options that aren't commands may stand ahead, or behind. Conditions: what is read is of bulk at most 1048576; the listed variables hold what the program's text lays (the card ties them). -/
import Derived.Test.YtnmlmbgaljnjeaaGreatDoorAny2
import Derived.Test.YtnmlmbgaljnjeaaGreatDoorRow
import Derived.Test.YtnmlmbgaljnjeaaGreatDoorCards
import Derived.Test.YtnmlmbgaljnjeaaGreatDoorTie
set_option linter.unusedVariables false
set_option linter.unusedSimpArgs false
namespace Go.Proofs.YtnmlmbgaljnjeaaGreatDoor
open Go.ChangeShapes Go.WideShapes Go.ChangeAt Go.RowKit Go.Deep
open Go.ChangeMaps (open_string)
open Go.Stop Go.Extern.Stop Go.Extern

theorem errG : Tryz.prog.globalNamed "strconv.ErrRange" = some 2 := by kernel_rfl
theorem errGT : (Tryz.prog.globals[2]?).map (·.type) = some 117 := by kernel_rfl
theorem errStar : "*" ++ "errors.errorString" = "*errors.errorString" := by decide
theorem errRow (u : TypeId) (h : Tryz.prog.typeName? 3 u = some "*errors.errorString") : u = 166 :=
  typeName_ptr_named (nm := "errors.errorString") (by rw [errStar]; kernel_rfl) (by kernel_rfl) (by decide) u (by rw [errStar]; exact h)

/-- what the row's list gives: strconv.ErrRange holds an error -/
theorem errHeld {W : World} (h : laidMetH Tryz.prog Rows.altcliAnywhereUptoRow.laid W) : ∃ te pe, W.cell? ⟨2, 0, none⟩ = some (.iface te pe) := by
  have hL : laidMet Tryz.prog Rows.altcliAnywhereUptoRow.laid W := h
  obtain ⟨a, s, hv, _, _, _⟩ := laid_sentinel hL.tail.tail.tail.tail errG errGT Tryz.underlying117 errRow Tryz.underlying166 Tryz.underlying168 rfl rfl Tryz.underlying9 (by kernel_rfl) (by kernel_rfl)
  exact ⟨_, _, by simpa using World.var?_cell errG hv 0⟩

set_option maxRecDepth 100000 in
/-- what the walks give, for every argument and every world that holds the variables -/
theorem anyContract (H : Type) (enc : TypeId × Value → H) (W : World) (base : Nat) (args : Array Value) (ds gs : List (DataW H)) (before : List MemPlace)
    (hval : ∀ (j : Nat) t v, Tryz.f4.params[j]? = some t → args[j]? = some v → Value.okWide Tryz.prog W .any base t v)
    (hW : DataW.Whole enc Tryz.prog Tryz.f4.params.toList Rows.altcliAnywhereSpec.vars false W args.toList ds gs before)
    (hk : Rows.uptoSmall H (ds ++ gs) = true) (hL : laidMetH Tryz.prog Rows.altcliAnywhereUptoRow.laid W) :
    Calls Tryz.prog 4 args W fun e W' => ∃ v, e = .returned v ∧ Rows.altcliAnywhereSpec.post enc Tryz.prog Tryz.f4 false true false false W args v W' := by
  have hW' := hW
  obtain ⟨p, q, hA0, hV, hbe, hfz, hnd⟩ := hW
  obtain ⟨rfl, rfl⟩ := trodVars_none hV
  have hA : DataW.TrodAll enc Tryz.prog W 0 (fun _ => true) true Tryz.f4.params.toList args.toList ds p := hA0
  rw [Tryz.params4] at hA hval
  obtain ⟨v0, vs0, d0, ds0, p0, q0, hargs, rfl, rfl, h0, r0⟩ := trodAll_cons hA
  obtain ⟨v1, vs1, d1, ds1, p1, q1, hvs, rfl, rfl, h1, r1⟩ := trodAll_cons r0
  obtain ⟨rfl, rfl, rfl⟩ := trodAll_nil r1
  subst hvs
  obtain rfl : args = #[v0, v1] := by cases args; simp_all
  obtain ⟨A, n, c, ws, rfl, rfl, hc, hnil, hcells, hd⟩ := open_words (.inr ⟨base, hval 0 22 v0 rfl rfl⟩) h0
  obtain ⟨dir, rfl, rfl, rfl, hds⟩ := open_string Tryz.underlying9 (hval 1 9 v1 rfl rfl) h1
  obtain ⟨te, pe, hg⟩ := errHeld hL
  have hB := upto hk
  rw [List.append_nil] at hB
  simp only [Rows.uptoBulkAll, Rows.uptoBulk, ← Lib.size_eq] at hB
  have htot : ltot ws ≤ 1048576 ∧ dir.size ≤ 1048576 := by
    rcases hd with ⟨rfl, rfl⟩ | ⟨spare, rfl⟩
    · simp only [Rows.uptoBulk] at hB
      exact ⟨Nat.zero_le _, by omega⟩
    · simp only [Rows.uptoBulk, bulk_words] at hB
      unfold ltot
      omega
  have hwv : StrAt W.heap.size W (.slice A ws.length c) ws := by
    refine ⟨A, c, rfl, hc, fun hne => ?_⟩
    obtain ⟨b, o, hA1, hb, hcl⟩ := hcells hne
    refine ⟨b, o, hA1, hb, .inl hb, fun i x hx j u hu => ?_⟩
    have hj : j = 0 := by have := (List.getElem?_eq_some_iff.1 hu).1; simp at this; omega
    subst hj
    simp at hu
    subst hu
    rw [Nat.mul_one, Nat.add_zero]
    exact hcl i x hx
  have htg : Tight (.slice A ws.length c) := by
    intro n' c' he
    cases he
    exact hnil rfl
  have walk : Calls Tryz.prog 4 #[.slice A ws.length c, .string dir] W fun e w' => e = .returned (.bool true) ∧ Below W.heap.size W w' := by
    by_cases h100 : 100 < ws.length
    · exact any_short ws dir _ te pe W htot.1 hwv hg (.inl h100)
    · cases hac : acli ws with
      | error k => exact any_short ws dir _ te pe W htot.1 hwv hg (.inr ⟨k, hac⟩)
      | ok cm => exact any_good ws dir _ te pe cm W htot.1 htot.2 hwv htg hg (by omega) hac
  refine walk.mono fun e W' ⟨he, hb⟩ => ⟨_, he, ?_⟩
  exact law_post hW' rfl rfl rfl (by decide +kernel) hb

/-- a world for the witness: the variables hold what their initialisers lay -/
noncomputable def laidWorld (os : Os) : World :=
  let N := (World.settled Tryz.prog os).heap.size
  let w0 := World.holding Tryz.prog os ⟨#[.cells #[.string ⟨#[118, 97, 108, 117, 101, 32, 111, 117, 116, 32, 111, 102, 32, 114, 97, 110, 103, 101]⟩] 168, .cells #[.string ⟨#[105, 110, 118, 97, 108, 105, 100, 32, 115, 121, 110, 116, 97, 120]⟩] 168], #[], []⟩
  let put (h : Array Obj) (g : Nat) (cs : Array Value) : Array Obj := h.modify g fun
    | .cells _ t frozen => .cells cs t frozen
    | o => o
  let ints (k : IntKind) (l : List Nat) : Array Value := (l.map fun (z : Nat) => Value.int k (z : Int)).toArray
  let h1 := put w0.heap 2 #[.iface 166 (.pointer (some ⟨N, 0, none⟩))]
  let h2 := put h1 1 #[.iface 166 (.pointer (some ⟨N + 1, 0, none⟩))]
  let h3 := put h2 3 (ints .u8 Go.Pinned.utf8FirstZ)
  let h4 := put h3 4 (ints .u8 [128, 191, 160, 191, 128, 159, 144, 191, 128, 143, 0, 0, 0, 0, 0, 0, 0, 0, 0, 0, 0, 0, 0, 0, 0, 0, 0, 0, 0, 0, 0, 0])
  let h5 := put h4 5 (ints .u64 ((List.range 20).map (10 ^ ·)))
  let h6 := put h5 6 (ints .u8 [0, 1, 28, 2, 29, 14, 24, 3, 30, 22, 20, 15, 25, 17, 4, 8, 31, 27, 13, 23, 21, 19, 16, 7, 26, 12, 18, 6, 11, 5, 10, 9])
  let h7 := put h6 7 (ints .u8 [0, 1, 56, 2, 57, 49, 28, 3, 61, 58, 42, 50, 38, 29, 17, 4, 62, 47, 59, 36, 45, 43, 51, 22, 53, 39, 33, 30, 24, 18, 12, 5, 63, 55, 48, 27, 60, 41, 37, 16, 46, 35, 44, 21, 52, 32, 23, 11, 54, 26, 40, 15, 34, 20, 31, 10, 25, 14, 19, 9, 13, 8, 7, 6])
  { w0 with heap := h7 }
set_option maxRecDepth 1000000 in
theorem laid_met (os : Os) (args : Array Value) : laidMet Tryz.prog Rows.altcliAnywhereUptoRow.laid ((laidWorld os).forCall (fun _ _ => 0) ⟨#[], args, []⟩).memory :=
  laidMet_of_run' 8 (by kernel_rfl) (by kernel_rfl)

theorem anyReads (os : Os) {H : Type} (enc : TypeId × Value → H) : ∃ places, DataW.whole enc Tryz.prog ((laidWorld os).forCall (fun _ _ => 0) ⟨#[], #[.slice none 0 0, .string ⟨#[]⟩], []⟩).memory Tryz.f4.params.toList Rows.altcliAnywhereSpec.vars false #[Value.slice none 0 0, Value.string ⟨#[]⟩].toList 8 = some ([.nil, .lit (.string [])], [], places) :=
  ⟨[], by kernel_rfl⟩

set_option maxRecDepth 100000 in
theorem anyLifted (os : Os) (started : os.Started) (H : Type) (enc : TypeId × Value → H) (F : Stop.Interp) :
    ReturnsInHanded {} Tryz.checked os 4 .any ((Rows.OpenSpec.upto Rows.altcliAnywhereSpec).preRow enc Tryz.prog Tryz.f4 Rows.altcliAnywhereUptoRow.domain false Rows.altcliAnywhereUptoRow.laid) (((Rows.OpenSpec.upto Rows.altcliAnywhereSpec).at F).post enc Tryz.prog Tryz.f4 false true false false) := by
  obtain ⟨places, hx⟩ := anyReads os enc
  refine returnsInHanded_of_row (C := Tryz.checked) (s := Rows.OpenSpec.upto Rows.altcliAnywhereSpec) rowOwn started (by kernel_rfl) Tryz.func4
    (witness_row_at (enc := enc) (C := Tryz.checked) false (laidWorld os) #[.slice none 0 0, .string ⟨#[]⟩] rfl (by kernel_rfl) (by kernel_rfl) (by kernel_rfl)
      (OpenSpec.preRow_of_cond 8 hx (by kernel_rfl) (fun k hk => by cases hk; kernel_rfl) (by kernel_rfl) (laid_met os _))) ?_
  intro W base args ds gs before hval hW _ hcond _ hL _ _
  exact anyContract H enc W base args ds gs before hval hW (hcond _ rfl) hL

theorem anySaid : Rows.AltcliAnywhereUptoSaid :=
  OpenClaim.holds_of_cond 4 Tryz.f4 rfl rfl rfl rfl rfl rfl rfl ⟨rfl, rfl, rfl, rfl, rfl⟩ rfl rfl rfl rfl rfl (by kernel_rfl) Tryz.func4 (by kernel_rfl)
    (of_decide_eq_true (by kernel_rfl)) (by unfold Func.isWrapper; first | (rw [if_pos (by decide +kernel)]; kernel_rfl) | (rw [if_neg (by decide +kernel)]; exact ⟨rfl, rfl⟩))
    (fun os started H enc _ F => by rw [OpenClaim.pre_eq_preRow]; exact anyLifted os started H enc F)

theorem anyPlain (f : FuncId) (fn : Func) (hf : Tryz.pinned.checked.prog.funcNamed "linhay/linhaylaw39.AltcliAnywhere" = some f) (hfn : Tryz.pinned.checked.prog.funcs[f]? = some fn) :
    true = Tryz.pinned.checked.prog.looks [] ∧ ∀ (j : Nat) t, fn.params[j]? = some t → Tryz.pinned.checked.prog.wantsStandIn t = false := by
  obtain rfl : f = 4 := Option.some.inj ((show Tryz.prog.funcNamed "linhay/linhaylaw39.AltcliAnywhere" = some 4 by kernel_rfl).symm.trans hf) |>.symm
  obtain rfl : fn = Tryz.f4 := (Option.some.inj (Tryz.func4.symm.trans hfn)).symm
  refine ⟨by kernel_rfl, fun j t ht => ?_⟩
  rw [Tryz.params4] at ht
  have ht2 := Array.mem_of_getElem? ht
  simp at ht2
  rcases ht2 with rfl | rfl
  · exact (show Tryz.prog.wantsStandIn 22 = false by kernel_rfl)
  · exact (show Tryz.prog.wantsStandIn 9 = false by kernel_rfl)

theorem altcliAnywhere_holds : Rows.AltcliAnywhereUptoCardSaid :=
  Claim7.holds_tied_plain_at .later [] _ _ _ _ anySaid (fun _ h => by cases h) (by kernel_rfl) (fun _ h => by cases h) altcliAnywhereUpto_row_tie rfl ⟨rfl, rfl⟩ (by kernel_rfl) rfl anyPlain (by kernel_rfl)

end Go.Proofs.YtnmlmbgaljnjeaaGreatDoor
