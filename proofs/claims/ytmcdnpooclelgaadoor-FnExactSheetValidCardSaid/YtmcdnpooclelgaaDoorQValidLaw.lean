/- What is proved: the law FnExactSheetValid answers true at every sheet: the program's SheetValid says what the specification's says, and leaves its sheet alone. No condition. -/
import Derived.Test.YtmcdnpooclelgaaDoorCards
import Derived.Test.YtmcdnpooclelgaaDoorTie
import Derived.WalkKit
import Derived.ProofKit
import Derived.OpenShut
import Derived.LaidMore
import Derived.Lay
import Derived.LaidOnce
import Derived.ShutString
import Derived.ChangeOld
import Derived.Below
import Derived.SizedLaws
import Derived.Stop.Joined
import Derived.Test.YtmcdnpooclelgaaDoorQValid1
import Derived.Test.YtmcdnpooclelgaaDoorQValid2
import Derived.Test.YtmcdnpooclelgaaDoorQValid3
import Derived.Test.YtmcdnpooclelgaaDoorQValid4
import Derived.Test.YtmcdnpooclelgaaDoorQValid5
import Derived.Test.YtmcdnpooclelgaaDoorQValid6
namespace Go.Proofs.YtmcdnpooclelgaaDoor.fnExactSheetValid
open Go.ChangeShapes Go.WideShapes Go.ChangeAt Go.RowKit
open Go.ChangeMaps (open_string shut_string)
set_option linter.unusedVariables false
theorem walk (A0 : Option Addr) (c0 : Nat) (a0 : List PAll.S128) (w : World) (z0 : a0.length ≤ c0) (y0 : YtmcdnpooclelgaaDoorW.PrintWords.Kd.C PAll.k128 w A0 a0.length a0) (b0 : PAll.BBs a0) :
    Calls Tryd.prog 6 #[.agg #[.slice A0 a0.length c0]] w fun e w' => e = .returned (.bool true) ∧ Below w.heap.size w w' := by
  obtain ⟨k, h⟩ := (PAll.ev_lawValid a0 (PAll.KBs_of y0 b0)).rounds
  exact PAll.laws_FnExactSheetValid.calls k A0 c0 a0 true w y0 z0 h
theorem own : ownKnob Tryd.prog.godebug = none := by kernel_rfl
theorem laidOut : laidOutB Tryd.prog = true := by kernel_rfl
set_option maxRecDepth 100000 in
theorem door_met (os : Os) (args : Array Value) : laidMetH Tryd.prog Rows.fnExactSheetValidRow.laid ((World.laidAll Tryd.prog os Rows.fnExactSheetValidRow.laid).forCall (fun _ _ => 0) ⟨#[], args, []⟩).memory := by
  rw [MakeChecks.laidMetH_plain _ _ _ (by kernel_rfl)]
  exact laidMet_laidAll _ (by kernel_rfl) (by kernel_rfl)
set_option maxRecDepth 100000 in
theorem lifted (os : Os) (started : os.Started) (H : Type) (enc : TypeId × Value → H) :
    ReturnsInHanded {} Tryd.checked os 6 .any (fun w args => (Rows.fnExactSheetValidSpec.pre enc Tryd.prog Tryd.f6 [] false w args ∧ laidMetH Tryd.prog Rows.fnExactSheetValidRow.laid w) ∧ sizedMet enc Tryd.prog Tryd.f6 (OpenSpec.ofChange Rows.fnExactSheetValidSpec) false w args) (Rows.fnExactSheetValidSpec.post enc Tryd.prog Tryd.f6 false true false false) := by
  refine deep_of_change (C := Tryd.checked) (X := fun w _ => laidMetH Tryd.prog Rows.fnExactSheetValidRow.laid w) own started (by kernel_rfl) Tryd.func6
    (ChangeSpec.witness_shaped (enc := enc) (C := Tryd.checked) (os := os) (X := fun w _ => laidMetH Tryd.prog Rows.fnExactSheetValidRow.laid w) false (World.laidAll Tryd.prog os Rows.fnExactSheetValidRow.laid) #[.agg #[.slice none 0 0]] 8 rfl (World.shaped_of_ZipB (by kernel_rfl) (by kernel_rfl)) (by kernel_rfl) (by kernel_rfl) (by kernel_rfl) (door_met os _)) ?_
  intro W base args ds gs before hval0 hW hcnd hsz0 hsh _
  have hsz : (DataW.weightsEach Tryd.prog (Tryd.f6.params.toList ++ Rows.fnExactSheetValidSpec.plain.varTypes Tryd.prog) (ds ++ gs)).all (· ≤ reachBytes) = true := hsz0
  have hval : ∀ (j : Nat) t v, Tryd.f6.params[j]? = some t → args[j]? = some v → Value.okWide Tryd.prog W .any base t v := hval0
  have hW' := hW
  obtain ⟨p, q, hA0, hV, rfl, hfz, hnd⟩ := hW
  have hA : DataW.TrodAll enc Tryd.prog W 0 (fun _ => true) true Tryd.f6.params.toList args.toList ds p := hA0
  rw [Tryd.params6] at hA hval hsz
  obtain ⟨v0, vs0, d0, ds0, p0, q0, hargs, rfl, rfl, h0, r0⟩ := trodAll_cons hA
  obtain ⟨rfl, rfl, rfl⟩ := trodAll_nil r0
  obtain rfl : args = #[v0] := by cases args; simp_all
  obtain ⟨rfl, rfl⟩ := trodVars_none hV
  have k0 := h0
  have lt0 : ∀ x ∈ p0, x.block < W.heap.size := by obtain ⟨m, hm⟩ := k0; exact DataW.trod_lt m _ _ _ hm
  obtain ⟨A0, c0, a0, rfl, y0, z0, w0⟩ := PAll.open_sheet (hval 0 42 v0 rfl rfl) h0
  clear hA0 hval0 hsz0 hsz
  refine (walk A0 c0 a0 W y0 z0 w0).mono fun e W' ⟨he, bel⟩ => ?_
  subst he
  exact ⟨_, rfl, _, _, _, [], _, [], hW', trodAll_mk1 (shut_bool Tryd.underlying4 _), (trodAll_cons_mk (Below.trod laidOut (by kernel_rfl) (of_decide_eq_true (by kernel_rfl)) k0 bel lt0) trodAll_mk0), rfl, bel.frame _, fun h => by cases h⟩
theorem over : Rows.fnExactSheetValidRow.holds Tryd.pinned (OpenSpec.ofChange Rows.fnExactSheetValidSpec) :=
  OpenClaim.holds_of_wide 6 Tryd.f6 rfl rfl rfl rfl rfl rfl rfl ⟨rfl, rfl, rfl, rfl, rfl⟩ rfl rfl rfl rfl rfl (by kernel_rfl) Tryd.func6 (by kernel_rfl)
    (of_decide_eq_true (by kernel_rfl)) (by unfold Func.isWrapper; first | (rw [if_pos (by decide +kernel)]; kernel_rfl) | (rw [if_neg (by decide +kernel)]; exact ⟨rfl, rfl⟩))
    (fun os started H enc _ => lifted os started H enc)
theorem card : Rows.FnExactSheetValidCardSaid :=
  Claim7.holds_tied_plain_at .later [] Rows.fnExactSheetValidCard.laidKinds true Rows.fnExactSheetValidCard.stood.harness false
    over (fun _ h => by cases h) (by kernel_rfl) (fun _ h => by cases h) fnExactSheetValid_row_tie rfl ⟨rfl, rfl⟩ (by kernel_rfl) rfl
    (fun f fn hf hfn => by
      obtain rfl : f = 6 := Option.some.inj ((show Tryd.prog.funcNamed "loop.example/wharfsheet/laws.FnExactSheetValid" = some 6 by kernel_rfl).symm.trans hf) |>.symm
      obtain rfl : fn = Tryd.f6 := (Option.some.inj (Tryd.func6.symm.trans hfn)).symm
      exact ⟨by kernel_rfl, fun j t ht => by
        rw [Tryd.params6] at ht
        have hs : ∀ t ∈ [42], Tryd.prog.wantsStandIn t = false := by
          intro t ht
          simp only [List.mem_cons, List.mem_nil_iff, or_false] at ht
          rcases ht with rfl
          kernel_rfl
        exact hs t (List.mem_of_getElem? (by simpa using ht))⟩)
    (by kernel_rfl)
end Go.Proofs.YtmcdnpooclelgaaDoor.fnExactSheetValid
namespace Go.Proofs.YtmcdnpooclelgaaDoor
theorem fnExactSheetValid_card : Rows.FnExactSheetValidCardSaid := fnExactSheetValid.card
#print axioms fnExactSheetValid_card
end Go.Proofs.YtmcdnpooclelgaaDoor
