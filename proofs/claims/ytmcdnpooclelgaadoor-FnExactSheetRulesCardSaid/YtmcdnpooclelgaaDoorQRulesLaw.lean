/- What is proved: the law FnExactSheetRules answers true at every kind: the program's SheetRules gives the specification's rules, and its answer owns its memory, behind another call too. No condition. -/
import Derived.Test.YtmcdnpooclelgaaDoorCards
import Derived.Test.YtmcdnpooclelgaaDoorTie
import Derived.WalkKit
import Derived.ProofKit
import Derived.OpenShut
import Derived.LaidMore
import Derived.Lay
import Derived.LaidOnce
import Derived.ShutString
import Derived.ChangeOld
import Derived.Below
import Derived.SizedLaws
import Derived.Stop.Joined
import Derived.Test.YtmcdnpooclelgaaDoorQRules1
import Derived.Test.YtmcdnpooclelgaaDoorQRules2
import Derived.Test.YtmcdnpooclelgaaDoorQRules3
import Derived.Test.YtmcdnpooclelgaaDoorQRules4
namespace Go.Proofs.YtmcdnpooclelgaaDoor.fnExactSheetRules
open Go.ChangeShapes Go.WideShapes Go.ChangeAt Go.RowKit
open Go.ChangeMaps (open_string shut_string)
set_option linter.unusedVariables false
open YtmcdnpooclelgaaDoorW.PrintWords PAll
theorem rules_cnt (kind : ByteArray) : cntAll cntRule (rulesL kind) ≤ 1000 ∧ ∀ r ∈ rulesL kind, okRule r := by
  unfold rulesL okRule; split; · decide
  split; · decide
  split; · decide
  exact ⟨by decide, fun r h => by cases h⟩
theorem R_kept {α : Type} {d : Kd α} {e : TypeId} {w w' : World} {b : Nat} {v : Value} {xs : List α} {F : List Nat} (h : d.R e w b (fun k => k < w.heap.size ∧ k ∉ F) v xs) (hu : Upd F w w') : d.R e w' b (fun k => k < w.heap.size ∧ k ∉ F) v xs := Kd.R_step h (fun k hk hlt => hu.block k hlt hk.2)
set_option maxRecDepth 100000 in
set_option maxHeartbeats 2000000 in
theorem walk (s : ByteArray) (w : World) (w0 : s.size ≤ 140737488351232) :
    Calls Tryd.prog 3 #[.string s] w fun e w' => e = .returned (.bool true) ∧ Below w.heap.size w w' := by
  by_cases h : 1048576 < s.size
  · go_enter Tryd.func3, Tryd.ntmps3
    go_wp2
    go_ret
    exact ⟨rfl, Below.refl _ _⟩
  · have hs : s.size ≤ 2097152 := by omega
    clear w0
    obtain ⟨hcnt, hok⟩ := rules_cnt s
    have hlen := rulesL_len s
    go_enter Tryd.func3, Tryd.ntmps3
    go_wp2_with fail
    refine (specRules_any s _).mono ?_
    rintro e w1 ⟨v0, rfl, ho0, hb1⟩
    go_wp2_with fail
    refine (implRules_any s _).mono ?_
    rintro e w2 ⟨v1, F1, rfl, ho1, hb2⟩
    have I2 := fun w => Aside0.mk (implRules_any s w)
    generalize rulesL s = rs at *
    obtain ⟨q, hq⟩ := (ev_eqRules_same rs (by omega) hok).rounds
    have HQ := Aside0.mk hq
    clear hq hok h
    obtain ⟨A0, c0, rfl, hl0, hC0⟩ := Kd.R_reads ho0
    obtain ⟨A1, c1, hv1, hl1, hC1⟩ := rulesS.ord ho1
    injection hv1 with hv1 _
    subst hv1
    have hF1 : Aside0 (∀ y ∈ F1, w1.heap.size ≤ y) := ⟨fun y hy => (rulesS.oin ho1 y hy).1⟩
    have R0 : Aside0 (k36.R 36 w2 w.heap.size (fun k => k < w1.heap.size) (.slice A0 rs.length c0) rs) := ⟨Kd.R_step (Kd.R_mono (Kd.R_bound ho0) (fun k hk => hk.2.2.1)) (fun k hk _ => hb2.block k hk)⟩
    have O1 := Aside0.mk ho1
    have B2 := Aside0.mk (hb1.trans (hb2.mono hb1.size))
    have S1 := Aside0.mk hb1.size
    have S2 := Aside0.mk hb2.size
    have HC0 := Aside0.mk (Kd.C_below hC0 hb2)
    have HC1 := Aside0.mk hC1
    have L0 := Aside0.mk hl0
    have L1 := Aside0.mk hl1
    clear ho0 ho1 hb1 hb2 hC0 hC1 hl0 hl1
    go_wp2_with fail
    refine (laws_eqSheetRuleS.calls q A1 c1 rs A0 c0 rs true _ HC1.out L1.out HC0.out L0.out HQ.out).mono ?_
    rintro e w3 ⟨rfl, hb3⟩
    have R3 := Aside0.mk (Kd.R_below R0.out hb3)
    have O3 := Aside0.mk (rulesS.obelow O1.out hb3)
    have B3 := Aside0.mk (B2.out.trans (hb3.mono B2.out.size))
    have S3 := Aside0.mk (Nat.le_trans S2.out hb3.size)
    clear hb3 HC0 HC1 R0 O1 B2
    go_wp2_with fail
    refine (markRules_any _ rs F1 _ 1 _ O3.out (by omega) (by omega)).mono ?_
    rintro e w4 ⟨rfl, ho4, hu4⟩
    have R4 := Aside0.mk (Kd.R_step R3.out (fun k hk hlt => hu4.block k hlt (fun hf => by have := hF1.out k hf; omega)))
    have O4 := Aside0.mk ho4
    have B4 := Aside0.mk (B3.out.trans (hu4.below B3.out.size (fun y hy => Nat.le_trans S1.out (hF1.out y hy))))
    obtain ⟨A1', c1', hv1, hl4, hC4⟩ := rulesS.ord ho4
    injection hv1 with hv1 hv2
    injection hv1 with hv1 hv3 hv4
    subst hv1
    clear hv2 hv3 hv4
    have HC4 := Aside0.mk hC4
    clear ho4 hu4 hl4 hC4 R3 O3 B3
    go_wp2_with fail
    refine (heldRules_any A1 c1 rs 1 _ HC4.out (by omega) (by omega) (by omega)).mono ?_
    rintro e w5 ⟨rfl, hb5⟩
    have R5 := Aside0.mk (Kd.R_below R4.out hb5)
    have HC5 := Aside0.mk (Kd.C_below HC4.out hb5)
    have B5 := Aside0.mk (B4.out.trans (hb5.mono B4.out.size))
    clear hb5 R4 HC4 B4
    go_wp2_with fail
    refine ((I2 _).out).mono ?_
    rintro e w6 ⟨v2, F2, rfl, ho6, hb6⟩
    obtain ⟨A2, c2, hv2, hl2, hC2⟩ := rulesS.ord ho6
    injection hv2 with hv2 _
    subst hv2
    obtain ⟨A0', c0', hv3, hl3, hC3⟩ := Kd.R_reads (Kd.R_below R5.out hb6)
    injection hv3 with hv3 hv5 hv4
    subst hv3 hv4
    clear hv5
    have HC2 := Aside0.mk hC2
    have HC3 := Aside0.mk hC3
    have L2 := Aside0.mk hl2
    have HC6 := Aside0.mk (Kd.C_below HC5.out hb6)
    have B6 := Aside0.mk (B5.out.trans (hb6.mono B5.out.size))
    clear ho6 hb6 hl2 hC2 hl3 hC3 HC5 B5 R5
    go_wp2_with fail
    refine (laws_eqSheetRuleS.calls q A2 c2 rs A0 c0 rs true _ HC2.out L2.out HC3.out L0.out HQ.out).mono ?_
    rintro e w7 ⟨rfl, hb7⟩
    have HC7 := Aside0.mk (Kd.C_below HC6.out hb7)
    have B7 := Aside0.mk (B6.out.trans (hb7.mono B6.out.size))
    clear hb7 HC6 B6 HC2 HC3
    go_wp2_with fail
    refine (heldRules_any A1 c1 rs 1 _ HC7.out (by omega) (by omega) (by omega)).mono ?_
    rintro e w8 ⟨rfl, hb8⟩
    have B8 := Aside0.mk (B7.out.trans (hb8.mono B7.out.size))
    clear hb8
    go_wp2
    go_ret
    exact ⟨rfl, B8.out⟩
theorem own : ownKnob Tryd.prog.godebug = none := by kernel_rfl
set_option maxRecDepth 100000 in
theorem door_met (os : Os) (args : Array Value) : laidMetH Tryd.prog Rows.fnExactSheetRulesRow.laid ((World.laidAll Tryd.prog os Rows.fnExactSheetRulesRow.laid).forCall (fun _ _ => 0) ⟨#[], args, []⟩).memory := by
  rw [MakeChecks.laidMetH_plain _ _ _ (by kernel_rfl)]
  exact laidMet_laidAll _ (by kernel_rfl) (by kernel_rfl)
set_option maxRecDepth 100000 in
theorem lifted (os : Os) (started : os.Started) (H : Type) (enc : TypeId × Value → H) :
    ReturnsInHanded {} Tryd.checked os 3 .any (fun w args => (Rows.fnExactSheetRulesSpec.pre enc Tryd.prog Tryd.f3 [] false w args ∧ laidMetH Tryd.prog Rows.fnExactSheetRulesRow.laid w) ∧ sizedMet enc Tryd.prog Tryd.f3 (OpenSpec.ofChange Rows.fnExactSheetRulesSpec) false w args) (Rows.fnExactSheetRulesSpec.post enc Tryd.prog Tryd.f3 false true false false) := by
  refine deep_of_change (C := Tryd.checked) (X := fun w _ => laidMetH Tryd.prog Rows.fnExactSheetRulesRow.laid w) own started (by kernel_rfl) Tryd.func3
    (ChangeSpec.witness_shaped (enc := enc) (C := Tryd.checked) (os := os) (X := fun w _ => laidMetH Tryd.prog Rows.fnExactSheetRulesRow.laid w) false (World.laidAll Tryd.prog os Rows.fnExactSheetRulesRow.laid) #[.string ByteArray.empty] 8 rfl (World.shaped_of_ZipB (by kernel_rfl) (by kernel_rfl)) (by kernel_rfl) (by kernel_rfl) (by kernel_rfl) (door_met os _)) ?_
  intro W base args ds gs before hval0 hW hcnd hsz0 hsh _
  have hsz : (DataW.weightsEach Tryd.prog (Tryd.f3.params.toList ++ Rows.fnExactSheetRulesSpec.plain.varTypes Tryd.prog) (ds ++ gs)).all (· ≤ reachBytes) = true := hsz0
  have hval : ∀ (j : Nat) t v, Tryd.f3.params[j]? = some t → args[j]? = some v → Value.okWide Tryd.prog W .any base t v := hval0
  have hW' := hW
  obtain ⟨p, q, hA0, hV, rfl, hfz, hnd⟩ := hW
  have hA : DataW.TrodAll enc Tryd.prog W 0 (fun _ => true) true Tryd.f3.params.toList args.toList ds p := hA0
  rw [Tryd.params3] at hA hval hsz
  obtain ⟨v0, vs0, d0, ds0, p0, q0, hargs, rfl, rfl, h0, r0⟩ := trodAll_cons hA
  obtain ⟨rfl, rfl, rfl⟩ := trodAll_nil r0
  obtain rfl : args = #[v0] := by cases args; simp_all
  obtain ⟨rfl, rfl⟩ := trodVars_none hV
  obtain ⟨a0, rfl, rfl, rfl, y0⟩ := open_string Tryd.underlying9 (hval 0 9 v0 rfl rfl) h0
  have w0 : a0.size ≤ 140737488351232 := by
    have z := sized_string hsz (j := 0) (t := 9) rfl rfl
    rw [Array.length_toList] at z
    exact z
  clear hA0 hval0 hsz0 hsz
  refine (walk a0 W w0).mono fun e W' ⟨he, bel⟩ => ?_
  subst he
  exact ⟨_, rfl, _, _, _, [], _, [], hW', trodAll_mk1 (shut_bool Tryd.underlying4 _), (trodAll_cons_mk (shut_string Tryd.underlying9 y0) trodAll_mk0), rfl, bel.frame _, fun h => by cases h⟩
theorem over : Rows.fnExactSheetRulesRow.holds Tryd.pinned (OpenSpec.ofChange Rows.fnExactSheetRulesSpec) :=
  OpenClaim.holds_of_wide 3 Tryd.f3 rfl rfl rfl rfl rfl rfl rfl ⟨rfl, rfl, rfl, rfl, rfl⟩ rfl rfl rfl rfl rfl (by kernel_rfl) Tryd.func3 (by kernel_rfl)
    (of_decide_eq_true (by kernel_rfl)) (by unfold Func.isWrapper; first | (rw [if_pos (by decide +kernel)]; kernel_rfl) | (rw [if_neg (by decide +kernel)]; exact ⟨rfl, rfl⟩))
    (fun os started H enc _ => lifted os started H enc)
theorem card : Rows.FnExactSheetRulesCardSaid :=
  Claim7.holds_tied_plain_at .later [] Rows.fnExactSheetRulesCard.laidKinds true Rows.fnExactSheetRulesCard.stood.harness false
    over (fun _ h => by cases h) (by kernel_rfl) (fun _ h => by cases h) fnExactSheetRules_row_tie rfl ⟨rfl, rfl⟩ (by kernel_rfl) rfl
    (fun f fn hf hfn => by
      obtain rfl : f = 3 := Option.some.inj ((show Tryd.prog.funcNamed "loop.example/wharfsheet/laws.FnExactSheetRules" = some 3 by kernel_rfl).symm.trans hf) |>.symm
      obtain rfl : fn = Tryd.f3 := (Option.some.inj (Tryd.func3.symm.trans hfn)).symm
      exact ⟨by kernel_rfl, fun j t ht => by
        rw [Tryd.params3] at ht
        have hs : ∀ t ∈ [9], Tryd.prog.wantsStandIn t = false := by
          intro t ht
          simp only [List.mem_cons, List.mem_nil_iff, or_false] at ht
          rcases ht with rfl
          kernel_rfl
        exact hs t (List.mem_of_getElem? (by simpa using ht))⟩)
    (by kernel_rfl)
end Go.Proofs.YtmcdnpooclelgaaDoor.fnExactSheetRules
namespace Go.Proofs.YtmcdnpooclelgaaDoor
theorem fnExactSheetRules_card : Rows.FnExactSheetRulesCardSaid := fnExactSheetRules.card
#print axioms fnExactSheetRules_card
end Go.Proofs.YtmcdnpooclelgaaDoor
