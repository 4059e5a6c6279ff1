/- What is proved: the law FnExactSheetPrint answers true at every sheet: the program's SheetPrint writes what the specification's writes, and leaves its sheet alone. No condition. -/
import Derived.Deep.RegionHeld3
import Derived.Test.YtmcdnpooclelgaaDoorCards
import Derived.Test.YtmcdnpooclelgaaDoorTie
import Derived.WalkKit
import Derived.ProofKit
import Derived.OpenShut
import Derived.LaidMore
import Derived.Lay
import Derived.LaidOnce
import Derived.ShutString
import Derived.ChangeOld
import Derived.Below
import Derived.SizedLaws
import Derived.Stop.Joined
import Derived.Test.YtmcdnpooclelgaaDoorQPrint1
import Derived.Test.YtmcdnpooclelgaaDoorQPrint2
import Derived.Test.YtmcdnpooclelgaaDoorQPrint3
import Derived.Test.YtmcdnpooclelgaaDoorQPrint4
import Derived.Test.YtmcdnpooclelgaaDoorQPrint5
import Derived.Test.YtmcdnpooclelgaaDoorQPrint6
namespace Go.Proofs.YtmcdnpooclelgaaDoor.fnExactSheetPrint
open Go.ChangeShapes Go.WideShapes Go.ChangeAt Go.RowKit
open Go.ChangeMaps (open_string shut_string)
set_option linter.unusedVariables false
open YtmcdnpooclelgaaDoorW.PrintWords PAll
theorem blocks_reads {w : World} {b : Nat} {A : Option Addr} {n c : Nat} {xs : List S62} {F : List Nat} (h : blocksS.ow w b [.slice A n c] xs F) : n = xs.length ∧ xs.length ≤ c ∧ Kd.C k62 w A xs.length xs := by
  obtain ⟨A', c', hv, hl, hC⟩ := blocksS.ord h
  injection hv with hv _
  injection hv with h1 h2 h3
  subst h1 h3
  exact ⟨h2, hl, hC⟩
set_option maxRecDepth 100000 in
set_option maxHeartbeats 4000000 in
theorem walk (A0 : Option Addr) (c0 : Nat) (a0 : List PAll.S128) (w : World) (z0 : a0.length ≤ c0) (y0 : YtmcdnpooclelgaaDoorW.PrintWords.Kd.C PAll.k128 w A0 a0.length a0) (b0 : PAll.BBs a0) :
    Calls Tryd.prog 7 #[.agg #[.slice A0 a0.length c0]] w fun e w' => e = .returned (.bool true) ∧ Below w.heap.size w w' := by
  obtain ⟨r, hr, hle⟩ := szSheet_r a0 1048576 (KBs_of y0 b0) (by omega) (by omega)
  obtain ⟨k, hk⟩ := hr.rounds
  have SZ := Aside0.mk (fun w hC => laws_szSheet.calls k A0 c0 a0 1048576 r w hC z0 hk)
  have Y0 := Aside0.mk y0
  clear hk hr y0 b0
  by_cases q : r < 0
  · go_enter Tryd.func7, Tryd.ntmps7
    go_wp2_with fail
    refine (SZ.out _ (Kd.C_below Y0.out ((Below.refl _ _).alloc (Nat.le_refl _) _))).mono ?_
    rintro e w1 ⟨rfl, hb1⟩
    have B1 := Aside0.mk (below_step ((Below.refl w.heap.size w).alloc (Nat.le_refl _) _) hb1)
    clear hb1
    go_wp2
    go_ret
    exact ⟨rfl, B1.out⟩
  · have hf := (hle (by omega)).2
    have hs := small_cv a0 hf
    obtain ⟨k1, hk1⟩ := (ev_specPrint _ hs).rounds
    have TS := Aside0.mk (fun w hC => toSheet_any a0 hf A0 c0 w hC)
    have SP := Aside0.mk (fun w D d hC hl => spec_SheetPrint.calls k1 D d (cvBs a0) (printP (cvBs a0)) w hC hl hk1)
    have IP := Aside0.mk (fun w D d hC hl => implPrint_any D d (cvBs a0) w hC hl hs)
    have EQ := Aside0.mk (fun w A B c d hA hB => eqSheet_c (cvBs a0) hs A B c d w hA hB)
    clear hk1 hle hf hs
    generalize cvBs a0 = xs at *
    generalize printP xs = pt at *
    go_enter Tryd.func7, Tryd.ntmps7
    go_wp2_with fail
    refine (SZ.out _ (Kd.C_below Y0.out ((Below.refl _ _).alloc (Nat.le_refl _) _))).mono ?_
    rintro e w1 ⟨rfl, hb1⟩
    have B1 : Below w.heap.size w w1 := below_step ((Below.refl w.heap.size w).alloc (Nat.le_refl _) _) hb1
    have x1 : w1.cell? ⟨w.heap.size, 0, none⟩ = some (.slice A0 a0.length c0) := pw_cell_below hb1 (by go_simp)
    clear hb1 SZ
    go_wp2_with fail
    refine (TS.out w1 (Kd.C_below Y0.out B1)).mono ?_
    rintro e w2 ⟨v, G, rfl, ho, hb2⟩
    obtain ⟨D, d, rfl⟩ := own_form ho
    obtain ⟨_, hl2, hC2⟩ := blocks_reads ho
    have B2 : Below w.heap.size w w2 := B1.trans (hb2.mono B1.size)
    have x2 := pw_cell_below hb2 x1
    clear hb2 x1 B1 ho
    go_wp2_with fail
    refine (SP.out w2 D d hC2 hl2).mono ?_
    rintro e w3 ⟨rfl, hb3⟩
    have B3 : Below w.heap.size w w3 := B2.trans (hb3.mono B2.size)
    have x3 := pw_cell_below hb3 x2
    clear hb3 x2 B2 hC2 SP hl2
    go_wp2_with fail
    refine (TS.out w3 (Kd.C_below Y0.out B3)).mono ?_
    rintro e w4 ⟨v, G, rfl, ho, hb4⟩
    obtain ⟨E, f, rfl⟩ := own_form ho
    obtain ⟨_, hl4, hC4⟩ := blocks_reads ho
    have B4 : Below w.heap.size w w4 := B3.trans (hb4.mono B3.size)
    have x4 := pw_cell_below hb4 x3
    clear hb4 x3 B3 ho
    go_wp2_with fail
    have a4 : Below w4.heap.size w4 (w4.alloc (.cells #[.slice E xs.length f] 47)) := (Below.refl _ _).alloc (Nat.le_refl _) _
    have y5 : (w4.alloc (.cells #[.slice E xs.length f] 47)).cell? ⟨w4.heap.size, 0, none⟩ = some (.slice E xs.length f) := by go_simp
    refine (IP.out _ E f (Kd.C_below hC4 a4) hl4).mono ?_
    rintro e w6 ⟨rfl, hb6⟩
    have B6 : Below w.heap.size w w6 := (B4.trans (a4.mono B4.size)).trans (hb6.mono (by have := B4.size; have := a4.size; omega))
    have x6 := pw_cell_below hb6 (pw_cell_below a4 x4)
    have y6 := pw_cell_below hb6 y5
    have C6 := Aside0.mk (Kd.C_below (Kd.C_below hC4 a4) hb6)
    have n6 : w4.heap.size < w6.heap.size := by have := hb6.size; simp at this; omega
    have Y6 := Aside0.mk (Kd.C_below Y0.out B6)
    clear hb6 x4 y5 a4 hC4 B4 IP
    generalize w4.heap.size = g5 at *
    go_wp2_with fail
    go_region_held3 (fun w' => w'.cell? ⟨w.heap.size, 0, none⟩ = some (.slice A0 a0.length c0) ∧ w'.cell? ⟨g5, 0, none⟩ = some (.slice E xs.length f)) (first | go_keep | exact ⟨pw_cell_below hbl x6, pw_cell_below hbl y6⟩ | exact ⟨pw_cell_below hb8 (pw_cell_below hbl x6), pw_cell_below hb8 (pw_cell_below hbl y6)⟩) (first | (go_at_call 28; refine (TS.out _ (Kd.C_below Y6.out (below_drew (Below.refl _ _)))).mono ?_; rintro e w7 ⟨v, G, rfl, ho, hbl⟩; obtain ⟨E2, f2, rfl⟩ := own_form ho; obtain ⟨_, _, hC7⟩ := blocks_reads ho; have h67 := Aside0.mk ((below_drew (Below.refl w6.heap.size w6)).trans (hbl.mono (Nat.le_refl _))); clear ho) | (go_at_call 30; refine (EQ.out _ E E2 f f2 (Kd.C_below C6.out h67.out) hC7).mono ?_; rintro e w8 ⟨rfl, hb8⟩))
    have B8 := Aside0.mk (B6.trans ((h67.out.trans (hb8.mono h67.out.size)).mono B6.size))
    clear hb8 hbl x6 y6 B6
    go_wp2
    go_ret
    exact ⟨rfl, B8.out⟩
theorem own : ownKnob Tryd.prog.godebug = none := by kernel_rfl
theorem laidOut : laidOutB Tryd.prog = true := by kernel_rfl
set_option maxRecDepth 100000 in
theorem door_met (os : Os) (args : Array Value) : laidMetH Tryd.prog Rows.fnExactSheetPrintRow.laid ((World.laidAll Tryd.prog os Rows.fnExactSheetPrintRow.laid).forCall (fun _ _ => 0) ⟨#[], args, []⟩).memory := by
  rw [MakeChecks.laidMetH_plain _ _ _ (by kernel_rfl)]
  exact laidMet_laidAll _ (by kernel_rfl) (by kernel_rfl)
set_option maxRecDepth 100000 in
theorem lifted (os : Os) (started : os.Started) (H : Type) (enc : TypeId × Value → H) :
    ReturnsInHanded {} Tryd.checked os 7 .any (fun w args => (Rows.fnExactSheetPrintSpec.pre enc Tryd.prog Tryd.f7 [] false w args ∧ laidMetH Tryd.prog Rows.fnExactSheetPrintRow.laid w) ∧ sizedMet enc Tryd.prog Tryd.f7 (OpenSpec.ofChange Rows.fnExactSheetPrintSpec) false w args) (Rows.fnExactSheetPrintSpec.post enc Tryd.prog Tryd.f7 false true false false) := by
  refine deep_of_change (C := Tryd.checked) (X := fun w _ => laidMetH Tryd.prog Rows.fnExactSheetPrintRow.laid w) own started (by kernel_rfl) Tryd.func7
    (ChangeSpec.witness_shaped (enc := enc) (C := Tryd.checked) (os := os) (X := fun w _ => laidMetH Tryd.prog Rows.fnExactSheetPrintRow.laid w) false (World.laidAll Tryd.prog os Rows.fnExactSheetPrintRow.laid) #[.agg #[.slice none 0 0]] 8 rfl (World.shaped_of_ZipB (by kernel_rfl) (by kernel_rfl)) (by kernel_rfl) (by kernel_rfl) (by kernel_rfl) (door_met os _)) ?_
  intro W base args ds gs before hval0 hW hcnd hsz0 hsh _
  have hsz : (DataW.weightsEach Tryd.prog (Tryd.f7.params.toList ++ Rows.fnExactSheetPrintSpec.plain.varTypes Tryd.prog) (ds ++ gs)).all (· ≤ reachBytes) = true := hsz0
  have hval : ∀ (j : Nat) t v, Tryd.f7.params[j]? = some t → args[j]? = some v → Value.okWide Tryd.prog W .any base t v := hval0
  have hW' := hW
  obtain ⟨p, q, hA0, hV, rfl, hfz, hnd⟩ := hW
  have hA : DataW.TrodAll enc Tryd.prog W 0 (fun _ => true) true Tryd.f7.params.toList args.toList ds p := hA0
  rw [Tryd.params7] at hA hval hsz
  obtain ⟨v0, vs0, d0, ds0, p0, q0, hargs, rfl, rfl, h0, r0⟩ := trodAll_cons hA
  obtain ⟨rfl, rfl, rfl⟩ := trodAll_nil r0
  obtain rfl : args = #[v0] := by cases args; simp_all
  obtain ⟨rfl, rfl⟩ := trodVars_none hV
  have k0 := h0
  have lt0 : ∀ x ∈ p0, x.block < W.heap.size := by obtain ⟨m, hm⟩ := k0; exact DataW.trod_lt m _ _ _ hm
  obtain ⟨A0, c0, a0, rfl, y0, z0, w0⟩ := PAll.open_sheet (hval 0 42 v0 rfl rfl) h0
  clear hA0 hval0 hsz0 hsz
  refine (walk A0 c0 a0 W y0 z0 w0).mono fun e W' ⟨he, bel⟩ => ?_
  subst he
  exact ⟨_, rfl, _, _, _, [], _, [], hW', trodAll_mk1 (shut_bool Tryd.underlying4 _), (trodAll_cons_mk (Below.trod laidOut (by kernel_rfl) (of_decide_eq_true (by kernel_rfl)) k0 bel lt0) trodAll_mk0), rfl, bel.frame _, fun h => by cases h⟩
theorem over : Rows.fnExactSheetPrintRow.holds Tryd.pinned (OpenSpec.ofChange Rows.fnExactSheetPrintSpec) :=
  OpenClaim.holds_of_wide 7 Tryd.f7 rfl rfl rfl rfl rfl rfl rfl ⟨rfl, rfl, rfl, rfl, rfl⟩ rfl rfl rfl rfl rfl (by kernel_rfl) Tryd.func7 (by kernel_rfl)
    (of_decide_eq_true (by kernel_rfl)) (by unfold Func.isWrapper; first | (rw [if_pos (by decide +kernel)]; kernel_rfl) | (rw [if_neg (by decide +kernel)]; exact ⟨rfl, rfl⟩))
    (fun os started H enc _ => lifted os started H enc)
theorem card : Rows.FnExactSheetPrintCardSaid :=
  Claim7.holds_tied_plain_at .later [] Rows.fnExactSheetPrintCard.laidKinds true Rows.fnExactSheetPrintCard.stood.harness false
    over (fun _ h => by cases h) (by kernel_rfl) (fun _ h => by cases h) fnExactSheetPrint_row_tie rfl ⟨rfl, rfl⟩ (by kernel_rfl) rfl
    (fun f fn hf hfn => by
      obtain rfl : f = 7 := Option.some.inj ((show Tryd.prog.funcNamed "loop.example/wharfsheet/laws.FnExactSheetPrint" = some 7 by kernel_rfl).symm.trans hf) |>.symm
      obtain rfl : fn = Tryd.f7 := (Option.some.inj (Tryd.func7.symm.trans hfn)).symm
      exact ⟨by kernel_rfl, fun j t ht => by
        rw [Tryd.params7] at ht
        have hs : ∀ t ∈ [42], Tryd.prog.wantsStandIn t = false := by
          intro t ht
          simp only [List.mem_cons, List.mem_nil_iff, or_false] at ht
          rcases ht with rfl
          kernel_rfl
        exact hs t (List.mem_of_getElem? (by simpa using ht))⟩)
    (by kernel_rfl)
end Go.Proofs.YtmcdnpooclelgaaDoor.fnExactSheetPrint
namespace Go.Proofs.YtmcdnpooclelgaaDoor
theorem fnExactSheetPrint_card : Rows.FnExactSheetPrintCardSaid := fnExactSheetPrint.card
#print axioms fnExactSheetPrint_card
end Go.Proofs.YtmcdnpooclelgaaDoor
