/- What is proved: the law FnExactSheetTrim answers true at every sheet: the program's SheetTrim gives what the specification's gives, in blocks and lines that share no memory with the sheet's. No condition. -/
import Derived.Deep.RegionHeld3
import Derived.Test.YtmcdnpooclelgaaDoorCards
import Derived.Test.YtmcdnpooclelgaaDoorTie
import Derived.WalkKit
import Derived.ProofKit
import Derived.OpenShut
import Derived.LaidMore
import Derived.Lay
import Derived.LaidOnce
import Derived.ShutString
import Derived.ChangeOld
import Derived.Below
import Derived.SizedLaws
import Derived.Stop.Joined
import Derived.Test.YtmcdnpooclelgaaDoorQTrim1
import Derived.Test.YtmcdnpooclelgaaDoorQTrim2
import Derived.Test.YtmcdnpooclelgaaDoorQTrim3
import Derived.Test.YtmcdnpooclelgaaDoorQTrim4
import Derived.Test.YtmcdnpooclelgaaDoorQTrim5
import Derived.Test.YtmcdnpooclelgaaDoorQTrim6
namespace Go.Proofs.YtmcdnpooclelgaaDoor.fnExactSheetTrim
open Go.ChangeShapes Go.WideShapes Go.ChangeAt Go.RowKit
open Go.ChangeMaps (open_string shut_string)
set_option linter.unusedVariables false
open YtmcdnpooclelgaaDoorW.PrintWords PAll
set_option maxRecDepth 100000 in
set_option maxHeartbeats 8000000 in
theorem walk (A0 : Option Addr) (c0 : Nat) (a0 : List PAll.S128) (w : World) (z0 : a0.length ≤ c0) (y0 : YtmcdnpooclelgaaDoorW.PrintWords.Kd.C PAll.k128 w A0 a0.length a0) (b0 : PAll.BBs a0) :
    Calls Tryd.prog 10 #[.agg #[.slice A0 a0.length c0]] w fun e w' => e = .returned (.bool true) ∧ Below w.heap.size w w' := by
  obtain ⟨r, hr, hle⟩ := szSheet_t a0 1048576 (KBs_of y0 b0) (by omega) (by omega)
  obtain ⟨k, hk⟩ := hr.rounds
  have SZ := Aside0.mk (fun w hC => laws_szSheet.calls k A0 c0 a0 1048576 r w hC z0 hk)
  have Y0 := Aside0.mk y0
  clear hk hr y0 b0
  by_cases q : r < 0
  · go_enter Tryd.func10, Tryd.ntmps10
    go_wp2_with fail
    refine (SZ.out _ (Kd.C_below Y0.out ((Below.refl _ _).alloc (Nat.le_refl _) _))).mono ?_
    rintro e w1 ⟨rfl, hb1⟩
    have B1 := Aside0.mk (below_step ((Below.refl w.heap.size w).alloc (Nat.le_refl _) _) hb1)
    clear hb1
    go_wp2
    go_ret
    exact ⟨rfl, B1.out⟩
  · have hf := (hle (by omega)).1
    have hcnt := (hle (by omega)).2
    have hs := small_cv a0 hf
    have hsp := trimP_small (cvBs a0) hs
    have hcp := trimP_cnt (cvBs a0) hs.1 hcnt
    have TS := Aside0.mk (fun w hC => toSheet_any a0 hf A0 c0 w hC)
    have SP := Aside0.mk (fun w D d hC hl => specTrim_any D d (cvBs a0) w hC hl hs)
    have IP := Aside0.mk (fun w D d hC hl => implTrim_any D d (cvBs a0) w hC hl hs)
    have EQ := Aside0.mk (fun w A B c d hA hB => eqSheet_c (cvBs a0) hs A B c d w hA hB)
    have EP := Aside0.mk (fun w A B c d hA hB => eqSheet_c (trimP (cvBs a0)) hsp A B c d w hA hB)
    clear hle hf hs hsp
    generalize trimP (cvBs a0) = ps at *
    generalize cvBs a0 = xs at *
    have ML := Aside0.mk (fun A c F b w ho => markSheet_own A c ps F b 1 w ho (by omega) (by omega))
    have HM := Aside0.mk (fun A c w hC => heldSheet_any A c ps 1 w hC (by omega) (by omega))
    have MS := Aside0.mk (fun A c F b w ho => markSheet_any A c xs F b 1 w ho (by omega) (by omega))
    have hm0 : (0 : Int) ≤ 1 + ((cntAll cntBlock ps : Nat) : Int) := by omega
    have hn0 : (0 : Int) ≤ 1 + ((cntAll cntBlock xs : Nat) : Int) := by omega
    have hml := markAll_len mkBlock cntBlock ps 1
    clear hcp hcnt
    generalize 1 + ((cntAll cntBlock ps : Nat) : Int) = m at *
    generalize 1 + ((cntAll cntBlock xs : Nat) : Int) = m' at *
    generalize markAll mkBlock cntBlock ps 1 = ms at *
    have HML := Aside0.mk hml
    clear hml
    go_enter Tryd.func10, Tryd.ntmps10
    go_wp2_with fail
    refine (SZ.out _ (Kd.C_below Y0.out ((Below.refl _ _).alloc (Nat.le_refl _) _))).mono ?_
    rintro e w1 ⟨rfl, hb1⟩
    have B1 : Below w.heap.size w w1 := below_step ((Below.refl w.heap.size w).alloc (Nat.le_refl _) _) hb1
    have K1 := Aside0.mk (blk_below (blk_new w (.cells #[.slice A0 a0.length c0] 42)) hb1)
    have x1 : w1.cell? ⟨w.heap.size, 0, none⟩ = some (.slice A0 a0.length c0) := (blk_cell K1.out 0).trans rfl
    clear hb1 SZ
    go_wp2_with fail
    refine (TS.out w1 (Kd.C_below Y0.out B1)).mono ?_
    rintro e w2 ⟨v, G, rfl, ho, hb2⟩
    obtain ⟨D, d, rfl⟩ := own_form ho
    have B2 : Below w.heap.size w w2 := B1.trans (hb2.mono B1.size)
    have K2 := Aside0.mk (blk_below K1.out hb2)
    obtain ⟨_, hl2, hC2⟩ := blocks_reads ho
    clear hb2 x1 B1 ho K1
    go_wp2_with fail
    refine (SP.out w2 D d hC2 hl2).mono ?_
    rintro e w3 ⟨v3, rfl, ⟨R, rd, rfl, _, hCR⟩, hb3⟩
    have a4 : Below w3.heap.size w3 (w3.alloc (.cells #[.slice R ps.length rd] 47)) := (Below.refl _ _).alloc (Nat.le_refl _) _
    have B4 := Aside0.mk ((B2.trans (hb3.mono B2.size)).trans (a4.mono (B2.trans (hb3.mono B2.size)).size))
    have KA4 := Aside0.mk (blk_below (blk_below K2.out hb3) a4)
    have KB4 := Aside0.mk (blk_new w3 (.cells #[.slice R ps.length rd] 47))
    have CR := Aside0.mk (Kd.C_below hCR a4)
    have Y4 := Aside0.mk (Kd.C_below Y0.out B4.out)
    clear hb3 B2 SP hC2 hl2 hCR Y0 a4 K2
    go_upto_region 6 with (fail)
    generalize hg3 : w3.heap.size = g3 at *
    generalize w3.alloc (.cells #[.slice R ps.length rd] 47) = w4 at *
    have x4 : w4.cell? ⟨w.heap.size, 0, none⟩ = some (.slice A0 a0.length c0) := (blk_cell KA4.out 0).trans rfl
    clear hg3
    go_wp2_with fail
    refine (TS.out w4 Y4.out).mono ?_
    rintro e w5 ⟨v, G, rfl, ho, hb5⟩
    obtain ⟨E, f, rfl⟩ := own_form ho
    obtain ⟨_, hl5, hC5⟩ := blocks_reads ho
    have a6 : Below w5.heap.size w5 (w5.alloc (.cells #[.slice E xs.length f] 47)) := (Below.refl _ _).alloc (Nat.le_refl _) _
    have D6 := Aside0.mk (hb5.trans (a6.mono hb5.size))
    have KC6 := Aside0.mk (blk_new w5 (.cells #[.slice E xs.length f] 47))
    have HE6 := Aside0.mk (blocksS.obelow ho a6)
    have hG : Aside0 (∀ g ∈ G, w4.heap.size ≤ g ∧ g < w5.heap.size) := ⟨fun g hg => blocksS.oin ho g hg⟩
    have hC6 := Kd.C_below hC5 a6
    have hs5 : w4.heap.size ≤ w5.heap.size := hb5.size
    have hs6 : (w5.alloc (.cells #[.slice E xs.length f] 47)).heap.size = w5.heap.size + 1 := by simp
    clear hb5 ho a6 hC5 x4
    go_upto_region 7 with (fail)
    generalize hg5 : w5.heap.size = g5 at *
    generalize w5.alloc (.cells #[.slice E xs.length f] 47) = w6 at *
    clear hg5
    have x6 : w6.cell? ⟨g5, 0, none⟩ = some (.slice E xs.length f) := (blk_cell KC6.out 0).trans rfl
    go_wp2_with fail
    refine (IP.out w6 E f hC6 hl5).mono ?_
    rintro e w7 ⟨v7, G7, rfl, ho7, hb7⟩
    obtain ⟨A7, d7, rfl⟩ := own_form ho7
    have a8 : Below w7.heap.size w7 (w7.alloc (.cells #[.slice A7 ps.length d7] 47)) := (Below.refl _ _).alloc (Nat.le_refl _) _
    have D7 := D6.out.trans (hb7.mono D6.out.size)
    have D8 := Aside0.mk (D7.trans (a8.mono D7.size))
    have KC8 := Aside0.mk (blk_below (blk_below KC6.out hb7) a8)
    have KD8 := Aside0.mk (blk_new w7 (.cells #[.slice A7 ps.length d7] 47))
    have HE8 := Aside0.mk (blocksS.obelow (blocksS.obelow HE6.out hb7) a8)
    have HO8 := Aside0.mk (blocksS.obelow ho7 a8)
    have hG7 : Aside0 (∀ g ∈ G7, g5 < g ∧ g < w7.heap.size) := ⟨fun g hg => by have := blocksS.oin ho7 g hg; omega⟩
    have hg57 : g5 < w7.heap.size := by have := hb7.size; omega
    clear hb7 ho7 a8 D7 x6 hC6 hl5 D6 HE6 KC6
    go_upto_region 8 with (fail)
    generalize hg7 : w7.heap.size = g7 at *
    generalize w7.alloc (.cells #[.slice A7 ps.length d7] 47) = w8 at *
    clear hg7
    have xD8 : w8.cell? ⟨g7, 0, none⟩ = some (.slice A7 ps.length d7) := (blk_cell KD8.out 0).trans rfl
    have xB8 : w8.cell? ⟨g3, 0, none⟩ = some (.slice R ps.length rd) := (blk_cell (blk_up KB4.out D8.out (blk_lt KB4.out)) 0).trans rfl
    have C8 := Aside0.mk (blocks_reads HO8.out).2.2
    go_wp2_with fail
    refine (EP.out _ A7 R d7 rd C8.out (Kd.C_below CR.out D8.out)).mono ?_
    rintro e w9 ⟨rfl, hb9⟩
    have D9 := Aside0.mk (D8.out.trans (hb9.mono D8.out.size))
    have KC9 := Aside0.mk (blk_below KC8.out hb9)
    have KD9 := Aside0.mk (blk_below KD8.out hb9)
    have HE9 := Aside0.mk (blocksS.obelow HE8.out hb9)
    have HO9 := Aside0.mk (blocksS.obelow HO8.out hb9)
    clear hb9 xD8 xB8 C8 D8 KC8 KD8 HE8 HO8
    have Y9 := Aside0.mk (Kd.C_below Y4.out D9.out)
    have C9 := Aside0.mk (blocks_reads HE9.out).2.2
    have x9 : w9.cell? ⟨w.heap.size, 0, none⟩ = some (.slice A0 a0.length c0) := (blk_cell (blk_up KA4.out D9.out (blk_lt KA4.out)) 0).trans rfl
    have y9 : w9.cell? ⟨g5, 0, none⟩ = some (.slice E xs.length f) := (blk_cell KC9.out 0).trans rfl
    go_wp2_with fail
    go_region_held3 (fun w' => w'.cell? ⟨w.heap.size, 0, none⟩ = some (.slice A0 a0.length c0) ∧ w'.cell? ⟨g5, 0, none⟩ = some (.slice E xs.length f)) (first | go_keep | exact ⟨pw_cell_below hbl x9, pw_cell_below hbl y9⟩ | exact ⟨pw_cell_below hb10 (pw_cell_below hbl x9), pw_cell_below hb10 (pw_cell_below hbl y9)⟩) (first | (go_at_call 28; refine (TS.out _ (Kd.C_below Y9.out (below_drew (Below.refl _ _)))).mono ?_; rintro e w8 ⟨v, G8, rfl, ho, hbl⟩; obtain ⟨E2, f2, rfl⟩ := own_form ho; obtain ⟨_, _, hC10⟩ := blocks_reads ho; have h910 := Aside0.mk ((below_drew (Below.refl w9.heap.size w9)).trans (hbl.mono (Nat.le_refl _))); clear ho) | (go_at_call 30; refine (EQ.out _ E E2 f f2 (Kd.C_below C9.out h910.out) hC10).mono ?_; rintro e w10 ⟨rfl, hb10⟩))
    have h79 := Aside0.mk (h910.out.trans (hb10.mono h910.out.size))
    have D10 := Aside0.mk (D9.out.trans (h79.out.mono D9.out.size))
    have KC10 := Aside0.mk (blk_below KC9.out h79.out)
    have KD10 := Aside0.mk (blk_below KD9.out h79.out)
    have HE10 := Aside0.mk (blocksS.obelow HE9.out h79.out)
    have HO10 := Aside0.mk (blocksS.obelow HO9.out h79.out)
    clear hb10 hbl x9 y9 hC10 h79 h910 HE9 HO9 D9 C9 Y9 KC9 KD9
    have y10 : w10.cell? ⟨g5, 0, none⟩ = some (.slice E xs.length f) := (blk_cell KC10.out 0).trans rfl
    go_wp2_with fail
    refine (MS.out E f G _ w10 HE10.out).mono ?_
    rintro e w11 ⟨rfl, hu11⟩
    have D11 := Aside0.mk (D10.out.trans (hu11.below D10.out.size (fun g hg => (hG.out g hg).1)))
    have KD11 := Aside0.mk (blk_upd KD10.out hu11 (fun h => by have := (hG.out _ h).2; omega))
    have HO11 := Aside0.mk (blocksS.oupd HO10.out hu11 (fun g hg hg' => by have := (hG7.out g hg).1; have := (hG.out g hg').2; omega))
    clear hu11 y10 HE10 HO10 D10 KC10 KD10
    have C11 := Aside0.mk (blocks_reads HO11.out).2.2
    have xD11 : w11.cell? ⟨g7, 0, none⟩ = some (.slice A7 ps.length d7) := (blk_cell KD11.out 0).trans rfl
    have xB11 : w11.cell? ⟨g3, 0, none⟩ = some (.slice R ps.length rd) := (blk_cell (blk_up KB4.out D11.out (blk_lt KB4.out)) 0).trans rfl
    go_wp2_with fail
    refine (EP.out _ A7 R d7 rd C11.out (Kd.C_below CR.out D11.out)).mono ?_
    rintro e w12 ⟨rfl, hb12⟩
    have D12 := Aside0.mk (D11.out.trans (hb12.mono D11.out.size))
    have KD12 := Aside0.mk (blk_below KD11.out hb12)
    have HO12 := Aside0.mk (blocksS.obelow HO11.out hb12)
    clear hb12 xD11 xB11 C11 HO11 D11 KD11
    have xD12 : w12.cell? ⟨g7, 0, none⟩ = some (.slice A7 ps.length d7) := (blk_cell KD12.out 0).trans rfl
    go_wp2_with fail
    refine (ML.out A7 d7 G7 _ w12 HO12.out).mono ?_
    rintro e w13 ⟨rfl, ho13, hu13⟩
    have D13 := Aside0.mk (D12.out.trans (hu13.below D12.out.size (fun g hg => by have := (hG7.out g hg).1; omega)))
    have KD13 := Aside0.mk (blk_upd KD12.out hu13 (fun h => by have := (hG7.out _ h).2; omega))
    have HC13 := Aside0.mk (blocks_reads ho13).2.2
    clear hu13 ho13 xD12 HO12 D12 KD12
    have xD13 : w13.cell? ⟨g7, 0, none⟩ = some (.slice A7 ps.length d7) := (blk_cell KD13.out 0).trans rfl
    go_wp2_with fail
    refine (HM.out A7 d7 w13 HC13.out).mono ?_
    rintro e w14 ⟨rfl, hb14⟩
    have D14 := Aside0.mk (D13.out.trans (hb14.mono D13.out.size))
    have KD14 := Aside0.mk (blk_below KD13.out hb14)
    have HC14 := Aside0.mk (Kd.C_below HC13.out hb14)
    clear hb14 xD13 D13 HC13 KD13
    have x14 : w14.cell? ⟨w.heap.size, 0, none⟩ = some (.slice A0 a0.length c0) := (blk_cell (blk_up KA4.out D14.out (blk_lt KA4.out)) 0).trans rfl
    go_wp2_with fail
    refine (TS.out w14 (Kd.C_below Y4.out D14.out)).mono ?_
    rintro e w15 ⟨v, G15, rfl, ho, hb15⟩
    obtain ⟨E4, f4, rfl⟩ := own_form ho
    obtain ⟨_, hl15, hC15⟩ := blocks_reads ho
    have D15 := Aside0.mk (D14.out.trans (hb15.mono D14.out.size))
    have KD15 := Aside0.mk (blk_below KD14.out hb15)
    have HC15 := Aside0.mk (Kd.C_below HC14.out hb15)
    clear hb15 ho x14 D14 HC14 KD14
    go_wp2_with fail
    refine (IP.out w15 E4 f4 hC15 hl15).mono ?_
    rintro e w16 ⟨v16, G16, rfl, ho16, hb16⟩
    obtain ⟨A16, d16, rfl⟩ := own_form ho16
    have a17 : Below w16.heap.size w16 (w16.alloc (.cells #[.slice A16 ps.length d16] 47)) := (Below.refl _ _).alloc (Nat.le_refl _) _
    have D16 := D15.out.trans (hb16.mono D15.out.size)
    have D17 := Aside0.mk (D16.trans (a17.mono D16.size))
    have KD17 := Aside0.mk (blk_below (blk_below KD15.out hb16) a17)
    have KE17 := Aside0.mk (blk_new w16 (.cells #[.slice A16 ps.length d16] 47))
    have HC17 := Aside0.mk (Kd.C_below (Kd.C_below HC15.out hb16) a17)
    have K17 := Aside0.mk (Kd.C_below (blocks_reads ho16).2.2 a17)
    clear hb16 ho16 a17 D16 hC15 hl15 D15 HC15 KD15
    go_upto_region 25 with (fail)
    generalize hg16 : w16.heap.size = g16 at *
    generalize w16.alloc (.cells #[.slice A16 ps.length d16] 47) = w17 at *
    clear hg16
    have xE17 : w17.cell? ⟨g16, 0, none⟩ = some (.slice A16 ps.length d16) := (blk_cell KE17.out 0).trans rfl
    have xB17 : w17.cell? ⟨g3, 0, none⟩ = some (.slice R ps.length rd) := (blk_cell (blk_up KB4.out D17.out (blk_lt KB4.out)) 0).trans rfl
    go_wp2_with fail
    refine (EP.out _ A16 R d16 rd K17.out (Kd.C_below CR.out D17.out)).mono ?_
    rintro e w18 ⟨rfl, hb18⟩
    have D18 := Aside0.mk (D17.out.trans (hb18.mono D17.out.size))
    have KD18 := Aside0.mk (blk_below KD17.out hb18)
    have HC18 := Aside0.mk (Kd.C_below HC17.out hb18)
    clear hb18 xE17 xB17 D17 HC17 K17 KD17 KE17
    have xD18 : w18.cell? ⟨g7, 0, none⟩ = some (.slice A7 ps.length d7) := (blk_cell KD18.out 0).trans rfl
    go_wp2_with fail
    refine (HM.out A7 d7 w18 HC18.out).mono ?_
    rintro e w19 ⟨rfl, hb19⟩
    have D19 := Aside0.mk (D18.out.trans (hb19.mono D18.out.size))
    clear hb19 xD18 D18 HC18
    go_wp2
    go_ret
    exact ⟨rfl, B4.out.trans (D19.out.mono B4.out.size)⟩
theorem own : ownKnob Tryd.prog.godebug = none := by kernel_rfl
theorem laidOut : laidOutB Tryd.prog = true := by kernel_rfl
set_option maxRecDepth 100000 in
theorem door_met (os : Os) (args : Array Value) : laidMetH Tryd.prog Rows.fnExactSheetTrimRow.laid ((World.laidAll Tryd.prog os Rows.fnExactSheetTrimRow.laid).forCall (fun _ _ => 0) ⟨#[], args, []⟩).memory := by
  rw [MakeChecks.laidMetH_plain _ _ _ (by kernel_rfl)]
  exact laidMet_laidAll _ (by kernel_rfl) (by kernel_rfl)
set_option maxRecDepth 100000 in
theorem lifted (os : Os) (started : os.Started) (H : Type) (enc : TypeId × Value → H) :
    ReturnsInHanded {} Tryd.checked os 10 .any (fun w args => (Rows.fnExactSheetTrimSpec.pre enc Tryd.prog Tryd.f10 [] false w args ∧ laidMetH Tryd.prog Rows.fnExactSheetTrimRow.laid w) ∧ sizedMet enc Tryd.prog Tryd.f10 (OpenSpec.ofChange Rows.fnExactSheetTrimSpec) false w args) (Rows.fnExactSheetTrimSpec.post enc Tryd.prog Tryd.f10 false true false false) := by
  refine deep_of_change (C := Tryd.checked) (X := fun w _ => laidMetH Tryd.prog Rows.fnExactSheetTrimRow.laid w) own started (by kernel_rfl) Tryd.func10
    (ChangeSpec.witness_shaped (enc := enc) (C := Tryd.checked) (os := os) (X := fun w _ => laidMetH Tryd.prog Rows.fnExactSheetTrimRow.laid w) false (World.laidAll Tryd.prog os Rows.fnExactSheetTrimRow.laid) #[.agg #[.slice none 0 0]] 8 rfl (World.shaped_of_ZipB (by kernel_rfl) (by kernel_rfl)) (by kernel_rfl) (by kernel_rfl) (by kernel_rfl) (door_met os _)) ?_
  intro W base args ds gs before hval0 hW hcnd hsz0 hsh _
  have hsz : (DataW.weightsEach Tryd.prog (Tryd.f10.params.toList ++ Rows.fnExactSheetTrimSpec.plain.varTypes Tryd.prog) (ds ++ gs)).all (· ≤ reachBytes) = true := hsz0
  have hval : ∀ (j : Nat) t v, Tryd.f10.params[j]? = some t → args[j]? = some v → Value.okWide Tryd.prog W .any base t v := hval0
  have hW' := hW
  obtain ⟨p, q, hA0, hV, rfl, hfz, hnd⟩ := hW
  have hA : DataW.TrodAll enc Tryd.prog W 0 (fun _ => true) true Tryd.f10.params.toList args.toList ds p := hA0
  rw [Tryd.params10] at hA hval hsz
  obtain ⟨v0, vs0, d0, ds0, p0, q0, hargs, rfl, rfl, h0, r0⟩ := trodAll_cons hA
  obtain ⟨rfl, rfl, rfl⟩ := trodAll_nil r0
  obtain rfl : args = #[v0] := by cases args; simp_all
  obtain ⟨rfl, rfl⟩ := trodVars_none hV
  have k0 := h0
  have lt0 : ∀ x ∈ p0, x.block < W.heap.size := by obtain ⟨m, hm⟩ := k0; exact DataW.trod_lt m _ _ _ hm
  obtain ⟨A0, c0, a0, rfl, y0, z0, w0⟩ := PAll.open_sheet (hval 0 42 v0 rfl rfl) h0
  clear hA0 hval0 hsz0 hsz
  refine (walk A0 c0 a0 W y0 z0 w0).mono fun e W' ⟨he, bel⟩ => ?_
  subst he
  exact ⟨_, rfl, _, _, _, [], _, [], hW', trodAll_mk1 (shut_bool Tryd.underlying4 _), (trodAll_cons_mk (Below.trod laidOut (by kernel_rfl) (of_decide_eq_true (by kernel_rfl)) k0 bel lt0) trodAll_mk0), rfl, bel.frame _, fun h => by cases h⟩
theorem over : Rows.fnExactSheetTrimRow.holds Tryd.pinned (OpenSpec.ofChange Rows.fnExactSheetTrimSpec) :=
  OpenClaim.holds_of_wide 10 Tryd.f10 rfl rfl rfl rfl rfl rfl rfl ⟨rfl, rfl, rfl, rfl, rfl⟩ rfl rfl rfl rfl rfl (by kernel_rfl) Tryd.func10 (by kernel_rfl)
    (of_decide_eq_true (by kernel_rfl)) (by unfold Func.isWrapper; first | (rw [if_pos (by decide +kernel)]; kernel_rfl) | (rw [if_neg (by decide +kernel)]; exact ⟨rfl, rfl⟩))
    (fun os started H enc _ => lifted os started H enc)
theorem card : Rows.FnExactSheetTrimCardSaid :=
  Claim7.holds_tied_plain_at .later [] Rows.fnExactSheetTrimCard.laidKinds true Rows.fnExactSheetTrimCard.stood.harness false
    over (fun _ h => by cases h) (by kernel_rfl) (fun _ h => by cases h) fnExactSheetTrim_row_tie rfl ⟨rfl, rfl⟩ (by kernel_rfl) rfl
    (fun f fn hf hfn => by
      obtain rfl : f = 10 := Option.some.inj ((show Tryd.prog.funcNamed "loop.example/wharfsheet/laws.FnExactSheetTrim" = some 10 by kernel_rfl).symm.trans hf) |>.symm
      obtain rfl : fn = Tryd.f10 := (Option.some.inj (Tryd.func10.symm.trans hfn)).symm
      exact ⟨by kernel_rfl, fun j t ht => by
        rw [Tryd.params10] at ht
        have hs : ∀ t ∈ [42], Tryd.prog.wantsStandIn t = false := by
          intro t ht
          simp only [List.mem_cons, List.mem_nil_iff, or_false] at ht
          rcases ht with rfl
          kernel_rfl
        exact hs t (List.mem_of_getElem? (by simpa using ht))⟩)
    (by kernel_rfl)
end Go.Proofs.YtmcdnpooclelgaaDoor.fnExactSheetTrim
namespace Go.Proofs.YtmcdnpooclelgaaDoor
theorem fnExactSheetTrim_card : Rows.FnExactSheetTrimCardSaid := fnExactSheetTrim.card
#print axioms fnExactSheetTrim_card
end Go.Proofs.YtmcdnpooclelgaaDoor
