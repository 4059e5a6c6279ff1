/- What is proved: the law FnExactSheetGet answers true at every sheet, kind, name and key: the program's SheetGet finds what the specification's finds, in lines that share no memory with the sheet's. No condition. -/
import Derived.Deep.RegionHeld3
import Derived.Test.YtmcdnpooclelgaaDoorCards
import Derived.Test.YtmcdnpooclelgaaDoorTie
import Derived.WalkKit
import Derived.ProofKit
import Derived.OpenShut
import Derived.LaidMore
import Derived.Lay
import Derived.LaidOnce
import Derived.ShutString
import Derived.ChangeOld
import Derived.Below
import Derived.SizedLaws
import Derived.Stop.Joined
import Derived.Test.YtmcdnpooclelgaaDoorQGet1
import Derived.Test.YtmcdnpooclelgaaDoorQGet2
import Derived.Test.YtmcdnpooclelgaaDoorQGet3
import Derived.Test.YtmcdnpooclelgaaDoorQGet4
import Derived.Test.YtmcdnpooclelgaaDoorQGet5
import Derived.Test.YtmcdnpooclelgaaDoorQGet6
namespace Go.Proofs.YtmcdnpooclelgaaDoor.fnExactSheetGet
open Go.ChangeShapes Go.WideShapes Go.ChangeAt Go.RowKit
open Go.ChangeMaps (open_string shut_string)
set_option linter.unusedVariables false
open YtmcdnpooclelgaaDoorW.PrintWords PAll
theorem blocks_reads {w : World} {b : Nat} {A : Option Addr} {n c : Nat} {xs : List S62} {F : List Nat} (h : blocksS.ow w b [.slice A n c] xs F) : n = xs.length ∧ xs.length ≤ c ∧ Kd.C k62 w A xs.length xs := by
  obtain ⟨A', c', hv, hl, hC⟩ := blocksS.ord h
  injection hv with hv _
  injection hv with h1 h2 h3
  subst h1 h3
  exact ⟨h2, hl, hC⟩
theorem lines_reads {w : World} {b : Nat} {A : Option Addr} {n c : Nat} {xs : List S83} {F : List Nat} (h : linesS.ow w b [.slice A n c] xs F) : n = xs.length ∧ xs.length ≤ c ∧ Kd.C k83 w A xs.length xs := by
  obtain ⟨A', c', hv, hl, hC⟩ := linesS.ord h
  injection hv with hv _
  injection hv with h1 h2 h3
  subst h1 h3
  exact ⟨h2, hl, hC⟩
theorem cnt_filter {α : Type} (cnt : α → Nat) (p : α → Bool) : ∀ xs : List α, cntAll cnt (xs.filter p) ≤ cntAll cnt xs
  | [] => Nat.le_refl _
  | x :: xs => by
    have ih := cnt_filter cnt p xs
    by_cases q : p x = true
    · rw [List.filter_cons_of_pos q]; simp only [cntAll]; omega
    · rw [List.filter_cons_of_neg q]; simp only [cntAll]; omega
theorem cnt_mem {α : Type} (cnt : α → Nat) : ∀ (xs : List α) (x : α), x ∈ xs → cnt x ≤ cntAll cnt xs
  | y :: xs, x, h => by
    simp only [cntAll]
    rcases List.mem_cons.1 h with rfl | h
    · omega
    · have := cnt_mem cnt xs x h; omega
theorem getP_cnt (bs : List S62) (kind name key : ByteArray) : cntAll cntLine (getP bs kind name key).1 ≤ cntAll cntBlock bs + 17 := by
  unfold getP
  split
  · simp [cntAll]
  · split
    · simp [cntAll]
    · split
      · rename_i h1 h2 h3
        rcases findB_in kind name bs 0 with hf | ⟨n, hf, hn⟩
        · omega
        · have hfn : findB kind name bs 0 = (n : Int) := by rw [hf]; omega
          rw [hfn, rdBlock hn]
          simp only
          unfold getH
          split
          · have := defL_small kind key
            simp only [cntAll, cntLine]; omega
          · have h5 := cnt_filter cntLine (fun l => decide (l.f0 = key)) bs[n].f2
            have h6 := cnt_mem cntBlock bs bs[n] (List.getElem_mem hn)
            have h7 : cntBlock bs[n] = 2 + cntAll cntLine bs[n].f2 := rfl
            unfold ofKey
            omega
      · simp [cntAll]
set_option maxRecDepth 100000 in
set_option maxHeartbeats 8000000 in
theorem walk (A0 : Option Addr) (c0 : Nat) (a0 : List PAll.S128) (a1 a2 a3 : ByteArray) (w : World) (z0 : a0.length ≤ c0) (y0 : YtmcdnpooclelgaaDoorW.PrintWords.Kd.C PAll.k128 w A0 a0.length a0) (b0 : PAll.BBs a0) (u1 : a1.size ≤ 140737488351232) (u2 : a2.size ≤ 140737488351232) (u3 : a3.size ≤ 140737488351232) :
    Calls Tryd.prog 8 #[.agg #[.slice A0 a0.length c0], .string a1, .string a2, .string a3] w fun e w' => e = .returned (.bool true) ∧ Below w.heap.size w w' := by
  by_cases p1 : (a1.size : Int) > 1048576
  · go_enter Tryd.func8, Tryd.ntmps8
    go_wp2
    go_ret
    exact ⟨rfl, (Below.refl _ _).alloc (Nat.le_refl _) _⟩
  by_cases p2 : (a2.size : Int) > 1048576
  · go_enter Tryd.func8, Tryd.ntmps8
    go_wp2
    go_ret
    exact ⟨rfl, (Below.refl _ _).alloc (Nat.le_refl _) _⟩
  by_cases p3 : (a3.size : Int) > 1048576
  · go_enter Tryd.func8, Tryd.ntmps8
    go_wp2
    go_ret
    exact ⟨rfl, (Below.refl _ _).alloc (Nat.le_refl _) _⟩
  obtain ⟨r, hr, hle⟩ := szSheet_t a0 1048576 (KBs_of y0 b0) (by omega) (by omega)
  obtain ⟨k, hk⟩ := hr.rounds
  have SZ := Aside0.mk (fun w hC => laws_szSheet.calls k A0 c0 a0 1048576 r w hC z0 hk)
  have Y0 := Aside0.mk y0
  clear hk hr y0 b0
  by_cases q : r < 0
  · go_enter Tryd.func8, Tryd.ntmps8
    go_wp2_with fail
    refine (SZ.out _ (Kd.C_below Y0.out ((Below.refl _ _).alloc (Nat.le_refl _) _))).mono ?_
    rintro e w1 ⟨rfl, hb1⟩
    have B1 := Aside0.mk (below_step ((Below.refl w.heap.size w).alloc (Nat.le_refl _) _) hb1)
    clear hb1
    go_wp2
    go_ret
    exact ⟨rfl, B1.out⟩
  · have hf := (hle (by omega)).1
    have hcnt := (hle (by omega)).2
    have hs := small_cv a0 hf
    have hsl := getP_small (cvBs a0) a1 a2 a3 hs (by omega)
    have hcl := getP_cnt (cvBs a0) a1 a2 a3
    have TS := Aside0.mk (fun w hC => toSheet_any a0 hf A0 c0 w hC)
    have SP := Aside0.mk (fun w D d hC hl => specGet_any D d (cvBs a0) a1 a2 a3 w hC hl hs)
    have IP := Aside0.mk (fun w D d hC hl => implGet_any D d (cvBs a0) a1 a2 a3 w hC hl hs)
    have EL := Aside0.mk (fun w A B c d hA hB => eqLines_c (getP (cvBs a0) a1 a2 a3).1 hsl A B c d w hA hB)
    have EQ := Aside0.mk (fun w A B c d hA hB => eqSheet_c (cvBs a0) hs A B c d w hA hB)
    clear hle hf hs hsl
    generalize cvBs a0 = xs at *
    generalize getP xs a1 a2 a3 = pt at *
    obtain ⟨ls, ok⟩ := pt
    simp only at *
    have ML := Aside0.mk (fun v F b w ho => markLines_any v ls F b 1 w ho (by omega) (by omega))
    have HM := Aside0.mk (fun A c w hC => heldLines_any A c ls 1 w hC (by omega) (by omega))
    have MS := Aside0.mk (fun A c F b w ho => markSheet_any A c xs F b 1 w ho (by omega) (by omega))
    have hm0 : (0 : Int) ≤ 1 + ((cntAll cntLine ls : Nat) : Int) := by omega
    have hn0 : (0 : Int) ≤ 1 + ((cntAll cntBlock xs : Nat) : Int) := by omega
    clear hcl hcnt
    generalize 1 + ((cntAll cntLine ls : Nat) : Int) = m at *
    generalize 1 + ((cntAll cntBlock xs : Nat) : Int) = m' at *
    generalize markAll mkLine cntLine ls 1 = ms at *
    go_enter Tryd.func8, Tryd.ntmps8
    go_wp2_with fail
    refine (SZ.out _ (Kd.C_below Y0.out ((Below.refl _ _).alloc (Nat.le_refl _) _))).mono ?_
    rintro e w1 ⟨rfl, hb1⟩
    have B1 : Below w.heap.size w w1 := below_step ((Below.refl w.heap.size w).alloc (Nat.le_refl _) _) hb1
    have x1 : w1.cell? ⟨w.heap.size, 0, none⟩ = some (.slice A0 a0.length c0) := pw_cell_below hb1 (by go_simp)
    clear hb1 SZ
    go_wp2_with fail
    refine (TS.out w1 (Kd.C_below Y0.out B1)).mono ?_
    rintro e w2 ⟨v, G, rfl, ho, hb2⟩
    obtain ⟨D, d, rfl⟩ := own_form ho
    have B2 : Below w.heap.size w w2 := B1.trans (hb2.mono B1.size)
    have x2 := pw_cell_below hb2 x1
    obtain ⟨_, hl2, hC2⟩ := blocks_reads ho
    clear hb2 x1 B1 ho
    go_wp2_with fail
    refine (SP.out w2 D d hC2 hl2).mono ?_
    rintro e w3 ⟨v3, rfl, ⟨R, rd, rfl, hCR⟩, hb3⟩
    have B3 := Aside0.mk (B2.trans (hb3.mono B2.size))
    have X3 := Aside0.mk (pw_cell_below hb3 x2)
    have CR := Aside0.mk hCR
    have Y3 := Aside0.mk (Kd.C_below Y0.out B3.out)
    clear hb3 x2 B2 SP hC2 hl2 hCR Y0
    have x3 := X3.out
    go_wp2_with fail
    refine (TS.out w3 Y3.out).mono ?_
    rintro e w4 ⟨v, G, rfl, ho, hb4⟩
    obtain ⟨E, f, rfl⟩ := own_form ho
    obtain ⟨_, hl4, hC4⟩ := blocks_reads ho
    have x4 := pw_cell_below hb4 x3
    clear x3
    go_wp2_with fail
    have a4 : Below w4.heap.size w4 (w4.alloc (.cells #[.slice E xs.length f] 47)) := (Below.refl _ _).alloc (Nat.le_refl _) _
    have y5 : (w4.alloc (.cells #[.slice E xs.length f] 47)).cell? ⟨w4.heap.size, 0, none⟩ = some (.slice E xs.length f) := by go_simp
    have s5 : w4.heap.size < (w4.alloc (.cells #[.slice E xs.length f] 47)).heap.size := by simp
    refine (IP.out _ E f (Kd.C_below hC4 a4) hl4).mono ?_
    rintro e w6 ⟨v6, G6, rfl, ho6, hb6⟩
    obtain ⟨A6, d6, rfl⟩ := own_form ho6
    have D5 := hb4.trans (a4.mono hb4.size)
    have D6 := Aside0.mk (D5.trans (hb6.mono D5.size))
    have x6 := pw_cell_below D6.out X3.out
    have y6 := pw_cell_below hb6 y5
    have HE6 := Aside0.mk (blocksS.obelow (blocksS.obelow ho a4) hb6)
    have HO6 := Aside0.mk ho6
    have hG : Aside0 (∀ g ∈ G, w3.heap.size ≤ g) := ⟨fun g hg => (blocksS.oin ho g hg).1⟩
    have hG6 : Aside0 (∀ g ∈ G6, w3.heap.size ≤ g) := ⟨fun g hg => by have := (linesS.oin ho6 g hg).1; have := D5.size; omega⟩
    have hdis : Aside0 (∀ g ∈ G6, g ∉ G) := ⟨fun g hg hg' => by have := (linesS.oin ho6 g hg).1; have := (blocksS.oin ho g hg').2; omega⟩
    have n6 : w4.heap.size < w6.heap.size := by have := hb6.size; omega
    clear hb6 x4 y5 a4 hC4 hb4 ho ho6 D5 hl4 s5
    generalize w4.heap.size = g5 at *
    obtain ⟨_, hl6, hC6⟩ := lines_reads HO6.out
    have HC6 := Aside0.mk hC6
    clear hC6
    go_wp2_with fail
    refine (EL.out _ A6 R d6 rd HC6.out (Kd.C_below CR.out D6.out)).mono ?_
    rintro e w7 ⟨rfl, hb7⟩
    have D7 := Aside0.mk (D6.out.trans (hb7.mono D6.out.size))
    have x7 := pw_cell_below hb7 x6
    have y7 := pw_cell_below hb7 y6
    have HE7 := Aside0.mk (blocksS.obelow HE6.out hb7)
    have HO7 := Aside0.mk (linesS.obelow HO6.out hb7)
    have n7 : g5 < w7.heap.size := Nat.lt_of_lt_of_le n6 hb7.size
    clear hb7 x6 y6 HE6 HO6 HC6 n6 D6 hl6
    have Y7 := Aside0.mk (Kd.C_below Y3.out D7.out)
    have C7 := Aside0.mk (blocks_reads HE7.out).2.2
    go_wp2_with fail
    go_region_held3 (fun w' => w'.cell? ⟨w.heap.size, 0, none⟩ = some (.slice A0 a0.length c0) ∧ w'.cell? ⟨g5, 0, none⟩ = some (.slice E xs.length f)) (first | go_keep | exact ⟨pw_cell_below hbl x7, pw_cell_below hbl y7⟩ | exact ⟨pw_cell_below hb8 (pw_cell_below hbl x7), pw_cell_below hb8 (pw_cell_below hbl y7)⟩) (first | (go_at_call 28; refine (TS.out _ (Kd.C_below Y7.out (below_drew (Below.refl _ _)))).mono ?_; rintro e w8 ⟨v, G8, rfl, ho, hbl⟩; obtain ⟨E2, f2, rfl⟩ := own_form ho; obtain ⟨_, _, hC8⟩ := blocks_reads ho; have h78 := Aside0.mk ((below_drew (Below.refl w7.heap.size w7)).trans (hbl.mono (Nat.le_refl _))); clear ho) | (go_at_call 30; refine (EQ.out _ E E2 f f2 (Kd.C_below C7.out h78.out) hC8).mono ?_; rintro e w9 ⟨rfl, hb8⟩))
    have h79 := Aside0.mk (h78.out.trans (hb8.mono h78.out.size))
    have D9 := Aside0.mk (D7.out.trans (h79.out.mono D7.out.size))
    have y9 := pw_cell_below h79.out y7
    have HE9 := Aside0.mk (blocksS.obelow HE7.out h79.out)
    have HO9 := Aside0.mk (linesS.obelow HO7.out h79.out)
    clear hb8 hbl x7 y7 hC8 h78 h79 HE7 HO7 D7 C7 Y7
    go_wp2_with fail
    refine (MS.out E f G _ w9 HE9.out).mono ?_
    rintro e w10 ⟨rfl, hu10⟩
    have D10 := Aside0.mk (D9.out.trans (hu10.below D9.out.size hG.out))
    have HO10 := Aside0.mk (linesS.oupd HO9.out hu10 hdis.out)
    obtain ⟨_, _, hC10⟩ := lines_reads HO10.out
    clear hu10 y9 HE9 HO9 D9
    have HC10 := Aside0.mk hC10
    clear hC10
    go_wp2_with fail
    refine (EL.out _ A6 R d6 rd HC10.out (Kd.C_below CR.out D10.out)).mono ?_
    rintro e w11 ⟨rfl, hb11⟩
    have D11 := Aside0.mk (D10.out.trans (hb11.mono D10.out.size))
    have HO11 := Aside0.mk (linesS.obelow HO10.out hb11)
    clear hb11 HO10 HC10 D10
    go_wp2_with fail
    refine (ML.out _ G6 _ w11 HO11.out).mono ?_
    rintro e w12 ⟨rfl, ho12, hu12⟩
    have D12 := Aside0.mk (D11.out.trans (hu12.below D11.out.size hG6.out))
    have hC12 := (lines_reads ho12).2.2
    have HC12 := Aside0.mk hC12
    clear hu12 ho12 HO11 D11 hC12
    go_wp2_with fail
    refine (HM.out A6 d6 w12 HC12.out).mono ?_
    rintro e w13 ⟨rfl, hb13⟩
    have D13 := Aside0.mk (D12.out.trans (hb13.mono D12.out.size))
    have HC13 := Aside0.mk (Kd.C_below HC12.out hb13)
    have x13 := pw_cell_below D13.out X3.out
    clear hb13 D12 HC12
    go_wp2_with fail
    refine (TS.out w13 (Kd.C_below Y3.out D13.out)).mono ?_
    rintro e w14 ⟨v, G14, rfl, ho, hb14⟩
    obtain ⟨E4, f4, rfl⟩ := own_form ho
    obtain ⟨_, hl14, hC14⟩ := blocks_reads ho
    have D14 := Aside0.mk (D13.out.trans (hb14.mono D13.out.size))
    have HC14 := Aside0.mk (Kd.C_below HC13.out hb14)
    clear hb14 D13 HC13 x13 ho
    go_wp2_with fail
    refine (IP.out w14 E4 f4 hC14 hl14).mono ?_
    rintro e w15 ⟨v15, G15, rfl, ho15, hb15⟩
    obtain ⟨A15, d15, rfl⟩ := own_form ho15
    obtain ⟨_, _, hC15⟩ := lines_reads ho15
    have D15 := Aside0.mk (D14.out.trans (hb15.mono D14.out.size))
    have HC15 := Aside0.mk (Kd.C_below HC14.out hb15)
    have K15 := Aside0.mk hC15
    clear hb15 D14 HC14 ho15 hC14 hl14 hC15
    go_wp2_with fail
    refine (EL.out _ A15 R d15 rd K15.out (Kd.C_below CR.out D15.out)).mono ?_
    rintro e w16 ⟨rfl, hb16⟩
    have D16 := Aside0.mk (D15.out.trans (hb16.mono D15.out.size))
    have HC16 := Aside0.mk (Kd.C_below HC15.out hb16)
    clear hb16 D15 HC15 K15
    go_wp2_with fail
    refine (HM.out A6 d6 w16 HC16.out).mono ?_
    rintro e w17 ⟨rfl, hb17⟩
    have D17 := Aside0.mk (D16.out.trans (hb17.mono D16.out.size))
    clear hb17 D16 HC16
    go_wp2
    go_ret
    exact ⟨rfl, B3.out.trans (D17.out.mono B3.out.size)⟩
theorem own : ownKnob Tryd.prog.godebug = none := by kernel_rfl
theorem laidOut : laidOutB Tryd.prog = true := by kernel_rfl
set_option maxRecDepth 100000 in
theorem door_met (os : Os) (args : Array Value) : laidMetH Tryd.prog Rows.fnExactSheetGetRow.laid ((World.laidAll Tryd.prog os Rows.fnExactSheetGetRow.laid).forCall (fun _ _ => 0) ⟨#[], args, []⟩).memory := by
  rw [MakeChecks.laidMetH_plain _ _ _ (by kernel_rfl)]
  exact laidMet_laidAll _ (by kernel_rfl) (by kernel_rfl)
set_option maxRecDepth 100000 in
theorem lifted (os : Os) (started : os.Started) (H : Type) (enc : TypeId × Value → H) :
    ReturnsInHanded {} Tryd.checked os 8 .any (fun w args => (Rows.fnExactSheetGetSpec.pre enc Tryd.prog Tryd.f8 [] false w args ∧ laidMetH Tryd.prog Rows.fnExactSheetGetRow.laid w) ∧ sizedMet enc Tryd.prog Tryd.f8 (OpenSpec.ofChange Rows.fnExactSheetGetSpec) false w args) (Rows.fnExactSheetGetSpec.post enc Tryd.prog Tryd.f8 false true false false) := by
  refine deep_of_change (C := Tryd.checked) (X := fun w _ => laidMetH Tryd.prog Rows.fnExactSheetGetRow.laid w) own started (by kernel_rfl) Tryd.func8
    (ChangeSpec.witness_shaped (enc := enc) (C := Tryd.checked) (os := os) (X := fun w _ => laidMetH Tryd.prog Rows.fnExactSheetGetRow.laid w) false (World.laidAll Tryd.prog os Rows.fnExactSheetGetRow.laid) #[.agg #[.slice none 0 0], .string ByteArray.empty, .string ByteArray.empty, .string ByteArray.empty] 8 rfl (World.shaped_of_ZipB (by kernel_rfl) (by kernel_rfl)) (by kernel_rfl) (by kernel_rfl) (by kernel_rfl) (door_met os _)) ?_
  intro W base args ds gs before hval0 hW hcnd hsz0 hsh _
  have hsz : (DataW.weightsEach Tryd.prog (Tryd.f8.params.toList ++ Rows.fnExactSheetGetSpec.plain.varTypes Tryd.prog) (ds ++ gs)).all (· ≤ reachBytes) = true := hsz0
  have hval : ∀ (j : Nat) t v, Tryd.f8.params[j]? = some t → args[j]? = some v → Value.okWide Tryd.prog W .any base t v := hval0
  have hW' := hW
  obtain ⟨p, q, hA0, hV, rfl, hfz, hnd⟩ := hW
  have hA : DataW.TrodAll enc Tryd.prog W 0 (fun _ => true) true Tryd.f8.params.toList args.toList ds p := hA0
  rw [Tryd.params8] at hA hval hsz
  obtain ⟨v0, vs0, d0, ds0, p0, q0, hargs, rfl, rfl, h0, r0⟩ := trodAll_cons hA
  obtain ⟨v1, vs1, d1, ds1, p1, q1, rfl, rfl, rfl, h1, r1⟩ := trodAll_cons r0
  obtain ⟨v2, vs2, d2, ds2, p2, q2, rfl, rfl, rfl, h2, r2⟩ := trodAll_cons r1
  obtain ⟨v3, vs3, d3, ds3, p3, q3, rfl, rfl, rfl, h3, r3⟩ := trodAll_cons r2
  obtain ⟨rfl, rfl, rfl⟩ := trodAll_nil r3
  obtain rfl : args = #[v0, v1, v2, v3] := by cases args; simp_all
  obtain ⟨rfl, rfl⟩ := trodVars_none hV
  have k0 := h0
  have lt0 : ∀ x ∈ p0, x.block < W.heap.size := by obtain ⟨m, hm⟩ := k0; exact DataW.trod_lt m _ _ _ hm
  obtain ⟨A0, c0, a0, rfl, y0, z0, w0⟩ := PAll.open_sheet (hval 0 42 v0 rfl rfl) h0
  obtain ⟨a1, rfl, rfl, rfl, y1⟩ := open_string Tryd.underlying9 (hval 1 9 v1 rfl rfl) h1
  have w1 : a1.size ≤ 140737488351232 := by
    have z := sized_string hsz (j := 1) (t := 9) rfl rfl
    rw [Array.length_toList] at z
    exact z
  obtain ⟨a2, rfl, rfl, rfl, y2⟩ := open_string Tryd.underlying9 (hval 2 9 v2 rfl rfl) h2
  have w2 : a2.size ≤ 140737488351232 := by
    have z := sized_string hsz (j := 2) (t := 9) rfl rfl
    rw [Array.length_toList] at z
    exact z
  obtain ⟨a3, rfl, rfl, rfl, y3⟩ := open_string Tryd.underlying9 (hval 3 9 v3 rfl rfl) h3
  have w3 : a3.size ≤ 140737488351232 := by
    have z := sized_string hsz (j := 3) (t := 9) rfl rfl
    rw [Array.length_toList] at z
    exact z
  clear hA0 hval0 hsz0 hsz
  refine (walk A0 c0 a0 a1 a2 a3 W y0 z0 w0 w1 w2 w3).mono fun e W' ⟨he, bel⟩ => ?_
  subst he
  exact ⟨_, rfl, _, _, _, [], _, [], hW', trodAll_mk1 (shut_bool Tryd.underlying4 _), (trodAll_cons_mk (Below.trod laidOut (by kernel_rfl) (of_decide_eq_true (by kernel_rfl)) k0 bel lt0) (trodAll_cons_mk (shut_string Tryd.underlying9 y1) (trodAll_cons_mk (shut_string Tryd.underlying9 y2) (trodAll_cons_mk (shut_string Tryd.underlying9 y3) trodAll_mk0)))), rfl, bel.frame _, fun h => by cases h⟩
theorem over : Rows.fnExactSheetGetRow.holds Tryd.pinned (OpenSpec.ofChange Rows.fnExactSheetGetSpec) :=
  OpenClaim.holds_of_wide 8 Tryd.f8 rfl rfl rfl rfl rfl rfl rfl ⟨rfl, rfl, rfl, rfl, rfl⟩ rfl rfl rfl rfl rfl (by kernel_rfl) Tryd.func8 (by kernel_rfl)
    (of_decide_eq_true (by kernel_rfl)) (by unfold Func.isWrapper; first | (rw [if_pos (by decide +kernel)]; kernel_rfl) | (rw [if_neg (by decide +kernel)]; exact ⟨rfl, rfl⟩))
    (fun os started H enc _ => lifted os started H enc)
theorem card : Rows.FnExactSheetGetCardSaid :=
  Claim7.holds_tied_plain_at .later [] Rows.fnExactSheetGetCard.laidKinds true Rows.fnExactSheetGetCard.stood.harness false
    over (fun _ h => by cases h) (by kernel_rfl) (fun _ h => by cases h) fnExactSheetGet_row_tie rfl ⟨rfl, rfl⟩ (by kernel_rfl) rfl
    (fun f fn hf hfn => by
      obtain rfl : f = 8 := Option.some.inj ((show Tryd.prog.funcNamed "loop.example/wharfsheet/laws.FnExactSheetGet" = some 8 by kernel_rfl).symm.trans hf) |>.symm
      obtain rfl : fn = Tryd.f8 := (Option.some.inj (Tryd.func8.symm.trans hfn)).symm
      exact ⟨by kernel_rfl, fun j t ht => by
        rw [Tryd.params8] at ht
        have hs : ∀ t ∈ [42, 9, 9, 9], Tryd.prog.wantsStandIn t = false := by
          intro t ht
          simp only [List.mem_cons, List.mem_nil_iff, or_false] at ht
          rcases ht with rfl | rfl | rfl | rfl <;> kernel_rfl
        exact hs t (List.mem_of_getElem? (by simpa using ht))⟩)
    (by kernel_rfl)
end Go.Proofs.YtmcdnpooclelgaaDoor.fnExactSheetGet
namespace Go.Proofs.YtmcdnpooclelgaaDoor
theorem fnExactSheetGet_card : Rows.FnExactSheetGetCardSaid := fnExactSheetGet.card
#print axioms fnExactSheetGet_card
end Go.Proofs.YtmcdnpooclelgaaDoor
