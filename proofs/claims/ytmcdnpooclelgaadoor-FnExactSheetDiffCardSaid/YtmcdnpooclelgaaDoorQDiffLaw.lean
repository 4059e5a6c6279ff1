/- What is proved: the law FnExactSheetDiff answers true at every pair of sheets: the program's SheetDiff gives what the specification's gives, in changes that share no memory with the sheets'. No condition. -/
import Derived.Deep.RegionHeld3
import Derived.Test.YtmcdnpooclelgaaDoorCards
import Derived.Test.YtmcdnpooclelgaaDoorTie
import Derived.WalkKit
import Derived.ProofKit
import Derived.OpenShut
import Derived.LaidMore
import Derived.Lay
import Derived.LaidOnce
import Derived.ShutString
import Derived.ChangeOld
import Derived.Below
import Derived.SizedLaws
import Derived.Stop.Joined
import Derived.Test.YtmcdnpooclelgaaDoorQDiff1
import Derived.Test.YtmcdnpooclelgaaDoorQDiff2
import Derived.Test.YtmcdnpooclelgaaDoorQDiff3
import Derived.Test.YtmcdnpooclelgaaDoorQDiff4
import Derived.Test.YtmcdnpooclelgaaDoorQDiff5
import Derived.Test.YtmcdnpooclelgaaDoorQDiff6
namespace Go.Proofs.YtmcdnpooclelgaaDoor.fnExactSheetDiff
open Go.ChangeShapes Go.WideShapes Go.ChangeAt Go.RowKit
open Go.ChangeMaps (open_string shut_string)
set_option linter.unusedVariables false
open YtmcdnpooclelgaaDoorW.PrintWords PAll
theorem chs_reads {w : World} {b : Nat} {A : Option Addr} {n c : Nat} {xs : List S114} {F : List Nat} (h : changesS.ow w b [.slice A n c] xs F) : n = xs.length ∧ xs.length ≤ c ∧ YtmcdnpooclelgaaDoorW.PrintWords.Kd.C k114 w A xs.length xs := by
  obtain ⟨A', c', hv, hl, hC⟩ := changesS.ord h
  injection hv with hv _
  injection hv with h1 h2 h3
  subst h1 h2 h3
  exact ⟨rfl, hl, hC⟩
theorem szSheet_le (bs : List PAll.S128) (left : Int) (hb : KBs bs) (h0 : 0 ≤ left) (h9 : left ≤ 1048576) : ∃ r : Int, Ev (fun k => laws_szSheet.f k bs left) r ∧ (0 ≤ r → r ≤ left ∧ KFs bs ∧ cntAll cntBlock (cvBs bs) ≤ 2097152) := by
  have hn := hb.1
  have e : wrap64 (left - (bs.length : Int)) = left - bs.length := w64 (by omega) (by omega)
  have inner : ∃ r : Int, Ev (fun k => laws_szSheetBlockS.f k bs left) r ∧ (0 ≤ r → r ≤ left ∧ KFs bs ∧ cntAll cntBlock (cvBs bs) ≤ 2097152) := by
    unfold laws_szSheetBlockS.f
    simp only [e]
    by_cases q : left - (bs.length : Int) < 0
    · simp only [if_pos q]; exact ⟨-1, Ev.now _, fun h => by omega⟩
    · simp only [if_neg q]
      obtain ⟨R, hR, hle⟩ := szBlocks_l0t bs hb bs.length 0 (left - bs.length) (by omega) (by omega) (by omega)
      refine ⟨R, hR, fun h => ?_⟩
      obtain ⟨h1, h2⟩ := hle h
      rw [List.drop_zero] at h1 h2
      exact ⟨by omega, ⟨by omega, h2⟩, by rw [cnt_cvB]; omega⟩
  obtain ⟨r, hr, hle⟩ := inner
  unfold laws_szSheet.f
  by_cases q2 : r < 0
  · exact ⟨-1, Ev.bind hr (by simp only [if_pos q2]; exact Ev.now _), fun h => by omega⟩
  · exact ⟨r, Ev.bind hr (by simp only [if_neg q2]; exact Ev.now _), fun h => hle h⟩
set_option maxRecDepth 100000 in
set_option maxHeartbeats 8000000 in
theorem walk (A0 : Option Addr) (c0 : Nat) (a0 : List PAll.S128) (A1 : Option Addr) (c1 : Nat) (a1 : List PAll.S128) (w : World) (z0 : a0.length ≤ c0) (y0 : YtmcdnpooclelgaaDoorW.PrintWords.Kd.C PAll.k128 w A0 a0.length a0) (b0 : PAll.BBs a0) (z1 : a1.length ≤ c1) (y1 : YtmcdnpooclelgaaDoorW.PrintWords.Kd.C PAll.k128 w A1 a1.length a1) (b1 : PAll.BBs a1) :
    Calls Tryd.prog 12 #[.agg #[.slice A0 a0.length c0], .agg #[.slice A1 a1.length c1]] w fun e w' => e = .returned (.bool true) ∧ Below w.heap.size w w' := by
  obtain ⟨r, hr, hle⟩ := szSheet_le a0 1048576 (KBs_of y0 b0) (by omega) (by omega)
  obtain ⟨k, hk⟩ := hr.rounds
  have SZ := Aside0.mk (fun w hC => laws_szSheet.calls k A0 c0 a0 1048576 r w hC z0 hk)
  have KB1 := KBs_of y1 b1
  have Y0 := Aside0.mk y0
  have Y1 := Aside0.mk y1
  clear hk hr y0 b0 y1 b1
  have s1 : (w.alloc (.cells #[.slice A0 a0.length c0] 42)).heap.size = w.heap.size + 1 := by simp
  have k1 := blk_alloc (blk_new w (.cells #[.slice A0 a0.length c0] 42)) (.cells #[.slice A1 a1.length c1] 42)
  have k2 := blk_new (w.alloc (.cells #[.slice A0 a0.length c0] 42)) (.cells #[.slice A1 a1.length c1] 42)
  rw [s1] at k2
  have a2 : Below w.heap.size w ((w.alloc (.cells #[.slice A0 a0.length c0] 42)).alloc (.cells #[.slice A1 a1.length c1] 42)) := ((Below.refl _ _).alloc (Nat.le_refl _) _).alloc (by simp) _
  by_cases q : r < 0
  · clear KB1 hle
    go_enter Tryd.func12, Tryd.ntmps12
    go_upto_region 1 with (fail)
    generalize (w.alloc (.cells #[.slice A0 a0.length c0] 42)).alloc (.cells #[.slice A1 a1.length c1] 42) = w0 at *
    have x0 : w0.cell? ⟨w.heap.size, 0, none⟩ = some (.slice A0 a0.length c0) := (blk_cell k1 0).trans rfl
    go_wp2_with fail
    refine (SZ.out _ (Kd.C_below Y0.out a2)).mono ?_
    rintro e w1 ⟨rfl, hb1⟩
    have B1 := Aside0.mk (a2.trans (hb1.mono a2.size))
    clear hb1
    go_wp2
    go_ret
    exact ⟨rfl, B1.out⟩
  · obtain ⟨hr1, hf0, hcnt0⟩ := hle (by omega)
    obtain ⟨r', hr', hle'⟩ := szSheet_le a1 r KB1 (by omega) (by omega)
    obtain ⟨k', hk'⟩ := hr'.rounds
    have SZ' := Aside0.mk (fun w hC => laws_szSheet.calls k' A1 c1 a1 r r' w hC z1 hk')
    clear hk' hr' hle KB1
    by_cases q' : r' < 0
    · clear hle' hcnt0 hf0
      go_enter Tryd.func12, Tryd.ntmps12
      go_upto_region 1 with (fail)
      generalize (w.alloc (.cells #[.slice A0 a0.length c0] 42)).alloc (.cells #[.slice A1 a1.length c1] 42) = w0 at *
      have K1 := Aside0.mk k1
      have K2 := Aside0.mk k2
      have x0 : w0.cell? ⟨w.heap.size, 0, none⟩ = some (.slice A0 a0.length c0) := (blk_cell k1 0).trans rfl
      clear k1 k2
      go_wp2_with fail
      refine (SZ.out _ (Kd.C_below Y0.out a2)).mono ?_
      rintro e w1 ⟨rfl, hb1⟩
      have B1 := Aside0.mk (a2.trans (hb1.mono a2.size))
      have x1 : w1.cell? ⟨w.heap.size + 1, 0, none⟩ = some (.slice A1 a1.length c1) := (blk_cell (blk_below K2.out hb1) 0).trans rfl
      clear hb1 x0
      go_wp2_with fail
      refine (SZ'.out _ (Kd.C_below Y1.out B1.out)).mono ?_
      rintro e w2 ⟨rfl, hb2⟩
      have B2 := Aside0.mk (B1.out.trans (hb2.mono B1.out.size))
      clear hb2
      go_wp2
      go_ret
      exact ⟨rfl, B2.out⟩
    · obtain ⟨_, hf1, hcnt1⟩ := hle' (by omega)
      have hs0 := small_cv a0 hf0
      have hs1 := small_cv a1 hf1
      have hsp := diffP_small (cvBs a0) (cvBs a1) hcnt0 hcnt1 hs1
      have hcp := diffP_cnt (cvBs a0) (cvBs a1) hcnt0 hcnt1
      have TS0 := Aside0.mk (fun w hC => toSheet_any a0 hf0 A0 c0 w hC)
      have TS1 := Aside0.mk (fun w hC => toSheet_any a1 hf1 A1 c1 w hC)
      have SP := Aside0.mk (fun w D d E f hC hl hC' hl' => specDiff_any D E d f (cvBs a0) (cvBs a1) w hC hl hC' hl' hs0 hs1)
      have IP := Aside0.mk (fun w D d E f hC hl hC' hl' => implDiff_any D E d f (cvBs a0) (cvBs a1) w hC hl hC' hl' hs0 hs1)
      have EQ0 := Aside0.mk (fun w A B c d hA hB => eqSheet_c (cvBs a0) hs0 A B c d w hA hB)
      have EQ1 := Aside0.mk (fun w A B c d hA hB => eqSheet_c (cvBs a1) hs1 A B c d w hA hB)
      have EP := Aside0.mk (fun w A B c d hA hB => eqChanges_c (diffP (cvBs a0) (cvBs a1)) hsp A B c d w hA hB)
      clear hle' hf0 hf1 hs0 hs1 hsp
      generalize diffP (cvBs a0) (cvBs a1) = ps at *
      generalize cvBs a0 = xs at *
      generalize cvBs a1 = ys at *
      have ML := Aside0.mk (fun v F b w ho => markChanges_any v ps F b 1 w ho (by omega) (by omega))
      have HM := Aside0.mk (fun A c w hC => heldChanges_any A c ps 1 w hC (by omega) (by omega))
      have MS0 := Aside0.mk (fun A c F b w ho => markSheet_any A c xs F b 1 w ho (by omega) (by omega))
      have MS1 := Aside0.mk (fun A c F b w ho => markSheet_any A c ys F b (1 + ((cntAll cntBlock xs : Nat) : Int)) w ho (by omega) (by omega))
      have hm0 : (0 : Int) ≤ 1 + ((cntAll cntChange ps : Nat) : Int) := by omega
      have hn0 : (0 : Int) ≤ 1 + ((cntAll cntBlock xs : Nat) : Int) + ((cntAll cntBlock ys : Nat) : Int) := by omega
      have hml := markAll_len mkChange cntChange ps 1
      clear hcp hcnt0 hcnt1
      generalize 1 + ((cntAll cntChange ps : Nat) : Int) = m at *
      generalize 1 + ((cntAll cntBlock xs : Nat) : Int) + ((cntAll cntBlock ys : Nat) : Int) = m'' at *
      generalize 1 + ((cntAll cntBlock xs : Nat) : Int) = m' at *
      generalize markAll mkChange cntChange ps 1 = ms at *
      have HML := Aside0.mk hml
      clear hml
      go_enter Tryd.func12, Tryd.ntmps12
      go_upto_region 1 with (fail)
      generalize (w.alloc (.cells #[.slice A0 a0.length c0] 42)).alloc (.cells #[.slice A1 a1.length c1] 42) = w0 at *
      have K1 := Aside0.mk k1
      have K2 := Aside0.mk k2
      have x0 : w0.cell? ⟨w.heap.size, 0, none⟩ = some (.slice A0 a0.length c0) := (blk_cell k1 0).trans rfl
      clear k1 k2
      go_wp2_with fail
      refine (SZ.out _ (Kd.C_below Y0.out a2)).mono ?_
      rintro e w1 ⟨rfl, hb1⟩
      have B1 := Aside0.mk (a2.trans (hb1.mono a2.size))
      have K11 := Aside0.mk (blk_below K1.out hb1)
      have K21 := Aside0.mk (blk_below K2.out hb1)
      have x1 : w1.cell? ⟨w.heap.size + 1, 0, none⟩ = some (.slice A1 a1.length c1) := (blk_cell K21.out 0).trans rfl
      clear hb1 x0 K1 K2 SZ
      go_wp2_with fail
      refine (SZ'.out _ (Kd.C_below Y1.out B1.out)).mono ?_
      rintro e w2 ⟨rfl, hb2⟩
      have B2 := Aside0.mk (B1.out.trans (hb2.mono B1.out.size))
      have K12 := Aside0.mk (blk_below K11.out hb2)
      have K22 := Aside0.mk (blk_below K21.out hb2)
      have Y02 := Aside0.mk (Kd.C_below Y0.out B2.out)
      have Y12 := Aside0.mk (Kd.C_below Y1.out B2.out)
      clear hb2 x1 K11 K21 SZ' B1 a2
      have x0 : w2.cell? ⟨w.heap.size, 0, none⟩ = some (.slice A0 a0.length c0) := (blk_cell K12.out 0).trans rfl
      have x1 : w2.cell? ⟨w.heap.size + 1, 0, none⟩ = some (.slice A1 a1.length c1) := (blk_cell K22.out 0).trans rfl
      go_upto_region 8 with (fail)
      go_region_held3 (fun w' => w'.cell? ⟨w.heap.size, 0, none⟩ = some (.slice A0 a0.length c0) ∧ w'.cell? ⟨w.heap.size + 1, 0, none⟩ = some (.slice A1 a1.length c1)) (first | go_keep | exact ⟨pw_cell_below hbl x0, pw_cell_below hbl x1⟩ | exact ⟨pw_cell_below h24 x0, pw_cell_below h24 x1⟩ | exact ⟨pw_cell_below h25 x0, pw_cell_below h25 x1⟩) (first | (go_at_call 28; refine (TS0.out _ (Kd.C_below Y02.out (below_drew (Below.refl _ _)))).mono ?_; rintro e w3 ⟨v, G3, rfl, ho, hbl⟩; obtain ⟨E2, f2, rfl⟩ := own_form ho; have hR3 := (blocks_reads ho).2; have h23 := (below_drew (Below.refl w2.heap.size w2)).trans (hbl.mono (Nat.le_refl _)); clear ho) | (go_at_call 28; refine (TS1.out _ (Kd.C_below Y12.out h23)).mono ?_; rintro e w4 ⟨v, G4, rfl, ho, hb4⟩; obtain ⟨E3, f3, rfl⟩ := own_form ho; have hR4 := (blocks_reads ho).2; have h24 := h23.trans (hb4.mono h23.size); clear ho) | (go_at_call 48; refine (SP.out _ E2 f2 E3 f3 (Kd.C_below hR3.2 hb4) hR3.1 hR4.2 hR4.1).mono ?_; rintro e w5 ⟨v5, rfl, ⟨R, rd, rfl, _, hCR⟩, hb5⟩; have h25 := h24.trans (hb5.mono h24.size)))
      have B5 := Aside0.mk (B2.out.trans (h25.mono B2.out.size))
      have KA := Aside0.mk (blk_below K12.out h25)
      have KB := Aside0.mk (blk_below K22.out h25)
      have YA := Aside0.mk (Kd.C_below Y02.out h25)
      have YB := Aside0.mk (Kd.C_below Y12.out h25)
      have CR := Aside0.mk hCR
      clear hbl hR3 h23 hb4 hR4 h24 hb5 hCR h25 x0 x1 K12 K22 Y02 Y12 SP Y0 Y1 B2
      go_upto_region 9 with (fail)
      have xa : w5.cell? ⟨w.heap.size, 0, none⟩ = some (.slice A0 a0.length c0) := (blk_cell KA.out 0).trans rfl
      go_wp2_with fail
      refine (TS0.out w5 YA.out).mono ?_
      rintro e w6 ⟨v, G6, rfl, ho, hb6⟩
      obtain ⟨E, f, rfl⟩ := own_form ho
      have hlE := (blocks_reads ho).2.1
      have a7 : Below w6.heap.size w6 (w6.alloc (.cells #[.slice E xs.length f] 47)) := (Below.refl _ _).alloc (Nat.le_refl _) _
      have D7 := Aside0.mk (hb6.trans (a7.mono hb6.size))
      have KE7 := Aside0.mk (blk_new w6 (.cells #[.slice E xs.length f] 47))
      have HE7 := Aside0.mk (blocksS.obelow ho a7)
      have hG6 : Aside0 (∀ g ∈ G6, w5.heap.size ≤ g ∧ g < w6.heap.size) := ⟨fun g hg => blocksS.oin ho g hg⟩
      have s56 : w5.heap.size ≤ w6.heap.size := hb6.size
      have s7 : (w6.alloc (.cells #[.slice E xs.length f] 47)).heap.size = w6.heap.size + 1 := by simp
      clear hb6 ho a7 xa
      go_upto_region 10 with (fail)
      generalize hg6 : w6.heap.size = g6 at *
      generalize w6.alloc (.cells #[.slice E xs.length f] 47) = w7 at *
      clear hg6
      have xb : w7.cell? ⟨w.heap.size + 1, 0, none⟩ = some (.slice A1 a1.length c1) := (blk_cell (blk_up KB.out D7.out (blk_lt KB.out)) 0).trans rfl
      go_wp2_with fail
      refine (TS1.out w7 (Kd.C_below YB.out D7.out)).mono ?_
      rintro e w8 ⟨v, G8, rfl, ho, hb8⟩
      obtain ⟨F, h, rfl⟩ := own_form ho
      have hlF := (blocks_reads ho).2.1
      have a9 : Below w8.heap.size w8 (w8.alloc (.cells #[.slice F ys.length h] 47)) := (Below.refl _ _).alloc (Nat.le_refl _) _
      have h79 := hb8.trans (a9.mono hb8.size)
      have D9 := Aside0.mk (D7.out.trans (h79.mono D7.out.size))
      have KE9 := Aside0.mk (blk_below KE7.out h79)
      have KF9 := Aside0.mk (blk_new w8 (.cells #[.slice F ys.length h] 47))
      have HE9 := Aside0.mk (blocksS.obelow HE7.out h79)
      have HF9 := Aside0.mk (blocksS.obelow ho a9)
      have s78 : w7.heap.size ≤ w8.heap.size := hb8.size
      have hG8 : Aside0 (∀ g ∈ G8, g6 < g ∧ g < w8.heap.size) := ⟨fun g hg => by have := blocksS.oin ho g hg; omega⟩
      have s9 : (w8.alloc (.cells #[.slice F ys.length h] 47)).heap.size = w8.heap.size + 1 := by simp
      clear hb8 ho a9 h79 xb D7 KE7 HE7
      go_upto_region 11 with (fail)
      generalize hg8 : w8.heap.size = g8 at *
      generalize w8.alloc (.cells #[.slice F ys.length h] 47) = w9 at *
      clear hg8
      have xe : w9.cell? ⟨g6, 0, none⟩ = some (.slice E xs.length f) := (blk_cell KE9.out 0).trans rfl
      have xf : w9.cell? ⟨g8, 0, none⟩ = some (.slice F ys.length h) := (blk_cell KF9.out 0).trans rfl
      go_wp2_with fail
      refine (IP.out w9 E f F h (blocks_reads HE9.out).2.2 hlE (blocks_reads HF9.out).2.2 hlF).mono ?_
      rintro e w10 ⟨v10, G10, rfl, ho10, hb10⟩
      obtain ⟨A10, d10, rfl⟩ := own_form ho10
      have D10 := Aside0.mk (D9.out.trans (hb10.mono D9.out.size))
      have KE10 := Aside0.mk (blk_below KE9.out hb10)
      have KF10 := Aside0.mk (blk_below KF9.out hb10)
      have HE10 := Aside0.mk (blocksS.obelow HE9.out hb10)
      have HF10 := Aside0.mk (blocksS.obelow HF9.out hb10)
      have HO10 := Aside0.mk ho10
      have hG10 : Aside0 (∀ g ∈ G10, g8 < g ∧ g < w10.heap.size) := ⟨fun g hg => by have := changesS.oin ho10 g hg; omega⟩
      clear hb10 ho10 xe xf D9 KE9 KF9 HE9 HF9
      go_wp2_with fail
      refine (EP.out _ A10 R d10 rd (chs_reads HO10.out).2.2 (Kd.C_below CR.out D10.out)).mono ?_
      rintro e w11 ⟨rfl, hb11⟩
      have D11 := Aside0.mk (D10.out.trans (hb11.mono D10.out.size))
      have KE11 := Aside0.mk (blk_below KE10.out hb11)
      have KF11 := Aside0.mk (blk_below KF10.out hb11)
      have HE11 := Aside0.mk (blocksS.obelow HE10.out hb11)
      have HF11 := Aside0.mk (blocksS.obelow HF10.out hb11)
      have HO11 := Aside0.mk (changesS.obelow HO10.out hb11)
      clear hb11 D10 KE10 KF10 HE10 HF10 HO10
      go_upto_region 14 with (fail)
      have xa : w11.cell? ⟨w.heap.size, 0, none⟩ = some (.slice A0 a0.length c0) := (blk_cell (blk_up KA.out D11.out (blk_lt KA.out)) 0).trans rfl
      have xe : w11.cell? ⟨g6, 0, none⟩ = some (.slice E xs.length f) := (blk_cell KE11.out 0).trans rfl
      have hC := (blocks_reads HE11.out).2.2
      go_region_held3 (fun w' => w'.cell? ⟨w.heap.size, 0, none⟩ = some (.slice A0 a0.length c0) ∧ w'.cell? ⟨g6, 0, none⟩ = some (.slice E xs.length f)) (first | go_keep | exact ⟨pw_cell_below hbl xa, pw_cell_below hbl xe⟩ | exact ⟨pw_cell_below hb (pw_cell_below hbl xa), pw_cell_below hb (pw_cell_below hbl xe)⟩) (first | (go_at_call 28; refine (TS0.out _ (Kd.C_below (Kd.C_below YA.out D11.out) (below_drew (Below.refl _ _)))).mono ?_; rintro e w12 ⟨v, G, rfl, ho, hbl⟩; obtain ⟨E2, f2, rfl⟩ := own_form ho; obtain ⟨_, _, hC2⟩ := blocks_reads ho; have h1 := Aside0.mk ((below_drew (Below.refl w11.heap.size w11)).trans (hbl.mono (Nat.le_refl _))); clear ho) | (go_at_call 30; refine (EQ0.out _ E E2 f f2 (Kd.C_below hC h1.out) hC2).mono ?_; rintro e w13 ⟨rfl, hb⟩))
      have h2 := Aside0.mk (h1.out.trans (hb.mono h1.out.size))
      have D13 := Aside0.mk (D11.out.trans (h2.out.mono D11.out.size))
      have KE13 := Aside0.mk (blk_below KE11.out h2.out)
      have KF13 := Aside0.mk (blk_below KF11.out h2.out)
      have HE13 := Aside0.mk (blocksS.obelow HE11.out h2.out)
      have HF13 := Aside0.mk (blocksS.obelow HF11.out h2.out)
      have HO13 := Aside0.mk (changesS.obelow HO11.out h2.out)
      clear hb hbl xa xe hC hC2 h1 h2 D11 KE11 KF11 HE11 HF11 HO11
      go_upto_region 16 with (fail)
      have xb : w13.cell? ⟨w.heap.size + 1, 0, none⟩ = some (.slice A1 a1.length c1) := (blk_cell (blk_up KB.out D13.out (blk_lt KB.out)) 0).trans rfl
      have xe : w13.cell? ⟨g8, 0, none⟩ = some (.slice F ys.length h) := (blk_cell KF13.out 0).trans rfl
      have hC := (blocks_reads HF13.out).2.2
      go_region_held3 (fun w' => w'.cell? ⟨w.heap.size + 1, 0, none⟩ = some (.slice A1 a1.length c1) ∧ w'.cell? ⟨g8, 0, none⟩ = some (.slice F ys.length h)) (first | go_keep | exact ⟨pw_cell_below hbl xb, pw_cell_below hbl xe⟩ | exact ⟨pw_cell_below hb (pw_cell_below hbl xb), pw_cell_below hb (pw_cell_below hbl xe)⟩) (first | (go_at_call 28; refine (TS1.out _ (Kd.C_below (Kd.C_below YB.out D13.out) (below_drew (Below.refl _ _)))).mono ?_; rintro e w14 ⟨v, G, rfl, ho, hbl⟩; obtain ⟨E2, f2, rfl⟩ := own_form ho; obtain ⟨_, _, hC2⟩ := blocks_reads ho; have h1 := Aside0.mk ((below_drew (Below.refl w13.heap.size w13)).trans (hbl.mono (Nat.le_refl _))); clear ho) | (go_at_call 30; refine (EQ1.out _ F E2 h f2 (Kd.C_below hC h1.out) hC2).mono ?_; rintro e w15 ⟨rfl, hb⟩))
      have h2 := Aside0.mk (h1.out.trans (hb.mono h1.out.size))
      have D15 := Aside0.mk (D13.out.trans (h2.out.mono D13.out.size))
      have KE15 := Aside0.mk (blk_below KE13.out h2.out)
      have KF15 := Aside0.mk (blk_below KF13.out h2.out)
      have HE15 := Aside0.mk (blocksS.obelow HE13.out h2.out)
      have HF15 := Aside0.mk (blocksS.obelow HF13.out h2.out)
      have HO15 := Aside0.mk (changesS.obelow HO13.out h2.out)
      clear hb hbl xb xe hC hC2 h1 h2 D13 KE13 KF13 HE13 HF13 HO13
      have xe : w15.cell? ⟨g6, 0, none⟩ = some (.slice E xs.length f) := (blk_cell KE15.out 0).trans rfl
      go_wp2_with fail
      refine (MS0.out E f G6 _ w15 HE15.out).mono ?_
      rintro e w16 ⟨rfl, hu⟩
      have D16 := Aside0.mk (D15.out.trans (hu.below D15.out.size (fun g hg => (hG6.out g hg).1)))
      have KF16 := Aside0.mk (blk_upd KF15.out hu (fun h => by have := (hG6.out _ h).2; omega))
      have HF16 := Aside0.mk (blocksS.oupd HF15.out hu (fun g hg hg' => by have := (hG8.out g hg).1; have := (hG6.out g hg').2; omega))
      have HO16 := Aside0.mk (changesS.oupd HO15.out hu (fun g hg hg' => by have := (hG10.out g hg).1; have := (hG6.out g hg').2; omega))
      clear hu xe D15 KE15 KF15 HE15 HF15 HO15
      have xf : w16.cell? ⟨g8, 0, none⟩ = some (.slice F ys.length h) := (blk_cell KF16.out 0).trans rfl
      go_wp2_with fail
      refine (MS1.out F h G8 _ w16 HF16.out).mono ?_
      rintro e w17 ⟨rfl, hu⟩
      have D17 := Aside0.mk (D16.out.trans (hu.below D16.out.size (fun g hg => by have := (hG8.out g hg).1; omega)))
      have HO17 := Aside0.mk (changesS.oupd HO16.out hu (fun g hg hg' => by have := (hG10.out g hg).1; have := (hG8.out g hg').2; omega))
      clear hu xf D16 KF16 HF16 HO16
      go_wp2_with fail
      refine (EP.out _ A10 R d10 rd (chs_reads HO17.out).2.2 (Kd.C_below CR.out D17.out)).mono ?_
      rintro e w18 ⟨rfl, hb⟩
      have D18 := Aside0.mk (D17.out.trans (hb.mono D17.out.size))
      have HO18 := Aside0.mk (changesS.obelow HO17.out hb)
      clear hb D17 HO17
      go_wp2_with fail
      refine (ML.out (.slice A10 ps.length d10) G10 _ w18 HO18.out).mono ?_
      rintro e w19 ⟨rfl, ho, hu⟩
      have D19 := Aside0.mk (D18.out.trans (hu.below D18.out.size (fun g hg => by have := (hG10.out g hg).1; omega)))
      have HC19 := Aside0.mk (chs_reads ho).2.2
      clear hu ho HO18 D18
      go_wp2_with fail
      refine (HM.out A10 d10 w19 HC19.out).mono ?_
      rintro e w20 ⟨rfl, hb⟩
      have D20 := Aside0.mk (D19.out.trans (hb.mono D19.out.size))
      have HC20 := Aside0.mk (Kd.C_below HC19.out hb)
      clear hb D19 HC19
      go_upto_region 31 with (fail)
      have xa : w20.cell? ⟨w.heap.size, 0, none⟩ = some (.slice A0 a0.length c0) := (blk_cell (blk_up KA.out D20.out (blk_lt KA.out)) 0).trans rfl
      have xb : w20.cell? ⟨w.heap.size + 1, 0, none⟩ = some (.slice A1 a1.length c1) := (blk_cell (blk_up KB.out D20.out (blk_lt KB.out)) 0).trans rfl
      have YA2 := Aside0.mk (Kd.C_below YA.out D20.out)
      have YB2 := Aside0.mk (Kd.C_below YB.out D20.out)
      go_region_held3 (fun w' => w'.cell? ⟨w.heap.size, 0, none⟩ = some (.slice A0 a0.length c0) ∧ w'.cell? ⟨w.heap.size + 1, 0, none⟩ = some (.slice A1 a1.length c1)) (first | go_keep | exact ⟨pw_cell_below hbl xa, pw_cell_below hbl xb⟩ | exact ⟨pw_cell_below h22 xa, pw_cell_below h22 xb⟩ | exact ⟨pw_cell_below h23 xa, pw_cell_below h23 xb⟩) (first | (go_at_call 28; refine (TS0.out _ (Kd.C_below YA2.out (below_drew (Below.refl _ _)))).mono ?_; rintro e w21 ⟨v, G3, rfl, ho, hbl⟩; obtain ⟨E2, f2, rfl⟩ := own_form ho; have hR3 := (blocks_reads ho).2; have h21 := (below_drew (Below.refl w20.heap.size w20)).trans (hbl.mono (Nat.le_refl _)); clear ho) | (go_at_call 28; refine (TS1.out _ (Kd.C_below YB2.out h21)).mono ?_; rintro e w22 ⟨v, G4, rfl, ho, hb4⟩; obtain ⟨E3, f3, rfl⟩ := own_form ho; have hR4 := (blocks_reads ho).2; have h22 := h21.trans (hb4.mono h21.size); clear ho) | (go_at_call 49; refine (IP.out _ E2 f2 E3 f3 (Kd.C_below hR3.2 hb4) hR3.1 hR4.2 hR4.1).mono ?_; rintro e w23 ⟨v5, G5, rfl, ho5, hb5⟩; obtain ⟨A23, d23, rfl⟩ := own_form ho5; have h23 := h22.trans (hb5.mono h22.size)))
      have D23 := Aside0.mk (D20.out.trans (h23.mono D20.out.size))
      have HC23 := Aside0.mk (Kd.C_below HC20.out h23)
      have C23 := Aside0.mk (chs_reads ho5).2.2
      clear hbl hR3 h21 hb4 hR4 h22 hb5 ho5 h23 xa xb D20 HC20 YA2 YB2
      go_wp2_with fail
      refine (EP.out _ A23 R d23 rd C23.out (Kd.C_below CR.out D23.out)).mono ?_
      rintro e w24 ⟨rfl, hb⟩
      have D24 := Aside0.mk (D23.out.trans (hb.mono D23.out.size))
      have HC24 := Aside0.mk (Kd.C_below HC23.out hb)
      clear hb D23 HC23 C23
      go_wp2_with fail
      refine (HM.out A10 d10 w24 HC24.out).mono ?_
      rintro e w25 ⟨rfl, hb⟩
      have D25 := Aside0.mk (D24.out.trans (hb.mono D24.out.size))
      clear hb D24 HC24
      go_wp2
      go_ret
      exact ⟨rfl, B5.out.trans (D25.out.mono B5.out.size)⟩
theorem own : ownKnob Tryd.prog.godebug = none := by kernel_rfl
theorem laidOut : laidOutB Tryd.prog = true := by kernel_rfl
set_option maxRecDepth 100000 in
theorem door_met (os : Os) (args : Array Value) : laidMetH Tryd.prog Rows.fnExactSheetDiffRow.laid ((World.laidAll Tryd.prog os Rows.fnExactSheetDiffRow.laid).forCall (fun _ _ => 0) ⟨#[], args, []⟩).memory := by
  rw [MakeChecks.laidMetH_plain _ _ _ (by kernel_rfl)]
  exact laidMet_laidAll _ (by kernel_rfl) (by kernel_rfl)
set_option maxRecDepth 100000 in
theorem lifted (os : Os) (started : os.Started) (H : Type) (enc : TypeId × Value → H) :
    ReturnsInHanded {} Tryd.checked os 12 .any (fun w args => (Rows.fnExactSheetDiffSpec.pre enc Tryd.prog Tryd.f12 [] false w args ∧ laidMetH Tryd.prog Rows.fnExactSheetDiffRow.laid w) ∧ sizedMet enc Tryd.prog Tryd.f12 (OpenSpec.ofChange Rows.fnExactSheetDiffSpec) false w args) (Rows.fnExactSheetDiffSpec.post enc Tryd.prog Tryd.f12 false true false false) := by
  refine deep_of_change (C := Tryd.checked) (X := fun w _ => laidMetH Tryd.prog Rows.fnExactSheetDiffRow.laid w) own started (by kernel_rfl) Tryd.func12
    (ChangeSpec.witness_shaped (enc := enc) (C := Tryd.checked) (os := os) (X := fun w _ => laidMetH Tryd.prog Rows.fnExactSheetDiffRow.laid w) false (World.laidAll Tryd.prog os Rows.fnExactSheetDiffRow.laid) #[.agg #[.slice none 0 0], .agg #[.slice none 0 0]] 8 rfl (World.shaped_of_ZipB (by kernel_rfl) (by kernel_rfl)) (by kernel_rfl) (by kernel_rfl) (by kernel_rfl) (door_met os _)) ?_
  intro W base args ds gs before hval0 hW hcnd hsz0 hsh _
  have hsz : (DataW.weightsEach Tryd.prog (Tryd.f12.params.toList ++ Rows.fnExactSheetDiffSpec.plain.varTypes Tryd.prog) (ds ++ gs)).all (· ≤ reachBytes) = true := hsz0
  have hval : ∀ (j : Nat) t v, Tryd.f12.params[j]? = some t → args[j]? = some v → Value.okWide Tryd.prog W .any base t v := hval0
  have hW' := hW
  obtain ⟨p, q, hA0, hV, rfl, hfz, hnd⟩ := hW
  have hA : DataW.TrodAll enc Tryd.prog W 0 (fun _ => true) true Tryd.f12.params.toList args.toList ds p := hA0
  rw [Tryd.params12] at hA hval hsz
  obtain ⟨v0, vs0, d0, ds0, p0, q0, hargs, rfl, rfl, h0, r0⟩ := trodAll_cons hA
  obtain ⟨v1, vs1, d1, ds1, p1, q1, rfl, rfl, rfl, h1, r1⟩ := trodAll_cons r0
  obtain ⟨rfl, rfl, rfl⟩ := trodAll_nil r1
  obtain rfl : args = #[v0, v1] := by cases args; simp_all
  obtain ⟨rfl, rfl⟩ := trodVars_none hV
  have k0 := h0
  have lt0 : ∀ x ∈ p0, x.block < W.heap.size := by obtain ⟨m, hm⟩ := k0; exact DataW.trod_lt m _ _ _ hm
  obtain ⟨A0, c0, a0, rfl, y0, z0, w0⟩ := PAll.open_sheet (hval 0 42 v0 rfl rfl) h0
  have k1 := h1
  have lt1 : ∀ x ∈ p1, x.block < W.heap.size := by obtain ⟨m, hm⟩ := k1; exact DataW.trod_lt m _ _ _ hm
  obtain ⟨A1, c1, a1, rfl, y1, z1, w1⟩ := PAll.open_sheet (hval 1 42 v1 rfl rfl) h1
  clear hA0 hval0 hsz0 hsz
  refine (walk A0 c0 a0 A1 c1 a1 W y0 z0 w0 y1 z1 w1).mono fun e W' ⟨he, bel⟩ => ?_
  subst he
  exact ⟨_, rfl, _, _, _, [], _, [], hW', trodAll_mk1 (shut_bool Tryd.underlying4 _), (trodAll_cons_mk (Below.trod laidOut (by kernel_rfl) (of_decide_eq_true (by kernel_rfl)) k0 bel lt0) (trodAll_cons_mk (Below.trod laidOut (by kernel_rfl) (of_decide_eq_true (by kernel_rfl)) k1 bel lt1) trodAll_mk0)), rfl, bel.frame _, fun h => by cases h⟩
theorem over : Rows.fnExactSheetDiffRow.holds Tryd.pinned (OpenSpec.ofChange Rows.fnExactSheetDiffSpec) :=
  OpenClaim.holds_of_wide 12 Tryd.f12 rfl rfl rfl rfl rfl rfl rfl ⟨rfl, rfl, rfl, rfl, rfl⟩ rfl rfl rfl rfl rfl (by kernel_rfl) Tryd.func12 (by kernel_rfl)
    (of_decide_eq_true (by kernel_rfl)) (by unfold Func.isWrapper; first | (rw [if_pos (by decide +kernel)]; kernel_rfl) | (rw [if_neg (by decide +kernel)]; exact ⟨rfl, rfl⟩))
    (fun os started H enc _ => lifted os started H enc)
theorem card : Rows.FnExactSheetDiffCardSaid :=
  Claim7.holds_tied_plain_at .later [] Rows.fnExactSheetDiffCard.laidKinds true Rows.fnExactSheetDiffCard.stood.harness false
    over (fun _ h => by cases h) (by kernel_rfl) (fun _ h => by cases h) fnExactSheetDiff_row_tie rfl ⟨rfl, rfl⟩ (by kernel_rfl) rfl
    (fun f fn hf hfn => by
      obtain rfl : f = 12 := Option.some.inj ((show Tryd.prog.funcNamed "loop.example/wharfsheet/laws.FnExactSheetDiff" = some 12 by kernel_rfl).symm.trans hf) |>.symm
      obtain rfl : fn = Tryd.f12 := (Option.some.inj (Tryd.func12.symm.trans hfn)).symm
      exact ⟨by kernel_rfl, fun j t ht => by
        rw [Tryd.params12] at ht
        have hs : ∀ t ∈ [42, 42], Tryd.prog.wantsStandIn t = false := by
          intro t ht
          simp only [List.mem_cons, List.mem_nil_iff, or_false] at ht
          rcases ht with rfl | rfl <;> kernel_rfl
        exact hs t (List.mem_of_getElem? (by simpa using ht))⟩)
    (by kernel_rfl)
end Go.Proofs.YtmcdnpooclelgaaDoor.fnExactSheetDiff
namespace Go.Proofs.YtmcdnpooclelgaaDoor
theorem fnExactSheetDiff_card : Rows.FnExactSheetDiffCardSaid := fnExactSheetDiff.card
#print axioms fnExactSheetDiff_card
end Go.Proofs.YtmcdnpooclelgaaDoor
