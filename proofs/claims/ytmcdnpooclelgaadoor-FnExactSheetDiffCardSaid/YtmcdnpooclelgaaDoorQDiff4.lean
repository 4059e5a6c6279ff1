/- Texts of this claim, packed: contracts of functions and plain lemmas that the law is proved from. -/
import Derived.Deep.LoopGhost
import Derived.Deep.RegionHeld3
import Derived.Test.YtmcdnpooclelgaaDoorQDiff1
import Derived.Test.YtmcdnpooclelgaaDoorQDiff2
import Derived.Test.YtmcdnpooclelgaaDoorQDiff3
set_option linter.unusedVariables false
set_option linter.unusedSimpArgs false
namespace Go.Proofs.YtmcdnpooclelgaaDoor.PAll
open Go.RowKit Go.Proofs.YtmcdnpooclelgaaDoorW.PrintWords Go.Proofs.YtmcdnpooclelgaaDoorW.PrintLast Go.Proofs.YtmcdnpooclelgaaDoorW.PrintMore
theorem many_at (kind key : ByteArray) (ws : List ByteArray) (h : fitsL kind key ws = true) : 0 ≤ placeL kind key ∧ placeL kind key < ((rulesL kind).length : Int) ∧ (rd_T36 (rulesL kind) (placeL kind key)).f2 = manyL kind key := by
 unfold fitsL at h
 unfold placeL manyL
 cases hk : lookL kind key with
 | none => rw [hk] at h; cases h
 | some p =>
  obtain ⟨r, i⟩ := p
  obtain ⟨_, _, _, h4⟩ := lookFrom_mem key _ _ _ _ hk
  rw [Nat.sub_zero] at h4
  have h5 := (List.getElem?_eq_some_iff.1 h4).1
  simp only
  refine ⟨by omega, by omega, ?_⟩
  unfold rd_T36
  rw [List.getD_eq_getElem?_getD, Int.toNat_natCast, h4]
  rfl
theorem lineLess_f (kind : ByteArray) (a b : S83) (ha : a.f1.length ≤ 1099511627776) (hb : b.f1.length ≤ 1099511627776) (A B : Option Addr) (c d : Nat) (w : World) (hA : Kd.C Kd.string w A a.f1.length a.f1) (hc : a.f1.length ≤ c) (hB : Kd.C Kd.string w B b.f1.length b.f1) (hd : b.f1.length ≤ d) :
  Calls Tryd.prog 114 #[.string kind, .agg #[.string a.f0, .slice A a.f1.length c], .agg #[.string b.f0, .slice B b.f1.length d]] w fun e w' => e = .returned (.bool (lineLt kind a b)) ∧ Below w.heap.size w w' := by
 obtain ⟨K, hk⟩ := (ev_l3LineLess kind a b ha hb).rounds
 exact spec_l3LineLess.calls K kind a.f0 A c a.f1 b.f0 B d b.f1 _ w hA hc hB hd hk
set_option maxRecDepth 100000 in
set_option maxHeartbeats 8000000 in
theorem linesOk_any (kind : ByteArray) (A : Option Addr) (c : Nat) (ls : List S83) (w : World) (hr : Kd.C k83 w A ls.length ls) (hf : fitB ls) :
  Calls Tryd.prog 72 #[.string kind, .slice A ls.length c] w fun e w' => e = .returned (.bool (linesOkL kind ls)) ∧ Below w.heap.size w w' := by
 have HR := Aside0.mk hr
 have HF := Aside0.mk hf
 have hn := hf.1
 clear hr hf
 go_enter Tryd.func72, Tryd.ntmps72
 go_wp2
 go_loopw [5] (fun v wr => ∃ k : Nat, v = .int .i64 k ∧ k ≤ ls.length ∧ Below w.heap.size w wr ∧ Aside0 (linesOkL kind ls = linesFrom kind (ls.take k) (ls.drop k))) (fun v _ => ls.length - (intOf v).toNat)
 case atStart => exact ⟨0, rfl, Nat.zero_le _, Below.refl _ _, ⟨rfl⟩⟩
 case round =>
  obtain ⟨k, rfl, hk, hB, hf⟩ := hrel
  by_cases hlt : k < ls.length
  ·obtain ⟨ad, A1, d1, rfl, hx0, hx1, hl1, hC1⟩ := line_at (Kd.C_below HR.out hB) k ls[k] (List.getElem?_eq_getElem hlt)
   have hstep := hf.out
   rw [List.drop_eq_getElem_cons hlt, linesFrom] at hstep
   have hW := HF.out.2 _ (List.getElem_mem hlt)
   have htk : ls.take k ++ [ls[k]] = ls.take (k + 1) := by rw [List.take_add_one, List.getElem?_eq_getElem hlt]; rfl
   rw [htk] at hstep
   have HLK := Aside0.mk (show ls[k]? = some ls[k] from List.getElem?_eq_getElem hlt)
   have L1 := Aside0.mk hl1
   have HC1 := Aside0.mk hC1
   have i1 : (k : Int) < (ls.length : Int) := by omega
   clear hf hC1 hl1 htk
   generalize ls[k] = l at *
   obtain ⟨f0, f1⟩ := l
   simp only at *
   have q0 := fun p : BW wr => p.cell hx0
   have q1 := fun p : BW wr => p.cell hx1
   have FC := fun p : BW wr => spec_SheetFits.calls kind f0 A1 d1 f1 _ p.w' (Kd.C_below HC1.out p.h) L1.out rfl
   cases hfit : fitsL kind f0 f1 with
   | false =>
    rw [hfit] at FC
    have HF2 : Aside0 (linesOkL kind ls = false) := ⟨by rw [hstep, hfit]; rfl⟩
    clear hfit hstep
    go_wp2_with fail
    refine wp_region_below (by kernel_rfl) (by kernel_rfl) ?_
    repeat ((with_reducible refine wpQuiet_step ?_); (with_reducible intro K hK); go_simp; first | ((with_reducible refine hK _ ?_); clear hK K) | ((with_reducible refine quiet_off (fun h => ?_) ?_); exact h; (with_reducible refine hK _ ?_); clear hK K) | (apply Exists.intro; refine ⟨fun _ => ?_, hK _ ?_⟩; (first | (go_at_call 19; exact BW.calls (FC _))); clear hK K))
    with_reducible refine wpQuiet_nil ?_
    intro wn hw'
    obtain ⟨⟨_, hBn⟩, rfl⟩ := hw'
    go_wp2
    go_ret
    exact ⟨retB HF2.out.symm, hB.trans (hBn.mono hB.size)⟩
   | true =>
    rw [hfit] at FC hstep
    rw [Bool.true_and] at hstep
    have PM := Aside0.mk (many_at kind f0 f1 hfit)
    clear hfit
    by_cases hk0 : k = 0
    case' pos =>
     have hpick : headOk kind (ls.take k) ⟨f0, f1⟩ = true := by subst hk0; exact headOk_nil kind _
     rw [hpick, Bool.true_and] at hstep
     have HST := Aside0.mk hstep
     have ik : ¬ ((k : Int) > 0) := by omega
     have ik2 : ¬ (0 < k) := by omega
     clear hstep hpick hk0
     go_wp2_with fail
     refine wp_region_below (by kernel_rfl) (by kernel_rfl) ?_
     repeat ((with_reducible refine wpQuiet_step ?_); (with_reducible intro K hK); go_simp; first | ((with_reducible refine hK _ ?_); clear hK K) | ((with_reducible refine quiet_off (fun h => ?_) ?_); exact h; (with_reducible refine hK _ ?_); clear hK K) | (apply Exists.intro; refine ⟨fun _ => ?_, hK _ ?_⟩; (first | (go_at_call 19; exact BW.calls (FC _))); clear hK K))
     with_reducible refine wpQuiet_nil ?_
     intro wn hw'
     obtain ⟨⟨_, hBn⟩, rfl⟩ := hw'
     clear ik ik2 q0 q1 FC
    case' neg =>
     obtain ⟨j, hkj⟩ : ∃ j, k = j + 1 := ⟨k - 1, by omega⟩
     have hjl : j < ls.length := by omega
     obtain ⟨_, Ap, cp, hadp, hp0, hp1, hlp, hCp⟩ := line_at (Kd.C_below HR.out hB) j ls[j] (List.getElem?_eq_getElem hjl)
     injection hadp with hadp
     subst hadp
     have hho : headOk kind (ls.take k) ⟨f0, f1⟩ = lineLt kind ls[j] ⟨f0, f1⟩ := by rw [hkj]; exact headOk_take kind ls j ls[j] _ (List.getElem?_eq_getElem hjl)
     rw [hho] at hstep
     have hWp := HF.out.2 _ (List.getElem_mem hjl)
     generalize ls[j] = pl at *
     have OC := fun p : BW wr => lineLess_f kind pl ⟨f0, f1⟩ hWp.2.1 hW.2.1 Ap A1 cp d1 p.w' (Kd.C_below hCp p.h) hlp (Kd.C_below HC1.out p.h) L1.out
     have qp0 := fun p : BW wr => p.cell hp0
     have qp1 := fun p : BW wr => p.cell hp1
     have ij : (j : Int) < (ls.length : Int) := by omega
     have ew : IntKind.i64.wrap ((k : Int) - 1) = (j : Int) := by rw [IntKind.wrap_i64]; omega
     have ik : (k : Int) > 0 := by omega
     have ik2 : 0 < k := by omega
     clear hp0 hp1 hCp hlp hk0 hho hWp hkj hjl
     cases hlt2 : lineLt kind pl ⟨f0, f1⟩
     case' false =>
      rw [hlt2] at OC
      have HF2 : Aside0 (linesOkL kind ls = false) := ⟨by rw [hstep, hlt2]; rfl⟩
      clear hlt2 hstep
      go_wp2_with fail
      refine wp_region_below (by kernel_rfl) (by kernel_rfl) ?_
      repeat ((with_reducible refine wpQuiet_step ?_); (with_reducible intro K hK); go_simp; first | ((with_reducible refine hK _ ?_); clear hK K) | ((with_reducible refine quiet_off (fun h => ?_) ?_); exact h; (with_reducible refine hK _ ?_); clear hK K) | (apply Exists.intro; refine ⟨fun _ => ?_, hK _ ?_⟩; (first | (go_at_call 19; exact BW.calls (FC _)) | (go_at_call 114; exact BW.calls (OC _))); clear hK K))
      with_reducible refine wpQuiet_nil ?_
      intro wn hw'
      obtain ⟨⟨_, hBn⟩, rfl⟩ := hw'
      go_wp2
      go_ret
      exact ⟨retB HF2.out.symm, hB.trans (hBn.mono hB.size)⟩
     case' true =>
      rw [hlt2] at OC
      rw [hlt2, Bool.true_and] at hstep
      have HST := Aside0.mk hstep
      clear hlt2 hstep
      go_wp2_with fail
      refine wp_region_below (by kernel_rfl) (by kernel_rfl) ?_
      repeat ((with_reducible refine wpQuiet_step ?_); (with_reducible intro K hK); go_simp; first | ((with_reducible refine hK _ ?_); clear hK K) | ((with_reducible refine quiet_off (fun h => ?_) ?_); exact h; (with_reducible refine hK _ ?_); clear hK K) | (apply Exists.intro; refine ⟨fun _ => ?_, hK _ ?_⟩; (first | (go_at_call 19; exact BW.calls (FC _)) | (go_at_call 114; exact BW.calls (OC _))); clear hK K))
      with_reducible refine wpQuiet_nil ?_
      intro wn hw'
      obtain ⟨⟨_, hBn⟩, rfl⟩ := hw'
      clear ik ik2 ew ij q0 q1 FC OC qp0 qp1
    all_goals
     have HBn := Aside0.mk (hB.trans (hBn.mono hB.size))
     have hx0n : wn.cell? (ad.add (k * 2)) = some (.string f0) := pw_cell_below hBn hx0
     have HCn := Aside0.mk (Kd.C_below HR.out HBn.out)
     obtain ⟨K2, hk2⟩ := (ev_l2Rule kind f0).rounds
     have p0 := PM.out
     have LU0 := fun w => spec_l2Rule.calls K2 kind f0 (placeL kind f0) w hk2
     have hcw := fun m => cntKey_snoc f0 (ls.take m)
     have htm : linesOkL kind ls = (!((!manyL kind f0 && decide (1 < cntKey f0 (ls.take (k + 1)))) || decide (10 < cntKey f0 (ls.take (k + 1)))) && linesFrom kind (ls.take (k + 1)) (ls.drop (k + 1))) := HST.out
     have HTM := Aside0.mk htm
     have hrl := rulesL_len kind
     generalize manyL kind f0 = mm at *
     obtain ⟨q, hq⟩ : ∃ q : Nat, placeL kind f0 = (q : Int) := ⟨(placeL kind f0).toNat, by omega⟩
     rw [hq] at p0 LU0
     have LU := Aside0.mk LU0
     obtain ⟨_, p2, p3⟩ := p0
     have i5 : (q : Int) < ((rulesL kind).length : Int) := p2
     have i6 : (0 : Int) ≤ (q : Int) := by omega
     have P3 := Aside0.mk p3
     have RU : Aside0 (∀ w, Calls Tryd.prog 13 #[.string kind] w (fun e w' => ∃ a5 d5, e = .returned (.slice (some a5) (rulesL kind).length d5) ∧ w'.cell? ⟨(a5.add (q * 4)).block, (a5.add (q * 4)).off + 2, none⟩ = some (.bool mm) ∧ Below w.heap.size w w')) := ⟨fun w => by
      refine (specRules_any kind w).mono ?_
      rintro e w5 ⟨v5, rfl, hR5, hb5⟩
      obtain ⟨A5, d5, rfl⟩ := Kd.R_slice hR5
      obtain ⟨a5, A6, c6, A7, c7, rfl, hy0, hy1, hy2, hy3, _⟩ := at_T36 (Kd.R_reads' hR5).2.2 (q : Int) i6 i5
      rw [P3.out, Int.toNat_natCast] at hy2
      exact ⟨a5, d5, rfl, hy2, hb5⟩⟩
     clear hk2 LU0 p3 p2 hq HST htm PM hBn hB hx0 hx1 hcw
     go_wp2_with fail
     have U0 : wn.drew.cell? (ad.add (k * 2)) = some (.string f0) := hx0n
     have HBu : Aside0 (Below w.heap.size w wn.drew) := ⟨below_drew HBn.out⟩
     clear HCn HBn hx0n
     refine start_ (n := 13) (S := (fun w' => w'.cell? (ad.add (k * 2)) = some (.string f0) ∧ w'.cell? (ad.add (k * 2)) = some (.string f0))) (ds := []) (bz_ 13 0) (by kernel_rfl) rfl rfl ⟨U0, U0⟩ (fun hHeld => ?_)
     generalize wn.drew = u at U0 HBu hHeld ⊢
     refine pure_ (i := 0) (N := some 46) (v := ?_) (a' := ?_) (bz_ 13 1) rfl rfl (by kernel_rfl) (fun _ _ _ h => h) (Or.inl ⟨by rfl, ?_⟩) ?_ ?_
     rotate_left
     ·intro w'
      go_simp
      with_reducible rfl
     rotate_left
     ·simp only [Act.put, List.setIfInBounds_toArray, List.set_cons_zero, List.set_cons_succ, i64_w, i32_w]
      rfl
     refine pure_ (i := 2) (N := some 48) (v := ?_) (a' := ?_) (bz_ 13 5) rfl rfl (by kernel_rfl) (fun _ _ _ h => h) (Or.inl ⟨by rfl, ?_⟩) ?_ ?_
     rotate_left
     ·intro w'
      go_simp
      with_reducible rfl
     rotate_left
     ·simp only [Act.put, List.setIfInBounds_toArray, List.set_cons_zero, List.set_cons_succ, i64_w, i32_w]
      rfl
     refine pure_ (i := 3) (N := some 49) (v := ?_) (a' := ?_) (bz_ 13 13) rfl rfl (by kernel_rfl) (fun _ _ _ h => h) (Or.inl ⟨by rfl, ?_⟩) ?_ ?_
     rotate_left
     ·intro w'
      go_simp
      with_reducible rfl
     rotate_left
     ·simp only [Act.put, List.setIfInBounds_toArray, List.set_cons_zero, List.set_cons_succ, i64_w, i32_w]
      rfl
     refine pure_ (i := 4) (N := some 50) (v := ?_) (a' := ?_) (bz_ 13 29) rfl rfl (by kernel_rfl) (fun _ _ _ h => h) (Or.inl ⟨by rfl, ?_⟩) ?_ ?_
     rotate_left
     ·intro w'
      go_simp
      with_reducible rfl
     rotate_left
     ·simp only [Act.put, List.setIfInBounds_toArray, List.set_cons_zero, List.set_cons_succ, i64_w, i32_w]
      rfl
     refine pure_ (i := 5) (N := some 51) (v := ?_) (a' := ?_) (bz_ 13 61) rfl rfl (by kernel_rfl) (fun _ _ _ h => h) (Or.inl ⟨by rfl, ?_⟩) ?_ ?_
     rotate_left
     ·intro w'
      go_simp
      with_reducible rfl
     rotate_left
     ·simp only [Act.put, List.setIfInBounds_toArray, List.set_cons_zero, List.set_cons_succ, i64_w, i32_w]
      rfl
     refine pure_ (i := 6) (N := some 52) (v := ?_) (a' := ?_) (bz_ 13 125) rfl rfl (by kernel_rfl) (fun _ _ _ h => h) (Or.inl ⟨by rfl, ?_⟩) ?_ ?_
     rotate_left
     ·intro w'
      go_simp
      with_reducible rfl
     rotate_left
     ·simp only [Act.put, List.setIfInBounds_toArray, List.set_cons_zero, List.set_cons_succ, i64_w, i32_w]
      rfl
     refine take_ (i := 7) (N := some 53) (v := ?_) (a' := ?_) (bz_ 13 253) rfl rfl (by kernel_rfl) (fun _ _ _ h => h) (Or.inl ⟨by rfl, ?_⟩) hHeld ?_ ?_
     rotate_left
     ·rintro w' ⟨s0, s1⟩
      go_simp
      with_reducible rfl
     rotate_left
     ·simp only [Act.put, List.setIfInBounds_toArray, List.set_cons_zero, List.set_cons_succ, i64_w, i32_w]
      rfl
     refine one_ (i := 1) (N := some 47) (bz_ 13 255) rfl rfl (by kernel_rfl) (by decide) (fun K hK => ?_)
     refine goes_ Tryd.func13 (by kernel_rfl) rfl #[.string kind] (by rfl) rfl rfl (by (try simp only [List.map_toArray, List.map_cons, List.map_nil]); first | done | rfl) ?_
     with_reducible refine (RU.out u).mono ?_
     rintro e w5 ⟨a5, d5, rfl, hy2', hb5⟩
     refine ⟨_, rfl, ?_⟩
     refine hK.out _ _ ⟨pw_cell_below hb5 U0, pw_cell_below hb5 U0⟩ (fun hHeld => ?_)
     clear hK K
     refine norm_ (a' := ?_) ?_ ?_
     rotate_left
     ·show Act.put _ (some 47) _ = _
      simp only [putAll, Act.put, List.setIfInBounds_toArray, List.set_cons_zero, List.set_cons_succ, i64_w, i32_w]
      rfl
     refine one_ (i := 8) (N := some 54) (bz_ 13 511) rfl rfl (by kernel_rfl) (by decide) (fun K hK => ?_)
     refine goes_ Tryd.func62 (by kernel_rfl) rfl #[.string kind, .string f0] (by rfl) rfl rfl (by (try simp only [List.map_toArray, List.map_cons, List.map_nil]); first | done | rfl) ?_
     with_reducible refine (LU.out w5).mono ?_
     rintro e w7 ⟨rfl, hb6⟩
     refine ⟨_, rfl, ?_⟩
     have hy2 := pw_cell_below hb6 hy2'
     have hb7 := hb5.trans (hb6.mono hb5.size)
     clear hy2' hb5 hb6
     refine hK.out _ _ ⟨pw_cell_below hb7 U0, pw_cell_below hb7 U0⟩ (fun hHeld => ?_)
     clear hK K
     refine norm_ (a' := ?_) ?_ ?_
     rotate_left
     ·show Act.put _ (some 54) _ = _
      simp only [putAll, Act.put, List.setIfInBounds_toArray, List.set_cons_zero, List.set_cons_succ, i64_w, i32_w]
      rfl
     refine pure_ (i := 9) (N := some 55) (v := ?_) (a' := ?_) (bz_ 13 1023) rfl rfl (by kernel_rfl) (fun _ _ _ h => h) (Or.inl ⟨by rfl, ?_⟩) ?_ ?_
     rotate_left
     ·intro w'
      go_simp
      with_reducible rfl
     rotate_left
     ·simp only [Act.put, List.setIfInBounds_toArray, List.set_cons_zero, List.set_cons_succ, i64_w, i32_w]
      rfl
     refine pure_ (i := 10) (N := some 56) (v := ?_) (a' := ?_) (bz_ 13 2047) rfl rfl (by kernel_rfl) (fun _ _ _ h => h) (Or.inl ⟨by rfl, ?_⟩) ?_ ?_
     rotate_left
     ·intro w'
      go_simp
      with_reducible rfl
     rotate_left
     ·simp only [Act.put, List.setIfInBounds_toArray, List.set_cons_zero, List.set_cons_succ, i64_w, i32_w]
      rfl
     refine one_ (i := 11) (N := some 57) (bz_ 13 4095) rfl rfl (by kernel_rfl) (by decide) (fun K hK => ?_)
     refine value_ (w1 := ?_) (v := ?_) (by rfl) rfl ?_ ?_
     rotate_left 2
     ·go_simp
      constructor
      ·rfl
      ·rfl
     refine hK.out _ _ ⟨pw_cell_below hb7 U0, pw_cell_below hb7 U0⟩ (fun hHeld => ?_)
     clear hK K
     refine norm_ (a' := ?_) ?_ ?_
     rotate_left
     ·show Act.put _ (some 57) _ = _
      simp only [putAll, Act.put, List.setIfInBounds_toArray, List.set_cons_zero, List.set_cons_succ, i64_w, i32_w]
      rfl
     refine pure_ (i := 12) (N := some 6) (v := ?_) (a' := ?_) (bz_ 13 8191) rfl rfl (by kernel_rfl) (fun _ _ _ h => h) (Or.inl ⟨by rfl, ?_⟩) ?_ ?_
     rotate_left
     ·intro w'
      go_simp
      with_reducible rfl
     rotate_left
     ·simp only [Act.put, List.setIfInBounds_toArray, List.set_cons_zero, List.set_cons_succ, i64_w, i32_w]
      rfl
     refine done_ (by kernel_rfl) ?_
     have HB7 := Aside0.mk (HBu.out.trans (hb7.mono HBu.out.size))
     clear hy2 hb7 U0 hHeld HBu LU RU i5 i6 P3
     go_wp2
     go_loopw [7, 8] (fun n i wr => ∃ m : Nat, i = .int .i64 m ∧ n = .int .i64 (cntKey f0 (ls.take m) : Nat) ∧ m ≤ k + 1 ∧ Aside0 (Below w.heap.size w wr)) (fun _ i _ => k + 1 - (intOf i).toNat)
     case atStart => exact ⟨0, rfl, rfl, Nat.zero_le _, HB7⟩
     case round =>
      obtain ⟨m, rfl, rfl, hm, HBm⟩ := hrel
      have hcl := cntKey_le f0 (ls.take m)
      rw [List.length_take] at hcl
      by_cases hmk : m ≤ k
      ·have hml : m < ls.length := by omega
       have i7 : (m : Int) ≤ (k : Int) := by omega
       have i8 : (m : Int) < (ls.length : Int) := by omega
       have i9 : (k : Int) < (ls.length : Int) := by omega
       obtain ⟨_, Ap, cp, hadp, hp0, _, _, _⟩ := line_at (Kd.C_below HR.out HBm.out) m ls[m] (List.getElem?_eq_getElem hml)
       injection hadp with hadp
       subst hadp
       obtain ⟨_, Aq, cq, hadq, hq0, _, _, _⟩ := line_at (Kd.C_below HR.out HBm.out) k ⟨f0, f1⟩ HLK.out
       injection hadq with hadq
       subst hadq
       have hcs : cntKey f0 (ls.take (m + 1)) = cntKey f0 (ls.take m) + (if ls[m].f0 = f0 then 1 else 0) := by
        rw [List.take_add_one, List.getElem?_eq_getElem hml]; exact cntKey_snoc f0 _ _
       generalize ls[m].f0 = km at *
       generalize hcm : cntKey f0 (ls.take m) = cm at *
       have Q0 := fun p : BW wr => p.cell hp0
       have Q1 := fun p : BW wr => p.cell hq0
       by_cases qk : km = f0
       ·subst qk
        rw [if_pos rfl] at hcs
        have HCS := Aside0.mk hcs
        clear hcs hcm hmk hp0 hq0
        go_wp2_with fail
        refine wp_region_below (by kernel_rfl) (by kernel_rfl) ?_
        repeat ((with_reducible refine wpQuiet_step ?_); (with_reducible intro K hK); go_simp; first | ((with_reducible refine hK _ ?_); clear hK K) | ((with_reducible refine quiet_off (fun h => ?_) ?_); exact h; (with_reducible refine hK _ ?_); clear hK K))
        with_reducible refine wpQuiet_nil ?_
        intro wn hw'
        obtain ⟨⟨_, hBn⟩, rfl⟩ := hw'
        have HBn := Aside0.mk (HBm.out.trans (hBn.mono HBm.out.size))
        clear hBn Q0 Q1
        go_wp2
        go_roundw
        case rel => exact ⟨m + 1, by go_num, by rw [HCS.out]; go_num, by omega, HBn⟩
        case measure => simp [intOf]; omega
       ·have nq := str_ne' _ _ qk
        rw [if_neg qk, Nat.add_zero] at hcs
        have HCS := Aside0.mk hcs
        clear hcs hcm hmk qk hp0 hq0
        go_wp2_with fail
        refine wp_region_below (by kernel_rfl) (by kernel_rfl) ?_
        repeat ((with_reducible refine wpQuiet_step ?_); (with_reducible intro K hK); go_simp; first | ((with_reducible refine hK _ ?_); clear hK K) | ((with_reducible refine quiet_off (fun h => ?_) ?_); exact h; (with_reducible refine hK _ ?_); clear hK K))
        with_reducible refine wpQuiet_nil ?_
        intro wn hw'
        obtain ⟨⟨_, hBn⟩, rfl⟩ := hw'
        have HBn := Aside0.mk (HBm.out.trans (hBn.mono HBm.out.size))
        clear hBn Q0 Q1
        go_wp2
        go_roundw
        case rel => exact ⟨m + 1, by go_num, by rw [HCS.out]; simp, by omega, HBn⟩
        case measure => simp [intOf]; omega
      ·obtain rfl : m = k + 1 := by omega
       have i7 : ¬ (((k + 1 : Nat) : Int) ≤ (k : Int)) := by omega
       generalize hcn : cntKey f0 (ls.take (k + 1)) = n at *
       by_cases h10 : 10 < n
       ·have i10 : ((n : Int) > 10) := by omega
        have i11 : ((n : Int) > 1) := by omega
        have HF2 := Aside0.mk (show linesOkL kind ls = false by rw [HTM.out, decide_eq_true h10, Bool.or_true]; rfl)
        clear h10 hcn HTM
        cases mm
        all_goals
         go_wp2
         go_ret
         exact ⟨retB HF2.out.symm, HBm.out⟩
       ·have i10 : ¬ ((n : Int) > 10) := by omega
        by_cases h1 : 1 < n
        ·have i11 : ((n : Int) > 1) := by omega
         cases mm
         ·have HF2 := Aside0.mk (show linesOkL kind ls = false by rw [HTM.out, decide_eq_true h1]; rfl)
          clear h10 h1 hcn HTM
          go_wp2
          go_ret
          exact ⟨retB HF2.out.symm, HBm.out⟩
         ·have HF2 := Aside0.mk (show linesOkL kind ls = linesFrom kind (ls.take (k + 1)) (ls.drop (k + 1)) by rw [HTM.out, decide_eq_false h10]; rfl)
          clear h10 h1 hcn HTM
          go_wp2
          go_roundw
          case rel => exact ⟨k + 1, by go_num, hlt, HBm.out, HF2⟩
          case measure => simp [intOf]; omega
        ·have i11 : ¬ ((n : Int) > 1) := by omega
         have HF2 := Aside0.mk (show linesOkL kind ls = linesFrom kind (ls.take (k + 1)) (ls.drop (k + 1)) by rw [HTM.out, decide_eq_false h10, decide_eq_false h1, Bool.and_false]; rfl)
         clear h10 h1 hcn HTM
         cases mm
         all_goals
          go_wp2
          go_roundw
          case rel => exact ⟨k + 1, by go_num, hlt, HBm.out, HF2⟩
          case measure => simp [intOf]; omega
  ·obtain rfl : k = ls.length := by omega
   have i1 : ¬ (ls.length : Int) < (ls.length : Int) := by omega
   have HF2 : Aside0 (linesOkL kind ls = true) := ⟨by rw [hf.out, List.drop_length]; rfl⟩
   go_wp2
   go_ret
   exact ⟨retB HF2.out.symm, hB⟩
def spec_l3LinesOk.f (a0 : ByteArray) (l1 : List S83) : Option Bool := if fitB l1 then some (linesOkL a0 l1) else none
theorem spec_l3LinesOk.calls (a0 : ByteArray) (A1 : Option Addr) (c1 : Nat) (l1 : List S83) (r : Bool) (w : World) (hr1 : Kd.C k83 w A1 l1.length l1) (_hc1 : l1.length ≤ c1) (h : spec_l3LinesOk.f a0 l1 = some r) :
  Calls Tryd.prog 72 #[.string a0, .slice A1 l1.length c1] w fun e w' => e = .returned (.bool r) ∧ Below w.heap.size w w' := by
 unfold spec_l3LinesOk.f at h
 split at h
 ·rename_i hb
  injection h with h
  subst h
  exact linesOk_any a0 A1 c1 l1 w hr1 hb
 ·cases h
end Go.Proofs.YtmcdnpooclelgaaDoor.PAll
namespace Go.Proofs.YtmcdnpooclelgaaDoor.PAll
open Go.RowKit Go.Proofs.YtmcdnpooclelgaaDoorW.PrintWords Go.Proofs.YtmcdnpooclelgaaDoorW.PrintLast Go.Proofs.YtmcdnpooclelgaaDoorW.PrintMore
attribute [local go_sem] max2_int min2_int max_two min_two max_three min_three max_four min_four   -- for this text's walks alone
def spec_l3Ahead.f (a0_0 : ByteArray) (a0_1 : ByteArray) (l0_2 : List (S83)) (a1_0 : ByteArray) (a1_1 : ByteArray) (l1_2 : List (S83)) : Option (Bool) := if (Op.bytesLess a0_0.toList a1_0.toList) = true then (some true) else (if a0_0.toList = a1_0.toList then (some (Op.bytesLess a0_1.toList a1_1.toList)) else (some false))
set_option maxHeartbeats 8000000 in
set_option maxRecDepth 100000 in
theorem spec_l3Ahead.calls (a0_0 : ByteArray) (a0_1 : ByteArray) (A0_2 : Option Addr) (c0_2 : Nat) (l0_2 : List (S83)) (a1_0 : ByteArray) (a1_1 : ByteArray) (A1_2 : Option Addr) (c1_2 : Nat) (l1_2 : List (S83)) (r : Bool) (w : World) (hr0_2 : Kd.C k83 w A0_2 l0_2.length l0_2) (hc0_2 : l0_2.length ≤ c0_2) (hr1_2 : Kd.C k83 w A1_2 l1_2.length l1_2) (hc1_2 : l1_2.length ≤ c1_2) (h : spec_l3Ahead.f a0_0 a0_1 l0_2 a1_0 a1_1 l1_2 = some r) :
  Calls Tryd.prog 73 #[.agg #[.string a0_0, .string a0_1, .slice A0_2 l0_2.length c0_2], .agg #[.string a1_0, .string a1_1, .slice A1_2 l1_2.length c1_2]] w fun e w' => e = .returned (.bool r) ∧ Below w.heap.size w w' := by
 have hu62 := Tryd.underlying62
 have HR0_2 := Aside0.mk hr0_2
 have HC0_2 := Aside0.mk hc0_2
 clear hr0_2 hc0_2
 have HR1_2 := Aside0.mk hr1_2
 have HC1_2 := Aside0.mk hc1_2
 clear hr1_2 hc1_2
 have HB := Aside0.mk (Below.refl w.heap.size w)
 have H : (if (Op.bytesLess a0_0.toList a1_0.toList) = true then (some true) else (if a0_0.toList = a1_0.toList then (some (Op.bytesLess a0_1.toList a1_1.toList)) else (some false))) = some r := h
 clear h
 by_cases c3 : (Op.bytesLess a0_0.toList a1_0.toList) = true
 ·rw [if_pos c3] at H
  have c3b0 : (Op.bytesLess a0_0.toList a1_0.toList) = true := c3
  clear c3
  obtain rfl := Option.some.inj H
  go_enter Tryd.func73, Tryd.ntmps73
  go_wp2_with (first | ((with_reducible refine gate_dst (N := 2) rfl ?_); refine box_event ?hg (N := 2) ?hd (cs := #[.string a0_0, .string a0_1, .slice A0_2 l0_2.length c0_2]) (t := 62) ?hr ?_; (case hd => rfl); (case hg => rfl); (case hr => first | (go_simp; done) | (go_simp; rfl)); intro gb377 hg w4 hbox hb; have n0_ := Aside0.mk (below_step (stB HB.out) hb); have n1_ := Aside0.mk (hbox); have n2_ := Aside0.mk ((by rw [hg]; exact (below_size (stB HB.out)) : w.heap.size ≤ gb377)); have n3_ := Aside0.mk ((by rw [hg]; exact (below_size (stB HB.out)) : w.heap.size ≤ gb377)); clear HB; have HB := n0_; have BK377 := n1_; have GW377 := n2_; have GE377 := n3_; clear n0_ n1_ n2_ n3_; clear hb hbox hg) | ((with_reducible refine gate_dst (N := 3) rfl ?_); refine box_event ?hg (N := 3) ?hd (cs := #[.string a1_0, .string a1_1, .slice A1_2 l1_2.length c1_2]) (t := 62) ?hr ?_; (case hd => rfl); (case hg => rfl); (case hr => first | (go_simp; done) | (go_simp; rfl)); intro gb378 hg w5 hbox hb; have n0_ := Aside0.mk (blk_below (g := gb377) (o := .cells #[.string a0_0, .string a0_1, .slice A0_2 l0_2.length c0_2] 62 (0, 0)) (by (with_reducible repeat (first | refine blk_drewN ?_ _ | refine blk_drew ?_ | refine blk_alloc ?_ _)); exact BK377.out) hb); have n1_ := Aside0.mk (below_step (by repeat (first | (with_reducible first | exact HB.out | apply below_alloc | apply pw_below_drewN | apply below_drew1 | refine below_set ?_ GE377.out) | exact HB.out)) hb); have n2_ := Aside0.mk (hbox); have n3_ := Aside0.mk ((by rw [hg]; exact (below_size (by repeat (first | (with_reducible first | exact HB.out | apply below_alloc | apply pw_below_drewN | apply below_drew1 | refine below_set ?_ GE377.out) | exact HB.out))) : w.heap.size ≤ gb378)); have n4_ := Aside0.mk ((by rw [hg]; exact (below_size (by repeat (first | (with_reducible first | exact HB.out | apply below_alloc | apply pw_below_drewN | apply below_drew1 | refine below_set ?_ GE377.out) | exact HB.out))) : w.heap.size ≤ gb378)); have n5_ := Aside0.mk ((by rw [hg]; exact Nat.ne_of_lt (blk_lt (g := gb377) (o := .cells #[.string a0_0, .string a0_1, .slice A0_2 l0_2.length c0_2] 62 (0, 0)) (by (with_reducible repeat (first | refine blk_drewN ?_ _ | refine blk_drew ?_ | refine blk_alloc ?_ _)); exact BK377.out)) : gb377 ≠ gb378)); have n6_ := Aside0.mk ((by rw [hg]; exact Nat.ne_of_gt (blk_lt (g := gb377) (o := .cells #[.string a0_0, .string a0_1, .slice A0_2 l0_2.length c0_2] 62 (0, 0)) (by (with_reducible repeat (first | refine blk_drewN ?_ _ | refine blk_drew ?_ | refine blk_alloc ?_ _)); exact BK377.out)) : gb378 ≠ gb377)); clear BK377; clear HB; have BK377 := n0_; have HB := n1_; have BK378 := n2_; have GW378 := n3_; have GE378 := n4_; have NB377_378 := n5_; have NB378_377 := n6_; clear n0_ n1_ n2_ n3_ n4_ n5_ n6_; clear hb hbox hg; have hnb6 := NB377_378.out; have hnc6 := NB378_377.out; have hcz7_0 : w5.cell? ⟨gb377, 0, none⟩ = some (.string a0_0) := (blk_cell BK377.out 0).trans rfl; have hcz7_1 : w5.cell? ⟨gb377, 1, none⟩ = some (.string a0_1) := (blk_cell BK377.out 1).trans rfl; have hcz7_2 : w5.cell? ⟨gb377, 2, none⟩ = some (.slice A0_2 l0_2.length c0_2) := (blk_cell BK377.out 2).trans rfl; have hfz7_0 := blk_frozen BK377.out 0; have hfz7_1 := blk_frozen BK377.out 1; have hfz7_2 := blk_frozen BK377.out 2; have hcz8_0 : w5.cell? ⟨gb378, 0, none⟩ = some (.string a1_0) := (blk_cell BK378.out 0).trans rfl; have hcz8_1 : w5.cell? ⟨gb378, 1, none⟩ = some (.string a1_1) := (blk_cell BK378.out 1).trans rfl; have hcz8_2 : w5.cell? ⟨gb378, 2, none⟩ = some (.slice A1_2 l1_2.length c1_2) := (blk_cell BK378.out 2).trans rfl; have hfz8_0 := blk_frozen BK378.out 0; have hfz8_1 := blk_frozen BK378.out 1; have hfz8_2 := blk_frozen BK378.out 2))
  go_ret
  exact ⟨by first | rfl | (simp [errW_none, errW_some] <;> rfl) | (simp [*, errW_none, errW_some] <;> rfl), by repeat (first | (with_reducible first | exact HB.out | apply below_alloc | apply pw_below_drewN | apply below_drew1 | refine below_set ?_ GE377.out | refine below_set ?_ GE378.out) | exact HB.out)⟩
 ·rw [if_neg c3] at H
  have c3b0 : (Op.bytesLess a0_0.toList a1_0.toList) = false := by simpa using c3
  clear c3
  by_cases c9 : a0_0.toList = a1_0.toList
  ·rw [if_pos c9] at H
   have c9b0 : (a0_0.toList == a1_0.toList) = true := beq_iff_eq.mpr c9
   have c9b1 : (a0_0.toList != a1_0.toList) = false := bne_eq_false_iff_eq.mpr c9
   clear c9
   obtain rfl := Option.some.inj H
   go_enter Tryd.func73, Tryd.ntmps73
   go_wp2_with (first | ((with_reducible refine gate_dst (N := 2) rfl ?_); refine box_event ?hg (N := 2) ?hd (cs := #[.string a0_0, .string a0_1, .slice A0_2 l0_2.length c0_2]) (t := 62) ?hr ?_; (case hd => rfl); (case hg => rfl); (case hr => first | (go_simp; done) | (go_simp; rfl)); intro gb377 hg w10 hbox hb; have n0_ := Aside0.mk (below_step (stB HB.out) hb); have n1_ := Aside0.mk (hbox); have n2_ := Aside0.mk ((by rw [hg]; exact (below_size (stB HB.out)) : w.heap.size ≤ gb377)); have n3_ := Aside0.mk ((by rw [hg]; exact (below_size (stB HB.out)) : w.heap.size ≤ gb377)); clear HB; have HB := n0_; have BK377 := n1_; have GW377 := n2_; have GE377 := n3_; clear n0_ n1_ n2_ n3_; clear hb hbox hg) | ((with_reducible refine gate_dst (N := 3) rfl ?_); refine box_event ?hg (N := 3) ?hd (cs := #[.string a1_0, .string a1_1, .slice A1_2 l1_2.length c1_2]) (t := 62) ?hr ?_; (case hd => rfl); (case hg => rfl); (case hr => first | (go_simp; done) | (go_simp; rfl)); intro gb378 hg w11 hbox hb; have n0_ := Aside0.mk (blk_below (g := gb377) (o := .cells #[.string a0_0, .string a0_1, .slice A0_2 l0_2.length c0_2] 62 (0, 0)) (by (with_reducible repeat (first | refine blk_drewN ?_ _ | refine blk_drew ?_ | refine blk_alloc ?_ _)); exact BK377.out) hb); have n1_ := Aside0.mk (below_step (by repeat (first | (with_reducible first | exact HB.out | apply below_alloc | apply pw_below_drewN | apply below_drew1 | refine below_set ?_ GE377.out) | exact HB.out)) hb); have n2_ := Aside0.mk (hbox); have n3_ := Aside0.mk ((by rw [hg]; exact (below_size (by repeat (first | (with_reducible first | exact HB.out | apply below_alloc | apply pw_below_drewN | apply below_drew1 | refine below_set ?_ GE377.out) | exact HB.out))) : w.heap.size ≤ gb378)); have n4_ := Aside0.mk ((by rw [hg]; exact (below_size (by repeat (first | (with_reducible first | exact HB.out | apply below_alloc | apply pw_below_drewN | apply below_drew1 | refine below_set ?_ GE377.out) | exact HB.out))) : w.heap.size ≤ gb378)); have n5_ := Aside0.mk ((by rw [hg]; exact Nat.ne_of_lt (blk_lt (g := gb377) (o := .cells #[.string a0_0, .string a0_1, .slice A0_2 l0_2.length c0_2] 62 (0, 0)) (by (with_reducible repeat (first | refine blk_drewN ?_ _ | refine blk_drew ?_ | refine blk_alloc ?_ _)); exact BK377.out)) : gb377 ≠ gb378)); have n6_ := Aside0.mk ((by rw [hg]; exact Nat.ne_of_gt (blk_lt (g := gb377) (o := .cells #[.string a0_0, .string a0_1, .slice A0_2 l0_2.length c0_2] 62 (0, 0)) (by (with_reducible repeat (first | refine blk_drewN ?_ _ | refine blk_drew ?_ | refine blk_alloc ?_ _)); exact BK377.out)) : gb378 ≠ gb377)); clear BK377; clear HB; have BK377 := n0_; have HB := n1_; have BK378 := n2_; have GW378 := n3_; have GE378 := n4_; have NB377_378 := n5_; have NB378_377 := n6_; clear n0_ n1_ n2_ n3_ n4_ n5_ n6_; clear hb hbox hg; have hnb12 := NB377_378.out; have hnc12 := NB378_377.out; have hcz13_0 : w11.cell? ⟨gb377, 0, none⟩ = some (.string a0_0) := (blk_cell BK377.out 0).trans rfl; have hcz13_1 : w11.cell? ⟨gb377, 1, none⟩ = some (.string a0_1) := (blk_cell BK377.out 1).trans rfl; have hcz13_2 : w11.cell? ⟨gb377, 2, none⟩ = some (.slice A0_2 l0_2.length c0_2) := (blk_cell BK377.out 2).trans rfl; have hfz13_0 := blk_frozen BK377.out 0; have hfz13_1 := blk_frozen BK377.out 1; have hfz13_2 := blk_frozen BK377.out 2; have hcz14_0 : w11.cell? ⟨gb378, 0, none⟩ = some (.string a1_0) := (blk_cell BK378.out 0).trans rfl; have hcz14_1 : w11.cell? ⟨gb378, 1, none⟩ = some (.string a1_1) := (blk_cell BK378.out 1).trans rfl; have hcz14_2 : w11.cell? ⟨gb378, 2, none⟩ = some (.slice A1_2 l1_2.length c1_2) := (blk_cell BK378.out 2).trans rfl; have hfz14_0 := blk_frozen BK378.out 0; have hfz14_1 := blk_frozen BK378.out 1; have hfz14_2 := blk_frozen BK378.out 2))
   go_ret
   exact ⟨by first | rfl | (simp [errW_none, errW_some] <;> rfl) | (simp [*, errW_none, errW_some] <;> rfl), by repeat (first | (with_reducible first | exact HB.out | apply below_alloc | apply pw_below_drewN | apply below_drew1 | refine below_set ?_ GE377.out | refine below_set ?_ GE378.out) | exact HB.out)⟩
  ·rw [if_neg c9] at H
   have c9b0 : (a0_0.toList == a1_0.toList) = false := beq_eq_false_iff_ne.mpr c9
   have c9b1 : (a0_0.toList != a1_0.toList) = true := bne_iff_ne.mpr c9
   obtain rfl := Option.some.inj H
   go_enter Tryd.func73, Tryd.ntmps73
   go_wp2_with (first | ((with_reducible refine gate_dst (N := 2) rfl ?_); refine box_event ?hg (N := 2) ?hd (cs := #[.string a0_0, .string a0_1, .slice A0_2 l0_2.length c0_2]) (t := 62) ?hr ?_; (case hd => rfl); (case hg => rfl); (case hr => first | (go_simp; done) | (go_simp; rfl)); intro gb377 hg w15 hbox hb; have n0_ := Aside0.mk (below_step (stB HB.out) hb); have n1_ := Aside0.mk (hbox); have n2_ := Aside0.mk ((by rw [hg]; exact (below_size (stB HB.out)) : w.heap.size ≤ gb377)); have n3_ := Aside0.mk ((by rw [hg]; exact (below_size (stB HB.out)) : w.heap.size ≤ gb377)); clear HB; have HB := n0_; have BK377 := n1_; have GW377 := n2_; have GE377 := n3_; clear n0_ n1_ n2_ n3_; clear hb hbox hg) | ((with_reducible refine gate_dst (N := 3) rfl ?_); refine box_event ?hg (N := 3) ?hd (cs := #[.string a1_0, .string a1_1, .slice A1_2 l1_2.length c1_2]) (t := 62) ?hr ?_; (case hd => rfl); (case hg => rfl); (case hr => first | (go_simp; done) | (go_simp; rfl)); intro gb378 hg w16 hbox hb; have n0_ := Aside0.mk (blk_below (g := gb377) (o := .cells #[.string a0_0, .string a0_1, .slice A0_2 l0_2.length c0_2] 62 (0, 0)) (by (with_reducible repeat (first | refine blk_drewN ?_ _ | refine blk_drew ?_ | refine blk_alloc ?_ _)); exact BK377.out) hb); have n1_ := Aside0.mk (below_step (by repeat (first | (with_reducible first | exact HB.out | apply below_alloc | apply pw_below_drewN | apply below_drew1 | refine below_set ?_ GE377.out) | exact HB.out)) hb); have n2_ := Aside0.mk (hbox); have n3_ := Aside0.mk ((by rw [hg]; exact (below_size (by repeat (first | (with_reducible first | exact HB.out | apply below_alloc | apply pw_below_drewN | apply below_drew1 | refine below_set ?_ GE377.out) | exact HB.out))) : w.heap.size ≤ gb378)); have n4_ := Aside0.mk ((by rw [hg]; exact (below_size (by repeat (first | (with_reducible first | exact HB.out | apply below_alloc | apply pw_below_drewN | apply below_drew1 | refine below_set ?_ GE377.out) | exact HB.out))) : w.heap.size ≤ gb378)); have n5_ := Aside0.mk ((by rw [hg]; exact Nat.ne_of_lt (blk_lt (g := gb377) (o := .cells #[.string a0_0, .string a0_1, .slice A0_2 l0_2.length c0_2] 62 (0, 0)) (by (with_reducible repeat (first | refine blk_drewN ?_ _ | refine blk_drew ?_ | refine blk_alloc ?_ _)); exact BK377.out)) : gb377 ≠ gb378)); have n6_ := Aside0.mk ((by rw [hg]; exact Nat.ne_of_gt (blk_lt (g := gb377) (o := .cells #[.string a0_0, .string a0_1, .slice A0_2 l0_2.length c0_2] 62 (0, 0)) (by (with_reducible repeat (first | refine blk_drewN ?_ _ | refine blk_drew ?_ | refine blk_alloc ?_ _)); exact BK377.out)) : gb378 ≠ gb377)); clear BK377; clear HB; have BK377 := n0_; have HB := n1_; have BK378 := n2_; have GW378 := n3_; have GE378 := n4_; have NB377_378 := n5_; have NB378_377 := n6_; clear n0_ n1_ n2_ n3_ n4_ n5_ n6_; clear hb hbox hg; have hnb17 := NB377_378.out; have hnc17 := NB378_377.out; have hcz18_0 : w16.cell? ⟨gb377, 0, none⟩ = some (.string a0_0) := (blk_cell BK377.out 0).trans rfl; have hcz18_1 : w16.cell? ⟨gb377, 1, none⟩ = some (.string a0_1) := (blk_cell BK377.out 1).trans rfl; have hcz18_2 : w16.cell? ⟨gb377, 2, none⟩ = some (.slice A0_2 l0_2.length c0_2) := (blk_cell BK377.out 2).trans rfl; have hfz18_0 := blk_frozen BK377.out 0; have hfz18_1 := blk_frozen BK377.out 1; have hfz18_2 := blk_frozen BK377.out 2; have hcz19_0 : w16.cell? ⟨gb378, 0, none⟩ = some (.string a1_0) := (blk_cell BK378.out 0).trans rfl; have hcz19_1 : w16.cell? ⟨gb378, 1, none⟩ = some (.string a1_1) := (blk_cell BK378.out 1).trans rfl; have hcz19_2 : w16.cell? ⟨gb378, 2, none⟩ = some (.slice A1_2 l1_2.length c1_2) := (blk_cell BK378.out 2).trans rfl; have hfz19_0 := blk_frozen BK378.out 0; have hfz19_1 := blk_frozen BK378.out 1; have hfz19_2 := blk_frozen BK378.out 2))
   go_ret
   exact ⟨by first | rfl | (simp [errW_none, errW_some] <;> rfl) | (simp [*, errW_none, errW_some] <;> rfl), by repeat (first | (with_reducible first | exact HB.out | apply below_alloc | apply pw_below_drewN | apply below_drew1 | refine below_set ?_ GE377.out | refine below_set ?_ GE378.out) | exact HB.out)⟩
mutual
def spec_SheetValid.l0 : Nat → Int → List (S62) → Option (Bool)
 | 0, _, _ => none
 | k + 1, x3, x380000 => if x3 < (x380000.length : Int) then (if 0 ≤ x3 then ((spec_SheetRules.f ((rd_T62 x380000 x3).f0)).bind fun t382 => (if (t382.length : Int) = 0 then (spec_SheetValid.j1 k x3 true x380000) else ((spec_l2NameOk.f k ((rd_T62 x380000 x3).f1)).bind fun t385 => (if t385 = true then ((spec_l3LinesOk.f ((rd_T62 x380000 x3).f0) ((rd_T62 x380000 x3).f2)).bind fun t386 => (if t386 = true then (if x3 > 0 then (if 0 ≤ (wrap64 (x3 - 1)) then (if (wrap64 (x3 - 1)) < (x380000.length : Int) then ((spec_l3Ahead.f ((rd_T62 x380000 (wrap64 (x3 - 1))).f0) ((rd_T62 x380000 (wrap64 (x3 - 1))).f1) ((rd_T62 x380000 (wrap64 (x3 - 1))).f2) ((rd_T62 x380000 x3).f0) ((rd_T62 x380000 x3).f1) ((rd_T62 x380000 x3).f2)).bind fun t388 => (spec_SheetValid.j1 k x3 (!t388) x380000)) else (none)) else (none)) else (spec_SheetValid.j1 k x3 false x380000)) else (spec_SheetValid.j1 k x3 true x380000))) else (spec_SheetValid.j1 k x3 true x380000))))) else (none)) else (some true)
def spec_SheetValid.j1 : Nat → Int → Bool → List (S62) → Option (Bool)
 | 0, _, _, _ => none
 | k + 1, x3, x54, x380000 => if x54 = true then (some false) else (spec_SheetValid.l0 k (wrap64 (x3 + 1)) x380000)
end
def spec_SheetValid.f (k : Nat) (l0_0 : List (S62)) : Option (Bool) := if (l0_0.length : Int) > 60 then (some false) else (spec_SheetValid.l0 k 0 l0_0)
def spec_SheetValid.T7 : Bool × List (List Nat × List Nat) := (true, [([], []), ([0], [0]), ([1], [1]), ([2], [2]), ([3], [3]), ([4, 2], [4]), ([5], [5]), ([6, 5], [5, 6]), ([7, 5, 5], [5, 7]), ([8, 5], [5, 8]), ([5, 9], [5, 9]), ([10, 8], [10]), ([11], [11]), ([12, 11], [11, 12]), ([11], [11]), ([14, 11], [11, 14]), ([13, 15, 11, 11], [11, 13, 15]), ([16, 11], [11, 16]), ([11, 17], [11, 17]), ([18, 16], [18]), ([19], [19]), ([20, 19], [19, 20]), ([21, 19, 19], [19, 21]), ([22], [22]), ([23, 22], [22, 23]), ([22], [22]), ([25, 22], [22, 25]), ([24, 26, 22], [22, 24, 26]), ([27, 22], [22, 27]), ([22], [22]), ([28, 29, 22, 22], [22, 28, 29]), ([30, 22], [22, 30]), ([22, 31, 19], [19, 22, 31]), ([19, 32], [19, 32])])
def spec_SheetValid.B7 : List Nat := [0, 1, 3, 7, 15, 31, 63, 127, 255, 511, 1023, 2047, 4095, 8191, 4095, 20479, 65535, 131071, 262143, 524287, 1048575, 2097151, 4194303, 8388607, 16777215, 8388607, 41943039, 134217727, 268435455, 8388607, 1073741823, 2147483647, 4294967295, 8589934591]
theorem spec_SheetValid.tab7 : rtab .any (opsOf Tryd.f27 7) = spec_SheetValid.T7 := by kernel_rfl
theorem spec_SheetValid.bits7 : waitsOk spec_SheetValid.T7.2 spec_SheetValid.B7 = true := by kernel_rfl
set_option maxHeartbeats 8000000 in
set_option maxRecDepth 100000 in
theorem spec_SheetValid.calls (k : Nat) (A0_0 : Option Addr) (c0_0 : Nat) (l0_0 : List (S62)) (r : Bool) (w : World) (hr0_0 : Kd.C k62 w A0_0 l0_0.length l0_0) (hc0_0 : l0_0.length ≤ c0_0) (h : spec_SheetValid.f k l0_0 = some r) :
  Calls Tryd.prog 27 #[.agg #[.slice A0_0 l0_0.length c0_0]] w fun e w' => e = .returned (.bool r) ∧ Below w.heap.size w w' := by
 have hu47 := Tryd.underlying47
 have hu62 := Tryd.underlying62
 have HR0_0 := Aside0.mk hr0_0
 have HC0_0 := Aside0.mk hc0_0
 clear hr0_0 hc0_0
 have HB := Aside0.mk (Below.refl w.heap.size w)
 have H : (if (l0_0.length : Int) > 60 then (some false) else (spec_SheetValid.l0 k 0 l0_0)) = some r := h
 clear h
 by_cases c2 : (l0_0.length : Int) > 60
 ·rw [if_pos c2] at H
  have c2b0 : decide (60 < (l0_0.length : Int)) = true := decide_eq_true c2
  have c2b1 : decide (60 < l0_0.length) = true := decide_eq_true (by omega)
  clear c2
  obtain rfl := Option.some.inj H
  go_enter Tryd.func27, Tryd.ntmps27
  go_wp2_with (first | ((with_reducible refine gate_dst (N := 1) rfl ?_); refine box_event ?hg (N := 1) ?hd (cs := #[.slice A0_0 l0_0.length c0_0]) (t := 47) ?hr ?_; (case hd => rfl); (case hg => rfl); (case hr => first | (go_simp; done) | (go_simp; rfl)); intro gb379 hg w3 hbox hb; have n0_ := Aside0.mk (below_step (stB HB.out) hb); have n1_ := Aside0.mk (hbox); have n2_ := Aside0.mk ((by rw [hg]; exact (below_size (stB HB.out)) : w.heap.size ≤ gb379)); have n3_ := Aside0.mk ((by rw [hg]; exact (below_size (stB HB.out)) : w.heap.size ≤ gb379)); clear HB; have HB := n0_; have BK379 := n1_; have GW379 := n2_; have GE379 := n3_; clear n0_ n1_ n2_ n3_; clear hb hbox hg; have hcz4_0 : w3.cell? ⟨gb379, 0, none⟩ = some (.slice A0_0 l0_0.length c0_0) := (blk_cell BK379.out 0).trans rfl; have hfz4_0 := blk_frozen BK379.out 0))
  go_ret
  exact ⟨by first | rfl | (simp [errW_none, errW_some] <;> rfl) | (simp [*, errW_none, errW_some] <;> rfl), by repeat (first | (with_reducible first | exact HB.out | apply below_alloc | apply pw_below_drewN | apply below_drew1 | refine below_set ?_ GE379.out) | exact HB.out)⟩
 ·rw [if_neg c2] at H
  have c2b0 : decide (60 < (l0_0.length : Int)) = false := decide_eq_false c2
  have c2b1 : decide (60 < l0_0.length) = false := decide_eq_false (by omega)
  clear c2
  have H' := Aside0.mk H
  clear H
  go_enter Tryd.func27, Tryd.ntmps27
  go_wp2_with (first | ((with_reducible refine gate_dst (N := 1) rfl ?_); refine box_event ?hg (N := 1) ?hd (cs := #[.slice A0_0 l0_0.length c0_0]) (t := 47) ?hr ?_; (case hd => rfl); (case hg => rfl); (case hr => first | (go_simp; done) | (go_simp; rfl)); intro gb379 hg w5 hbox hb; have n0_ := Aside0.mk (below_step (stB HB.out) hb); have n1_ := Aside0.mk (hbox); have n2_ := Aside0.mk ((by rw [hg]; exact (below_size (stB HB.out)) : w.heap.size ≤ gb379)); have n3_ := Aside0.mk ((by rw [hg]; exact (below_size (stB HB.out)) : w.heap.size ≤ gb379)); clear HB; have HB := n0_; have BK379 := n1_; have GW379 := n2_; have GE379 := n3_; clear n0_ n1_ n2_ n3_; clear hb hbox hg; have hcz6_0 : w5.cell? ⟨gb379, 0, none⟩ = some (.slice A0_0 l0_0.length c0_0) := (blk_cell BK379.out 0).trans rfl; have hfz6_0 := blk_frozen BK379.out 0))
  go_loopg [3] k (fun kq v3 w' => ∃ (x3_1 : Int), v3 = .int .i64 x3_1 ∧ Aside0 (spec_SheetValid.l0 kq x3_1 l0_0 = some r) ∧ Aside0 (kq ≤ k) ∧ Aside0 (w'.heap[gb379]? = some (.cells #[(.slice A0_0 l0_0.length c0_0)] 47 (0, 0))) ∧ Aside0 (Below w.heap.size w w'))
  case atStart => exact ⟨(0), (by first | rfl | (simp; done) | (simp [*]; done)), H', ⟨Nat.le_refl _⟩, ⟨by (with_reducible repeat (first | refine blk_drewN ?_ _ | refine blk_drew ?_ | refine blk_alloc ?_ _)); exact BK379.out⟩, ⟨by repeat (first | (with_reducible first | exact HB.out | apply below_alloc | apply pw_below_drewN | apply below_drew1 | refine below_set ?_ GE379.out) | exact HB.out)⟩⟩
  case round =>
   clear H'
   try clear c2
   try clear c2b0
   try clear c2b1
   try clear p2
   try clear hcz4_0
   try clear hcz6_0
   try clear hfz4_0
   try clear hfz6_0
   obtain ⟨x3_1, rfl, HA, HK1, BK379, HB⟩ := hrel
   cases gk with
   | zero => exact absurd HA.out (by simp [spec_SheetValid.l0])
   | succ k1 =>
    have H := HA.out
    clear HA
    simp only [spec_SheetValid.l0] at H
    by_cases c7 : x3_1 < (l0_0.length : Int)
    ·rw [if_pos c7] at H
     have c7b0 : decide (x3_1 < (l0_0.length : Int)) = true := decide_eq_true c7
     clear c7
     by_cases c8 : 0 ≤ x3_1
     ·rw [if_pos c8] at H
      have c8b0 : decide (0 ≤ x3_1) = true := decide_eq_true c8
      clear c8
      have HC9 := Aside0.mk H
      clear H
      have hcz10_0 : wr.cell? ⟨gb379, 0, none⟩ = some (.slice A0_0 l0_0.length c0_0) := (blk_cell BK379.out 0).trans rfl
      have hfz10_0 := blk_frozen BK379.out 0
      have p380 : 0 ≤ (x3_1 : Int) := of_decide_eq_true (by first | (with_reducible assumption) | assumption)
      have q380 : x3_1 < (l0_0.length : Int) := of_decide_eq_true (by first | (with_reducible assumption) | assumption)
      obtain ⟨ad380, A380_2, c380_2, e380, hx380_0, hx380_1, hx380_2, hl380_2, hi380_2⟩ := at_T62 HR0_0.out x3_1 p380 q380
      cases e380
      (try replace hx380_0 := (HB.out.cell (World.block_lt_of_cell? w _ hx380_0)).trans hx380_0)
      (try replace hx380_1 := (HB.out.cell (World.block_lt_of_cell? w _ hx380_1)).trans hx380_1)
      (try replace hx380_2 := (HB.out.cell (World.block_lt_of_cell? w _ hx380_2)).trans hx380_2)
      have HR380_2 := Aside0.mk hi380_2
      have HC380_2 := Aside0.mk hl380_2
      clear hi380_2 hl380_2
      replace p380 := eq_true p380
      replace q380 := eq_true q380
      go_upto_region 7 with (first | ((with_reducible refine gate_dst (N := 4) rfl ?_); refine box_event ?hg (N := 4) ?hd (cs := #[.string (⟨#[]⟩ : ByteArray), .string (⟨#[]⟩ : ByteArray), .slice none 0 0]) (t := 62) ?hr ?_; (case hd => rfl); (case hg => rfl); (case hr => first | (go_simp; done) | (go_simp; rfl)); intro gb381 hg w11 hbox hb; have n0_ := Aside0.mk (blk_below (g := gb379) (o := .cells #[.slice (some ad380) l0_0.length c0_0] 47 (0, 0)) (by (with_reducible repeat (first | refine blk_drewN ?_ _ | refine blk_drew ?_ | refine blk_alloc ?_ _)); exact BK379.out) hb); have n1_ := Aside0.mk (below_step (by repeat (first | (with_reducible first | exact HB.out | apply below_alloc | apply pw_below_drewN | apply below_drew1 | refine below_set ?_ GE379.out) | exact HB.out)) hb); have n2_ := Aside0.mk (hbox); have n3_ := Aside0.mk ((by rw [hg]; exact (below_size (by repeat (first | (with_reducible first | exact HB.out | apply below_alloc | apply pw_below_drewN | apply below_drew1 | refine below_set ?_ GE379.out) | exact HB.out))) : w.heap.size ≤ gb381)); have n4_ := Aside0.mk ((by rw [hg]; exact (below_size (by repeat (first | (with_reducible first | exact HB.out | apply below_alloc | apply pw_below_drewN | apply below_drew1 | refine below_set ?_ GE379.out) | exact HB.out))) : w.heap.size ≤ gb381)); have n5_ := Aside0.mk ((by rw [hg]; exact Nat.ne_of_lt (blk_lt (g := gb379) (o := .cells #[.slice (some ad380) l0_0.length c0_0] 47 (0, 0)) (by (with_reducible repeat (first | refine blk_drewN ?_ _ | refine blk_drew ?_ | refine blk_alloc ?_ _)); exact BK379.out)) : gb379 ≠ gb381)); have n6_ := Aside0.mk ((by rw [hg]; exact Nat.ne_of_gt (blk_lt (g := gb379) (o := .cells #[.slice (some ad380) l0_0.length c0_0] 47 (0, 0)) (by (with_reducible repeat (first | refine blk_drewN ?_ _ | refine blk_drew ?_ | refine blk_alloc ?_ _)); exact BK379.out)) : gb381 ≠ gb379)); clear BK379; clear HB; have BK379 := n0_; have HB := n1_; have BK381 := n2_; have GW381 := n3_; have GE381 := n4_; have NB379_381 := n5_; have NB381_379 := n6_; clear n0_ n1_ n2_ n3_ n4_ n5_ n6_; clear hb hbox hg; have hnb12 := NB381_379.out; have hnc12 := NB379_381.out; have hcz13_0 : w11.cell? ⟨gb381, 0, none⟩ = some (.string (⟨#[]⟩ : ByteArray)) := (blk_cell BK381.out 0).trans rfl; have hcz13_1 : w11.cell? ⟨gb381, 1, none⟩ = some (.string (⟨#[]⟩ : ByteArray)) := (blk_cell BK381.out 1).trans rfl; have hcz13_2 : w11.cell? ⟨gb381, 2, none⟩ = some (.slice none 0 0) := (blk_cell BK381.out 2).trans rfl; have hfz13_0 := blk_frozen BK381.out 0; have hfz13_1 := blk_frozen BK381.out 1; have hfz13_2 := blk_frozen BK381.out 2))
      (try simp only [Act.put, List.setIfInBounds_toArray, List.set_cons_zero, List.set_cons_succ])
      go_cut [54] (fun v54 wc => ∃ (kq : Nat) (x54_8 : Bool), v54 = .bool x54_8 ∧ Aside0 (spec_SheetValid.j1 kq x3_1 x54_8 l0_0 = some r) ∧ Aside0 (kq ≤ k1) ∧ Aside0 (wc.heap[gb379]? = some (.cells #[(.slice (some ad380) l0_0.length c0_0)] 47 (0, 0))) ∧ Aside0 (wc.heap[gb381]? = some (.cells #[.string ((rd_T62 l0_0 x3_1).f0), .string ((rd_T62 l0_0 x3_1).f1), (.slice A380_2 ((rd_T62 l0_0 x3_1).f2).length c380_2)] 62 (0, 0))) ∧ Aside0 (Below w.heap.size w wc))
      case first =>
       have H := HC9.out
       clear HC9
       replace H := Option.bind_eq_some_iff.mp H
       obtain ⟨t382, A140, H⟩ := H
       replace H : (if (t382.length : Int) = 0 then (spec_SheetValid.j1 k1 x3_1 true l0_0) else ((spec_l2NameOk.f k1 ((rd_T62 l0_0 x3_1).f1)).bind fun t385 => (if t385 = true then ((spec_l3LinesOk.f ((rd_T62 l0_0 x3_1).f0) ((rd_T62 l0_0 x3_1).f2)).bind fun t386 => (if t386 = true then (if x3_1 > 0 then (if 0 ≤ (wrap64 (x3_1 - 1)) then (if (wrap64 (x3_1 - 1)) < (l0_0.length : Int) then ((spec_l3Ahead.f ((rd_T62 l0_0 (wrap64 (x3_1 - 1))).f0) ((rd_T62 l0_0 (wrap64 (x3_1 - 1))).f1) ((rd_T62 l0_0 (wrap64 (x3_1 - 1))).f2) ((rd_T62 l0_0 x3_1).f0) ((rd_T62 l0_0 x3_1).f1) ((rd_T62 l0_0 x3_1).f2)).bind fun t388 => (spec_SheetValid.j1 k1 x3_1 (!t388) l0_0)) else (none)) else (none)) else (spec_SheetValid.j1 k1 x3_1 false l0_0)) else (spec_SheetValid.j1 k1 x3_1 true l0_0))) else (spec_SheetValid.j1 k1 x3_1 true l0_0)))) = some r := H
       have A14 := Aside0.mk A140
       clear A140
       by_cases c15 : (t382.length : Int) = 0
       ·rw [if_pos c15] at H
        have c15b0 : ((t382.length : Int) == 0) = true := beq_iff_eq.mpr c15
        have c15b1 : ((t382.length : Int) != 0) = false := bne_eq_false_iff_eq.mpr c15
        clear c15
        (first | rw [c15b0] | (simp only [i64_w, i32_w]; rw [c15b0]) | skip)
        have H' := Aside0.mk H
        clear H
        try go_wp2
        have n0_ : Aside0 ((((w11.setCell ⟨gb381, 0, none⟩ (.string ((rd_T62 l0_0 x3_1).f0))).setCell ⟨gb381, 1, none⟩ (.string ((rd_T62 l0_0 x3_1).f1))).setCell ⟨gb381, 2, none⟩ (.slice A380_2 ((rd_T62 l0_0 x3_1).f2).length c380_2)).heap[gb379]? = some (.cells #[.slice (some ad380) l0_0.length c0_0] 47 (0, 0))) := ⟨by (with_reducible repeat (first | refine blk_drewN ?_ _ | refine blk_drew ?_ | refine blk_alloc ?_ _)); refine blk_far ?_ NB379_381.out _; (with_reducible repeat (first | refine blk_drewN ?_ _ | refine blk_drew ?_ | refine blk_alloc ?_ _)); refine blk_far ?_ NB379_381.out _; (with_reducible repeat (first | refine blk_drewN ?_ _ | refine blk_drew ?_ | refine blk_alloc ?_ _)); refine blk_far ?_ NB379_381.out _; (with_reducible repeat (first | refine blk_drewN ?_ _ | refine blk_drew ?_ | refine blk_alloc ?_ _)); exact BK379.out⟩
        have n1_ : Aside0 ((((w11.setCell ⟨gb381, 0, none⟩ (.string ((rd_T62 l0_0 x3_1).f0))).setCell ⟨gb381, 1, none⟩ (.string ((rd_T62 l0_0 x3_1).f1))).setCell ⟨gb381, 2, none⟩ (.slice A380_2 ((rd_T62 l0_0 x3_1).f2).length c380_2)).heap[gb381]? = some (.cells #[.string ((rd_T62 l0_0 x3_1).f0), .string ((rd_T62 l0_0 x3_1).f1), .slice A380_2 ((rd_T62 l0_0 x3_1).f2).length c380_2] 62 (0, 0))) := ⟨by (with_reducible repeat (first | refine blk_drewN ?_ _ | refine blk_drew ?_ | refine blk_alloc ?_ _)); refine blk_put (cs := #[.string ((rd_T62 l0_0 x3_1).f0), .string ((rd_T62 l0_0 x3_1).f1), .slice none 0 0]) ?_ 2 _ rfl; (with_reducible repeat (first | refine blk_drewN ?_ _ | refine blk_drew ?_ | refine blk_alloc ?_ _)); refine blk_put (cs := #[.string ((rd_T62 l0_0 x3_1).f0), .string (⟨#[]⟩ : ByteArray), .slice none 0 0]) ?_ 1 _ rfl; (with_reducible repeat (first | refine blk_drewN ?_ _ | refine blk_drew ?_ | refine blk_alloc ?_ _)); refine blk_put (cs := #[.string (⟨#[]⟩ : ByteArray), .string (⟨#[]⟩ : ByteArray), .slice none 0 0]) ?_ 0 _ rfl; (with_reducible repeat (first | refine blk_drewN ?_ _ | refine blk_drew ?_ | refine blk_alloc ?_ _)); exact BK381.out⟩
        have n2_ : Aside0 (Below w.heap.size w (((w11.setCell ⟨gb381, 0, none⟩ (.string ((rd_T62 l0_0 x3_1).f0))).setCell ⟨gb381, 1, none⟩ (.string ((rd_T62 l0_0 x3_1).f1))).setCell ⟨gb381, 2, none⟩ (.slice A380_2 ((rd_T62 l0_0 x3_1).f2).length c380_2))) := ⟨by repeat (first | (with_reducible first | exact HB.out | apply below_alloc | apply pw_below_drewN | apply below_drew1 | refine below_set ?_ GE379.out | refine below_set ?_ GE381.out) | exact HB.out)⟩
        (try clear BK379)
        (try clear BK381)
        (try clear HB)
        generalize (((w11.setCell ⟨gb381, 0, none⟩ (.string ((rd_T62 l0_0 x3_1).f0))).setCell ⟨gb381, 1, none⟩ (.string ((rd_T62 l0_0 x3_1).f1))).setCell ⟨gb381, 2, none⟩ (.slice A380_2 ((rd_T62 l0_0 x3_1).f2).length c380_2)) = w16 at n0_ n1_ n2_ ⊢
        have BK379 := n0_
        have BK381 := n1_
        have HB := n2_
        clear n0_ n1_ n2_
        have n0_ := Aside0.mk (blk_drew BK379.out)
        have n1_ := Aside0.mk (blk_drew BK381.out)
        have n2_ := Aside0.mk (below_drew1 HB.out)
        clear BK379
        clear BK381
        clear HB
        have BK379 := n0_
        have BK381 := n1_
        have HB := n2_
        clear n0_ n1_ n2_
        refine start_ (n := 34) (S := fun w' => w'.cell? ⟨gb381, 0, none⟩ = some (.string ((rd_T62 l0_0 x3_1).f0)) ∧ w'.cell? ⟨gb381, 1, none⟩ = some (.string ((rd_T62 l0_0 x3_1).f1)) ∧ w'.cell? ⟨gb381, 2, none⟩ = some (.slice A380_2 ((rd_T62 l0_0 x3_1).f2).length c380_2)) (ds := []) (bz_ 34 0) (by kernel_rfl) rfl rfl ⟨(blk_cell BK381.out 0).trans rfl, (blk_cell BK381.out 1).trans rfl, (blk_cell BK381.out 2).trans rfl⟩ (fun hHeld => ?_); refine with_tabW spec_SheetValid.tab7 spec_SheetValid.bits7 (fun HT_ HW_ => ?_)
        generalize w16.drew = w17 at BK379 BK381 HB hHeld ⊢
        refine pure_ (i := 0) (N := some 21) (v := ?_) (a' := ?_) (bz_ 34 1) rfl rfl (any_of HT_.out (by kernel_rfl)) (fun _ _ _ h => h) (Or.inl ⟨by rfl, ?_⟩) ?_ ?_
        rotate_left
        ·intro w'
         go_simp
         with_reducible rfl
        rotate_left
        ·simp only [Act.put, List.setIfInBounds_toArray, List.set_cons_zero, List.set_cons_succ, i64_w, i32_w]
         rfl
        refine take_ (i := 1) (N := some 22) (v := ?_) (a' := ?_) (bz_ 34 3) rfl rfl (take_ofW HT_.out HW_.out (by kernel_rfl)) (fun _ _ _ h => h) (Or.inl ⟨by rfl, ?_⟩) hHeld ?_ ?_
        rotate_left
        ·rintro w' ⟨s0, s1, s2⟩
         go_simp
         with_reducible rfl
        rotate_left
        ·simp only [Act.put, List.setIfInBounds_toArray, List.set_cons_zero, List.set_cons_succ, i64_w, i32_w]
         rfl
        refine one_ (i := 2) (N := some 23) (bz_ 34 7) rfl rfl (one_of HT_.out (by kernel_rfl)) (by decide) (fun K hK => ?_)
        refine goes_ Tryd.func13 (by kernel_rfl) rfl #[.string ((rd_T62 l0_0 x3_1).f0)] (by rfl) rfl rfl (by (try simp only [List.map_toArray, List.map_cons, List.map_nil]); first | done | rfl | (simp only [List.length_drop, List.length_take]; rfl)) ?_
        with_reducible refine (spec_SheetRules.calls ((rd_T62 l0_0 x3_1).f0) t382 _ A14.out).mono ?_
        rintro e w18 ⟨v383, rfl, ho0, hb⟩
        refine ⟨_, rfl, ?_⟩
        have n0_ := Aside0.mk (Kd.R_lower ho0 (below_size (by repeat (first | (with_reducible first | exact HB.out | apply below_alloc | apply pw_below_drewN | apply below_drew1 | refine below_set ?_ GE379.out | refine below_set ?_ GE381.out) | exact HB.out))))
        have n1_ := Aside0.mk (blk_below (g := gb379) (o := .cells #[.slice (some ad380) l0_0.length c0_0] 47 (0, 0)) (by (with_reducible repeat (first | refine blk_drewN ?_ _ | refine blk_drew ?_ | refine blk_alloc ?_ _)); exact BK379.out) hb)
        have n2_ := Aside0.mk (blk_below (g := gb381) (o := .cells #[.string ((rd_T62 l0_0 x3_1).f0), .string ((rd_T62 l0_0 x3_1).f1), .slice A380_2 ((rd_T62 l0_0 x3_1).f2).length c380_2] 62 (0, 0)) (by (with_reducible repeat (first | refine blk_drewN ?_ _ | refine blk_drew ?_ | refine blk_alloc ?_ _)); exact BK381.out) hb)
        have n3_ := Aside0.mk (below_step (by repeat (first | (with_reducible first | exact HB.out | apply below_alloc | apply pw_below_drewN | apply below_drew1 | refine below_set ?_ GE379.out | refine below_set ?_ GE381.out) | exact HB.out)) hb)
        clear BK379
        clear BK381
        clear HB
        have HO384 := n0_
        have BK379 := n1_
        have BK381 := n2_
        have HB := n3_
        clear n0_ n1_ n2_ n3_
        (try clear hb)
        (try clear hb2)
        (try clear hk)
        (try clear hi)
        (try clear ho0)
        obtain ⟨Ao19, co19, eo19⟩ := Kd.R_slice HO384.out
        (first | subst eo19 | (injection eo19 with f1_ f2_ f3_; have f4_ := f1_.symm; have f5_ := f3_.symm; clear f1_ f2_ f3_; subst f4_; subst f5_))
        refine hK.out _ _ ⟨(blk_cell BK381.out 0).trans rfl, (blk_cell BK381.out 1).trans rfl, (blk_cell BK381.out 2).trans rfl⟩ (fun hHeld => ?_)
        clear hK K
        refine norm_ (a' := ?_) ?_ ?_
        rotate_left
        ·show Act.put _ (some 23) _ = _
         simp only [Act.put, List.setIfInBounds_toArray, List.set_cons_zero, List.set_cons_succ, i64_w, i32_w]
         rfl
        refine pure_ (i := 3) (N := some 24) (v := ?_) (a' := ?_) (bz_ 34 15) rfl rfl (any_of HT_.out (by kernel_rfl)) (fun _ _ _ h => h) (Or.inl ⟨by rfl, ?_⟩) ?_ ?_
        rotate_left
        ·intro w'
         go_simp
         with_reducible rfl
        rotate_left
        ·simp only [Act.put, List.setIfInBounds_toArray, List.set_cons_zero, List.set_cons_succ, i64_w, i32_w]
         rfl
        refine pure_ (i := 4) (N := some 25) (v := ?_) (a' := ?_) (bz_ 34 31) rfl rfl (any_of HT_.out (by kernel_rfl)) (fun _ _ _ h => h) (Or.inl ⟨by rfl, ?_⟩) ?_ ?_
        rotate_left
        ·intro w'
         go_simp
         with_reducible rfl
        rotate_left
        ·simp only [Act.put, List.setIfInBounds_toArray, List.set_cons_zero, List.set_cons_succ, i64_w, i32_w]
         rfl
        refine pure_ (i := 5) (N := some 26) (v := ?_) (a' := ?_) (bz_ 34 63) rfl rfl (any_of HT_.out (by kernel_rfl)) (fun _ _ _ h => h) (Or.inl ⟨by rfl, ?_⟩) ?_ ?_
        rotate_left
        ·intro w'
         go_simp
         with_reducible rfl
        rotate_left
        ·simp only [Act.put, List.setIfInBounds_toArray, List.set_cons_zero, List.set_cons_succ, i64_w, i32_w]
         rfl
        refine pure_ (i := 6) (N := some 27) (v := undef) (a' := ?_) (bz_ 34 127) rfl rfl (any_of HT_.out (by kernel_rfl)) (fun _ _ _ h => h) (Or.inr ⟨by rfl, rfl⟩) ?_ ?_
        rotate_left
        ·simp only [Act.put, List.setIfInBounds_toArray, List.set_cons_zero, List.set_cons_succ, i64_w, i32_w]
         rfl
        refine pure_ (i := 7) (N := some 28) (v := undef) (a' := ?_) (bz_ 34 255) rfl rfl (any_of HT_.out (by kernel_rfl)) (fun _ _ _ h => h) (Or.inr ⟨by rfl, rfl⟩) ?_ ?_
        rotate_left
        ·simp only [Act.put, List.setIfInBounds_toArray, List.set_cons_zero, List.set_cons_succ, i64_w, i32_w]
         rfl
        refine pure_ (i := 8) (N := some 29) (v := undef) (a' := ?_) (bz_ 34 511) rfl rfl (any_of HT_.out (by kernel_rfl)) (fun _ _ _ h => h) (Or.inr ⟨by rfl, rfl⟩) ?_ ?_
        rotate_left
        ·simp only [Act.put, List.setIfInBounds_toArray, List.set_cons_zero, List.set_cons_succ, i64_w, i32_w]
         rfl
        refine pure_ (i := 9) (N := some 30) (v := undef) (a' := ?_) (bz_ 34 1023) rfl rfl (any_of HT_.out (by kernel_rfl)) (fun _ _ _ h => h) (Or.inr ⟨by rfl, rfl⟩) ?_ ?_
        rotate_left
        ·simp only [Act.put, List.setIfInBounds_toArray, List.set_cons_zero, List.set_cons_succ, i64_w, i32_w]
         rfl
        refine pure_ (i := 10) (N := some 31) (v := ?_) (a' := ?_) (bz_ 34 2047) rfl rfl (any_of HT_.out (by kernel_rfl)) (fun _ _ _ h => h) (Or.inl ⟨by rfl, ?_⟩) ?_ ?_
        rotate_left
        ·intro w'
         go_simp
         with_reducible rfl
        rotate_left
        ·simp only [Act.put, List.setIfInBounds_toArray, List.set_cons_zero, List.set_cons_succ, i64_w, i32_w]
         rfl
        refine pure_ (i := 11) (N := some 32) (v := ?_) (a' := ?_) (bz_ 34 4095) rfl rfl (any_of HT_.out (by kernel_rfl)) (fun _ _ _ h => h) (Or.inl ⟨by rfl, ?_⟩) ?_ ?_
        rotate_left
        ·intro w'
         go_simp
         with_reducible rfl
        rotate_left
        ·simp only [Act.put, List.setIfInBounds_toArray, List.set_cons_zero, List.set_cons_succ, i64_w, i32_w]
         rfl
        refine pure_ (i := 12) (N := some 33) (v := undef) (a' := ?_) (bz_ 34 8191) rfl rfl (any_of HT_.out (by kernel_rfl)) (fun _ _ _ h => h) (Or.inr ⟨by rfl, rfl⟩) ?_ ?_
        rotate_left
        ·simp only [Act.put, List.setIfInBounds_toArray, List.set_cons_zero, List.set_cons_succ, i64_w, i32_w]
         rfl
        refine pure_ (i := 13) (N := some 34) (v := undef) (a' := ?_) (bz_ 34 16383) rfl rfl (any_of HT_.out (by kernel_rfl)) (fun _ _ _ h => h) (Or.inr ⟨by rfl, rfl⟩) ?_ ?_
        rotate_left
        ·simp only [Act.put, List.setIfInBounds_toArray, List.set_cons_zero, List.set_cons_succ, i64_w, i32_w]
         rfl
        refine pure_ (i := 14) (N := some 35) (v := undef) (a' := ?_) (bz_ 34 32767) rfl rfl (any_of HT_.out (by kernel_rfl)) (fun _ _ _ h => h) (Or.inr ⟨by rfl, rfl⟩) ?_ ?_
        rotate_left
        ·simp only [Act.put, List.setIfInBounds_toArray, List.set_cons_zero, List.set_cons_succ, i64_w, i32_w]
         rfl
        refine pure_ (i := 15) (N := some 36) (v := undef) (a' := ?_) (bz_ 34 65535) rfl rfl (any_of HT_.out (by kernel_rfl)) (fun _ _ _ h => h) (Or.inr ⟨by rfl, rfl⟩) ?_ ?_
        rotate_left
        ·simp only [Act.put, List.setIfInBounds_toArray, List.set_cons_zero, List.set_cons_succ, i64_w, i32_w]
         rfl
        refine pure_ (i := 16) (N := some 37) (v := undef) (a' := ?_) (bz_ 34 131071) rfl rfl (any_of HT_.out (by kernel_rfl)) (fun _ _ _ h => h) (Or.inr ⟨by rfl, rfl⟩) ?_ ?_
        rotate_left
        ·simp only [Act.put, List.setIfInBounds_toArray, List.set_cons_zero, List.set_cons_succ, i64_w, i32_w]
         rfl
        refine pure_ (i := 17) (N := some 38) (v := undef) (a' := ?_) (bz_ 34 262143) rfl rfl (any_of HT_.out (by kernel_rfl)) (fun _ _ _ h => h) (Or.inr ⟨by rfl, rfl⟩) ?_ ?_
        rotate_left
        ·simp only [Act.put, List.setIfInBounds_toArray, List.set_cons_zero, List.set_cons_succ, i64_w, i32_w]
         rfl
        refine pure_ (i := 18) (N := some 39) (v := ?_) (a' := ?_) (bz_ 34 524287) rfl rfl (any_of HT_.out (by kernel_rfl)) (fun _ _ _ h => h) (Or.inl ⟨by rfl, ?_⟩) ?_ ?_
        rotate_left
        ·intro w'
         go_simp
         with_reducible rfl
        rotate_left
        ·simp only [Act.put, List.setIfInBounds_toArray, List.set_cons_zero, List.set_cons_succ, i64_w, i32_w]
         rfl
        refine pure_ (i := 19) (N := some 40) (v := ?_) (a' := ?_) (bz_ 34 1048575) rfl rfl (any_of HT_.out (by kernel_rfl)) (fun _ _ _ h => h) (Or.inl ⟨by rfl, ?_⟩) ?_ ?_
        rotate_left
        ·intro w'
         go_simp
         with_reducible rfl
        rotate_left
        ·simp only [Act.put, List.setIfInBounds_toArray, List.set_cons_zero, List.set_cons_succ, i64_w, i32_w]
         rfl
        refine pure_ (i := 20) (N := some 41) (v := undef) (a' := ?_) (bz_ 34 2097151) rfl rfl (any_of HT_.out (by kernel_rfl)) (fun _ _ _ h => h) (Or.inr ⟨by rfl, rfl⟩) ?_ ?_
        rotate_left
        ·simp only [Act.put, List.setIfInBounds_toArray, List.set_cons_zero, List.set_cons_succ, i64_w, i32_w]
         rfl
        refine pure_ (i := 21) (N := some 42) (v := undef) (a' := ?_) (bz_ 34 4194303) rfl rfl (any_of HT_.out (by kernel_rfl)) (fun _ _ _ h => h) (Or.inr ⟨by rfl, rfl⟩) ?_ ?_
        rotate_left
        ·simp only [Act.put, List.setIfInBounds_toArray, List.set_cons_zero, List.set_cons_succ, i64_w, i32_w]
         rfl
        refine pure_ (i := 22) (N := some 43) (v := undef) (a' := ?_) (bz_ 34 8388607) rfl rfl (any_of HT_.out (by kernel_rfl)) (fun _ _ _ h => h) (Or.inr ⟨by rfl, rfl⟩) ?_ ?_
        rotate_left
        ·simp only [Act.put, List.setIfInBounds_toArray, List.set_cons_zero, List.set_cons_succ, i64_w, i32_w]
         rfl
        refine pure_ (i := 23) (N := some 44) (v := undef) (a' := ?_) (bz_ 34 16777215) rfl rfl (any_of HT_.out (by kernel_rfl)) (fun _ _ _ h => h) (Or.inr ⟨by rfl, rfl⟩) ?_ ?_
        rotate_left
        ·simp only [Act.put, List.setIfInBounds_toArray, List.set_cons_zero, List.set_cons_succ, i64_w, i32_w]
         rfl
        refine pure_ (i := 24) (N := some 45) (v := undef) (a' := ?_) (bz_ 34 33554431) rfl rfl (any_of HT_.out (by kernel_rfl)) (fun _ _ _ h => h) (Or.inr ⟨by rfl, rfl⟩) ?_ ?_
        rotate_left
        ·simp only [Act.put, List.setIfInBounds_toArray, List.set_cons_zero, List.set_cons_succ, i64_w, i32_w]
         rfl
        refine pure_ (i := 25) (N := some 46) (v := undef) (a' := ?_) (bz_ 34 67108863) rfl rfl (any_of HT_.out (by kernel_rfl)) (fun _ _ _ h => h) (Or.inr ⟨by rfl, rfl⟩) ?_ ?_
        rotate_left
        ·simp only [Act.put, List.setIfInBounds_toArray, List.set_cons_zero, List.set_cons_succ, i64_w, i32_w]
         rfl
        refine pure_ (i := 26) (N := some 47) (v := undef) (a' := ?_) (bz_ 34 134217727) rfl rfl (any_of HT_.out (by kernel_rfl)) (fun _ _ _ h => h) (Or.inr ⟨by rfl, rfl⟩) ?_ ?_
        rotate_left
        ·simp only [Act.put, List.setIfInBounds_toArray, List.set_cons_zero, List.set_cons_succ, i64_w, i32_w]
         rfl
        refine pure_ (i := 27) (N := some 48) (v := undef) (a' := ?_) (bz_ 34 268435455) rfl rfl (any_of HT_.out (by kernel_rfl)) (fun _ _ _ h => h) (Or.inr ⟨by rfl, rfl⟩) ?_ ?_
        rotate_left
        ·simp only [Act.put, List.setIfInBounds_toArray, List.set_cons_zero, List.set_cons_succ, i64_w, i32_w]
         rfl
        refine pure_ (i := 28) (N := some 49) (v := undef) (a' := ?_) (bz_ 34 536870911) rfl rfl (any_of HT_.out (by kernel_rfl)) (fun _ _ _ h => h) (Or.inr ⟨by rfl, rfl⟩) ?_ ?_
        rotate_left
        ·simp only [Act.put, List.setIfInBounds_toArray, List.set_cons_zero, List.set_cons_succ, i64_w, i32_w]
         rfl
        refine pure_ (i := 29) (N := some 50) (v := undef) (a' := ?_) (bz_ 34 1073741823) rfl rfl (any_of HT_.out (by kernel_rfl)) (fun _ _ _ h => h) (Or.inr ⟨by rfl, rfl⟩) ?_ ?_
        rotate_left
        ·simp only [Act.put, List.setIfInBounds_toArray, List.set_cons_zero, List.set_cons_succ, i64_w, i32_w]
         rfl
        refine pure_ (i := 30) (N := some 51) (v := undef) (a' := ?_) (bz_ 34 2147483647) rfl rfl (any_of HT_.out (by kernel_rfl)) (fun _ _ _ h => h) (Or.inr ⟨by rfl, rfl⟩) ?_ ?_
        rotate_left
        ·simp only [Act.put, List.setIfInBounds_toArray, List.set_cons_zero, List.set_cons_succ, i64_w, i32_w]
         rfl
        refine pure_ (i := 31) (N := some 52) (v := undef) (a' := ?_) (bz_ 34 4294967295) rfl rfl (any_of HT_.out (by kernel_rfl)) (fun _ _ _ h => h) (Or.inr ⟨by rfl, rfl⟩) ?_ ?_
        rotate_left
        ·simp only [Act.put, List.setIfInBounds_toArray, List.set_cons_zero, List.set_cons_succ, i64_w, i32_w]
         rfl
        refine pure_ (i := 32) (N := some 53) (v := undef) (a' := ?_) (bz_ 34 8589934591) rfl rfl (any_of HT_.out (by kernel_rfl)) (fun _ _ _ h => h) (Or.inr ⟨by rfl, rfl⟩) ?_ ?_
        rotate_left
        ·simp only [Act.put, List.setIfInBounds_toArray, List.set_cons_zero, List.set_cons_succ, i64_w, i32_w]
         rfl
        refine pure_ (i := 33) (N := some 54) (v := ?_) (a' := ?_) (bz_ 34 17179869183) rfl rfl (any_of HT_.out (by kernel_rfl)) (fun _ _ _ h => h) (Or.inl ⟨by rfl, ?_⟩) ?_ ?_
        rotate_left
        ·intro w'
         go_simp
         with_reducible rfl
        rotate_left
        ·simp only [Act.put, List.setIfInBounds_toArray, List.set_cons_zero, List.set_cons_succ, i64_w, i32_w]
         rfl
        refine done_ (done_of HT_.out (by kernel_rfl)) ?_
        try go_wp2
        go_meet
        case rel => exact ⟨_, (true), (by first | rfl | (simp; done) | (simp [*]; done)), H', ⟨by have := HK1.out; first | omega | exact Nat.le_refl _⟩, ⟨by (with_reducible repeat (first | refine blk_drewN ?_ _ | refine blk_drew ?_ | refine blk_alloc ?_ _)); exact BK379.out⟩, ⟨by (with_reducible repeat (first | refine blk_drewN ?_ _ | refine blk_drew ?_ | refine blk_alloc ?_ _)); exact BK381.out⟩, ⟨by repeat (first | (with_reducible first | exact HB.out | apply below_alloc | apply pw_below_drewN | apply below_drew1 | refine below_set ?_ GE379.out | refine below_set ?_ GE381.out) | exact HB.out)⟩⟩
       ·rw [if_neg c15] at H
        have c15b0 : ((t382.length : Int) == 0) = false := beq_eq_false_iff_ne.mpr c15
        have c15b1 : ((t382.length : Int) != 0) = true := bne_iff_ne.mpr c15
        have c15b2 : ¬ (t382 = []) := fun h_ => c15 (by rw [h_]; rfl)
        (first | rw [c15b0] | (simp only [i64_w, i32_w]; rw [c15b0]) | skip)
        replace H := Option.bind_eq_some_iff.mp H
        obtain ⟨t385, A200, H⟩ := H
        replace H : (if t385 = true then ((spec_l3LinesOk.f ((rd_T62 l0_0 x3_1).f0) ((rd_T62 l0_0 x3_1).f2)).bind fun t386 => (if t386 = true then (if x3_1 > 0 then (if 0 ≤ (wrap64 (x3_1 - 1)) then (if (wrap64 (x3_1 - 1)) < (l0_0.length : Int) then ((spec_l3Ahead.f ((rd_T62 l0_0 (wrap64 (x3_1 - 1))).f0) ((rd_T62 l0_0 (wrap64 (x3_1 - 1))).f1) ((rd_T62 l0_0 (wrap64 (x3_1 - 1))).f2) ((rd_T62 l0_0 x3_1).f0) ((rd_T62 l0_0 x3_1).f1) ((rd_T62 l0_0 x3_1).f2)).bind fun t388 => (spec_SheetValid.j1 k1 x3_1 (!t388) l0_0)) else (none)) else (none)) else (spec_SheetValid.j1 k1 x3_1 false l0_0)) else (spec_SheetValid.j1 k1 x3_1 true l0_0))) else (spec_SheetValid.j1 k1 x3_1 true l0_0)) = some r := H
        have A20 := Aside0.mk A200
        clear A200
        by_cases c21 : t385 = true
        ·subst c21
         have H1 : ((spec_l3LinesOk.f ((rd_T62 l0_0 x3_1).f0) ((rd_T62 l0_0 x3_1).f2)).bind fun t386 => (if t386 = true then (if x3_1 > 0 then (if 0 ≤ (wrap64 (x3_1 - 1)) then (if (wrap64 (x3_1 - 1)) < (l0_0.length : Int) then ((spec_l3Ahead.f ((rd_T62 l0_0 (wrap64 (x3_1 - 1))).f0) ((rd_T62 l0_0 (wrap64 (x3_1 - 1))).f1) ((rd_T62 l0_0 (wrap64 (x3_1 - 1))).f2) ((rd_T62 l0_0 x3_1).f0) ((rd_T62 l0_0 x3_1).f1) ((rd_T62 l0_0 x3_1).f2)).bind fun t388 => (spec_SheetValid.j1 k1 x3_1 (!t388) l0_0)) else (none)) else (none)) else (spec_SheetValid.j1 k1 x3_1 false l0_0)) else (spec_SheetValid.j1 k1 x3_1 true l0_0))) = some r := by rw [if_pos rfl] at H; exact H
         clear H
         have H := H1
         clear H1
         replace H := Option.bind_eq_some_iff.mp H
         obtain ⟨t386, A220, H⟩ := H
         replace H : (if t386 = true then (if x3_1 > 0 then (if 0 ≤ (wrap64 (x3_1 - 1)) then (if (wrap64 (x3_1 - 1)) < (l0_0.length : Int) then ((spec_l3Ahead.f ((rd_T62 l0_0 (wrap64 (x3_1 - 1))).f0) ((rd_T62 l0_0 (wrap64 (x3_1 - 1))).f1) ((rd_T62 l0_0 (wrap64 (x3_1 - 1))).f2) ((rd_T62 l0_0 x3_1).f0) ((rd_T62 l0_0 x3_1).f1) ((rd_T62 l0_0 x3_1).f2)).bind fun t388 => (spec_SheetValid.j1 k1 x3_1 (!t388) l0_0)) else (none)) else (none)) else (spec_SheetValid.j1 k1 x3_1 false l0_0)) else (spec_SheetValid.j1 k1 x3_1 true l0_0)) = some r := H
         have A22 := Aside0.mk A220
         clear A220
         by_cases c23 : t386 = true
         ·subst c23
          have H1 : (if x3_1 > 0 then (if 0 ≤ (wrap64 (x3_1 - 1)) then (if (wrap64 (x3_1 - 1)) < (l0_0.length : Int) then ((spec_l3Ahead.f ((rd_T62 l0_0 (wrap64 (x3_1 - 1))).f0) ((rd_T62 l0_0 (wrap64 (x3_1 - 1))).f1) ((rd_T62 l0_0 (wrap64 (x3_1 - 1))).f2) ((rd_T62 l0_0 x3_1).f0) ((rd_T62 l0_0 x3_1).f1) ((rd_T62 l0_0 x3_1).f2)).bind fun t388 => (spec_SheetValid.j1 k1 x3_1 (!t388) l0_0)) else (none)) else (none)) else (spec_SheetValid.j1 k1 x3_1 false l0_0)) = some r := by rw [if_pos rfl] at H; exact H
          clear H
          have H := H1
          clear H1
          by_cases c24 : x3_1 > 0
          ·rw [if_pos c24] at H
           have c24b0 : decide (0 < x3_1) = true := decide_eq_true c24
           clear c24
           obtain ⟨ji25, hji25⟩ : ∃ j_ : Int, (wrap64 (x3_1 - 1)) = j_ := ⟨_, rfl⟩
           replace H : (if 0 ≤ (ji25) then (if (ji25) < (l0_0.length : Int) then ((spec_l3Ahead.f ((rd_T62 l0_0 (ji25)).f0) ((rd_T62 l0_0 (ji25)).f1) ((rd_T62 l0_0 (ji25)).f2) ((rd_T62 l0_0 x3_1).f0) ((rd_T62 l0_0 x3_1).f1) ((rd_T62 l0_0 x3_1).f2)).bind fun t388 => (spec_SheetValid.j1 k1 x3_1 (!t388) l0_0)) else (none)) else (none)) = some r := by first | (rw [hji25] at H; exact H) | (simp only [hji25] at H ⊢; exact H)
           (try rw [hji25] at A14)
           (try rw [hji25] at A20)
           (try rw [hji25] at A22)
           have hji25w : (IntKind.i64.wrap (x3_1 - 1)) = ji25 := (i64_w _).trans hji25
           by_cases c26 : 0 ≤ (ji25)
           ·rw [if_pos c26] at H
            have c26b0 : decide (0 ≤ (ji25)) = true := decide_eq_true c26
            clear c26
            by_cases c27 : (ji25) < (l0_0.length : Int)
            ·rw [if_pos c27] at H
             have c27b0 : decide ((ji25) < (l0_0.length : Int)) = true := decide_eq_true c27
             clear c27
             replace H := Option.bind_eq_some_iff.mp H
             obtain ⟨t388, A280, H⟩ := H
             replace H : (spec_SheetValid.j1 k1 x3_1 (!t388) l0_0) = some r := H
             have A28 := Aside0.mk A280
             clear A280
             have H' := Aside0.mk H
             clear H
             try go_wp2
             have n0_ : Aside0 ((((w11.setCell ⟨gb381, 0, none⟩ (.string ((rd_T62 l0_0 x3_1).f0))).setCell ⟨gb381, 1, none⟩ (.string ((rd_T62 l0_0 x3_1).f1))).setCell ⟨gb381, 2, none⟩ (.slice A380_2 ((rd_T62 l0_0 x3_1).f2).length c380_2)).heap[gb379]? = some (.cells #[.slice (some ad380) l0_0.length c0_0] 47 (0, 0))) := ⟨by (with_reducible repeat (first | refine blk_drewN ?_ _ | refine blk_drew ?_ | refine blk_alloc ?_ _)); refine blk_far ?_ NB379_381.out _; (with_reducible repeat (first | refine blk_drewN ?_ _ | refine blk_drew ?_ | refine blk_alloc ?_ _)); refine blk_far ?_ NB379_381.out _; (with_reducible repeat (first | refine blk_drewN ?_ _ | refine blk_drew ?_ | refine blk_alloc ?_ _)); refine blk_far ?_ NB379_381.out _; (with_reducible repeat (first | refine blk_drewN ?_ _ | refine blk_drew ?_ | refine blk_alloc ?_ _)); exact BK379.out⟩
             have n1_ : Aside0 ((((w11.setCell ⟨gb381, 0, none⟩ (.string ((rd_T62 l0_0 x3_1).f0))).setCell ⟨gb381, 1, none⟩ (.string ((rd_T62 l0_0 x3_1).f1))).setCell ⟨gb381, 2, none⟩ (.slice A380_2 ((rd_T62 l0_0 x3_1).f2).length c380_2)).heap[gb381]? = some (.cells #[.string ((rd_T62 l0_0 x3_1).f0), .string ((rd_T62 l0_0 x3_1).f1), .slice A380_2 ((rd_T62 l0_0 x3_1).f2).length c380_2] 62 (0, 0))) := ⟨by (with_reducible repeat (first | refine blk_drewN ?_ _ | refine blk_drew ?_ | refine blk_alloc ?_ _)); refine blk_put (cs := #[.string ((rd_T62 l0_0 x3_1).f0), .string ((rd_T62 l0_0 x3_1).f1), .slice none 0 0]) ?_ 2 _ rfl; (with_reducible repeat (first | refine blk_drewN ?_ _ | refine blk_drew ?_ | refine blk_alloc ?_ _)); refine blk_put (cs := #[.string ((rd_T62 l0_0 x3_1).f0), .string (⟨#[]⟩ : ByteArray), .slice none 0 0]) ?_ 1 _ rfl; (with_reducible repeat (first | refine blk_drewN ?_ _ | refine blk_drew ?_ | refine blk_alloc ?_ _)); refine blk_put (cs := #[.string (⟨#[]⟩ : ByteArray), .string (⟨#[]⟩ : ByteArray), .slice none 0 0]) ?_ 0 _ rfl; (with_reducible repeat (first | refine blk_drewN ?_ _ | refine blk_drew ?_ | refine blk_alloc ?_ _)); exact BK381.out⟩
             have n2_ : Aside0 (Below w.heap.size w (((w11.setCell ⟨gb381, 0, none⟩ (.string ((rd_T62 l0_0 x3_1).f0))).setCell ⟨gb381, 1, none⟩ (.string ((rd_T62 l0_0 x3_1).f1))).setCell ⟨gb381, 2, none⟩ (.slice A380_2 ((rd_T62 l0_0 x3_1).f2).length c380_2))) := ⟨by repeat (first | (with_reducible first | exact HB.out | apply below_alloc | apply pw_below_drewN | apply below_drew1 | refine below_set ?_ GE379.out | refine below_set ?_ GE381.out) | exact HB.out)⟩
             (try clear BK379)
             (try clear BK381)
             (try clear HB)
             generalize (((w11.setCell ⟨gb381, 0, none⟩ (.string ((rd_T62 l0_0 x3_1).f0))).setCell ⟨gb381, 1, none⟩ (.string ((rd_T62 l0_0 x3_1).f1))).setCell ⟨gb381, 2, none⟩ (.slice A380_2 ((rd_T62 l0_0 x3_1).f2).length c380_2)) = w29 at n0_ n1_ n2_ ⊢
             have BK379 := n0_
             have BK381 := n1_
             have HB := n2_
             clear n0_ n1_ n2_
             have n0_ := Aside0.mk (blk_drew BK379.out)
             have n1_ := Aside0.mk (blk_drew BK381.out)
             have n2_ := Aside0.mk (below_drew1 HB.out)
             clear BK379
             clear BK381
             clear HB
             have BK379 := n0_
             have BK381 := n1_
             have HB := n2_
             clear n0_ n1_ n2_
             have p387 : 0 ≤ ((ji25) : Int) := of_decide_eq_true (by first | (with_reducible assumption) | assumption)
             have q387 : (ji25) < (l0_0.length : Int) := of_decide_eq_true (by first | (with_reducible assumption) | assumption)
             obtain ⟨ad387, A387_2, c387_2, e387, hx387_0, hx387_1, hx387_2, hl387_2, hi387_2⟩ := at_T62 HR0_0.out (ji25) p387 q387
             have hw387_2 := hx387_2
             have hw387_1 := hx387_1
             have hw387_0 := hx387_0
             obtain rfl : ad380 = ad387 := (by injection e387)
             (try replace hx387_0 := (HB.out.cell (World.block_lt_of_cell? w _ hx387_0)).trans hx387_0)
             (try replace hx387_1 := (HB.out.cell (World.block_lt_of_cell? w _ hx387_1)).trans hx387_1)
             (try replace hx387_2 := (HB.out.cell (World.block_lt_of_cell? w _ hx387_2)).trans hx387_2)
             have HR387_2 := Aside0.mk hi387_2
             have HC387_2 := Aside0.mk hl387_2
             clear hi387_2 hl387_2
             replace p387 := eq_true p387
             replace q387 := eq_true q387
             refine start_ (n := 34) (S := fun w' => w'.cell? ⟨gb381, 0, none⟩ = some (.string ((rd_T62 l0_0 x3_1).f0)) ∧ w'.cell? ⟨gb381, 1, none⟩ = some (.string ((rd_T62 l0_0 x3_1).f1)) ∧ w'.cell? ⟨gb381, 2, none⟩ = some (.slice A380_2 ((rd_T62 l0_0 x3_1).f2).length c380_2) ∧ w'.cell? ⟨gb379, 0, none⟩ = some (.slice (some ad380) l0_0.length c0_0) ∧ w'.cell? (ad380.add (((ji25)).toNat * 3)) = some (.string ((rd_T62 l0_0 (ji25)).f0)) ∧ w'.cell? ⟨(ad380.add (((ji25)).toNat * 3)).block, (ad380.add (((ji25)).toNat * 3)).off + 1, none⟩ = some (.string ((rd_T62 l0_0 (ji25)).f1)) ∧ w'.cell? ⟨(ad380.add (((ji25)).toNat * 3)).block, (ad380.add (((ji25)).toNat * 3)).off + 2, none⟩ = some (.slice A387_2 ((rd_T62 l0_0 (ji25)).f2).length c387_2)) (ds := []) (bz_ 34 0) (by kernel_rfl) rfl rfl ⟨(blk_cell BK381.out 0).trans rfl, (blk_cell BK381.out 1).trans rfl, (blk_cell BK381.out 2).trans rfl, (blk_cell BK379.out 0).trans rfl, (by first | exact (HB.out.cell (World.block_lt_of_cell? w _ hw387_0)).trans hw387_0 | exact hw387_0), (by first | exact (HB.out.cell (World.block_lt_of_cell? w _ hw387_1)).trans hw387_1 | exact hw387_1), (by first | exact (HB.out.cell (World.block_lt_of_cell? w _ hw387_2)).trans hw387_2 | exact hw387_2)⟩ (fun hHeld => ?_); refine with_tabW spec_SheetValid.tab7 spec_SheetValid.bits7 (fun HT_ HW_ => ?_)
             generalize w29.drew = w30 at BK379 BK381 HB HR387_2 hx387_0 hx387_1 hx387_2 hHeld ⊢
             refine pure_ (i := 0) (N := some 21) (v := ?_) (a' := ?_) (bz_ 34 1) rfl rfl (any_of HT_.out (by kernel_rfl)) (fun _ _ _ h => h) (Or.inl ⟨by rfl, ?_⟩) ?_ ?_
             rotate_left
             ·intro w'
              go_simp
              with_reducible rfl
             rotate_left
             ·simp only [Act.put, List.setIfInBounds_toArray, List.set_cons_zero, List.set_cons_succ, i64_w, i32_w]
              rfl
             refine take_ (i := 1) (N := some 22) (v := ?_) (a' := ?_) (bz_ 34 3) rfl rfl (take_ofW HT_.out HW_.out (by kernel_rfl)) (fun _ _ _ h => h) (Or.inl ⟨by rfl, ?_⟩) hHeld ?_ ?_
             rotate_left
             ·rintro w' ⟨s0, s1, s2, s3, s4, s5, s6⟩
              go_simp
              with_reducible rfl
             rotate_left
             ·simp only [Act.put, List.setIfInBounds_toArray, List.set_cons_zero, List.set_cons_succ, i64_w, i32_w]
              rfl
             refine one_ (i := 2) (N := some 23) (bz_ 34 7) rfl rfl (one_of HT_.out (by kernel_rfl)) (by decide) (fun K hK => ?_)
             refine goes_ Tryd.func13 (by kernel_rfl) rfl #[.string ((rd_T62 l0_0 x3_1).f0)] (by rfl) rfl rfl (by (try simp only [List.map_toArray, List.map_cons, List.map_nil]); first | done | rfl | (simp only [List.length_drop, List.length_take]; rfl)) ?_
             with_reducible refine (spec_SheetRules.calls ((rd_T62 l0_0 x3_1).f0) t382 _ A14.out).mono ?_
             rintro e w31 ⟨v383, rfl, ho0, hb⟩
             refine ⟨_, rfl, ?_⟩
             have n0_ := Aside0.mk (Kd.R_lower ho0 (below_size (by repeat (first | (with_reducible first | exact HB.out | apply below_alloc | apply pw_below_drewN | apply below_drew1 | refine below_set ?_ GE379.out | refine below_set ?_ GE381.out) | exact HB.out))))
             have n1_ := Aside0.mk (blk_below (g := gb379) (o := .cells #[.slice (some ad380) l0_0.length c0_0] 47 (0, 0)) (by (with_reducible repeat (first | refine blk_drewN ?_ _ | refine blk_drew ?_ | refine blk_alloc ?_ _)); exact BK379.out) hb)
             have n2_ := Aside0.mk (blk_below (g := gb381) (o := .cells #[.string ((rd_T62 l0_0 x3_1).f0), .string ((rd_T62 l0_0 x3_1).f1), .slice A380_2 ((rd_T62 l0_0 x3_1).f2).length c380_2] 62 (0, 0)) (by (with_reducible repeat (first | refine blk_drewN ?_ _ | refine blk_drew ?_ | refine blk_alloc ?_ _)); exact BK381.out) hb)
             have n3_ := Aside0.mk (below_step (by repeat (first | (with_reducible first | exact HB.out | apply below_alloc | apply pw_below_drewN | apply below_drew1 | refine below_set ?_ GE379.out | refine below_set ?_ GE381.out) | exact HB.out)) hb)
             clear BK379
             clear BK381
             clear HB
             have HO384 := n0_
             have BK379 := n1_
             have BK381 := n2_
             have HB := n3_
             clear n0_ n1_ n2_ n3_
             (try clear hb)
             (try clear hb2)
             (try clear hk)
             (try clear hi)
             (try clear ho0)
             obtain ⟨Ao32, co32, eo32⟩ := Kd.R_slice HO384.out
             (first | subst eo32 | (injection eo32 with f1_ f2_ f3_; have f4_ := f1_.symm; have f5_ := f3_.symm; clear f1_ f2_ f3_; subst f4_; subst f5_))
             refine hK.out _ _ ⟨(blk_cell BK381.out 0).trans rfl, (blk_cell BK381.out 1).trans rfl, (blk_cell BK381.out 2).trans rfl, (blk_cell BK379.out 0).trans rfl, (by first | exact (HB.out.cell (World.block_lt_of_cell? w _ hw387_0)).trans hw387_0 | exact hw387_0), (by first | exact (HB.out.cell (World.block_lt_of_cell? w _ hw387_1)).trans hw387_1 | exact hw387_1), (by first | exact (HB.out.cell (World.block_lt_of_cell? w _ hw387_2)).trans hw387_2 | exact hw387_2)⟩ (fun hHeld => ?_)
             clear hK K
             refine norm_ (a' := ?_) ?_ ?_
             rotate_left
             ·show Act.put _ (some 23) _ = _
              simp only [Act.put, List.setIfInBounds_toArray, List.set_cons_zero, List.set_cons_succ, i64_w, i32_w]
              rfl
             refine pure_ (i := 3) (N := some 24) (v := ?_) (a' := ?_) (bz_ 34 15) rfl rfl (any_of HT_.out (by kernel_rfl)) (fun _ _ _ h => h) (Or.inl ⟨by rfl, ?_⟩) ?_ ?_
             rotate_left
             ·intro w'
              go_simp
              with_reducible rfl
             rotate_left
             ·simp only [Act.put, List.setIfInBounds_toArray, List.set_cons_zero, List.set_cons_succ, i64_w, i32_w]
              rfl
             refine pure_ (i := 4) (N := some 25) (v := ?_) (a' := ?_) (bz_ 34 31) rfl rfl (any_of HT_.out (by kernel_rfl)) (fun _ _ _ h => h) (Or.inl ⟨by rfl, ?_⟩) ?_ ?_
             rotate_left
             ·intro w'
              go_simp
              with_reducible rfl
             rotate_left
             ·simp only [Act.put, List.setIfInBounds_toArray, List.set_cons_zero, List.set_cons_succ, i64_w, i32_w]
              rfl
             refine pure_ (i := 5) (N := some 26) (v := ?_) (a' := ?_) (bz_ 34 63) rfl rfl (any_of HT_.out (by kernel_rfl)) (fun _ _ _ h => h) (Or.inl ⟨by rfl, ?_⟩) ?_ ?_
             rotate_left
             ·intro w'
              go_simp
              with_reducible rfl
             rotate_left
             ·simp only [Act.put, List.setIfInBounds_toArray, List.set_cons_zero, List.set_cons_succ, i64_w, i32_w]
              rfl
             refine pure_ (i := 6) (N := some 27) (v := ?_) (a' := ?_) (bz_ 34 127) rfl rfl (any_of HT_.out (by kernel_rfl)) (fun _ _ _ h => h) (Or.inl ⟨by rfl, ?_⟩) ?_ ?_
             rotate_left
             ·intro w'
              go_simp
              with_reducible rfl
             rotate_left
             ·simp only [Act.put, List.setIfInBounds_toArray, List.set_cons_zero, List.set_cons_succ, i64_w, i32_w]
              rfl
             refine take_ (i := 7) (N := some 28) (v := ?_) (a' := ?_) (bz_ 34 255) rfl rfl (take_ofW HT_.out HW_.out (by kernel_rfl)) (fun _ _ _ h => h) (Or.inl ⟨by rfl, ?_⟩) hHeld ?_ ?_
             rotate_left
             ·rintro w' ⟨s0, s1, s2, s3, s4, s5, s6⟩
              go_simp
              with_reducible rfl
             rotate_left
             ·simp only [Act.put, List.setIfInBounds_toArray, List.set_cons_zero, List.set_cons_succ, i64_w, i32_w]
              rfl
             refine one_ (i := 8) (N := some 29) (bz_ 34 511) rfl rfl (one_of HT_.out (by kernel_rfl)) (by decide) (fun K hK => ?_)
             refine goes_ Tryd.func71 (by kernel_rfl) rfl #[.string ((rd_T62 l0_0 x3_1).f1)] (by rfl) rfl rfl (by (try simp only [List.map_toArray, List.map_cons, List.map_nil]); first | done | rfl | (simp only [List.length_drop, List.length_take]; rfl)) ?_
             with_reducible refine (spec_l2NameOk.calls k1 ((rd_T62 l0_0 x3_1).f1) true _ A20.out).mono ?_
             rintro e w' ⟨rfl, ⟨nd, rfl⟩⟩
             refine ⟨_, rfl, ?_⟩
             refine hK.out _ _ ⟨(blk_cell BK381.out 0).trans rfl, (blk_cell BK381.out 1).trans rfl, (blk_cell BK381.out 2).trans rfl, (blk_cell BK379.out 0).trans rfl, (by first | exact (HB.out.cell (World.block_lt_of_cell? w _ hw387_0)).trans hw387_0 | exact hw387_0), (by first | exact (HB.out.cell (World.block_lt_of_cell? w _ hw387_1)).trans hw387_1 | exact hw387_1), (by first | exact (HB.out.cell (World.block_lt_of_cell? w _ hw387_2)).trans hw387_2 | exact hw387_2)⟩ (fun hHeld => ?_)
             clear hK K
             refine norm_ (a' := ?_) ?_ ?_
             rotate_left
             ·show Act.put _ (some 29) _ = _
              simp only [Act.put, List.setIfInBounds_toArray, List.set_cons_zero, List.set_cons_succ, i64_w, i32_w]
              rfl
             refine pure_ (i := 9) (N := some 30) (v := ?_) (a' := ?_) (bz_ 34 1023) rfl rfl (any_of HT_.out (by kernel_rfl)) (fun _ _ _ h => h) (Or.inl ⟨by rfl, ?_⟩) ?_ ?_
             rotate_left
             ·intro w'
              go_simp
              with_reducible rfl
             rotate_left
             ·simp only [Act.put, List.setIfInBounds_toArray, List.set_cons_zero, List.set_cons_succ, i64_w, i32_w]
              rfl
             refine pure_ (i := 10) (N := some 31) (v := ?_) (a' := ?_) (bz_ 34 2047) rfl rfl (any_of HT_.out (by kernel_rfl)) (fun _ _ _ h => h) (Or.inl ⟨by rfl, ?_⟩) ?_ ?_
             rotate_left
             ·intro w'
              go_simp
              with_reducible rfl
             rotate_left
             ·simp only [Act.put, List.setIfInBounds_toArray, List.set_cons_zero, List.set_cons_succ, i64_w, i32_w]
              rfl
             refine pure_ (i := 11) (N := some 32) (v := ?_) (a' := ?_) (bz_ 34 4095) rfl rfl (any_of HT_.out (by kernel_rfl)) (fun _ _ _ h => h) (Or.inl ⟨by rfl, ?_⟩) ?_ ?_
             rotate_left
             ·intro w'
              go_simp
              with_reducible rfl
             rotate_left
             ·simp only [Act.put, List.setIfInBounds_toArray, List.set_cons_zero, List.set_cons_succ, i64_w, i32_w]
              rfl
             refine pure_ (i := 12) (N := some 33) (v := ?_) (a' := ?_) (bz_ 34 8191) rfl rfl (any_of HT_.out (by kernel_rfl)) (fun _ _ _ h => h) (Or.inl ⟨by rfl, ?_⟩) ?_ ?_
             rotate_left
             ·intro w'
              go_simp
              with_reducible rfl
             rotate_left
             ·simp only [Act.put, List.setIfInBounds_toArray, List.set_cons_zero, List.set_cons_succ, i64_w, i32_w]
              rfl
             refine pure_ (i := 14) (N := some 35) (v := ?_) (a' := ?_) (bz_ 34 24575) rfl rfl (any_of HT_.out (by kernel_rfl)) (fun _ _ _ h => h) (Or.inl ⟨by rfl, ?_⟩) ?_ ?_
             rotate_left
             ·intro w'
              go_simp
              with_reducible rfl
             rotate_left
             ·simp only [Act.put, List.setIfInBounds_toArray, List.set_cons_zero, List.set_cons_succ, i64_w, i32_w]
              rfl
             refine take_ (i := 13) (N := some 34) (v := ?_) (a' := ?_) (bz_ 34 32767) rfl rfl (take_ofW HT_.out HW_.out (by kernel_rfl)) (fun _ _ _ h => h) (Or.inl ⟨by rfl, ?_⟩) hHeld ?_ ?_
             rotate_left
             ·rintro w' ⟨s0, s1, s2, s3, s4, s5, s6⟩
              go_simp
              with_reducible rfl
             rotate_left
             ·simp only [Act.put, List.setIfInBounds_toArray, List.set_cons_zero, List.set_cons_succ, i64_w, i32_w]
              rfl
             refine take_ (i := 15) (N := some 36) (v := ?_) (a' := ?_) (bz_ 34 65535) rfl rfl (take_ofW HT_.out HW_.out (by kernel_rfl)) (fun _ _ _ h => h) (Or.inl ⟨by rfl, ?_⟩) hHeld ?_ ?_
             rotate_left
             ·rintro w' ⟨s0, s1, s2, s3, s4, s5, s6⟩
              go_simp
              with_reducible rfl
             rotate_left
             ·simp only [Act.put, List.setIfInBounds_toArray, List.set_cons_zero, List.set_cons_succ, i64_w, i32_w]
              rfl
             refine one_ (i := 16) (N := some 37) (bz_ 34 131071) rfl rfl (one_of HT_.out (by kernel_rfl)) (by decide) (fun K hK => ?_)
             refine goes_ Tryd.func72 (by kernel_rfl) rfl #[.string ((rd_T62 l0_0 x3_1).f0), .slice A380_2 ((rd_T62 l0_0 x3_1).f2).length c380_2] (by rfl) rfl rfl (by (try simp only [List.map_toArray, List.map_cons, List.map_nil]); first | done | rfl | (simp only [List.length_drop, List.length_take]; rfl)) ?_
             with_reducible refine (spec_l3LinesOk.calls ((rd_T62 l0_0 x3_1).f0) _ _ ((rd_T62 l0_0 x3_1).f2) true _ ?side1 ?side2 A22.out).mono ?_
             (case side1 => repeat (first | exact (Kd.C_below HR380_2.out (by repeat (first | (with_reducible first | exact HB.out | apply below_alloc | apply pw_below_drewN | apply below_drew1 | refine below_set ?_ GE379.out | refine below_set ?_ GE381.out) | exact HB.out))) | (with_reducible refine Kd.C_alloc ?_ _) | (with_reducible refine Kd.C_drewN ?_ _) | (with_reducible refine Kd.C_drew ?_)))
             (case side2 => exact HC380_2.out)
             rintro e w33 ⟨rfl, hb⟩
             refine ⟨_, rfl, ?_⟩
             have n0_ := Aside0.mk (Kd.R_below (stR HO384.out) hb)
             have n1_ := Aside0.mk (blk_below (g := gb379) (o := .cells #[.slice (some ad380) l0_0.length c0_0] 47 (0, 0)) (by (with_reducible repeat (first | refine blk_drewN ?_ _ | refine blk_drew ?_ | refine blk_alloc ?_ _)); exact BK379.out) hb)
             have n2_ := Aside0.mk (blk_below (g := gb381) (o := .cells #[.string ((rd_T62 l0_0 x3_1).f0), .string ((rd_T62 l0_0 x3_1).f1), .slice A380_2 ((rd_T62 l0_0 x3_1).f2).length c380_2] 62 (0, 0)) (by (with_reducible repeat (first | refine blk_drewN ?_ _ | refine blk_drew ?_ | refine blk_alloc ?_ _)); exact BK381.out) hb)
             have n3_ := Aside0.mk (below_step (by repeat (first | (with_reducible first | exact HB.out | apply below_alloc | apply pw_below_drewN | apply below_drew1 | refine below_set ?_ GE379.out | refine below_set ?_ GE381.out) | exact HB.out)) hb)
             clear HO384
             clear BK379
             clear BK381
             clear HB
             have HO384 := n0_
             have BK379 := n1_
             have BK381 := n2_
             have HB := n3_
             clear n0_ n1_ n2_ n3_
             (try clear hb)
             (try clear hb2)
             (try clear hk)
             (try clear hi)
             refine hK.out _ _ ⟨(blk_cell BK381.out 0).trans rfl, (blk_cell BK381.out 1).trans rfl, (blk_cell BK381.out 2).trans rfl, (blk_cell BK379.out 0).trans rfl, (by first | exact (HB.out.cell (World.block_lt_of_cell? w _ hw387_0)).trans hw387_0 | exact hw387_0), (by first | exact (HB.out.cell (World.block_lt_of_cell? w _ hw387_1)).trans hw387_1 | exact hw387_1), (by first | exact (HB.out.cell (World.block_lt_of_cell? w _ hw387_2)).trans hw387_2 | exact hw387_2)⟩ (fun hHeld => ?_)
             clear hK K
             refine norm_ (a' := ?_) ?_ ?_
             rotate_left
             ·show Act.put _ (some 37) _ = _
              simp only [Act.put, List.setIfInBounds_toArray, List.set_cons_zero, List.set_cons_succ, i64_w, i32_w]
              rfl
             refine pure_ (i := 17) (N := some 38) (v := ?_) (a' := ?_) (bz_ 34 262143) rfl rfl (any_of HT_.out (by kernel_rfl)) (fun _ _ _ h => h) (Or.inl ⟨by rfl, ?_⟩) ?_ ?_
             rotate_left
             ·intro w'
              go_simp
              with_reducible rfl
             rotate_left
             ·simp only [Act.put, List.setIfInBounds_toArray, List.set_cons_zero, List.set_cons_succ, i64_w, i32_w]
              rfl
             refine pure_ (i := 18) (N := some 39) (v := ?_) (a' := ?_) (bz_ 34 524287) rfl rfl (any_of HT_.out (by kernel_rfl)) (fun _ _ _ h => h) (Or.inl ⟨by rfl, ?_⟩) ?_ ?_
             rotate_left
             ·intro w'
              go_simp
              with_reducible rfl
             rotate_left
             ·simp only [Act.put, List.setIfInBounds_toArray, List.set_cons_zero, List.set_cons_succ, i64_w, i32_w]
              rfl
             refine pure_ (i := 19) (N := some 40) (v := ?_) (a' := ?_) (bz_ 34 1048575) rfl rfl (any_of HT_.out (by kernel_rfl)) (fun _ _ _ h => h) (Or.inl ⟨by rfl, ?_⟩) ?_ ?_
             rotate_left
             ·intro w'
              go_simp
              with_reducible rfl
             rotate_left
             ·simp only [Act.put, List.setIfInBounds_toArray, List.set_cons_zero, List.set_cons_succ, i64_w, i32_w]
              rfl
             refine pure_ (i := 20) (N := some 41) (v := ?_) (a' := ?_) (bz_ 34 2097151) rfl rfl (any_of HT_.out (by kernel_rfl)) (fun _ _ _ h => h) (Or.inl ⟨by rfl, ?_⟩) ?_ ?_
             rotate_left
             ·intro w'
              go_simp
              with_reducible rfl
             rotate_left
             ·simp only [Act.put, List.setIfInBounds_toArray, List.set_cons_zero, List.set_cons_succ, i64_w, i32_w]
              rfl
             refine pure_ (i := 21) (N := some 42) (v := ?_) (a' := ?_) (bz_ 34 4194303) rfl rfl (any_of HT_.out (by kernel_rfl)) (fun _ _ _ h => h) (Or.inl ⟨by rfl, ?_⟩) ?_ ?_
             rotate_left
             ·intro w'
              go_simp
              with_reducible rfl
             rotate_left
             ·simp only [Act.put, List.setIfInBounds_toArray, List.set_cons_zero, List.set_cons_succ, i64_w, i32_w]
              rfl
             refine pure_ (i := 22) (N := some 43) (v := ?_) (a' := ?_) (bz_ 34 8388607) rfl rfl (any_of HT_.out (by kernel_rfl)) (fun _ _ _ h => h) (Or.inl ⟨by rfl, ?_⟩) ?_ ?_
             rotate_left
             ·intro w'
              go_simp
              with_reducible rfl
             rotate_left
             ·simp only [Act.put, List.setIfInBounds_toArray, List.set_cons_zero, List.set_cons_succ, i64_w, i32_w]
              rfl
             refine pure_ (i := 23) (N := some 44) (v := ?_) (a' := ?_) (bz_ 34 16777215) rfl rfl (any_of HT_.out (by kernel_rfl)) (fun _ _ _ h => h) (Or.inl ⟨by rfl, ?_⟩) ?_ ?_
             rotate_left
             ·intro w'
              go_simp
              with_reducible rfl
             rotate_left
             ·simp only [Act.put, List.setIfInBounds_toArray, List.set_cons_zero, List.set_cons_succ, i64_w, i32_w]
              rfl
             refine pure_ (i := 25) (N := some 46) (v := ?_) (a' := ?_) (bz_ 34 50331647) rfl rfl (any_of HT_.out (by kernel_rfl)) (fun _ _ _ h => h) (Or.inl ⟨by rfl, ?_⟩) ?_ ?_
             rotate_left
             ·intro w'
              go_simp
              with_reducible rfl
             rotate_left
             ·simp only [Act.put, List.setIfInBounds_toArray, List.set_cons_zero, List.set_cons_succ, i64_w, i32_w]
              rfl
             refine pure_ (i := 26) (N := some 47) (v := ?_) (a' := ?_) (bz_ 34 117440511) rfl rfl (any_of HT_.out (by kernel_rfl)) (fun _ _ _ h => h) (Or.inl ⟨by rfl, ?_⟩) ?_ ?_
             rotate_left
             ·intro w'
              go_simp
              with_reducible rfl
             rotate_left
             ·simp only [Act.put, List.setIfInBounds_toArray, List.set_cons_zero, List.set_cons_succ, i64_w, i32_w]
              rfl
             refine take_ (i := 24) (N := some 45) (v := ?_) (a' := ?_) (bz_ 34 134217727) rfl rfl (take_ofW HT_.out HW_.out (by kernel_rfl)) (fun _ _ _ h => h) (Or.inl ⟨by rfl, ?_⟩) hHeld ?_ ?_
             rotate_left
             ·rintro w' ⟨s0, s1, s2, s3, s4, s5, s6⟩
              go_simp
              with_reducible rfl
             rotate_left
             ·simp only [Act.put, List.setIfInBounds_toArray, List.set_cons_zero, List.set_cons_succ, i64_w, i32_w]
              rfl
             refine pure_ (i := 27) (N := some 48) (v := ?_) (a' := ?_) (bz_ 34 268435455) rfl rfl (any_of HT_.out (by kernel_rfl)) (fun _ _ _ h => h) (Or.inl ⟨by rfl, ?_⟩) ?_ ?_
             rotate_left
             ·intro w'
              go_simp
              with_reducible rfl
             rotate_left
             ·simp only [Act.put, List.setIfInBounds_toArray, List.set_cons_zero, List.set_cons_succ, i64_w, i32_w]
              rfl
             refine take_ (i := 28) (N := some 49) (v := ?_) (a' := ?_) (bz_ 34 536870911) rfl rfl (take_ofW HT_.out HW_.out (by kernel_rfl)) (fun _ _ _ h => h) (Or.inl ⟨by rfl, ?_⟩) hHeld ?_ ?_
             rotate_left
             ·rintro w' ⟨s0, s1, s2, s3, s4, s5, s6⟩
              go_simp
              with_reducible rfl
             rotate_left
             ·simp only [Act.put, List.setIfInBounds_toArray, List.set_cons_zero, List.set_cons_succ, i64_w, i32_w]
              rfl
             refine take_ (i := 29) (N := some 50) (v := ?_) (a' := ?_) (bz_ 34 1073741823) rfl rfl (take_ofW HT_.out HW_.out (by kernel_rfl)) (fun _ _ _ h => h) (Or.inl ⟨by rfl, ?_⟩) hHeld ?_ ?_
             rotate_left
             ·rintro w' ⟨s0, s1, s2, s3, s4, s5, s6⟩
              go_simp
              with_reducible rfl
             rotate_left
             ·simp only [Act.put, List.setIfInBounds_toArray, List.set_cons_zero, List.set_cons_succ, i64_w, i32_w]
              rfl
             refine one_ (i := 30) (N := some 51) (bz_ 34 2147483647) rfl rfl (one_of HT_.out (by kernel_rfl)) (by decide) (fun K hK => ?_)
             refine goes_ Tryd.func73 (by kernel_rfl) rfl #[.agg #[.string ((rd_T62 l0_0 (ji25)).f0), .string ((rd_T62 l0_0 (ji25)).f1), .slice A387_2 ((rd_T62 l0_0 (ji25)).f2).length c387_2], .agg #[.string ((rd_T62 l0_0 x3_1).f0), .string ((rd_T62 l0_0 x3_1).f1), .slice A380_2 ((rd_T62 l0_0 x3_1).f2).length c380_2]] (by rfl) rfl rfl (by (try simp only [List.map_toArray, List.map_cons, List.map_nil]); first | done | (simp only [hji25]; rfl) | rfl | (simp only [List.length_drop, List.length_take]; rfl)) ?_
             with_reducible refine (spec_l3Ahead.calls ((rd_T62 l0_0 (ji25)).f0) ((rd_T62 l0_0 (ji25)).f1) _ _ ((rd_T62 l0_0 (ji25)).f2) ((rd_T62 l0_0 x3_1).f0) ((rd_T62 l0_0 x3_1).f1) _ _ ((rd_T62 l0_0 x3_1).f2) t388 _ ?side1 ?side2 ?side3 ?side4 A28.out).mono ?_
             (case side1 => repeat (first | exact (Kd.C_below HR387_2.out HB.out) | (with_reducible refine Kd.C_alloc ?_ _) | (with_reducible refine Kd.C_drewN ?_ _) | (with_reducible refine Kd.C_drew ?_)))
             (case side2 => exact HC387_2.out)
             (case side3 => repeat (first | exact (Kd.C_below HR380_2.out HB.out) | (with_reducible refine Kd.C_alloc ?_ _) | (with_reducible refine Kd.C_drewN ?_ _) | (with_reducible refine Kd.C_drew ?_)))
             (case side4 => exact HC380_2.out)
             rintro e w34 ⟨rfl, hb⟩
             refine ⟨_, rfl, ?_⟩
             have n0_ := Aside0.mk (Kd.R_below (stR HO384.out) hb)
             have n1_ := Aside0.mk (blk_below (g := gb379) (o := .cells #[.slice (some ad380) l0_0.length c0_0] 47 (0, 0)) (by (with_reducible repeat (first | refine blk_drewN ?_ _ | refine blk_drew ?_ | refine blk_alloc ?_ _)); exact BK379.out) hb)
             have n2_ := Aside0.mk (blk_below (g := gb381) (o := .cells #[.string ((rd_T62 l0_0 x3_1).f0), .string ((rd_T62 l0_0 x3_1).f1), .slice A380_2 ((rd_T62 l0_0 x3_1).f2).length c380_2] 62 (0, 0)) (by (with_reducible repeat (first | refine blk_drewN ?_ _ | refine blk_drew ?_ | refine blk_alloc ?_ _)); exact BK381.out) hb)
             have n3_ := Aside0.mk (below_step (by repeat (first | (with_reducible first | exact HB.out | apply below_alloc | apply pw_below_drewN | apply below_drew1 | refine below_set ?_ GE379.out | refine below_set ?_ GE381.out) | exact HB.out)) hb)
             clear HO384
             clear BK379
             clear BK381
             clear HB
             have HO384 := n0_
             have BK379 := n1_
             have BK381 := n2_
             have HB := n3_
             clear n0_ n1_ n2_ n3_
             (try clear hb)
             (try clear hb2)
             (try clear hk)
             (try clear hi)
             refine hK.out _ _ ⟨(blk_cell BK381.out 0).trans rfl, (blk_cell BK381.out 1).trans rfl, (blk_cell BK381.out 2).trans rfl, (blk_cell BK379.out 0).trans rfl, (by first | exact (HB.out.cell (World.block_lt_of_cell? w _ hw387_0)).trans hw387_0 | exact hw387_0), (by first | exact (HB.out.cell (World.block_lt_of_cell? w _ hw387_1)).trans hw387_1 | exact hw387_1), (by first | exact (HB.out.cell (World.block_lt_of_cell? w _ hw387_2)).trans hw387_2 | exact hw387_2)⟩ (fun hHeld => ?_)
             clear hK K
             refine norm_ (a' := ?_) ?_ ?_
             rotate_left
             ·show Act.put _ (some 51) _ = _
              simp only [Act.put, List.setIfInBounds_toArray, List.set_cons_zero, List.set_cons_succ, i64_w, i32_w]
              rfl
             refine pure_ (i := 31) (N := some 52) (v := ?_) (a' := ?_) (bz_ 34 4294967295) rfl rfl (any_of HT_.out (by kernel_rfl)) (fun _ _ _ h => h) (Or.inl ⟨by rfl, ?_⟩) ?_ ?_
             rotate_left
             ·intro w'
              go_simp
              with_reducible rfl
             rotate_left
             ·simp only [Act.put, List.setIfInBounds_toArray, List.set_cons_zero, List.set_cons_succ, i64_w, i32_w]
              rfl
             refine pure_ (i := 32) (N := some 53) (v := ?_) (a' := ?_) (bz_ 34 8589934591) rfl rfl (any_of HT_.out (by kernel_rfl)) (fun _ _ _ h => h) (Or.inl ⟨by rfl, ?_⟩) ?_ ?_
             rotate_left
             ·intro w'
              go_simp
              with_reducible rfl
             rotate_left
             ·simp only [Act.put, List.setIfInBounds_toArray, List.set_cons_zero, List.set_cons_succ, i64_w, i32_w]
              rfl
             refine pure_ (i := 33) (N := some 54) (v := ?_) (a' := ?_) (bz_ 34 17179869183) rfl rfl (any_of HT_.out (by kernel_rfl)) (fun _ _ _ h => h) (Or.inl ⟨by rfl, ?_⟩) ?_ ?_
             rotate_left
             ·intro w'
              go_simp
              with_reducible rfl
             rotate_left
             ·simp only [Act.put, List.setIfInBounds_toArray, List.set_cons_zero, List.set_cons_succ, i64_w, i32_w]
              rfl
             refine done_ (done_of HT_.out (by kernel_rfl)) ?_
             try go_wp2
             go_meet
             case rel => exact ⟨_, (!t388), (by first | rfl | (simp; done) | (simp [*]; done)), H', ⟨by have := HK1.out; first | omega | exact Nat.le_refl _⟩, ⟨by (with_reducible repeat (first | refine blk_drewN ?_ _ | refine blk_drew ?_ | refine blk_alloc ?_ _)); exact BK379.out⟩, ⟨by (with_reducible repeat (first | refine blk_drewN ?_ _ | refine blk_drew ?_ | refine blk_alloc ?_ _)); exact BK381.out⟩, ⟨by repeat (first | (with_reducible first | exact HB.out | apply below_alloc | apply pw_below_drewN | apply below_drew1 | refine below_set ?_ GE379.out | refine below_set ?_ GE381.out) | exact HB.out)⟩⟩
            ·rw [if_neg c27] at H
             exact absurd H (by simp)
           ·rw [if_neg c26] at H
            exact absurd H (by simp)
          ·rw [if_neg c24] at H
           have c24b0 : decide (0 < x3_1) = false := decide_eq_false c24
           clear c24
           have H' := Aside0.mk H
           clear H
           try go_wp2
           have n0_ : Aside0 ((((w11.setCell ⟨gb381, 0, none⟩ (.string ((rd_T62 l0_0 x3_1).f0))).setCell ⟨gb381, 1, none⟩ (.string ((rd_T62 l0_0 x3_1).f1))).setCell ⟨gb381, 2, none⟩ (.slice A380_2 ((rd_T62 l0_0 x3_1).f2).length c380_2)).heap[gb379]? = some (.cells #[.slice (some ad380) l0_0.length c0_0] 47 (0, 0))) := ⟨by (with_reducible repeat (first | refine blk_drewN ?_ _ | refine blk_drew ?_ | refine blk_alloc ?_ _)); refine blk_far ?_ NB379_381.out _; (with_reducible repeat (first | refine blk_drewN ?_ _ | refine blk_drew ?_ | refine blk_alloc ?_ _)); refine blk_far ?_ NB379_381.out _; (with_reducible repeat (first | refine blk_drewN ?_ _ | refine blk_drew ?_ | refine blk_alloc ?_ _)); refine blk_far ?_ NB379_381.out _; (with_reducible repeat (first | refine blk_drewN ?_ _ | refine blk_drew ?_ | refine blk_alloc ?_ _)); exact BK379.out⟩
           have n1_ : Aside0 ((((w11.setCell ⟨gb381, 0, none⟩ (.string ((rd_T62 l0_0 x3_1).f0))).setCell ⟨gb381, 1, none⟩ (.string ((rd_T62 l0_0 x3_1).f1))).setCell ⟨gb381, 2, none⟩ (.slice A380_2 ((rd_T62 l0_0 x3_1).f2).length c380_2)).heap[gb381]? = some (.cells #[.string ((rd_T62 l0_0 x3_1).f0), .string ((rd_T62 l0_0 x3_1).f1), .slice A380_2 ((rd_T62 l0_0 x3_1).f2).length c380_2] 62 (0, 0))) := ⟨by (with_reducible repeat (first | refine blk_drewN ?_ _ | refine blk_drew ?_ | refine blk_alloc ?_ _)); refine blk_put (cs := #[.string ((rd_T62 l0_0 x3_1).f0), .string ((rd_T62 l0_0 x3_1).f1), .slice none 0 0]) ?_ 2 _ rfl; (with_reducible repeat (first | refine blk_drewN ?_ _ | refine blk_drew ?_ | refine blk_alloc ?_ _)); refine blk_put (cs := #[.string ((rd_T62 l0_0 x3_1).f0), .string (⟨#[]⟩ : ByteArray), .slice none 0 0]) ?_ 1 _ rfl; (with_reducible repeat (first | refine blk_drewN ?_ _ | refine blk_drew ?_ | refine blk_alloc ?_ _)); refine blk_put (cs := #[.string (⟨#[]⟩ : ByteArray), .string (⟨#[]⟩ : ByteArray), .slice none 0 0]) ?_ 0 _ rfl; (with_reducible repeat (first | refine blk_drewN ?_ _ | refine blk_drew ?_ | refine blk_alloc ?_ _)); exact BK381.out⟩
           have n2_ : Aside0 (Below w.heap.size w (((w11.setCell ⟨gb381, 0, none⟩ (.string ((rd_T62 l0_0 x3_1).f0))).setCell ⟨gb381, 1, none⟩ (.string ((rd_T62 l0_0 x3_1).f1))).setCell ⟨gb381, 2, none⟩ (.slice A380_2 ((rd_T62 l0_0 x3_1).f2).length c380_2))) := ⟨by repeat (first | (with_reducible first | exact HB.out | apply below_alloc | apply pw_below_drewN | apply below_drew1 | refine below_set ?_ GE379.out | refine below_set ?_ GE381.out) | exact HB.out)⟩
           (try clear BK379)
           (try clear BK381)
           (try clear HB)
           generalize (((w11.setCell ⟨gb381, 0, none⟩ (.string ((rd_T62 l0_0 x3_1).f0))).setCell ⟨gb381, 1, none⟩ (.string ((rd_T62 l0_0 x3_1).f1))).setCell ⟨gb381, 2, none⟩ (.slice A380_2 ((rd_T62 l0_0 x3_1).f2).length c380_2)) = w35 at n0_ n1_ n2_ ⊢
           have BK379 := n0_
           have BK381 := n1_
           have HB := n2_
           clear n0_ n1_ n2_
           have n0_ := Aside0.mk (blk_drew BK379.out)
           have n1_ := Aside0.mk (blk_drew BK381.out)
           have n2_ := Aside0.mk (below_drew1 HB.out)
           clear BK379
           clear BK381
           clear HB
           have BK379 := n0_
           have BK381 := n1_
           have HB := n2_
           clear n0_ n1_ n2_
           refine start_ (n := 34) (S := fun w' => w'.cell? ⟨gb381, 0, none⟩ = some (.string ((rd_T62 l0_0 x3_1).f0)) ∧ w'.cell? ⟨gb381, 1, none⟩ = some (.string ((rd_T62 l0_0 x3_1).f1)) ∧ w'.cell? ⟨gb381, 2, none⟩ = some (.slice A380_2 ((rd_T62 l0_0 x3_1).f2).length c380_2)) (ds := []) (bz_ 34 0) (by kernel_rfl) rfl rfl ⟨(blk_cell BK381.out 0).trans rfl, (blk_cell BK381.out 1).trans rfl, (blk_cell BK381.out 2).trans rfl⟩ (fun hHeld => ?_); refine with_tabW spec_SheetValid.tab7 spec_SheetValid.bits7 (fun HT_ HW_ => ?_)
           generalize w35.drew = w36 at BK379 BK381 HB hHeld ⊢
           refine pure_ (i := 0) (N := some 21) (v := ?_) (a' := ?_) (bz_ 34 1) rfl rfl (any_of HT_.out (by kernel_rfl)) (fun _ _ _ h => h) (Or.inl ⟨by rfl, ?_⟩) ?_ ?_
           rotate_left
           ·intro w'
            go_simp
            with_reducible rfl
           rotate_left
           ·simp only [Act.put, List.setIfInBounds_toArray, List.set_cons_zero, List.set_cons_succ, i64_w, i32_w]
            rfl
           refine take_ (i := 1) (N := some 22) (v := ?_) (a' := ?_) (bz_ 34 3) rfl rfl (take_ofW HT_.out HW_.out (by kernel_rfl)) (fun _ _ _ h => h) (Or.inl ⟨by rfl, ?_⟩) hHeld ?_ ?_
           rotate_left
           ·rintro w' ⟨s0, s1, s2⟩
            go_simp
            with_reducible rfl
           rotate_left
           ·simp only [Act.put, List.setIfInBounds_toArray, List.set_cons_zero, List.set_cons_succ, i64_w, i32_w]
            rfl
           refine one_ (i := 2) (N := some 23) (bz_ 34 7) rfl rfl (one_of HT_.out (by kernel_rfl)) (by decide) (fun K hK => ?_)
           refine goes_ Tryd.func13 (by kernel_rfl) rfl #[.string ((rd_T62 l0_0 x3_1).f0)] (by rfl) rfl rfl (by (try simp only [List.map_toArray, List.map_cons, List.map_nil]); first | done | rfl | (simp only [List.length_drop, List.length_take]; rfl)) ?_
           with_reducible refine (spec_SheetRules.calls ((rd_T62 l0_0 x3_1).f0) t382 _ A14.out).mono ?_
           rintro e w37 ⟨v383, rfl, ho0, hb⟩
           refine ⟨_, rfl, ?_⟩
           have n0_ := Aside0.mk (Kd.R_lower ho0 (below_size (by repeat (first | (with_reducible first | exact HB.out | apply below_alloc | apply pw_below_drewN | apply below_drew1 | refine below_set ?_ GE379.out | refine below_set ?_ GE381.out) | exact HB.out))))
           have n1_ := Aside0.mk (blk_below (g := gb379) (o := .cells #[.slice (some ad380) l0_0.length c0_0] 47 (0, 0)) (by (with_reducible repeat (first | refine blk_drewN ?_ _ | refine blk_drew ?_ | refine blk_alloc ?_ _)); exact BK379.out) hb)
           have n2_ := Aside0.mk (blk_below (g := gb381) (o := .cells #[.string ((rd_T62 l0_0 x3_1).f0), .string ((rd_T62 l0_0 x3_1).f1), .slice A380_2 ((rd_T62 l0_0 x3_1).f2).length c380_2] 62 (0, 0)) (by (with_reducible repeat (first | refine blk_drewN ?_ _ | refine blk_drew ?_ | refine blk_alloc ?_ _)); exact BK381.out) hb)
           have n3_ := Aside0.mk (below_step (by repeat (first | (with_reducible first | exact HB.out | apply below_alloc | apply pw_below_drewN | apply below_drew1 | refine below_set ?_ GE379.out | refine below_set ?_ GE381.out) | exact HB.out)) hb)
           clear BK379
           clear BK381
           clear HB
           have HO384 := n0_
           have BK379 := n1_
           have BK381 := n2_
           have HB := n3_
           clear n0_ n1_ n2_ n3_
           (try clear hb)
           (try clear hb2)
           (try clear hk)
           (try clear hi)
           (try clear ho0)
           obtain ⟨Ao38, co38, eo38⟩ := Kd.R_slice HO384.out
           (first | subst eo38 | (injection eo38 with f1_ f2_ f3_; have f4_ := f1_.symm; have f5_ := f3_.symm; clear f1_ f2_ f3_; subst f4_; subst f5_))
           refine hK.out _ _ ⟨(blk_cell BK381.out 0).trans rfl, (blk_cell BK381.out 1).trans rfl, (blk_cell BK381.out 2).trans rfl⟩ (fun hHeld => ?_)
           clear hK K
           refine norm_ (a' := ?_) ?_ ?_
           rotate_left
           ·show Act.put _ (some 23) _ = _
            simp only [Act.put, List.setIfInBounds_toArray, List.set_cons_zero, List.set_cons_succ, i64_w, i32_w]
            rfl
           refine pure_ (i := 3) (N := some 24) (v := ?_) (a' := ?_) (bz_ 34 15) rfl rfl (any_of HT_.out (by kernel_rfl)) (fun _ _ _ h => h) (Or.inl ⟨by rfl, ?_⟩) ?_ ?_
           rotate_left
           ·intro w'
            go_simp
            with_reducible rfl
           rotate_left
           ·simp only [Act.put, List.setIfInBounds_toArray, List.set_cons_zero, List.set_cons_succ, i64_w, i32_w]
            rfl
           refine pure_ (i := 4) (N := some 25) (v := ?_) (a' := ?_) (bz_ 34 31) rfl rfl (any_of HT_.out (by kernel_rfl)) (fun _ _ _ h => h) (Or.inl ⟨by rfl, ?_⟩) ?_ ?_
           rotate_left
           ·intro w'
            go_simp
            with_reducible rfl
           rotate_left
           ·simp only [Act.put, List.setIfInBounds_toArray, List.set_cons_zero, List.set_cons_succ, i64_w, i32_w]
            rfl
           refine pure_ (i := 5) (N := some 26) (v := ?_) (a' := ?_) (bz_ 34 63) rfl rfl (any_of HT_.out (by kernel_rfl)) (fun _ _ _ h => h) (Or.inl ⟨by rfl, ?_⟩) ?_ ?_
           rotate_left
           ·intro w'
            go_simp
            with_reducible rfl
           rotate_left
           ·simp only [Act.put, List.setIfInBounds_toArray, List.set_cons_zero, List.set_cons_succ, i64_w, i32_w]
            rfl
           refine pure_ (i := 6) (N := some 27) (v := ?_) (a' := ?_) (bz_ 34 127) rfl rfl (any_of HT_.out (by kernel_rfl)) (fun _ _ _ h => h) (Or.inl ⟨by rfl, ?_⟩) ?_ ?_
           rotate_left
           ·intro w'
            go_simp
            with_reducible rfl
           rotate_left
           ·simp only [Act.put, List.setIfInBounds_toArray, List.set_cons_zero, List.set_cons_succ, i64_w, i32_w]
            rfl
           refine take_ (i := 7) (N := some 28) (v := ?_) (a' := ?_) (bz_ 34 255) rfl rfl (take_ofW HT_.out HW_.out (by kernel_rfl)) (fun _ _ _ h => h) (Or.inl ⟨by rfl, ?_⟩) hHeld ?_ ?_
           rotate_left
           ·rintro w' ⟨s0, s1, s2⟩
            go_simp
            with_reducible rfl
           rotate_left
           ·simp only [Act.put, List.setIfInBounds_toArray, List.set_cons_zero, List.set_cons_succ, i64_w, i32_w]
            rfl
           refine one_ (i := 8) (N := some 29) (bz_ 34 511) rfl rfl (one_of HT_.out (by kernel_rfl)) (by decide) (fun K hK => ?_)
           refine goes_ Tryd.func71 (by kernel_rfl) rfl #[.string ((rd_T62 l0_0 x3_1).f1)] (by rfl) rfl rfl (by (try simp only [List.map_toArray, List.map_cons, List.map_nil]); first | done | rfl | (simp only [List.length_drop, List.length_take]; rfl)) ?_
           with_reducible refine (spec_l2NameOk.calls k1 ((rd_T62 l0_0 x3_1).f1) true _ A20.out).mono ?_
           rintro e w' ⟨rfl, ⟨nd, rfl⟩⟩
           refine ⟨_, rfl, ?_⟩
           refine hK.out _ _ ⟨(blk_cell BK381.out 0).trans rfl, (blk_cell BK381.out 1).trans rfl, (blk_cell BK381.out 2).trans rfl⟩ (fun hHeld => ?_)
           clear hK K
           refine norm_ (a' := ?_) ?_ ?_
           rotate_left
           ·show Act.put _ (some 29) _ = _
            simp only [Act.put, List.setIfInBounds_toArray, List.set_cons_zero, List.set_cons_succ, i64_w, i32_w]
            rfl
           refine pure_ (i := 9) (N := some 30) (v := ?_) (a' := ?_) (bz_ 34 1023) rfl rfl (any_of HT_.out (by kernel_rfl)) (fun _ _ _ h => h) (Or.inl ⟨by rfl, ?_⟩) ?_ ?_
           rotate_left
           ·intro w'
            go_simp
            with_reducible rfl
           rotate_left
           ·simp only [Act.put, List.setIfInBounds_toArray, List.set_cons_zero, List.set_cons_succ, i64_w, i32_w]
            rfl
           refine pure_ (i := 10) (N := some 31) (v := ?_) (a' := ?_) (bz_ 34 2047) rfl rfl (any_of HT_.out (by kernel_rfl)) (fun _ _ _ h => h) (Or.inl ⟨by rfl, ?_⟩) ?_ ?_
           rotate_left
           ·intro w'
            go_simp
            with_reducible rfl
           rotate_left
           ·simp only [Act.put, List.setIfInBounds_toArray, List.set_cons_zero, List.set_cons_succ, i64_w, i32_w]
            rfl
           refine pure_ (i := 11) (N := some 32) (v := ?_) (a' := ?_) (bz_ 34 4095) rfl rfl (any_of HT_.out (by kernel_rfl)) (fun _ _ _ h => h) (Or.inl ⟨by rfl, ?_⟩) ?_ ?_
           rotate_left
           ·intro w'
            go_simp
            with_reducible rfl
           rotate_left
           ·simp only [Act.put, List.setIfInBounds_toArray, List.set_cons_zero, List.set_cons_succ, i64_w, i32_w]
            rfl
           refine pure_ (i := 12) (N := some 33) (v := ?_) (a' := ?_) (bz_ 34 8191) rfl rfl (any_of HT_.out (by kernel_rfl)) (fun _ _ _ h => h) (Or.inl ⟨by rfl, ?_⟩) ?_ ?_
           rotate_left
           ·intro w'
            go_simp
            with_reducible rfl
           rotate_left
           ·simp only [Act.put, List.setIfInBounds_toArray, List.set_cons_zero, List.set_cons_succ, i64_w, i32_w]
            rfl
           refine pure_ (i := 14) (N := some 35) (v := ?_) (a' := ?_) (bz_ 34 24575) rfl rfl (any_of HT_.out (by kernel_rfl)) (fun _ _ _ h => h) (Or.inl ⟨by rfl, ?_⟩) ?_ ?_
           rotate_left
           ·intro w'
            go_simp
            with_reducible rfl
           rotate_left
           ·simp only [Act.put, List.setIfInBounds_toArray, List.set_cons_zero, List.set_cons_succ, i64_w, i32_w]
            rfl
           refine take_ (i := 13) (N := some 34) (v := ?_) (a' := ?_) (bz_ 34 32767) rfl rfl (take_ofW HT_.out HW_.out (by kernel_rfl)) (fun _ _ _ h => h) (Or.inl ⟨by rfl, ?_⟩) hHeld ?_ ?_
           rotate_left
           ·rintro w' ⟨s0, s1, s2⟩
            go_simp
            with_reducible rfl
           rotate_left
           ·simp only [Act.put, List.setIfInBounds_toArray, List.set_cons_zero, List.set_cons_succ, i64_w, i32_w]
            rfl
           refine take_ (i := 15) (N := some 36) (v := ?_) (a' := ?_) (bz_ 34 65535) rfl rfl (take_ofW HT_.out HW_.out (by kernel_rfl)) (fun _ _ _ h => h) (Or.inl ⟨by rfl, ?_⟩) hHeld ?_ ?_
           rotate_left
           ·rintro w' ⟨s0, s1, s2⟩
            go_simp
            with_reducible rfl
           rotate_left
           ·simp only [Act.put, List.setIfInBounds_toArray, List.set_cons_zero, List.set_cons_succ, i64_w, i32_w]
            rfl
           refine one_ (i := 16) (N := some 37) (bz_ 34 131071) rfl rfl (one_of HT_.out (by kernel_rfl)) (by decide) (fun K hK => ?_)
           refine goes_ Tryd.func72 (by kernel_rfl) rfl #[.string ((rd_T62 l0_0 x3_1).f0), .slice A380_2 ((rd_T62 l0_0 x3_1).f2).length c380_2] (by rfl) rfl rfl (by (try simp only [List.map_toArray, List.map_cons, List.map_nil]); first | done | rfl | (simp only [List.length_drop, List.length_take]; rfl)) ?_
           with_reducible refine (spec_l3LinesOk.calls ((rd_T62 l0_0 x3_1).f0) _ _ ((rd_T62 l0_0 x3_1).f2) true _ ?side1 ?side2 A22.out).mono ?_
           (case side1 => repeat (first | exact (Kd.C_below HR380_2.out (by repeat (first | (with_reducible first | exact HB.out | apply below_alloc | apply pw_below_drewN | apply below_drew1 | refine below_set ?_ GE379.out | refine below_set ?_ GE381.out) | exact HB.out))) | (with_reducible refine Kd.C_alloc ?_ _) | (with_reducible refine Kd.C_drewN ?_ _) | (with_reducible refine Kd.C_drew ?_)))
           (case side2 => exact HC380_2.out)
           rintro e w39 ⟨rfl, hb⟩
           refine ⟨_, rfl, ?_⟩
           have n0_ := Aside0.mk (Kd.R_below (stR HO384.out) hb)
           have n1_ := Aside0.mk (blk_below (g := gb379) (o := .cells #[.slice (some ad380) l0_0.length c0_0] 47 (0, 0)) (by (with_reducible repeat (first | refine blk_drewN ?_ _ | refine blk_drew ?_ | refine blk_alloc ?_ _)); exact BK379.out) hb)
           have n2_ := Aside0.mk (blk_below (g := gb381) (o := .cells #[.string ((rd_T62 l0_0 x3_1).f0), .string ((rd_T62 l0_0 x3_1).f1), .slice A380_2 ((rd_T62 l0_0 x3_1).f2).length c380_2] 62 (0, 0)) (by (with_reducible repeat (first | refine blk_drewN ?_ _ | refine blk_drew ?_ | refine blk_alloc ?_ _)); exact BK381.out) hb)
           have n3_ := Aside0.mk (below_step (by repeat (first | (with_reducible first | exact HB.out | apply below_alloc | apply pw_below_drewN | apply below_drew1 | refine below_set ?_ GE379.out | refine below_set ?_ GE381.out) | exact HB.out)) hb)
           clear HO384
           clear BK379
           clear BK381
           clear HB
           have HO384 := n0_
           have BK379 := n1_
           have BK381 := n2_
           have HB := n3_
           clear n0_ n1_ n2_ n3_
           (try clear hb)
           (try clear hb2)
           (try clear hk)
           (try clear hi)
           refine hK.out _ _ ⟨(blk_cell BK381.out 0).trans rfl, (blk_cell BK381.out 1).trans rfl, (blk_cell BK381.out 2).trans rfl⟩ (fun hHeld => ?_)
           clear hK K
           refine norm_ (a' := ?_) ?_ ?_
           rotate_left
           ·show Act.put _ (some 37) _ = _
            simp only [Act.put, List.setIfInBounds_toArray, List.set_cons_zero, List.set_cons_succ, i64_w, i32_w]
            rfl
           refine pure_ (i := 17) (N := some 38) (v := ?_) (a' := ?_) (bz_ 34 262143) rfl rfl (any_of HT_.out (by kernel_rfl)) (fun _ _ _ h => h) (Or.inl ⟨by rfl, ?_⟩) ?_ ?_
           rotate_left
           ·intro w'
            go_simp
            with_reducible rfl
           rotate_left
           ·simp only [Act.put, List.setIfInBounds_toArray, List.set_cons_zero, List.set_cons_succ, i64_w, i32_w]
            rfl
           refine pure_ (i := 18) (N := some 39) (v := ?_) (a' := ?_) (bz_ 34 524287) rfl rfl (any_of HT_.out (by kernel_rfl)) (fun _ _ _ h => h) (Or.inl ⟨by rfl, ?_⟩) ?_ ?_
           rotate_left
           ·intro w'
            go_simp
            with_reducible rfl
           rotate_left
           ·simp only [Act.put, List.setIfInBounds_toArray, List.set_cons_zero, List.set_cons_succ, i64_w, i32_w]
            rfl
           refine pure_ (i := 19) (N := some 40) (v := ?_) (a' := ?_) (bz_ 34 1048575) rfl rfl (any_of HT_.out (by kernel_rfl)) (fun _ _ _ h => h) (Or.inl ⟨by rfl, ?_⟩) ?_ ?_
           rotate_left
           ·intro w'
            go_simp
            with_reducible rfl
           rotate_left
           ·simp only [Act.put, List.setIfInBounds_toArray, List.set_cons_zero, List.set_cons_succ, i64_w, i32_w]
            rfl
           refine pure_ (i := 20) (N := some 41) (v := ?_) (a' := ?_) (bz_ 34 2097151) rfl rfl (any_of HT_.out (by kernel_rfl)) (fun _ _ _ h => h) (Or.inl ⟨by rfl, ?_⟩) ?_ ?_
           rotate_left
           ·intro w'
            go_simp
            with_reducible rfl
           rotate_left
           ·simp only [Act.put, List.setIfInBounds_toArray, List.set_cons_zero, List.set_cons_succ, i64_w, i32_w]
            rfl
           refine pure_ (i := 21) (N := some 42) (v := ?_) (a' := ?_) (bz_ 34 4194303) rfl rfl (any_of HT_.out (by kernel_rfl)) (fun _ _ _ h => h) (Or.inl ⟨by rfl, ?_⟩) ?_ ?_
           rotate_left
           ·intro w'
            go_simp
            with_reducible rfl
           rotate_left
           ·simp only [Act.put, List.setIfInBounds_toArray, List.set_cons_zero, List.set_cons_succ, i64_w, i32_w]
            rfl
           refine pure_ (i := 22) (N := some 43) (v := ?_) (a' := ?_) (bz_ 34 8388607) rfl rfl (any_of HT_.out (by kernel_rfl)) (fun _ _ _ h => h) (Or.inl ⟨by rfl, ?_⟩) ?_ ?_
           rotate_left
           ·intro w'
            go_simp
            with_reducible rfl
           rotate_left
           ·simp only [Act.put, List.setIfInBounds_toArray, List.set_cons_zero, List.set_cons_succ, i64_w, i32_w]
            rfl
           refine pure_ (i := 23) (N := some 44) (v := undef) (a' := ?_) (bz_ 34 16777215) rfl rfl (any_of HT_.out (by kernel_rfl)) (fun _ _ _ h => h) (Or.inr ⟨by rfl, rfl⟩) ?_ ?_
           rotate_left
           ·simp only [Act.put, List.setIfInBounds_toArray, List.set_cons_zero, List.set_cons_succ, i64_w, i32_w]
            rfl
           refine pure_ (i := 24) (N := some 45) (v := undef) (a' := ?_) (bz_ 34 33554431) rfl rfl (any_of HT_.out (by kernel_rfl)) (fun _ _ _ h => h) (Or.inr ⟨by rfl, rfl⟩) ?_ ?_
           rotate_left
           ·simp only [Act.put, List.setIfInBounds_toArray, List.set_cons_zero, List.set_cons_succ, i64_w, i32_w]
            rfl
           refine pure_ (i := 25) (N := some 46) (v := undef) (a' := ?_) (bz_ 34 67108863) rfl rfl (any_of HT_.out (by kernel_rfl)) (fun _ _ _ h => h) (Or.inr ⟨by rfl, rfl⟩) ?_ ?_
           rotate_left
           ·simp only [Act.put, List.setIfInBounds_toArray, List.set_cons_zero, List.set_cons_succ, i64_w, i32_w]
            rfl
           refine pure_ (i := 26) (N := some 47) (v := undef) (a' := ?_) (bz_ 34 134217727) rfl rfl (any_of HT_.out (by kernel_rfl)) (fun _ _ _ h => h) (Or.inr ⟨by rfl, rfl⟩) ?_ ?_
           rotate_left
           ·simp only [Act.put, List.setIfInBounds_toArray, List.set_cons_zero, List.set_cons_succ, i64_w, i32_w]
            rfl
           refine pure_ (i := 27) (N := some 48) (v := undef) (a' := ?_) (bz_ 34 268435455) rfl rfl (any_of HT_.out (by kernel_rfl)) (fun _ _ _ h => h) (Or.inr ⟨by rfl, rfl⟩) ?_ ?_
           rotate_left
           ·simp only [Act.put, List.setIfInBounds_toArray, List.set_cons_zero, List.set_cons_succ, i64_w, i32_w]
            rfl
           refine pure_ (i := 28) (N := some 49) (v := undef) (a' := ?_) (bz_ 34 536870911) rfl rfl (any_of HT_.out (by kernel_rfl)) (fun _ _ _ h => h) (Or.inr ⟨by rfl, rfl⟩) ?_ ?_
           rotate_left
           ·simp only [Act.put, List.setIfInBounds_toArray, List.set_cons_zero, List.set_cons_succ, i64_w, i32_w]
            rfl
           refine pure_ (i := 29) (N := some 50) (v := undef) (a' := ?_) (bz_ 34 1073741823) rfl rfl (any_of HT_.out (by kernel_rfl)) (fun _ _ _ h => h) (Or.inr ⟨by rfl, rfl⟩) ?_ ?_
           rotate_left
           ·simp only [Act.put, List.setIfInBounds_toArray, List.set_cons_zero, List.set_cons_succ, i64_w, i32_w]
            rfl
           refine pure_ (i := 30) (N := some 51) (v := undef) (a' := ?_) (bz_ 34 2147483647) rfl rfl (any_of HT_.out (by kernel_rfl)) (fun _ _ _ h => h) (Or.inr ⟨by rfl, rfl⟩) ?_ ?_
           rotate_left
           ·simp only [Act.put, List.setIfInBounds_toArray, List.set_cons_zero, List.set_cons_succ, i64_w, i32_w]
            rfl
           refine pure_ (i := 31) (N := some 52) (v := undef) (a' := ?_) (bz_ 34 4294967295) rfl rfl (any_of HT_.out (by kernel_rfl)) (fun _ _ _ h => h) (Or.inr ⟨by rfl, rfl⟩) ?_ ?_
           rotate_left
           ·simp only [Act.put, List.setIfInBounds_toArray, List.set_cons_zero, List.set_cons_succ, i64_w, i32_w]
            rfl
           refine pure_ (i := 32) (N := some 53) (v := ?_) (a' := ?_) (bz_ 34 8589934591) rfl rfl (any_of HT_.out (by kernel_rfl)) (fun _ _ _ h => h) (Or.inl ⟨by rfl, ?_⟩) ?_ ?_
           rotate_left
           ·intro w'
            go_simp
            with_reducible rfl
           rotate_left
           ·simp only [Act.put, List.setIfInBounds_toArray, List.set_cons_zero, List.set_cons_succ, i64_w, i32_w]
            rfl
           refine pure_ (i := 33) (N := some 54) (v := ?_) (a' := ?_) (bz_ 34 17179869183) rfl rfl (any_of HT_.out (by kernel_rfl)) (fun _ _ _ h => h) (Or.inl ⟨by rfl, ?_⟩) ?_ ?_
           rotate_left
           ·intro w'
            go_simp
            with_reducible rfl
           rotate_left
           ·simp only [Act.put, List.setIfInBounds_toArray, List.set_cons_zero, List.set_cons_succ, i64_w, i32_w]
            rfl
           refine done_ (done_of HT_.out (by kernel_rfl)) ?_
           try go_wp2
           go_meet
           case rel => exact ⟨_, (false), (by first | rfl | (simp; done) | (simp [*]; done)), H', ⟨by have := HK1.out; first | omega | exact Nat.le_refl _⟩, ⟨by (with_reducible repeat (first | refine blk_drewN ?_ _ | refine blk_drew ?_ | refine blk_alloc ?_ _)); exact BK379.out⟩, ⟨by (with_reducible repeat (first | refine blk_drewN ?_ _ | refine blk_drew ?_ | refine blk_alloc ?_ _)); exact BK381.out⟩, ⟨by repeat (first | (with_reducible first | exact HB.out | apply below_alloc | apply pw_below_drewN | apply below_drew1 | refine below_set ?_ GE379.out | refine below_set ?_ GE381.out) | exact HB.out)⟩⟩
         ·replace c23 := Bool.eq_false_iff.mpr c23
          subst c23
          have H1 : (spec_SheetValid.j1 k1 x3_1 true l0_0) = some r := by rw [if_neg (show ¬ (false = true) by decide)] at H; exact H
          clear H
          have H := H1
          clear H1
          have H' := Aside0.mk H
          clear H
          try go_wp2
          have n0_ : Aside0 ((((w11.setCell ⟨gb381, 0, none⟩ (.string ((rd_T62 l0_0 x3_1).f0))).setCell ⟨gb381, 1, none⟩ (.string ((rd_T62 l0_0 x3_1).f1))).setCell ⟨gb381, 2, none⟩ (.slice A380_2 ((rd_T62 l0_0 x3_1).f2).length c380_2)).heap[gb379]? = some (.cells #[.slice (some ad380) l0_0.length c0_0] 47 (0, 0))) := ⟨by (with_reducible repeat (first | refine blk_drewN ?_ _ | refine blk_drew ?_ | refine blk_alloc ?_ _)); refine blk_far ?_ NB379_381.out _; (with_reducible repeat (first | refine blk_drewN ?_ _ | refine blk_drew ?_ | refine blk_alloc ?_ _)); refine blk_far ?_ NB379_381.out _; (with_reducible repeat (first | refine blk_drewN ?_ _ | refine blk_drew ?_ | refine blk_alloc ?_ _)); refine blk_far ?_ NB379_381.out _; (with_reducible repeat (first | refine blk_drewN ?_ _ | refine blk_drew ?_ | refine blk_alloc ?_ _)); exact BK379.out⟩
          have n1_ : Aside0 ((((w11.setCell ⟨gb381, 0, none⟩ (.string ((rd_T62 l0_0 x3_1).f0))).setCell ⟨gb381, 1, none⟩ (.string ((rd_T62 l0_0 x3_1).f1))).setCell ⟨gb381, 2, none⟩ (.slice A380_2 ((rd_T62 l0_0 x3_1).f2).length c380_2)).heap[gb381]? = some (.cells #[.string ((rd_T62 l0_0 x3_1).f0), .string ((rd_T62 l0_0 x3_1).f1), .slice A380_2 ((rd_T62 l0_0 x3_1).f2).length c380_2] 62 (0, 0))) := ⟨by (with_reducible repeat (first | refine blk_drewN ?_ _ | refine blk_drew ?_ | refine blk_alloc ?_ _)); refine blk_put (cs := #[.string ((rd_T62 l0_0 x3_1).f0), .string ((rd_T62 l0_0 x3_1).f1), .slice none 0 0]) ?_ 2 _ rfl; (with_reducible repeat (first | refine blk_drewN ?_ _ | refine blk_drew ?_ | refine blk_alloc ?_ _)); refine blk_put (cs := #[.string ((rd_T62 l0_0 x3_1).f0), .string (⟨#[]⟩ : ByteArray), .slice none 0 0]) ?_ 1 _ rfl; (with_reducible repeat (first | refine blk_drewN ?_ _ | refine blk_drew ?_ | refine blk_alloc ?_ _)); refine blk_put (cs := #[.string (⟨#[]⟩ : ByteArray), .string (⟨#[]⟩ : ByteArray), .slice none 0 0]) ?_ 0 _ rfl; (with_reducible repeat (first | refine blk_drewN ?_ _ | refine blk_drew ?_ | refine blk_alloc ?_ _)); exact BK381.out⟩
          have n2_ : Aside0 (Below w.heap.size w (((w11.setCell ⟨gb381, 0, none⟩ (.string ((rd_T62 l0_0 x3_1).f0))).setCell ⟨gb381, 1, none⟩ (.string ((rd_T62 l0_0 x3_1).f1))).setCell ⟨gb381, 2, none⟩ (.slice A380_2 ((rd_T62 l0_0 x3_1).f2).length c380_2))) := ⟨by repeat (first | (with_reducible first | exact HB.out | apply below_alloc | apply pw_below_drewN | apply below_drew1 | refine below_set ?_ GE379.out | refine below_set ?_ GE381.out) | exact HB.out)⟩
          (try clear BK379)
          (try clear BK381)
          (try clear HB)
          generalize (((w11.setCell ⟨gb381, 0, none⟩ (.string ((rd_T62 l0_0 x3_1).f0))).setCell ⟨gb381, 1, none⟩ (.string ((rd_T62 l0_0 x3_1).f1))).setCell ⟨gb381, 2, none⟩ (.slice A380_2 ((rd_T62 l0_0 x3_1).f2).length c380_2)) = w40 at n0_ n1_ n2_ ⊢
          have BK379 := n0_
          have BK381 := n1_
          have HB := n2_
          clear n0_ n1_ n2_
          have n0_ := Aside0.mk (blk_drew BK379.out)
          have n1_ := Aside0.mk (blk_drew BK381.out)
          have n2_ := Aside0.mk (below_drew1 HB.out)
          clear BK379
          clear BK381
          clear HB
          have BK379 := n0_
          have BK381 := n1_
          have HB := n2_
          clear n0_ n1_ n2_
          refine start_ (n := 34) (S := fun w' => w'.cell? ⟨gb381, 0, none⟩ = some (.string ((rd_T62 l0_0 x3_1).f0)) ∧ w'.cell? ⟨gb381, 1, none⟩ = some (.string ((rd_T62 l0_0 x3_1).f1)) ∧ w'.cell? ⟨gb381, 2, none⟩ = some (.slice A380_2 ((rd_T62 l0_0 x3_1).f2).length c380_2)) (ds := []) (bz_ 34 0) (by kernel_rfl) rfl rfl ⟨(blk_cell BK381.out 0).trans rfl, (blk_cell BK381.out 1).trans rfl, (blk_cell BK381.out 2).trans rfl⟩ (fun hHeld => ?_); refine with_tabW spec_SheetValid.tab7 spec_SheetValid.bits7 (fun HT_ HW_ => ?_)
          generalize w40.drew = w41 at BK379 BK381 HB hHeld ⊢
          refine pure_ (i := 0) (N := some 21) (v := ?_) (a' := ?_) (bz_ 34 1) rfl rfl (any_of HT_.out (by kernel_rfl)) (fun _ _ _ h => h) (Or.inl ⟨by rfl, ?_⟩) ?_ ?_
          rotate_left
          ·intro w'
           go_simp
           with_reducible rfl
          rotate_left
          ·simp only [Act.put, List.setIfInBounds_toArray, List.set_cons_zero, List.set_cons_succ, i64_w, i32_w]
           rfl
          refine take_ (i := 1) (N := some 22) (v := ?_) (a' := ?_) (bz_ 34 3) rfl rfl (take_ofW HT_.out HW_.out (by kernel_rfl)) (fun _ _ _ h => h) (Or.inl ⟨by rfl, ?_⟩) hHeld ?_ ?_
          rotate_left
          ·rintro w' ⟨s0, s1, s2⟩
           go_simp
           with_reducible rfl
          rotate_left
          ·simp only [Act.put, List.setIfInBounds_toArray, List.set_cons_zero, List.set_cons_succ, i64_w, i32_w]
           rfl
          refine one_ (i := 2) (N := some 23) (bz_ 34 7) rfl rfl (one_of HT_.out (by kernel_rfl)) (by decide) (fun K hK => ?_)
          refine goes_ Tryd.func13 (by kernel_rfl) rfl #[.string ((rd_T62 l0_0 x3_1).f0)] (by rfl) rfl rfl (by (try simp only [List.map_toArray, List.map_cons, List.map_nil]); first | done | rfl | (simp only [List.length_drop, List.length_take]; rfl)) ?_
          with_reducible refine (spec_SheetRules.calls ((rd_T62 l0_0 x3_1).f0) t382 _ A14.out).mono ?_
          rintro e w42 ⟨v383, rfl, ho0, hb⟩
          refine ⟨_, rfl, ?_⟩
          have n0_ := Aside0.mk (Kd.R_lower ho0 (below_size (by repeat (first | (with_reducible first | exact HB.out | apply below_alloc | apply pw_below_drewN | apply below_drew1 | refine below_set ?_ GE379.out | refine below_set ?_ GE381.out) | exact HB.out))))
          have n1_ := Aside0.mk (blk_below (g := gb379) (o := .cells #[.slice (some ad380) l0_0.length c0_0] 47 (0, 0)) (by (with_reducible repeat (first | refine blk_drewN ?_ _ | refine blk_drew ?_ | refine blk_alloc ?_ _)); exact BK379.out) hb)
          have n2_ := Aside0.mk (blk_below (g := gb381) (o := .cells #[.string ((rd_T62 l0_0 x3_1).f0), .string ((rd_T62 l0_0 x3_1).f1), .slice A380_2 ((rd_T62 l0_0 x3_1).f2).length c380_2] 62 (0, 0)) (by (with_reducible repeat (first | refine blk_drewN ?_ _ | refine blk_drew ?_ | refine blk_alloc ?_ _)); exact BK381.out) hb)
          have n3_ := Aside0.mk (below_step (by repeat (first | (with_reducible first | exact HB.out | apply below_alloc | apply pw_below_drewN | apply below_drew1 | refine below_set ?_ GE379.out | refine below_set ?_ GE381.out) | exact HB.out)) hb)
          clear BK379
          clear BK381
          clear HB
          have HO384 := n0_
          have BK379 := n1_
          have BK381 := n2_
          have HB := n3_
          clear n0_ n1_ n2_ n3_
          (try clear hb)
          (try clear hb2)
          (try clear hk)
          (try clear hi)
          (try clear ho0)
          obtain ⟨Ao43, co43, eo43⟩ := Kd.R_slice HO384.out
          (first | subst eo43 | (injection eo43 with f1_ f2_ f3_; have f4_ := f1_.symm; have f5_ := f3_.symm; clear f1_ f2_ f3_; subst f4_; subst f5_))
          refine hK.out _ _ ⟨(blk_cell BK381.out 0).trans rfl, (blk_cell BK381.out 1).trans rfl, (blk_cell BK381.out 2).trans rfl⟩ (fun hHeld => ?_)
          clear hK K
          refine norm_ (a' := ?_) ?_ ?_
          rotate_left
          ·show Act.put _ (some 23) _ = _
           simp only [Act.put, List.setIfInBounds_toArray, List.set_cons_zero, List.set_cons_succ, i64_w, i32_w]
           rfl
          refine pure_ (i := 3) (N := some 24) (v := ?_) (a' := ?_) (bz_ 34 15) rfl rfl (any_of HT_.out (by kernel_rfl)) (fun _ _ _ h => h) (Or.inl ⟨by rfl, ?_⟩) ?_ ?_
          rotate_left
          ·intro w'
           go_simp
           with_reducible rfl
          rotate_left
          ·simp only [Act.put, List.setIfInBounds_toArray, List.set_cons_zero, List.set_cons_succ, i64_w, i32_w]
           rfl
          refine pure_ (i := 4) (N := some 25) (v := ?_) (a' := ?_) (bz_ 34 31) rfl rfl (any_of HT_.out (by kernel_rfl)) (fun _ _ _ h => h) (Or.inl ⟨by rfl, ?_⟩) ?_ ?_
          rotate_left
          ·intro w'
           go_simp
           with_reducible rfl
          rotate_left
          ·simp only [Act.put, List.setIfInBounds_toArray, List.set_cons_zero, List.set_cons_succ, i64_w, i32_w]
           rfl
          refine pure_ (i := 5) (N := some 26) (v := ?_) (a' := ?_) (bz_ 34 63) rfl rfl (any_of HT_.out (by kernel_rfl)) (fun _ _ _ h => h) (Or.inl ⟨by rfl, ?_⟩) ?_ ?_
          rotate_left
          ·intro w'
           go_simp
           with_reducible rfl
          rotate_left
          ·simp only [Act.put, List.setIfInBounds_toArray, List.set_cons_zero, List.set_cons_succ, i64_w, i32_w]
           rfl
          refine pure_ (i := 6) (N := some 27) (v := ?_) (a' := ?_) (bz_ 34 127) rfl rfl (any_of HT_.out (by kernel_rfl)) (fun _ _ _ h => h) (Or.inl ⟨by rfl, ?_⟩) ?_ ?_
          rotate_left
          ·intro w'
           go_simp
           with_reducible rfl
          rotate_left
          ·simp only [Act.put, List.setIfInBounds_toArray, List.set_cons_zero, List.set_cons_succ, i64_w, i32_w]
           rfl
          refine take_ (i := 7) (N := some 28) (v := ?_) (a' := ?_) (bz_ 34 255) rfl rfl (take_ofW HT_.out HW_.out (by kernel_rfl)) (fun _ _ _ h => h) (Or.inl ⟨by rfl, ?_⟩) hHeld ?_ ?_
          rotate_left
          ·rintro w' ⟨s0, s1, s2⟩
           go_simp
           with_reducible rfl
          rotate_left
          ·simp only [Act.put, List.setIfInBounds_toArray, List.set_cons_zero, List.set_cons_succ, i64_w, i32_w]
           rfl
          refine one_ (i := 8) (N := some 29) (bz_ 34 511) rfl rfl (one_of HT_.out (by kernel_rfl)) (by decide) (fun K hK => ?_)
          refine goes_ Tryd.func71 (by kernel_rfl) rfl #[.string ((rd_T62 l0_0 x3_1).f1)] (by rfl) rfl rfl (by (try simp only [List.map_toArray, List.map_cons, List.map_nil]); first | done | rfl | (simp only [List.length_drop, List.length_take]; rfl)) ?_
          with_reducible refine (spec_l2NameOk.calls k1 ((rd_T62 l0_0 x3_1).f1) true _ A20.out).mono ?_
          rintro e w' ⟨rfl, ⟨nd, rfl⟩⟩
          refine ⟨_, rfl, ?_⟩
          refine hK.out _ _ ⟨(blk_cell BK381.out 0).trans rfl, (blk_cell BK381.out 1).trans rfl, (blk_cell BK381.out 2).trans rfl⟩ (fun hHeld => ?_)
          clear hK K
          refine norm_ (a' := ?_) ?_ ?_
          rotate_left
          ·show Act.put _ (some 29) _ = _
           simp only [Act.put, List.setIfInBounds_toArray, List.set_cons_zero, List.set_cons_succ, i64_w, i32_w]
           rfl
          refine pure_ (i := 9) (N := some 30) (v := ?_) (a' := ?_) (bz_ 34 1023) rfl rfl (any_of HT_.out (by kernel_rfl)) (fun _ _ _ h => h) (Or.inl ⟨by rfl, ?_⟩) ?_ ?_
          rotate_left
          ·intro w'
           go_simp
           with_reducible rfl
          rotate_left
          ·simp only [Act.put, List.setIfInBounds_toArray, List.set_cons_zero, List.set_cons_succ, i64_w, i32_w]
           rfl
          refine pure_ (i := 10) (N := some 31) (v := ?_) (a' := ?_) (bz_ 34 2047) rfl rfl (any_of HT_.out (by kernel_rfl)) (fun _ _ _ h => h) (Or.inl ⟨by rfl, ?_⟩) ?_ ?_
          rotate_left
          ·intro w'
           go_simp
           with_reducible rfl
          rotate_left
          ·simp only [Act.put, List.setIfInBounds_toArray, List.set_cons_zero, List.set_cons_succ, i64_w, i32_w]
           rfl
          refine pure_ (i := 11) (N := some 32) (v := ?_) (a' := ?_) (bz_ 34 4095) rfl rfl (any_of HT_.out (by kernel_rfl)) (fun _ _ _ h => h) (Or.inl ⟨by rfl, ?_⟩) ?_ ?_
          rotate_left
          ·intro w'
           go_simp
           with_reducible rfl
          rotate_left
          ·simp only [Act.put, List.setIfInBounds_toArray, List.set_cons_zero, List.set_cons_succ, i64_w, i32_w]
           rfl
          refine pure_ (i := 12) (N := some 33) (v := ?_) (a' := ?_) (bz_ 34 8191) rfl rfl (any_of HT_.out (by kernel_rfl)) (fun _ _ _ h => h) (Or.inl ⟨by rfl, ?_⟩) ?_ ?_
          rotate_left
          ·intro w'
           go_simp
           with_reducible rfl
          rotate_left
          ·simp only [Act.put, List.setIfInBounds_toArray, List.set_cons_zero, List.set_cons_succ, i64_w, i32_w]
           rfl
          refine pure_ (i := 14) (N := some 35) (v := ?_) (a' := ?_) (bz_ 34 24575) rfl rfl (any_of HT_.out (by kernel_rfl)) (fun _ _ _ h => h) (Or.inl ⟨by rfl, ?_⟩) ?_ ?_
          rotate_left
          ·intro w'
           go_simp
           with_reducible rfl
          rotate_left
          ·simp only [Act.put, List.setIfInBounds_toArray, List.set_cons_zero, List.set_cons_succ, i64_w, i32_w]
           rfl
          refine take_ (i := 13) (N := some 34) (v := ?_) (a' := ?_) (bz_ 34 32767) rfl rfl (take_ofW HT_.out HW_.out (by kernel_rfl)) (fun _ _ _ h => h) (Or.inl ⟨by rfl, ?_⟩) hHeld ?_ ?_
          rotate_left
          ·rintro w' ⟨s0, s1, s2⟩
           go_simp
           with_reducible rfl
          rotate_left
          ·simp only [Act.put, List.setIfInBounds_toArray, List.set_cons_zero, List.set_cons_succ, i64_w, i32_w]
           rfl
          refine take_ (i := 15) (N := some 36) (v := ?_) (a' := ?_) (bz_ 34 65535) rfl rfl (take_ofW HT_.out HW_.out (by kernel_rfl)) (fun _ _ _ h => h) (Or.inl ⟨by rfl, ?_⟩) hHeld ?_ ?_
          rotate_left
          ·rintro w' ⟨s0, s1, s2⟩
           go_simp
           with_reducible rfl
          rotate_left
          ·simp only [Act.put, List.setIfInBounds_toArray, List.set_cons_zero, List.set_cons_succ, i64_w, i32_w]
           rfl
          refine one_ (i := 16) (N := some 37) (bz_ 34 131071) rfl rfl (one_of HT_.out (by kernel_rfl)) (by decide) (fun K hK => ?_)
          refine goes_ Tryd.func72 (by kernel_rfl) rfl #[.string ((rd_T62 l0_0 x3_1).f0), .slice A380_2 ((rd_T62 l0_0 x3_1).f2).length c380_2] (by rfl) rfl rfl (by (try simp only [List.map_toArray, List.map_cons, List.map_nil]); first | done | rfl | (simp only [List.length_drop, List.length_take]; rfl)) ?_
          with_reducible refine (spec_l3LinesOk.calls ((rd_T62 l0_0 x3_1).f0) _ _ ((rd_T62 l0_0 x3_1).f2) false _ ?side1 ?side2 A22.out).mono ?_
          (case side1 => repeat (first | exact (Kd.C_below HR380_2.out (by repeat (first | (with_reducible first | exact HB.out | apply below_alloc | apply pw_below_drewN | apply below_drew1 | refine below_set ?_ GE379.out | refine below_set ?_ GE381.out) | exact HB.out))) | (with_reducible refine Kd.C_alloc ?_ _) | (with_reducible refine Kd.C_drewN ?_ _) | (with_reducible refine Kd.C_drew ?_)))
          (case side2 => exact HC380_2.out)
          rintro e w44 ⟨rfl, hb⟩
          refine ⟨_, rfl, ?_⟩
          have n0_ := Aside0.mk (Kd.R_below (stR HO384.out) hb)
          have n1_ := Aside0.mk (blk_below (g := gb379) (o := .cells #[.slice (some ad380) l0_0.length c0_0] 47 (0, 0)) (by (with_reducible repeat (first | refine blk_drewN ?_ _ | refine blk_drew ?_ | refine blk_alloc ?_ _)); exact BK379.out) hb)
          have n2_ := Aside0.mk (blk_below (g := gb381) (o := .cells #[.string ((rd_T62 l0_0 x3_1).f0), .string ((rd_T62 l0_0 x3_1).f1), .slice A380_2 ((rd_T62 l0_0 x3_1).f2).length c380_2] 62 (0, 0)) (by (with_reducible repeat (first | refine blk_drewN ?_ _ | refine blk_drew ?_ | refine blk_alloc ?_ _)); exact BK381.out) hb)
          have n3_ := Aside0.mk (below_step (by repeat (first | (with_reducible first | exact HB.out | apply below_alloc | apply pw_below_drewN | apply below_drew1 | refine below_set ?_ GE379.out | refine below_set ?_ GE381.out) | exact HB.out)) hb)
          clear HO384
          clear BK379
          clear BK381
          clear HB
          have HO384 := n0_
          have BK379 := n1_
          have BK381 := n2_
          have HB := n3_
          clear n0_ n1_ n2_ n3_
          (try clear hb)
          (try clear hb2)
          (try clear hk)
          (try clear hi)
          refine hK.out _ _ ⟨(blk_cell BK381.out 0).trans rfl, (blk_cell BK381.out 1).trans rfl, (blk_cell BK381.out 2).trans rfl⟩ (fun hHeld => ?_)
          clear hK K
          refine norm_ (a' := ?_) ?_ ?_
          rotate_left
          ·show Act.put _ (some 37) _ = _
           simp only [Act.put, List.setIfInBounds_toArray, List.set_cons_zero, List.set_cons_succ, i64_w, i32_w]
           rfl
          refine pure_ (i := 17) (N := some 38) (v := ?_) (a' := ?_) (bz_ 34 262143) rfl rfl (any_of HT_.out (by kernel_rfl)) (fun _ _ _ h => h) (Or.inl ⟨by rfl, ?_⟩) ?_ ?_
          rotate_left
          ·intro w'
           go_simp
           with_reducible rfl
          rotate_left
          ·simp only [Act.put, List.setIfInBounds_toArray, List.set_cons_zero, List.set_cons_succ, i64_w, i32_w]
           rfl
          refine pure_ (i := 18) (N := some 39) (v := ?_) (a' := ?_) (bz_ 34 524287) rfl rfl (any_of HT_.out (by kernel_rfl)) (fun _ _ _ h => h) (Or.inl ⟨by rfl, ?_⟩) ?_ ?_
          rotate_left
          ·intro w'
           go_simp
           with_reducible rfl
          rotate_left
          ·simp only [Act.put, List.setIfInBounds_toArray, List.set_cons_zero, List.set_cons_succ, i64_w, i32_w]
           rfl
          refine pure_ (i := 19) (N := some 40) (v := ?_) (a' := ?_) (bz_ 34 1048575) rfl rfl (any_of HT_.out (by kernel_rfl)) (fun _ _ _ h => h) (Or.inl ⟨by rfl, ?_⟩) ?_ ?_
          rotate_left
          ·intro w'
           go_simp
           with_reducible rfl
          rotate_left
          ·simp only [Act.put, List.setIfInBounds_toArray, List.set_cons_zero, List.set_cons_succ, i64_w, i32_w]
           rfl
          refine pure_ (i := 20) (N := some 41) (v := undef) (a' := ?_) (bz_ 34 2097151) rfl rfl (any_of HT_.out (by kernel_rfl)) (fun _ _ _ h => h) (Or.inr ⟨by rfl, rfl⟩) ?_ ?_
          rotate_left
          ·simp only [Act.put, List.setIfInBounds_toArray, List.set_cons_zero, List.set_cons_succ, i64_w, i32_w]
           rfl
          refine pure_ (i := 21) (N := some 42) (v := undef) (a' := ?_) (bz_ 34 4194303) rfl rfl (any_of HT_.out (by kernel_rfl)) (fun _ _ _ h => h) (Or.inr ⟨by rfl, rfl⟩) ?_ ?_
          rotate_left
          ·simp only [Act.put, List.setIfInBounds_toArray, List.set_cons_zero, List.set_cons_succ, i64_w, i32_w]
           rfl
          refine pure_ (i := 22) (N := some 43) (v := undef) (a' := ?_) (bz_ 34 8388607) rfl rfl (any_of HT_.out (by kernel_rfl)) (fun _ _ _ h => h) (Or.inr ⟨by rfl, rfl⟩) ?_ ?_
          rotate_left
          ·simp only [Act.put, List.setIfInBounds_toArray, List.set_cons_zero, List.set_cons_succ, i64_w, i32_w]
           rfl
          refine pure_ (i := 23) (N := some 44) (v := undef) (a' := ?_) (bz_ 34 16777215) rfl rfl (any_of HT_.out (by kernel_rfl)) (fun _ _ _ h => h) (Or.inr ⟨by rfl, rfl⟩) ?_ ?_
          rotate_left
          ·simp only [Act.put, List.setIfInBounds_toArray, List.set_cons_zero, List.set_cons_succ, i64_w, i32_w]
           rfl
          refine pure_ (i := 24) (N := some 45) (v := undef) (a' := ?_) (bz_ 34 33554431) rfl rfl (any_of HT_.out (by kernel_rfl)) (fun _ _ _ h => h) (Or.inr ⟨by rfl, rfl⟩) ?_ ?_
          rotate_left
          ·simp only [Act.put, List.setIfInBounds_toArray, List.set_cons_zero, List.set_cons_succ, i64_w, i32_w]
           rfl
          refine pure_ (i := 25) (N := some 46) (v := undef) (a' := ?_) (bz_ 34 67108863) rfl rfl (any_of HT_.out (by kernel_rfl)) (fun _ _ _ h => h) (Or.inr ⟨by rfl, rfl⟩) ?_ ?_
          rotate_left
          ·simp only [Act.put, List.setIfInBounds_toArray, List.set_cons_zero, List.set_cons_succ, i64_w, i32_w]
           rfl
          refine pure_ (i := 26) (N := some 47) (v := undef) (a' := ?_) (bz_ 34 134217727) rfl rfl (any_of HT_.out (by kernel_rfl)) (fun _ _ _ h => h) (Or.inr ⟨by rfl, rfl⟩) ?_ ?_
          rotate_left
          ·simp only [Act.put, List.setIfInBounds_toArray, List.set_cons_zero, List.set_cons_succ, i64_w, i32_w]
           rfl
          refine pure_ (i := 27) (N := some 48) (v := undef) (a' := ?_) (bz_ 34 268435455) rfl rfl (any_of HT_.out (by kernel_rfl)) (fun _ _ _ h => h) (Or.inr ⟨by rfl, rfl⟩) ?_ ?_
          rotate_left
          ·simp only [Act.put, List.setIfInBounds_toArray, List.set_cons_zero, List.set_cons_succ, i64_w, i32_w]
           rfl
          refine pure_ (i := 28) (N := some 49) (v := undef) (a' := ?_) (bz_ 34 536870911) rfl rfl (any_of HT_.out (by kernel_rfl)) (fun _ _ _ h => h) (Or.inr ⟨by rfl, rfl⟩) ?_ ?_
          rotate_left
          ·simp only [Act.put, List.setIfInBounds_toArray, List.set_cons_zero, List.set_cons_succ, i64_w, i32_w]
           rfl
          refine pure_ (i := 29) (N := some 50) (v := undef) (a' := ?_) (bz_ 34 1073741823) rfl rfl (any_of HT_.out (by kernel_rfl)) (fun _ _ _ h => h) (Or.inr ⟨by rfl, rfl⟩) ?_ ?_
          rotate_left
          ·simp only [Act.put, List.setIfInBounds_toArray, List.set_cons_zero, List.set_cons_succ, i64_w, i32_w]
           rfl
          refine pure_ (i := 30) (N := some 51) (v := undef) (a' := ?_) (bz_ 34 2147483647) rfl rfl (any_of HT_.out (by kernel_rfl)) (fun _ _ _ h => h) (Or.inr ⟨by rfl, rfl⟩) ?_ ?_
          rotate_left
          ·simp only [Act.put, List.setIfInBounds_toArray, List.set_cons_zero, List.set_cons_succ, i64_w, i32_w]
           rfl
          refine pure_ (i := 31) (N := some 52) (v := undef) (a' := ?_) (bz_ 34 4294967295) rfl rfl (any_of HT_.out (by kernel_rfl)) (fun _ _ _ h => h) (Or.inr ⟨by rfl, rfl⟩) ?_ ?_
          rotate_left
          ·simp only [Act.put, List.setIfInBounds_toArray, List.set_cons_zero, List.set_cons_succ, i64_w, i32_w]
           rfl
          refine pure_ (i := 32) (N := some 53) (v := undef) (a' := ?_) (bz_ 34 8589934591) rfl rfl (any_of HT_.out (by kernel_rfl)) (fun _ _ _ h => h) (Or.inr ⟨by rfl, rfl⟩) ?_ ?_
          rotate_left
          ·simp only [Act.put, List.setIfInBounds_toArray, List.set_cons_zero, List.set_cons_succ, i64_w, i32_w]
           rfl
          refine pure_ (i := 33) (N := some 54) (v := ?_) (a' := ?_) (bz_ 34 17179869183) rfl rfl (any_of HT_.out (by kernel_rfl)) (fun _ _ _ h => h) (Or.inl ⟨by rfl, ?_⟩) ?_ ?_
          rotate_left
          ·intro w'
           go_simp
           with_reducible rfl
          rotate_left
          ·simp only [Act.put, List.setIfInBounds_toArray, List.set_cons_zero, List.set_cons_succ, i64_w, i32_w]
           rfl
          refine done_ (done_of HT_.out (by kernel_rfl)) ?_
          try go_wp2
          go_meet
          case rel => exact ⟨_, (true), (by first | rfl | (simp; done) | (simp [*]; done)), H', ⟨by have := HK1.out; first | omega | exact Nat.le_refl _⟩, ⟨by (with_reducible repeat (first | refine blk_drewN ?_ _ | refine blk_drew ?_ | refine blk_alloc ?_ _)); exact BK379.out⟩, ⟨by (with_reducible repeat (first | refine blk_drewN ?_ _ | refine blk_drew ?_ | refine blk_alloc ?_ _)); exact BK381.out⟩, ⟨by repeat (first | (with_reducible first | exact HB.out | apply below_alloc | apply pw_below_drewN | apply below_drew1 | refine below_set ?_ GE379.out | refine below_set ?_ GE381.out) | exact HB.out)⟩⟩
        ·replace c21 := Bool.eq_false_iff.mpr c21
         subst c21
         have H1 : (spec_SheetValid.j1 k1 x3_1 true l0_0) = some r := by rw [if_neg (show ¬ (false = true) by decide)] at H; exact H
         clear H
         have H := H1
         clear H1
         have H' := Aside0.mk H
         clear H
         try go_wp2
         have n0_ : Aside0 ((((w11.setCell ⟨gb381, 0, none⟩ (.string ((rd_T62 l0_0 x3_1).f0))).setCell ⟨gb381, 1, none⟩ (.string ((rd_T62 l0_0 x3_1).f1))).setCell ⟨gb381, 2, none⟩ (.slice A380_2 ((rd_T62 l0_0 x3_1).f2).length c380_2)).heap[gb379]? = some (.cells #[.slice (some ad380) l0_0.length c0_0] 47 (0, 0))) := ⟨by (with_reducible repeat (first | refine blk_drewN ?_ _ | refine blk_drew ?_ | refine blk_alloc ?_ _)); refine blk_far ?_ NB379_381.out _; (with_reducible repeat (first | refine blk_drewN ?_ _ | refine blk_drew ?_ | refine blk_alloc ?_ _)); refine blk_far ?_ NB379_381.out _; (with_reducible repeat (first | refine blk_drewN ?_ _ | refine blk_drew ?_ | refine blk_alloc ?_ _)); refine blk_far ?_ NB379_381.out _; (with_reducible repeat (first | refine blk_drewN ?_ _ | refine blk_drew ?_ | refine blk_alloc ?_ _)); exact BK379.out⟩
         have n1_ : Aside0 ((((w11.setCell ⟨gb381, 0, none⟩ (.string ((rd_T62 l0_0 x3_1).f0))).setCell ⟨gb381, 1, none⟩ (.string ((rd_T62 l0_0 x3_1).f1))).setCell ⟨gb381, 2, none⟩ (.slice A380_2 ((rd_T62 l0_0 x3_1).f2).length c380_2)).heap[gb381]? = some (.cells #[.string ((rd_T62 l0_0 x3_1).f0), .string ((rd_T62 l0_0 x3_1).f1), .slice A380_2 ((rd_T62 l0_0 x3_1).f2).length c380_2] 62 (0, 0))) := ⟨by (with_reducible repeat (first | refine blk_drewN ?_ _ | refine blk_drew ?_ | refine blk_alloc ?_ _)); refine blk_put (cs := #[.string ((rd_T62 l0_0 x3_1).f0), .string ((rd_T62 l0_0 x3_1).f1), .slice none 0 0]) ?_ 2 _ rfl; (with_reducible repeat (first | refine blk_drewN ?_ _ | refine blk_drew ?_ | refine blk_alloc ?_ _)); refine blk_put (cs := #[.string ((rd_T62 l0_0 x3_1).f0), .string (⟨#[]⟩ : ByteArray), .slice none 0 0]) ?_ 1 _ rfl; (with_reducible repeat (first | refine blk_drewN ?_ _ | refine blk_drew ?_ | refine blk_alloc ?_ _)); refine blk_put (cs := #[.string (⟨#[]⟩ : ByteArray), .string (⟨#[]⟩ : ByteArray), .slice none 0 0]) ?_ 0 _ rfl; (with_reducible repeat (first | refine blk_drewN ?_ _ | refine blk_drew ?_ | refine blk_alloc ?_ _)); exact BK381.out⟩
         have n2_ : Aside0 (Below w.heap.size w (((w11.setCell ⟨gb381, 0, none⟩ (.string ((rd_T62 l0_0 x3_1).f0))).setCell ⟨gb381, 1, none⟩ (.string ((rd_T62 l0_0 x3_1).f1))).setCell ⟨gb381, 2, none⟩ (.slice A380_2 ((rd_T62 l0_0 x3_1).f2).length c380_2))) := ⟨by repeat (first | (with_reducible first | exact HB.out | apply below_alloc | apply pw_below_drewN | apply below_drew1 | refine below_set ?_ GE379.out | refine below_set ?_ GE381.out) | exact HB.out)⟩
         (try clear BK379)
         (try clear BK381)
         (try clear HB)
         generalize (((w11.setCell ⟨gb381, 0, none⟩ (.string ((rd_T62 l0_0 x3_1).f0))).setCell ⟨gb381, 1, none⟩ (.string ((rd_T62 l0_0 x3_1).f1))).setCell ⟨gb381, 2, none⟩ (.slice A380_2 ((rd_T62 l0_0 x3_1).f2).length c380_2)) = w45 at n0_ n1_ n2_ ⊢
         have BK379 := n0_
         have BK381 := n1_
         have HB := n2_
         clear n0_ n1_ n2_
         have n0_ := Aside0.mk (blk_drew BK379.out)
         have n1_ := Aside0.mk (blk_drew BK381.out)
         have n2_ := Aside0.mk (below_drew1 HB.out)
         clear BK379
         clear BK381
         clear HB
         have BK379 := n0_
         have BK381 := n1_
         have HB := n2_
         clear n0_ n1_ n2_
         refine start_ (n := 34) (S := fun w' => w'.cell? ⟨gb381, 0, none⟩ = some (.string ((rd_T62 l0_0 x3_1).f0)) ∧ w'.cell? ⟨gb381, 1, none⟩ = some (.string ((rd_T62 l0_0 x3_1).f1)) ∧ w'.cell? ⟨gb381, 2, none⟩ = some (.slice A380_2 ((rd_T62 l0_0 x3_1).f2).length c380_2)) (ds := []) (bz_ 34 0) (by kernel_rfl) rfl rfl ⟨(blk_cell BK381.out 0).trans rfl, (blk_cell BK381.out 1).trans rfl, (blk_cell BK381.out 2).trans rfl⟩ (fun hHeld => ?_); refine with_tabW spec_SheetValid.tab7 spec_SheetValid.bits7 (fun HT_ HW_ => ?_)
         generalize w45.drew = w46 at BK379 BK381 HB hHeld ⊢
         refine pure_ (i := 0) (N := some 21) (v := ?_) (a' := ?_) (bz_ 34 1) rfl rfl (any_of HT_.out (by kernel_rfl)) (fun _ _ _ h => h) (Or.inl ⟨by rfl, ?_⟩) ?_ ?_
         rotate_left
         ·intro w'
          go_simp
          with_reducible rfl
         rotate_left
         ·simp only [Act.put, List.setIfInBounds_toArray, List.set_cons_zero, List.set_cons_succ, i64_w, i32_w]
          rfl
         refine take_ (i := 1) (N := some 22) (v := ?_) (a' := ?_) (bz_ 34 3) rfl rfl (take_ofW HT_.out HW_.out (by kernel_rfl)) (fun _ _ _ h => h) (Or.inl ⟨by rfl, ?_⟩) hHeld ?_ ?_
         rotate_left
         ·rintro w' ⟨s0, s1, s2⟩
          go_simp
          with_reducible rfl
         rotate_left
         ·simp only [Act.put, List.setIfInBounds_toArray, List.set_cons_zero, List.set_cons_succ, i64_w, i32_w]
          rfl
         refine one_ (i := 2) (N := some 23) (bz_ 34 7) rfl rfl (one_of HT_.out (by kernel_rfl)) (by decide) (fun K hK => ?_)
         refine goes_ Tryd.func13 (by kernel_rfl) rfl #[.string ((rd_T62 l0_0 x3_1).f0)] (by rfl) rfl rfl (by (try simp only [List.map_toArray, List.map_cons, List.map_nil]); first | done | rfl | (simp only [List.length_drop, List.length_take]; rfl)) ?_
         with_reducible refine (spec_SheetRules.calls ((rd_T62 l0_0 x3_1).f0) t382 _ A14.out).mono ?_
         rintro e w47 ⟨v383, rfl, ho0, hb⟩
         refine ⟨_, rfl, ?_⟩
         have n0_ := Aside0.mk (Kd.R_lower ho0 (below_size (by repeat (first | (with_reducible first | exact HB.out | apply below_alloc | apply pw_below_drewN | apply below_drew1 | refine below_set ?_ GE379.out | refine below_set ?_ GE381.out) | exact HB.out))))
         have n1_ := Aside0.mk (blk_below (g := gb379) (o := .cells #[.slice (some ad380) l0_0.length c0_0] 47 (0, 0)) (by (with_reducible repeat (first | refine blk_drewN ?_ _ | refine blk_drew ?_ | refine blk_alloc ?_ _)); exact BK379.out) hb)
         have n2_ := Aside0.mk (blk_below (g := gb381) (o := .cells #[.string ((rd_T62 l0_0 x3_1).f0), .string ((rd_T62 l0_0 x3_1).f1), .slice A380_2 ((rd_T62 l0_0 x3_1).f2).length c380_2] 62 (0, 0)) (by (with_reducible repeat (first | refine blk_drewN ?_ _ | refine blk_drew ?_ | refine blk_alloc ?_ _)); exact BK381.out) hb)
         have n3_ := Aside0.mk (below_step (by repeat (first | (with_reducible first | exact HB.out | apply below_alloc | apply pw_below_drewN | apply below_drew1 | refine below_set ?_ GE379.out | refine below_set ?_ GE381.out) | exact HB.out)) hb)
         clear BK379
         clear BK381
         clear HB
         have HO384 := n0_
         have BK379 := n1_
         have BK381 := n2_
         have HB := n3_
         clear n0_ n1_ n2_ n3_
         (try clear hb)
         (try clear hb2)
         (try clear hk)
         (try clear hi)
         (try clear ho0)
         obtain ⟨Ao48, co48, eo48⟩ := Kd.R_slice HO384.out
         (first | subst eo48 | (injection eo48 with f1_ f2_ f3_; have f4_ := f1_.symm; have f5_ := f3_.symm; clear f1_ f2_ f3_; subst f4_; subst f5_))
         refine hK.out _ _ ⟨(blk_cell BK381.out 0).trans rfl, (blk_cell BK381.out 1).trans rfl, (blk_cell BK381.out 2).trans rfl⟩ (fun hHeld => ?_)
         clear hK K
         refine norm_ (a' := ?_) ?_ ?_
         rotate_left
         ·show Act.put _ (some 23) _ = _
          simp only [Act.put, List.setIfInBounds_toArray, List.set_cons_zero, List.set_cons_succ, i64_w, i32_w]
          rfl
         refine pure_ (i := 3) (N := some 24) (v := ?_) (a' := ?_) (bz_ 34 15) rfl rfl (any_of HT_.out (by kernel_rfl)) (fun _ _ _ h => h) (Or.inl ⟨by rfl, ?_⟩) ?_ ?_
         rotate_left
         ·intro w'
          go_simp
          with_reducible rfl
         rotate_left
         ·simp only [Act.put, List.setIfInBounds_toArray, List.set_cons_zero, List.set_cons_succ, i64_w, i32_w]
          rfl
         refine pure_ (i := 4) (N := some 25) (v := ?_) (a' := ?_) (bz_ 34 31) rfl rfl (any_of HT_.out (by kernel_rfl)) (fun _ _ _ h => h) (Or.inl ⟨by rfl, ?_⟩) ?_ ?_
         rotate_left
         ·intro w'
          go_simp
          with_reducible rfl
         rotate_left
         ·simp only [Act.put, List.setIfInBounds_toArray, List.set_cons_zero, List.set_cons_succ, i64_w, i32_w]
          rfl
         refine pure_ (i := 5) (N := some 26) (v := ?_) (a' := ?_) (bz_ 34 63) rfl rfl (any_of HT_.out (by kernel_rfl)) (fun _ _ _ h => h) (Or.inl ⟨by rfl, ?_⟩) ?_ ?_
         rotate_left
         ·intro w'
          go_simp
          with_reducible rfl
         rotate_left
         ·simp only [Act.put, List.setIfInBounds_toArray, List.set_cons_zero, List.set_cons_succ, i64_w, i32_w]
          rfl
         refine pure_ (i := 6) (N := some 27) (v := ?_) (a' := ?_) (bz_ 34 127) rfl rfl (any_of HT_.out (by kernel_rfl)) (fun _ _ _ h => h) (Or.inl ⟨by rfl, ?_⟩) ?_ ?_
         rotate_left
         ·intro w'
          go_simp
          with_reducible rfl
         rotate_left
         ·simp only [Act.put, List.setIfInBounds_toArray, List.set_cons_zero, List.set_cons_succ, i64_w, i32_w]
          rfl
         refine take_ (i := 7) (N := some 28) (v := ?_) (a' := ?_) (bz_ 34 255) rfl rfl (take_ofW HT_.out HW_.out (by kernel_rfl)) (fun _ _ _ h => h) (Or.inl ⟨by rfl, ?_⟩) hHeld ?_ ?_
         rotate_left
         ·rintro w' ⟨s0, s1, s2⟩
          go_simp
          with_reducible rfl
         rotate_left
         ·simp only [Act.put, List.setIfInBounds_toArray, List.set_cons_zero, List.set_cons_succ, i64_w, i32_w]
          rfl
         refine one_ (i := 8) (N := some 29) (bz_ 34 511) rfl rfl (one_of HT_.out (by kernel_rfl)) (by decide) (fun K hK => ?_)
         refine goes_ Tryd.func71 (by kernel_rfl) rfl #[.string ((rd_T62 l0_0 x3_1).f1)] (by rfl) rfl rfl (by (try simp only [List.map_toArray, List.map_cons, List.map_nil]); first | done | rfl | (simp only [List.length_drop, List.length_take]; rfl)) ?_
         with_reducible refine (spec_l2NameOk.calls k1 ((rd_T62 l0_0 x3_1).f1) false _ A20.out).mono ?_
         rintro e w' ⟨rfl, ⟨nd, rfl⟩⟩
         refine ⟨_, rfl, ?_⟩
         refine hK.out _ _ ⟨(blk_cell BK381.out 0).trans rfl, (blk_cell BK381.out 1).trans rfl, (blk_cell BK381.out 2).trans rfl⟩ (fun hHeld => ?_)
         clear hK K
         refine norm_ (a' := ?_) ?_ ?_
         rotate_left
         ·show Act.put _ (some 29) _ = _
          simp only [Act.put, List.setIfInBounds_toArray, List.set_cons_zero, List.set_cons_succ, i64_w, i32_w]
          rfl
         refine pure_ (i := 9) (N := some 30) (v := ?_) (a' := ?_) (bz_ 34 1023) rfl rfl (any_of HT_.out (by kernel_rfl)) (fun _ _ _ h => h) (Or.inl ⟨by rfl, ?_⟩) ?_ ?_
         rotate_left
         ·intro w'
          go_simp
          with_reducible rfl
         rotate_left
         ·simp only [Act.put, List.setIfInBounds_toArray, List.set_cons_zero, List.set_cons_succ, i64_w, i32_w]
          rfl
         refine pure_ (i := 10) (N := some 31) (v := ?_) (a' := ?_) (bz_ 34 2047) rfl rfl (any_of HT_.out (by kernel_rfl)) (fun _ _ _ h => h) (Or.inl ⟨by rfl, ?_⟩) ?_ ?_
         rotate_left
         ·intro w'
          go_simp
          with_reducible rfl
         rotate_left
         ·simp only [Act.put, List.setIfInBounds_toArray, List.set_cons_zero, List.set_cons_succ, i64_w, i32_w]
          rfl
         refine pure_ (i := 11) (N := some 32) (v := ?_) (a' := ?_) (bz_ 34 4095) rfl rfl (any_of HT_.out (by kernel_rfl)) (fun _ _ _ h => h) (Or.inl ⟨by rfl, ?_⟩) ?_ ?_
         rotate_left
         ·intro w'
          go_simp
          with_reducible rfl
         rotate_left
         ·simp only [Act.put, List.setIfInBounds_toArray, List.set_cons_zero, List.set_cons_succ, i64_w, i32_w]
          rfl
         refine pure_ (i := 12) (N := some 33) (v := undef) (a' := ?_) (bz_ 34 8191) rfl rfl (any_of HT_.out (by kernel_rfl)) (fun _ _ _ h => h) (Or.inr ⟨by rfl, rfl⟩) ?_ ?_
         rotate_left
         ·simp only [Act.put, List.setIfInBounds_toArray, List.set_cons_zero, List.set_cons_succ, i64_w, i32_w]
          rfl
         refine pure_ (i := 13) (N := some 34) (v := undef) (a' := ?_) (bz_ 34 16383) rfl rfl (any_of HT_.out (by kernel_rfl)) (fun _ _ _ h => h) (Or.inr ⟨by rfl, rfl⟩) ?_ ?_
         rotate_left
         ·simp only [Act.put, List.setIfInBounds_toArray, List.set_cons_zero, List.set_cons_succ, i64_w, i32_w]
          rfl
         refine pure_ (i := 14) (N := some 35) (v := undef) (a' := ?_) (bz_ 34 32767) rfl rfl (any_of HT_.out (by kernel_rfl)) (fun _ _ _ h => h) (Or.inr ⟨by rfl, rfl⟩) ?_ ?_
         rotate_left
         ·simp only [Act.put, List.setIfInBounds_toArray, List.set_cons_zero, List.set_cons_succ, i64_w, i32_w]
          rfl
         refine pure_ (i := 15) (N := some 36) (v := undef) (a' := ?_) (bz_ 34 65535) rfl rfl (any_of HT_.out (by kernel_rfl)) (fun _ _ _ h => h) (Or.inr ⟨by rfl, rfl⟩) ?_ ?_
         rotate_left
         ·simp only [Act.put, List.setIfInBounds_toArray, List.set_cons_zero, List.set_cons_succ, i64_w, i32_w]
          rfl
         refine pure_ (i := 16) (N := some 37) (v := undef) (a' := ?_) (bz_ 34 131071) rfl rfl (any_of HT_.out (by kernel_rfl)) (fun _ _ _ h => h) (Or.inr ⟨by rfl, rfl⟩) ?_ ?_
         rotate_left
         ·simp only [Act.put, List.setIfInBounds_toArray, List.set_cons_zero, List.set_cons_succ, i64_w, i32_w]
          rfl
         refine pure_ (i := 17) (N := some 38) (v := undef) (a' := ?_) (bz_ 34 262143) rfl rfl (any_of HT_.out (by kernel_rfl)) (fun _ _ _ h => h) (Or.inr ⟨by rfl, rfl⟩) ?_ ?_
         rotate_left
         ·simp only [Act.put, List.setIfInBounds_toArray, List.set_cons_zero, List.set_cons_succ, i64_w, i32_w]
          rfl
         refine pure_ (i := 18) (N := some 39) (v := ?_) (a' := ?_) (bz_ 34 524287) rfl rfl (any_of HT_.out (by kernel_rfl)) (fun _ _ _ h => h) (Or.inl ⟨by rfl, ?_⟩) ?_ ?_
         rotate_left
         ·intro w'
          go_simp
          with_reducible rfl
         rotate_left
         ·simp only [Act.put, List.setIfInBounds_toArray, List.set_cons_zero, List.set_cons_succ, i64_w, i32_w]
          rfl
         refine pure_ (i := 19) (N := some 40) (v := ?_) (a' := ?_) (bz_ 34 1048575) rfl rfl (any_of HT_.out (by kernel_rfl)) (fun _ _ _ h => h) (Or.inl ⟨by rfl, ?_⟩) ?_ ?_
         rotate_left
         ·intro w'
          go_simp
          with_reducible rfl
         rotate_left
         ·simp only [Act.put, List.setIfInBounds_toArray, List.set_cons_zero, List.set_cons_succ, i64_w, i32_w]
          rfl
         refine pure_ (i := 20) (N := some 41) (v := undef) (a' := ?_) (bz_ 34 2097151) rfl rfl (any_of HT_.out (by kernel_rfl)) (fun _ _ _ h => h) (Or.inr ⟨by rfl, rfl⟩) ?_ ?_
         rotate_left
         ·simp only [Act.put, List.setIfInBounds_toArray, List.set_cons_zero, List.set_cons_succ, i64_w, i32_w]
          rfl
         refine pure_ (i := 21) (N := some 42) (v := undef) (a' := ?_) (bz_ 34 4194303) rfl rfl (any_of HT_.out (by kernel_rfl)) (fun _ _ _ h => h) (Or.inr ⟨by rfl, rfl⟩) ?_ ?_
         rotate_left
         ·simp only [Act.put, List.setIfInBounds_toArray, List.set_cons_zero, List.set_cons_succ, i64_w, i32_w]
          rfl
         refine pure_ (i := 22) (N := some 43) (v := undef) (a' := ?_) (bz_ 34 8388607) rfl rfl (any_of HT_.out (by kernel_rfl)) (fun _ _ _ h => h) (Or.inr ⟨by rfl, rfl⟩) ?_ ?_
         rotate_left
         ·simp only [Act.put, List.setIfInBounds_toArray, List.set_cons_zero, List.set_cons_succ, i64_w, i32_w]
          rfl
         refine pure_ (i := 23) (N := some 44) (v := undef) (a' := ?_) (bz_ 34 16777215) rfl rfl (any_of HT_.out (by kernel_rfl)) (fun _ _ _ h => h) (Or.inr ⟨by rfl, rfl⟩) ?_ ?_
         rotate_left
         ·simp only [Act.put, List.setIfInBounds_toArray, List.set_cons_zero, List.set_cons_succ, i64_w, i32_w]
          rfl
         refine pure_ (i := 24) (N := some 45) (v := undef) (a' := ?_) (bz_ 34 33554431) rfl rfl (any_of HT_.out (by kernel_rfl)) (fun _ _ _ h => h) (Or.inr ⟨by rfl, rfl⟩) ?_ ?_
         rotate_left
         ·simp only [Act.put, List.setIfInBounds_toArray, List.set_cons_zero, List.set_cons_succ, i64_w, i32_w]
          rfl
         refine pure_ (i := 25) (N := some 46) (v := undef) (a' := ?_) (bz_ 34 67108863) rfl rfl (any_of HT_.out (by kernel_rfl)) (fun _ _ _ h => h) (Or.inr ⟨by rfl, rfl⟩) ?_ ?_
         rotate_left
         ·simp only [Act.put, List.setIfInBounds_toArray, List.set_cons_zero, List.set_cons_succ, i64_w, i32_w]
          rfl
         refine pure_ (i := 26) (N := some 47) (v := undef) (a' := ?_) (bz_ 34 134217727) rfl rfl (any_of HT_.out (by kernel_rfl)) (fun _ _ _ h => h) (Or.inr ⟨by rfl, rfl⟩) ?_ ?_
         rotate_left
         ·simp only [Act.put, List.setIfInBounds_toArray, List.set_cons_zero, List.set_cons_succ, i64_w, i32_w]
          rfl
         refine pure_ (i := 27) (N := some 48) (v := undef) (a' := ?_) (bz_ 34 268435455) rfl rfl (any_of HT_.out (by kernel_rfl)) (fun _ _ _ h => h) (Or.inr ⟨by rfl, rfl⟩) ?_ ?_
         rotate_left
         ·simp only [Act.put, List.setIfInBounds_toArray, List.set_cons_zero, List.set_cons_succ, i64_w, i32_w]
          rfl
         refine pure_ (i := 28) (N := some 49) (v := undef) (a' := ?_) (bz_ 34 536870911) rfl rfl (any_of HT_.out (by kernel_rfl)) (fun _ _ _ h => h) (Or.inr ⟨by rfl, rfl⟩) ?_ ?_
         rotate_left
         ·simp only [Act.put, List.setIfInBounds_toArray, List.set_cons_zero, List.set_cons_succ, i64_w, i32_w]
          rfl
         refine pure_ (i := 29) (N := some 50) (v := undef) (a' := ?_) (bz_ 34 1073741823) rfl rfl (any_of HT_.out (by kernel_rfl)) (fun _ _ _ h => h) (Or.inr ⟨by rfl, rfl⟩) ?_ ?_
         rotate_left
         ·simp only [Act.put, List.setIfInBounds_toArray, List.set_cons_zero, List.set_cons_succ, i64_w, i32_w]
          rfl
         refine pure_ (i := 30) (N := some 51) (v := undef) (a' := ?_) (bz_ 34 2147483647) rfl rfl (any_of HT_.out (by kernel_rfl)) (fun _ _ _ h => h) (Or.inr ⟨by rfl, rfl⟩) ?_ ?_
         rotate_left
         ·simp only [Act.put, List.setIfInBounds_toArray, List.set_cons_zero, List.set_cons_succ, i64_w, i32_w]
          rfl
         refine pure_ (i := 31) (N := some 52) (v := undef) (a' := ?_) (bz_ 34 4294967295) rfl rfl (any_of HT_.out (by kernel_rfl)) (fun _ _ _ h => h) (Or.inr ⟨by rfl, rfl⟩) ?_ ?_
         rotate_left
         ·simp only [Act.put, List.setIfInBounds_toArray, List.set_cons_zero, List.set_cons_succ, i64_w, i32_w]
          rfl
         refine pure_ (i := 32) (N := some 53) (v := undef) (a' := ?_) (bz_ 34 8589934591) rfl rfl (any_of HT_.out (by kernel_rfl)) (fun _ _ _ h => h) (Or.inr ⟨by rfl, rfl⟩) ?_ ?_
         rotate_left
         ·simp only [Act.put, List.setIfInBounds_toArray, List.set_cons_zero, List.set_cons_succ, i64_w, i32_w]
          rfl
         refine pure_ (i := 33) (N := some 54) (v := ?_) (a' := ?_) (bz_ 34 17179869183) rfl rfl (any_of HT_.out (by kernel_rfl)) (fun _ _ _ h => h) (Or.inl ⟨by rfl, ?_⟩) ?_ ?_
         rotate_left
         ·intro w'
          go_simp
          with_reducible rfl
         rotate_left
         ·simp only [Act.put, List.setIfInBounds_toArray, List.set_cons_zero, List.set_cons_succ, i64_w, i32_w]
          rfl
         refine done_ (done_of HT_.out (by kernel_rfl)) ?_
         try go_wp2
         go_meet
         case rel => exact ⟨_, (true), (by first | rfl | (simp; done) | (simp [*]; done)), H', ⟨by have := HK1.out; first | omega | exact Nat.le_refl _⟩, ⟨by (with_reducible repeat (first | refine blk_drewN ?_ _ | refine blk_drew ?_ | refine blk_alloc ?_ _)); exact BK379.out⟩, ⟨by (with_reducible repeat (first | refine blk_drewN ?_ _ | refine blk_drew ?_ | refine blk_alloc ?_ _)); exact BK381.out⟩, ⟨by repeat (first | (with_reducible first | exact HB.out | apply below_alloc | apply pw_below_drewN | apply below_drew1 | refine below_set ?_ GE379.out | refine below_set ?_ GE381.out) | exact HB.out)⟩⟩
      case rest =>
       clear HC9
       try clear c1
       try clear c2
       try clear p2
       try clear c3
       try clear c7
       try clear c13
       try clear c21
       try clear c23
       try clear c38
       obtain ⟨kq, x54_8, rfl, HA, HJ8, BK379, BK381, HB⟩ := hcut
       cases kq with
       | zero => exact absurd HA.out (by simp [spec_SheetValid.j1])
       | succ kj8 =>
        have H := HA.out
        clear HA
        simp only [spec_SheetValid.j1] at H
        by_cases c49 : x54_8 = true
        ·subst c49
         have H1 : (some false) = some r := by rw [if_pos rfl] at H; exact H
         clear H
         have H := H1
         clear H1
         obtain rfl := Option.some.inj H
         go_wp2
         go_ret
         exact ⟨by first | rfl | (simp [errW_none, errW_some] <;> rfl) | (simp [*, errW_none, errW_some] <;> rfl), by repeat (first | (with_reducible first | exact HB.out | apply below_alloc | apply pw_below_drewN | apply below_drew1 | refine below_set ?_ GE379.out | refine below_set ?_ GE381.out) | exact HB.out)⟩
        ·replace c49 := Bool.eq_false_iff.mpr c49
         subst c49
         have H1 : (spec_SheetValid.l0 kj8 (wrap64 (x3_1 + 1)) l0_0) = some r := by rw [if_neg (show ¬ (false = true) by decide)] at H; exact H
         clear H
         have H := H1
         clear H1
         have H' := Aside0.mk H
         clear H
         go_wp2
         go_roundg kj8
         case measure => have := HK1.out; have := HJ8.out; omega
         case rel => exact ⟨(wrap64 (x3_1 + 1)), (by first | rfl | (simp; done) | (simp [*]; done)), H', ⟨by have := HK1.out; have := HJ8.out; omega⟩, ⟨by (with_reducible repeat (first | refine blk_drewN ?_ _ | refine blk_drew ?_ | refine blk_alloc ?_ _)); exact BK379.out⟩, ⟨by repeat (first | (with_reducible first | exact HB.out | apply below_alloc | apply pw_below_drewN | apply below_drew1 | refine below_set ?_ GE379.out | refine below_set ?_ GE381.out) | exact HB.out)⟩⟩
     ·rw [if_neg c8] at H
      exact absurd H (by simp)
    ·rw [if_neg c7] at H
     have c7b0 : decide (x3_1 < (l0_0.length : Int)) = false := decide_eq_false c7
     clear c7
     obtain rfl := Option.some.inj H
     have hcz50_0 : wr.cell? ⟨gb379, 0, none⟩ = some (.slice A0_0 l0_0.length c0_0) := (blk_cell BK379.out 0).trans rfl
     have hfz50_0 := blk_frozen BK379.out 0
     go_wp2
     go_ret
     exact ⟨by first | rfl | (simp [errW_none, errW_some] <;> rfl) | (simp [*, errW_none, errW_some] <;> rfl), by repeat (first | (with_reducible first | exact HB.out | apply below_alloc | apply pw_below_drewN | apply below_drew1 | refine below_set ?_ GE379.out) | exact HB.out)⟩
def impl_compare.f (a0_0 : ByteArray) (a0_1 : ByteArray) (l0_2 : List (S83)) (a1_0 : ByteArray) (a1_1 : ByteArray) (l1_2 : List (S83)) : Option (Int) := (strings_Compare.f a0_0 a1_0).bind fun t428 => (if t428 = 0 then ((strings_Compare.f a0_1 a1_1).bind fun t429 => (some t429)) else (some t428))
set_option maxHeartbeats 8000000 in
set_option maxRecDepth 100000 in
theorem impl_compare.calls (a0_0 : ByteArray) (a0_1 : ByteArray) (A0_2 : Option Addr) (c0_2 : Nat) (l0_2 : List (S83)) (a1_0 : ByteArray) (a1_1 : ByteArray) (A1_2 : Option Addr) (c1_2 : Nat) (l1_2 : List (S83)) (r : Int) (w : World) (hr0_2 : Kd.C k83 w A0_2 l0_2.length l0_2) (hc0_2 : l0_2.length ≤ c0_2) (hr1_2 : Kd.C k83 w A1_2 l1_2.length l1_2) (hc1_2 : l1_2.length ≤ c1_2) (h : impl_compare.f a0_0 a0_1 l0_2 a1_0 a1_1 l1_2 = some r) :
  Calls Tryd.prog 76 #[.agg #[.string a0_0, .string a0_1, .slice A0_2 l0_2.length c0_2], .agg #[.string a1_0, .string a1_1, .slice A1_2 l1_2.length c1_2]] w fun e w' => e = .returned (.int .i64 r) ∧ Below w.heap.size w w' := by
 have hu62 := Tryd.underlying62
 have HR0_2 := Aside0.mk hr0_2
 have HC0_2 := Aside0.mk hc0_2
 clear hr0_2 hc0_2
 have HR1_2 := Aside0.mk hr1_2
 have HC1_2 := Aside0.mk hc1_2
 clear hr1_2 hc1_2
 have HB := Aside0.mk (Below.refl w.heap.size w)
 have H : ((strings_Compare.f a0_0 a1_0).bind fun t428 => (if t428 = 0 then ((strings_Compare.f a0_1 a1_1).bind fun t429 => (some t429)) else (some t428))) = some r := h
 clear h
 replace H := Option.bind_eq_some_iff.mp H
 obtain ⟨t428, A30, H⟩ := H
 replace H : (if t428 = 0 then ((strings_Compare.f a0_1 a1_1).bind fun t429 => (some t429)) else (some t428)) = some r := H
 have A3 := Aside0.mk A30
 clear A30
 by_cases c4 : t428 = 0
 ·rw [if_pos c4] at H
  have c4b0 : (t428 == 0) = true := beq_iff_eq.mpr c4
  have c4b1 : (t428 != 0) = false := bne_eq_false_iff_eq.mpr c4
  clear c4
  replace H := Option.bind_eq_some_iff.mp H
  obtain ⟨t429, A50, H⟩ := H
  replace H : (some t429) = some r := H
  have A5 := Aside0.mk A50
  clear A50
  obtain rfl := Option.some.inj H
  go_enter Tryd.func76, Tryd.ntmps76
  go_wp2_with (first | ((with_reducible refine gate_dst (N := 2) rfl ?_); refine box_event ?hg (N := 2) ?hd (cs := #[.string a0_0, .string a0_1, .slice A0_2 l0_2.length c0_2]) (t := 62) ?hr ?_; (case hd => rfl); (case hg => rfl); (case hr => first | (go_simp; done) | (go_simp; rfl)); intro gb426 hg w6 hbox hb; have n0_ := Aside0.mk (below_step (stB HB.out) hb); have n1_ := Aside0.mk (hbox); have n2_ := Aside0.mk ((by rw [hg]; exact (below_size (stB HB.out)) : w.heap.size ≤ gb426)); have n3_ := Aside0.mk ((by rw [hg]; exact (below_size (stB HB.out)) : w.heap.size ≤ gb426)); clear HB; have HB := n0_; have BK426 := n1_; have GW426 := n2_; have GE426 := n3_; clear n0_ n1_ n2_ n3_; clear hb hbox hg) | ((with_reducible refine gate_dst (N := 3) rfl ?_); refine box_event ?hg (N := 3) ?hd (cs := #[.string a1_0, .string a1_1, .slice A1_2 l1_2.length c1_2]) (t := 62) ?hr ?_; (case hd => rfl); (case hg => rfl); (case hr => first | (go_simp; done) | (go_simp; rfl)); intro gb427 hg w7 hbox hb; have n0_ := Aside0.mk (blk_below (g := gb426) (o := .cells #[.string a0_0, .string a0_1, .slice A0_2 l0_2.length c0_2] 62 (0, 0)) (by (with_reducible repeat (first | refine blk_drewN ?_ _ | refine blk_drew ?_ | refine blk_alloc ?_ _)); exact BK426.out) hb); have n1_ := Aside0.mk (below_step (by repeat (first | (with_reducible first | exact HB.out | apply below_alloc | apply pw_below_drewN | apply below_drew1 | refine below_set ?_ GE426.out) | exact HB.out)) hb); have n2_ := Aside0.mk (hbox); have n3_ := Aside0.mk ((by rw [hg]; exact (below_size (by repeat (first | (with_reducible first | exact HB.out | apply below_alloc | apply pw_below_drewN | apply below_drew1 | refine below_set ?_ GE426.out) | exact HB.out))) : w.heap.size ≤ gb427)); have n4_ := Aside0.mk ((by rw [hg]; exact (below_size (by repeat (first | (with_reducible first | exact HB.out | apply below_alloc | apply pw_below_drewN | apply below_drew1 | refine below_set ?_ GE426.out) | exact HB.out))) : w.heap.size ≤ gb427)); have n5_ := Aside0.mk ((by rw [hg]; exact Nat.ne_of_lt (blk_lt (g := gb426) (o := .cells #[.string a0_0, .string a0_1, .slice A0_2 l0_2.length c0_2] 62 (0, 0)) (by (with_reducible repeat (first | refine blk_drewN ?_ _ | refine blk_drew ?_ | refine blk_alloc ?_ _)); exact BK426.out)) : gb426 ≠ gb427)); have n6_ := Aside0.mk ((by rw [hg]; exact Nat.ne_of_gt (blk_lt (g := gb426) (o := .cells #[.string a0_0, .string a0_1, .slice A0_2 l0_2.length c0_2] 62 (0, 0)) (by (with_reducible repeat (first | refine blk_drewN ?_ _ | refine blk_drew ?_ | refine blk_alloc ?_ _)); exact BK426.out)) : gb427 ≠ gb426)); clear BK426; clear HB; have BK426 := n0_; have HB := n1_; have BK427 := n2_; have GW427 := n3_; have GE427 := n4_; have NB426_427 := n5_; have NB427_426 := n6_; clear n0_ n1_ n2_ n3_ n4_ n5_ n6_; clear hb hbox hg; have hnb8 := NB426_427.out; have hnc8 := NB427_426.out; have hcz9_0 : w7.cell? ⟨gb426, 0, none⟩ = some (.string a0_0) := (blk_cell BK426.out 0).trans rfl; have hcz9_1 : w7.cell? ⟨gb426, 1, none⟩ = some (.string a0_1) := (blk_cell BK426.out 1).trans rfl; have hcz9_2 : w7.cell? ⟨gb426, 2, none⟩ = some (.slice A0_2 l0_2.length c0_2) := (blk_cell BK426.out 2).trans rfl; have hfz9_0 := blk_frozen BK426.out 0; have hfz9_1 := blk_frozen BK426.out 1; have hfz9_2 := blk_frozen BK426.out 2; have hcz10_0 : w7.cell? ⟨gb427, 0, none⟩ = some (.string a1_0) := (blk_cell BK427.out 0).trans rfl; have hcz10_1 : w7.cell? ⟨gb427, 1, none⟩ = some (.string a1_1) := (blk_cell BK427.out 1).trans rfl; have hcz10_2 : w7.cell? ⟨gb427, 2, none⟩ = some (.slice A1_2 l1_2.length c1_2) := (blk_cell BK427.out 2).trans rfl; have hfz10_0 := blk_frozen BK427.out 0; have hfz10_1 := blk_frozen BK427.out 1; have hfz10_2 := blk_frozen BK427.out 2) | ((with_reducible refine gate_callee (f := 117) rfl ?_); refine goesL_ (some 10) rfl rfl Tryd.func117 (by kernel_rfl) rfl #[.string a0_0, .string a1_0] rfl (by (try simp only [List.map_toArray, List.map_cons, List.map_nil]); first | done | rfl | (simp only [List.length_drop, List.length_take]; rfl)) ?_; (with_reducible refine (strings_Compare.calls a0_0 a1_0 t428 _ A3.out).mono ?_); rintro e w11 ⟨rfl, hb⟩; refine ⟨_, rfl, ?_⟩; have n0_ := Aside0.mk (blk_below (g := gb426) (o := .cells #[.string a0_0, .string a0_1, .slice A0_2 l0_2.length c0_2] 62 (0, 0)) (by (with_reducible repeat (first | refine blk_drewN ?_ _ | refine blk_drew ?_ | refine blk_alloc ?_ _)); exact BK426.out) hb); have n1_ := Aside0.mk (blk_below (g := gb427) (o := .cells #[.string a1_0, .string a1_1, .slice A1_2 l1_2.length c1_2] 62 (0, 0)) (by (with_reducible repeat (first | refine blk_drewN ?_ _ | refine blk_drew ?_ | refine blk_alloc ?_ _)); exact BK427.out) hb); have n2_ := Aside0.mk (below_step (by repeat (first | (with_reducible first | exact HB.out | apply below_alloc | apply pw_below_drewN | apply below_drew1 | refine below_set ?_ GE426.out | refine below_set ?_ GE427.out) | exact HB.out)) hb); clear BK426; clear BK427; clear HB; have BK426 := n0_; have BK427 := n1_; have HB := n2_; clear n0_ n1_ n2_; (try clear hb); (try clear hb2); (try clear hk); (try clear hi); have hcz12_0 : w11.cell? ⟨gb426, 0, none⟩ = some (.string a0_0) := (blk_cell BK426.out 0).trans rfl; have hcz12_1 : w11.cell? ⟨gb426, 1, none⟩ = some (.string a0_1) := (blk_cell BK426.out 1).trans rfl; have hcz12_2 : w11.cell? ⟨gb426, 2, none⟩ = some (.slice A0_2 l0_2.length c0_2) := (blk_cell BK426.out 2).trans rfl; have hfz12_0 := blk_frozen BK426.out 0; have hfz12_1 := blk_frozen BK426.out 1; have hfz12_2 := blk_frozen BK426.out 2; have hcz13_0 : w11.cell? ⟨gb427, 0, none⟩ = some (.string a1_0) := (blk_cell BK427.out 0).trans rfl; have hcz13_1 : w11.cell? ⟨gb427, 1, none⟩ = some (.string a1_1) := (blk_cell BK427.out 1).trans rfl; have hcz13_2 : w11.cell? ⟨gb427, 2, none⟩ = some (.slice A1_2 l1_2.length c1_2) := (blk_cell BK427.out 2).trans rfl; have hfz13_0 := blk_frozen BK427.out 0; have hfz13_1 := blk_frozen BK427.out 1; have hfz13_2 := blk_frozen BK427.out 2) | ((with_reducible refine gate_callee (f := 117) rfl ?_); refine goesL_ (some 18) rfl rfl Tryd.func117 (by kernel_rfl) rfl #[.string a0_1, .string a1_1] rfl (by (try simp only [List.map_toArray, List.map_cons, List.map_nil]); first | done | rfl | (simp only [List.length_drop, List.length_take]; rfl)) ?_; (with_reducible refine (strings_Compare.calls a0_1 a1_1 t429 _ A5.out).mono ?_); rintro e w14 ⟨rfl, hb⟩; refine ⟨_, rfl, ?_⟩; have n0_ := Aside0.mk (blk_below (g := gb426) (o := .cells #[.string a0_0, .string a0_1, .slice A0_2 l0_2.length c0_2] 62 (0, 0)) (by (with_reducible repeat (first | refine blk_drewN ?_ _ | refine blk_drew ?_ | refine blk_alloc ?_ _)); exact BK426.out) hb); have n1_ := Aside0.mk (blk_below (g := gb427) (o := .cells #[.string a1_0, .string a1_1, .slice A1_2 l1_2.length c1_2] 62 (0, 0)) (by (with_reducible repeat (first | refine blk_drewN ?_ _ | refine blk_drew ?_ | refine blk_alloc ?_ _)); exact BK427.out) hb); have n2_ := Aside0.mk (below_step (by repeat (first | (with_reducible first | exact HB.out | apply below_alloc | apply pw_below_drewN | apply below_drew1 | refine below_set ?_ GE426.out | refine below_set ?_ GE427.out) | exact HB.out)) hb); clear BK426; clear BK427; clear HB; have BK426 := n0_; have BK427 := n1_; have HB := n2_; clear n0_ n1_ n2_; (try clear hb); (try clear hb2); (try clear hk); (try clear hi)))
  go_ret
  exact ⟨by first | rfl | (simp [errW_none, errW_some] <;> rfl) | (simp [*, errW_none, errW_some] <;> rfl), by repeat (first | (with_reducible first | exact HB.out | apply below_alloc | apply pw_below_drewN | apply below_drew1 | refine below_set ?_ GE426.out | refine below_set ?_ GE427.out) | exact HB.out)⟩
 ·rw [if_neg c4] at H
  have c4b0 : (t428 == 0) = false := beq_eq_false_iff_ne.mpr c4
  have c4b1 : (t428 != 0) = true := bne_iff_ne.mpr c4
  obtain rfl := Option.some.inj H
  go_enter Tryd.func76, Tryd.ntmps76
  go_wp2_with (first | ((with_reducible refine gate_dst (N := 2) rfl ?_); refine box_event ?hg (N := 2) ?hd (cs := #[.string a0_0, .string a0_1, .slice A0_2 l0_2.length c0_2]) (t := 62) ?hr ?_; (case hd => rfl); (case hg => rfl); (case hr => first | (go_simp; done) | (go_simp; rfl)); intro gb426 hg w15 hbox hb; have n0_ := Aside0.mk (below_step (stB HB.out) hb); have n1_ := Aside0.mk (hbox); have n2_ := Aside0.mk ((by rw [hg]; exact (below_size (stB HB.out)) : w.heap.size ≤ gb426)); have n3_ := Aside0.mk ((by rw [hg]; exact (below_size (stB HB.out)) : w.heap.size ≤ gb426)); clear HB; have HB := n0_; have BK426 := n1_; have GW426 := n2_; have GE426 := n3_; clear n0_ n1_ n2_ n3_; clear hb hbox hg) | ((with_reducible refine gate_dst (N := 3) rfl ?_); refine box_event ?hg (N := 3) ?hd (cs := #[.string a1_0, .string a1_1, .slice A1_2 l1_2.length c1_2]) (t := 62) ?hr ?_; (case hd => rfl); (case hg => rfl); (case hr => first | (go_simp; done) | (go_simp; rfl)); intro gb427 hg w16 hbox hb; have n0_ := Aside0.mk (blk_below (g := gb426) (o := .cells #[.string a0_0, .string a0_1, .slice A0_2 l0_2.length c0_2] 62 (0, 0)) (by (with_reducible repeat (first | refine blk_drewN ?_ _ | refine blk_drew ?_ | refine blk_alloc ?_ _)); exact BK426.out) hb); have n1_ := Aside0.mk (below_step (by repeat (first | (with_reducible first | exact HB.out | apply below_alloc | apply pw_below_drewN | apply below_drew1 | refine below_set ?_ GE426.out) | exact HB.out)) hb); have n2_ := Aside0.mk (hbox); have n3_ := Aside0.mk ((by rw [hg]; exact (below_size (by repeat (first | (with_reducible first | exact HB.out | apply below_alloc | apply pw_below_drewN | apply below_drew1 | refine below_set ?_ GE426.out) | exact HB.out))) : w.heap.size ≤ gb427)); have n4_ := Aside0.mk ((by rw [hg]; exact (below_size (by repeat (first | (with_reducible first | exact HB.out | apply below_alloc | apply pw_below_drewN | apply below_drew1 | refine below_set ?_ GE426.out) | exact HB.out))) : w.heap.size ≤ gb427)); have n5_ := Aside0.mk ((by rw [hg]; exact Nat.ne_of_lt (blk_lt (g := gb426) (o := .cells #[.string a0_0, .string a0_1, .slice A0_2 l0_2.length c0_2] 62 (0, 0)) (by (with_reducible repeat (first | refine blk_drewN ?_ _ | refine blk_drew ?_ | refine blk_alloc ?_ _)); exact BK426.out)) : gb426 ≠ gb427)); have n6_ := Aside0.mk ((by rw [hg]; exact Nat.ne_of_gt (blk_lt (g := gb426) (o := .cells #[.string a0_0, .string a0_1, .slice A0_2 l0_2.length c0_2] 62 (0, 0)) (by (with_reducible repeat (first | refine blk_drewN ?_ _ | refine blk_drew ?_ | refine blk_alloc ?_ _)); exact BK426.out)) : gb427 ≠ gb426)); clear BK426; clear HB; have BK426 := n0_; have HB := n1_; have BK427 := n2_; have GW427 := n3_; have GE427 := n4_; have NB426_427 := n5_; have NB427_426 := n6_; clear n0_ n1_ n2_ n3_ n4_ n5_ n6_; clear hb hbox hg; have hnb17 := NB426_427.out; have hnc17 := NB427_426.out; have hcz18_0 : w16.cell? ⟨gb426, 0, none⟩ = some (.string a0_0) := (blk_cell BK426.out 0).trans rfl; have hcz18_1 : w16.cell? ⟨gb426, 1, none⟩ = some (.string a0_1) := (blk_cell BK426.out 1).trans rfl; have hcz18_2 : w16.cell? ⟨gb426, 2, none⟩ = some (.slice A0_2 l0_2.length c0_2) := (blk_cell BK426.out 2).trans rfl; have hfz18_0 := blk_frozen BK426.out 0; have hfz18_1 := blk_frozen BK426.out 1; have hfz18_2 := blk_frozen BK426.out 2; have hcz19_0 : w16.cell? ⟨gb427, 0, none⟩ = some (.string a1_0) := (blk_cell BK427.out 0).trans rfl; have hcz19_1 : w16.cell? ⟨gb427, 1, none⟩ = some (.string a1_1) := (blk_cell BK427.out 1).trans rfl; have hcz19_2 : w16.cell? ⟨gb427, 2, none⟩ = some (.slice A1_2 l1_2.length c1_2) := (blk_cell BK427.out 2).trans rfl; have hfz19_0 := blk_frozen BK427.out 0; have hfz19_1 := blk_frozen BK427.out 1; have hfz19_2 := blk_frozen BK427.out 2) | ((with_reducible refine gate_callee (f := 117) rfl ?_); refine goesL_ (some 10) rfl rfl Tryd.func117 (by kernel_rfl) rfl #[.string a0_0, .string a1_0] rfl (by (try simp only [List.map_toArray, List.map_cons, List.map_nil]); first | done | rfl | (simp only [List.length_drop, List.length_take]; rfl)) ?_; (with_reducible refine (strings_Compare.calls a0_0 a1_0 t428 _ A3.out).mono ?_); rintro e w20 ⟨rfl, hb⟩; refine ⟨_, rfl, ?_⟩; have n0_ := Aside0.mk (blk_below (g := gb426) (o := .cells #[.string a0_0, .string a0_1, .slice A0_2 l0_2.length c0_2] 62 (0, 0)) (by (with_reducible repeat (first | refine blk_drewN ?_ _ | refine blk_drew ?_ | refine blk_alloc ?_ _)); exact BK426.out) hb); have n1_ := Aside0.mk (blk_below (g := gb427) (o := .cells #[.string a1_0, .string a1_1, .slice A1_2 l1_2.length c1_2] 62 (0, 0)) (by (with_reducible repeat (first | refine blk_drewN ?_ _ | refine blk_drew ?_ | refine blk_alloc ?_ _)); exact BK427.out) hb); have n2_ := Aside0.mk (below_step (by repeat (first | (with_reducible first | exact HB.out | apply below_alloc | apply pw_below_drewN | apply below_drew1 | refine below_set ?_ GE426.out | refine below_set ?_ GE427.out) | exact HB.out)) hb); clear BK426; clear BK427; clear HB; have BK426 := n0_; have BK427 := n1_; have HB := n2_; clear n0_ n1_ n2_; (try clear hb); (try clear hb2); (try clear hk); (try clear hi)))
  go_ret
  exact ⟨by first | rfl | (simp [errW_none, errW_some] <;> rfl) | (simp [*, errW_none, errW_some] <;> rfl), by repeat (first | (with_reducible first | exact HB.out | apply below_alloc | apply pw_below_drewN | apply below_drew1 | refine below_set ?_ GE426.out | refine below_set ?_ GE427.out) | exact HB.out)⟩
end Go.Proofs.YtmcdnpooclelgaaDoor.PAll
namespace Go.Proofs.YtmcdnpooclelgaaDoor.PAll
open Go.RowKit Go.Proofs.YtmcdnpooclelgaaDoorW.PrintWords
theorem rdLine {ls : List S83} {i : Nat} (h : i < ls.length) : rd_T83 ls (i : Int) = ls[i] := by unfold rd_T83; rw [List.getD_eq_getElem?_getD, Int.toNat_natCast, List.getElem?_eq_getElem h]; rfl
theorem ev_l3LinesOk (kind : ByteArray) (ls : List S83) (hf : fitB ls) : Ev (fun _ => spec_l3LinesOk.f kind ls) (linesOkL kind ls) := by
 have e : spec_l3LinesOk.f kind ls = some (linesOkL kind ls) := if_pos hf
 rw [e]
 exact Ev.now _
def fitBB (bs : List S62) : Prop := ∀ b ∈ bs, b.f0.size ≤ 1099511627776 ∧ b.f1.size ≤ 1099511627776 ∧ fitB b.f2
def aheadL (a b : S62) : Bool := if ltB a.f0 b.f0 = true then true else if a.f0 = b.f0 then ltB a.f1 b.f1 else false
theorem rdBlock {ls : List S62} {i : Nat} (h : i < ls.length) : rd_T62 ls (i : Int) = ls[i] := by unfold rd_T62; rw [List.getD_eq_getElem?_getD, Int.toNat_natCast, List.getElem?_eq_getElem h]; rfl
theorem toList_data (a : ByteArray) : a.toList = a.data.toList := by
 rw [ByteArray.toList_eq]
theorem cmpBytes_zero : ∀ (x y : List UInt8), Lib.compareBytes x y = 0 ↔ x = y
 | [], [] => by simp [Lib.compareBytes]
 | [], _ :: _ => by simp [Lib.compareBytes]
 | _ :: _, [] => by simp [Lib.compareBytes]
 | a :: xs, b :: ys => by
  rw [Lib.compareBytes]
  by_cases h1 : a < b
  ·rw [if_pos h1]
   refine ⟨fun h => by omega, fun h => ?_⟩
   injection h with h _
   subst h
   exact absurd h1 (UInt8.lt_irrefl _)
  ·rw [if_neg h1]
   by_cases h2 : b < a
   ·rw [if_pos h2]
    refine ⟨fun h => by omega, fun h => ?_⟩
    injection h with h _
    subst h
    exact absurd h2 (UInt8.lt_irrefl _)
   ·rw [if_neg h2, cmpBytes_zero xs ys]
    have e : a = b := UInt8.le_antisymm (UInt8.not_lt.1 h2) (UInt8.not_lt.1 h1)
    subst e
    simp
theorem cmpBytes_lt : ∀ (x y : List UInt8), Lib.compareBytes x y < 0 ↔ Op.bytesLess x y = true
 | [], [] => by simp [Lib.compareBytes, Op.bytesLess]
 | [], _ :: _ => by simp [Lib.compareBytes, Op.bytesLess]
 | _ :: _, [] => by simp [Lib.compareBytes, Op.bytesLess]
 | a :: xs, b :: ys => by
  rw [Lib.compareBytes, Op.bytesLess]
  by_cases h1 : a < b
  ·simp [h1]
  ·by_cases h2 : b < a
   ·simp [h1, h2]
    intro e
    subst e
    exact absurd h2 (UInt8.lt_irrefl _)
   ·have e : a = b := UInt8.le_antisymm (UInt8.not_lt.1 h2) (UInt8.not_lt.1 h1)
    subst e
    simp [h1, cmpBytes_lt xs ys]
def cmpBl (a b : S62) : Int := if Lib.compareBytes a.f0.data.toList b.f0.data.toList = 0 then Lib.compareBytes a.f1.data.toList b.f1.data.toList else Lib.compareBytes a.f0.data.toList b.f0.data.toList
theorem compare_f (a b : S62) : impl_compare.f a.f0 a.f1 a.f2 b.f0 b.f1 b.f2 = some (cmpBl a b) := by
 unfold impl_compare.f strings_Compare.f cmpBl
 simp only [Option.bind_some]
 split <;> rfl
theorem data_iff {a b : ByteArray} : a.data.toList = b.data.toList ↔ a = b := by rw [← toList_data, ← toList_data]; exact toList_iff
theorem cmpBl_lt (a b : S62) : decide (cmpBl a b ≥ 0) = !aheadL a b := by
 unfold cmpBl aheadL ltB
 have h1 := cmpBytes_lt a.f0.data.toList b.f0.data.toList
 have h2 := cmpBytes_lt a.f1.data.toList b.f1.data.toList
 simp only [toList_data, cmpBytes_zero, data_iff]
 by_cases q : a.f0 = b.f0
 ·rw [if_pos q, if_pos q, q, bytesLess_self, if_neg (by decide)]
  rw [Bool.eq_iff_iff]
  simp only [decide_eq_true_eq, Bool.not_eq_true', ← Bool.not_eq_true, ← h2]
  omega
 ·rw [if_neg q, if_neg q, Bool.eq_iff_iff]
  simp only [decide_eq_true_eq, Bool.not_eq_true', ← Bool.not_eq_true]
  by_cases r : Op.bytesLess a.f0.data.toList b.f0.data.toList = true
  ·simp only [if_pos r]
   have := h1.2 r
   simp
   omega
  ·simp only [if_neg r]
   simp
   have := mt h1.1 r
   omega
theorem ahead_f (a b : S62) : spec_l3Ahead.f a.f0 a.f1 a.f2 b.f0 b.f1 b.f2 = some (aheadL a b) := by
 unfold spec_l3Ahead.f aheadL ltB
 simp only [toList_iff]
 split
 ·rfl
 ·split <;> rfl
def prevOk : Option S62 → S62 → Bool
 | none, _ => true
 | some a, b => aheadL a b
def blocksOk : Option S62 → List S62 → Bool
 | _, [] => true
 | p, b :: ys => blockOkL b.f0 b.f1 b.f2 && (prevOk p b && blocksOk (some b) ys)
def sheetOk (ys : List S62) : Bool := decide (ys.length ≤ 60) && blocksOk none ys
def prevAt (ys : List S62) (i : Nat) : Option S62 := if i = 0 then none else ys[i - 1]?
theorem prevAt_succ (ys : List S62) (i : Nat) (h : i < ys.length) : prevAt ys (i + 1) = some ys[i] := by
 unfold prevAt
 rw [if_neg (by omega), Nat.add_sub_cancel, List.getElem?_eq_getElem h]
theorem block_in {w : World} {A : Option Addr} {n : Nat} {ls : List S62} (h : Kd.C k62 w A n ls) (j : Nat) (l : S62) (hj : ls[j]? = some l) : ∃ ad A1 c1, A = some ad ∧ w.cell? (ad.add (j * 3)) = some (.string l.f0) ∧ w.cell? ⟨(ad.add (j * 3)).block, (ad.add (j * 3)).off + 1, none⟩ = some (.string l.f1) ∧ w.cell? ⟨(ad.add (j * 3)).block, (ad.add (j * 3)).off + 2, none⟩ = some (.slice A1 l.f2.length c1) ∧ l.f2.length ≤ c1 ∧ Kd.C k83 w A1 l.f2.length l.f2 := by
 have hjl := (List.getElem?_eq_some_iff.1 hj).1
 have hn : n = ls.length := h.1.symm
 obtain ⟨ad, A1, c1, e, h0, h1, h2, h3, h4⟩ := at_T62 h (j : Int) (by omega) (by omega)
 have hrd : rd_T62 ls (j : Int) = l := by unfold rd_T62; rw [List.getD_eq_getElem?_getD, Int.toNat_natCast, hj]; rfl
 rw [hrd] at h0 h1 h2 h3 h4
 rw [Int.toNat_natCast] at h0 h1 h2
 exact ⟨ad, A1, c1, e, h0, h1, h2, h3, h4⟩
set_option maxRecDepth 100000 in
set_option maxHeartbeats 8000000 in
theorem implValid_any (A : Option Addr) (c : Nat) (bs : List S62) (w : World) (hr : Kd.C k62 w A bs.length bs) (hf : fitBB bs) :
  Calls Tryd.prog 29 #[.agg #[.slice A bs.length c]] w fun e w' => e = .returned (.bool (sheetOk bs)) ∧ Below w.heap.size w w' := by
 have HR := Aside0.mk hr
 have HF := Aside0.mk hf
 have hmax := Kd.C_max hr
 clear hr hf
 have b1 := Aside0.mk (blk_new w (.cells #[.slice A bs.length c] 47))
 have a1 : Below w.heap.size w (w.alloc (.cells #[.slice A bs.length c] 47)) := (Below.refl _ _).alloc (Nat.le_refl _) _
 by_cases q60 : bs.length ≤ 60
 ·have i60 : ¬ ((bs.length : Int) > 60) := by omega
  have HSO : Aside0 (sheetOk bs = blocksOk none bs) := ⟨by unfold sheetOk; rw [decide_eq_true q60, Bool.true_and]⟩
  go_enter Tryd.func29, Tryd.ntmps29
  go_wp2
  go_loopw [12] (fun v wr => ∃ k : Nat, v = .int .i64 k ∧ k ≤ bs.length ∧ Aside0 (Below w.heap.size w wr) ∧ Aside0 (wr.heap[w.heap.size]? = some (.cells #[.slice A bs.length c] 47 (0, 0))) ∧ Aside0 (sheetOk bs = blocksOk (prevAt bs k) (bs.drop k))) (fun v _ => bs.length - (intOf v).toNat)
  case atStart => exact ⟨0, rfl, Nat.zero_le _, ⟨a1⟩, b1, HSO⟩
  case round =>
   obtain ⟨k, rfl, hk, HB, K1, hf⟩ := hrel
   clear a1 b1 HSO
   by_cases hlt : k < bs.length
   ·obtain ⟨ad, A1, c1, rfl, hx0, hx1, hx2, hl1, hC1⟩ := block_in (Kd.C_below HR.out HB.out) k bs[k] (List.getElem?_eq_getElem hlt)
    have hstep := hf.out
    rw [List.drop_eq_getElem_cons hlt, blocksOk] at hstep
    have hW := HF.out _ (List.getElem_mem hlt)
    have HNX := Aside0.mk (prevAt_succ bs k hlt)
    have HC1 := Aside0.mk hC1
    have L1 := Aside0.mk hl1
    have i1 : (k : Int) < (bs.length : Int) := by omega
    have xs := (blk_cell K1.out 0).trans rfl
    clear hf hC1 hl1
    generalize bs[k] = b at *
    obtain ⟨f0, f1, f2⟩ := b
    simp only at *
    go_upto_region 6 with (fail)
    have a6 : Below wr.heap.size wr (wr.alloc (.cells #[.string f0, .string f1, .slice A1 f2.length c1] 62)) := (Below.refl _ _).alloc (Nat.le_refl _) _
    have K6 := Aside0.mk (blk_new wr (.cells #[.string f0, .string f1, .slice A1 f2.length c1] 62))
    have y0 : (wr.alloc (.cells #[.string f0, .string f1, .slice A1 f2.length c1] 62)).cell? ⟨wr.heap.size, 0, none⟩ = some (.string f0) := (blk_cell K6.out 0).trans rfl
    have y1 : (wr.alloc (.cells #[.string f0, .string f1, .slice A1 f2.length c1] 62)).cell? ⟨wr.heap.size, 1, none⟩ = some (.string f1) := (blk_cell K6.out 1).trans rfl
    have y2 : (wr.alloc (.cells #[.string f0, .string f1, .slice A1 f2.length c1] 62)).cell? ⟨wr.heap.size, 2, none⟩ = some (.slice A1 f2.length c1) := (blk_cell K6.out 2).trans rfl
    have HB6 := Aside0.mk (HB.out.trans (a6.mono HB.out.size))
    have K16 := Aside0.mk (blk_below K1.out a6)
    have xs6 := pw_cell_below a6 xs
    have HC6 := Aside0.mk (Kd.C_below HC1.out a6)
    have HR6 := Aside0.mk (Kd.C_below HR.out HB6.out)
    clear hx0 hx1 hx2 xs K6 HB K1 HC1 a6
    generalize wr.alloc (.cells #[.string f0, .string f1, .slice A1 f2.length c1] 62) = W6 at *
    have q0 := fun p : BW W6 => p.cell y0
    have q1 := fun p : BW W6 => p.cell y1
    have q2 := fun p : BW W6 => p.cell y2
    have FC := fun p : BW W6 => blockOk_any f0 f1 A1 c1 f2 p.w' (Kd.C_below HC6.out p.h) hW.2.1 hW.2.2
    cases hok : blockOkL f0 f1 f2 with
    | false =>
     rw [hok] at FC
     have HF2 : Aside0 (sheetOk bs = false) := ⟨by rw [hstep, hok]; rfl⟩
     clear hok hstep
     refine wp_region_below (by kernel_rfl) (by kernel_rfl) ?_
     repeat ((with_reducible refine wpQuiet_step ?_); (with_reducible intro K hK); go_simp; first | ((with_reducible refine hK _ ?_); clear hK K) | ((with_reducible refine quiet_off (fun h => ?_) ?_); exact h; (with_reducible refine hK _ ?_); clear hK K) | (apply Exists.intro; refine ⟨fun _ => ?_, hK _ ?_⟩; (first | (go_at_call 75; exact BW.calls (FC _))); clear hK K))
     with_reducible refine wpQuiet_nil ?_
     intro wn hw'
     obtain ⟨⟨_, hBn⟩, rfl⟩ := hw'
     go_wp2
     go_ret
     exact ⟨retB HF2.out.symm, HB6.out.trans (hBn.mono HB6.out.size)⟩
    | true =>
     rw [hok] at FC hstep
     rw [Bool.true_and] at hstep
     clear hok
     by_cases hk0 : k = 0
     case' pos =>
      have hpv : prevOk (prevAt bs k) ⟨f0, f1, f2⟩ = true := by subst hk0; rfl
      rw [hpv, Bool.true_and] at hstep
      have HST := Aside0.mk hstep
      have ik : ¬ ((k : Int) > 0) := by omega
      have ik2 : ¬ (0 < k) := by omega
      clear hstep hpv hk0
      refine wp_region_below (by kernel_rfl) (by kernel_rfl) ?_
      repeat ((with_reducible refine wpQuiet_step ?_); (with_reducible intro K hK); go_simp; first | ((with_reducible refine hK _ ?_); clear hK K) | ((with_reducible refine quiet_off (fun h => ?_) ?_); exact h; (with_reducible refine hK _ ?_); clear hK K) | (apply Exists.intro; refine ⟨fun _ => ?_, hK _ ?_⟩; (first | (go_at_call 75; exact BW.calls (FC _))); clear hK K))
      with_reducible refine wpQuiet_nil ?_
      intro wn hw'
      obtain ⟨⟨_, hBn⟩, rfl⟩ := hw'
      clear ik ik2 q0 q1 q2 FC
     case' neg =>
      obtain ⟨j, hkj⟩ : ∃ j, k = j + 1 := ⟨k - 1, by omega⟩
      have hjl : j < bs.length := by omega
      obtain ⟨_, Ap, cp, hadp, hp0, hp1, hp2, hlp, hCp⟩ := block_in HR6.out j bs[j] (List.getElem?_eq_getElem hjl)
      injection hadp with hadp
      subst hadp
      have hpv : prevOk (prevAt bs k) ⟨f0, f1, f2⟩ = aheadL bs[j] ⟨f0, f1, f2⟩ := by rw [hkj, prevAt_succ bs j hjl]; rfl
      rw [hpv] at hstep
      generalize bs[j] = pb at *
      have OC := fun p : BW W6 => impl_compare.calls pb.f0 pb.f1 Ap cp pb.f2 f0 f1 A1 c1 f2 _ p.w' (Kd.C_below hCp p.h) hlp (Kd.C_below HC6.out p.h) L1.out (compare_f pb ⟨f0, f1, f2⟩)
      have hol := cmpBl_lt pb ⟨f0, f1, f2⟩
      generalize cmpBl pb ⟨f0, f1, f2⟩ = od at *
      have qs := fun p : BW W6 => p.cell xs6
      have qp0 := fun p : BW W6 => p.cell hp0
      have qp1 := fun p : BW W6 => p.cell hp1
      have qp2 := fun p : BW W6 => p.cell hp2
      have ij : (j : Int) < (bs.length : Int) := by omega
      have ew : IntKind.i64.wrap ((k : Int) - 1) = (j : Int) := by rw [IntKind.wrap_i64]; omega
      have ik : (k : Int) > 0 := by omega
      have ik2 : 0 < k := by omega
      clear hp0 hp1 hp2 hCp hlp hk0 hpv hkj hjl
      cases hlt2 : aheadL pb ⟨f0, f1, f2⟩
      case' false =>
       rw [hlt2] at hol
       have io : od ≥ 0 := of_decide_eq_true hol
       have HF2 : Aside0 (sheetOk bs = false) := ⟨by rw [hstep, hlt2]; rfl⟩
       clear hlt2 hstep hol
       refine wp_region_below (by kernel_rfl) (by kernel_rfl) ?_
       repeat ((with_reducible refine wpQuiet_step ?_); (with_reducible intro K hK); go_simp; first | ((with_reducible refine hK _ ?_); clear hK K) | ((with_reducible refine quiet_off (fun h => ?_) ?_); exact h; (with_reducible refine hK _ ?_); clear hK K) | (apply Exists.intro; refine ⟨fun _ => ?_, hK _ ?_⟩; (first | (go_at_call 75; exact BW.calls (FC _)) | (go_at_call 76; exact BW.calls (OC _))); clear hK K))
       with_reducible refine wpQuiet_nil ?_
       intro wn hw'
       obtain ⟨⟨_, hBn⟩, rfl⟩ := hw'
       go_wp2
       go_ret
       exact ⟨retB HF2.out.symm, HB6.out.trans (hBn.mono HB6.out.size)⟩
      case' true =>
       rw [hlt2] at hol
       have io : ¬ od ≥ 0 := of_decide_eq_false hol
       rw [hlt2, Bool.true_and] at hstep
       have HST := Aside0.mk hstep
       clear hlt2 hstep hol
       refine wp_region_below (by kernel_rfl) (by kernel_rfl) ?_
       repeat ((with_reducible refine wpQuiet_step ?_); (with_reducible intro K hK); go_simp; first | ((with_reducible refine hK _ ?_); clear hK K) | ((with_reducible refine quiet_off (fun h => ?_) ?_); exact h; (with_reducible refine hK _ ?_); clear hK K) | (apply Exists.intro; refine ⟨fun _ => ?_, hK _ ?_⟩; (first | (go_at_call 75; exact BW.calls (FC _)) | (go_at_call 76; exact BW.calls (OC _))); clear hK K))
       with_reducible refine wpQuiet_nil ?_
       intro wn hw'
       obtain ⟨⟨_, hBn⟩, rfl⟩ := hw'
       clear ik ik2 ew ij q0 q1 q2 FC OC qp0 qp1 qp2 qs io
     all_goals
      have HBn := Aside0.mk (HB6.out.trans (hBn.mono HB6.out.size))
      have K1n := Aside0.mk (blk_below K16.out hBn)
      have HSn : Aside0 (sheetOk bs = blocksOk (prevAt bs (k + 1)) (bs.drop (k + 1))) := ⟨by rw [HNX.out]; exact HST.out⟩
      clear hBn xs6 y0 y1 y2
      go_wp2
      go_roundw
      case rel => exact ⟨k + 1, by go_num, hlt, HBn, K1n, HSn⟩
      case measure => simp [intOf]; omega
   ·obtain rfl : k = bs.length := by omega
    have i1 : ¬ (bs.length : Int) < (bs.length : Int) := by omega
    have HF2 : Aside0 (sheetOk bs = true) := ⟨by rw [hf.out, List.drop_length]; rfl⟩
    go_wp2
    go_ret
    exact ⟨retB HF2.out.symm, HB.out⟩
 ·have i60 : (bs.length : Int) > 60 := by omega
  have HF2 : Aside0 (sheetOk bs = false) := ⟨by unfold sheetOk; rw [decide_eq_false q60]; rfl⟩
  go_enter Tryd.func29, Tryd.ntmps29
  go_wp2
  go_ret
  exact ⟨retB HF2.out.symm, a1⟩
instance (bs : List S62) : Decidable (fitBB bs) := by unfold fitBB; infer_instance
def impl_SheetValid.f (_ : Nat) (l0 : List S62) : Option Bool := if fitBB l0 then some (sheetOk l0) else none
theorem impl_SheetValid.calls (k : Nat) (A0_0 : Option Addr) (c0_0 : Nat) (l0_0 : List S62) (r : Bool) (w : World) (hr0_0 : Kd.C k62 w A0_0 l0_0.length l0_0) (_hc0_0 : l0_0.length ≤ c0_0) (h : impl_SheetValid.f k l0_0 = some r) :
  Calls Tryd.prog 29 #[.agg #[.slice A0_0 l0_0.length c0_0]] w fun e w' => e = .returned (.bool r) ∧ Below w.heap.size w w' := by
 unfold impl_SheetValid.f at h
 split at h
 ·rename_i hb
  injection h with h
  subst h
  exact implValid_any A0_0 c0_0 l0_0 w hr0_0 hb
 ·cases h
theorem ev_implValid (ys : List S62) (hf : fitBB ys) : Ev (fun k => impl_SheetValid.f k ys) (sheetOk ys) := by
 have e : ∀ k, impl_SheetValid.f k ys = some (sheetOk ys) := fun k => if_pos hf
 simp only [e]
 exact Ev.now _
theorem isEmpty_len {α : Type} (l : List α) : l.isEmpty = decide ((l.length : Int) = 0) := by
 cases l with
 | nil => rfl
 | cons a t => exact (decide_eq_false (by rw [List.length_cons]; omega)).symm
theorem specValid_l0 (ys : List S62) (hf : fitBB ys) (hn : ys.length ≤ 1000) : ∀ (d i : Nat), i + d = ys.length → Ev (fun k => spec_SheetValid.l0 k i ys) (blocksOk (prevAt ys i) (ys.drop i))
 | 0, i, h => Ev.unf (fun _ => some true) (fun k => by simp only [spec_SheetValid.l0]; rw [if_neg (by omega)]) (by rw [List.drop_eq_nil_of_le (by omega), blocksOk]; exact Ev.now _)
 | d + 1, i, h => by
  have hi : i < ys.length := by omega
  have ih := specValid_l0 ys hf hn d (i + 1) (by omega)
  have hb := hf _ (List.getElem_mem hi)
  rw [prevAt_succ ys i hi] at ih
  rw [List.drop_eq_getElem_cons hi, blocksOk]
  have jt : Ev (fun k => spec_SheetValid.j1 k i true ys) false := Ev.unf (fun _ => some false) (fun k => by simp only [spec_SheetValid.j1, if_true]) (Ev.now _)
  have jf : Ev (fun k => spec_SheetValid.j1 k i false ys) (blocksOk (some ys[i]) (ys.drop (i + 1))) := Ev.unf (fun k => spec_SheetValid.l0 k ((i + 1 : Nat) : Int) ys) (fun k => by simp only [spec_SheetValid.j1, Bool.false_eq_true, if_false]; rw [inc (by omega)]) ih
  unfold blockOkL
  rw [isEmpty_len]
  by_cases q0 : (((rulesL ys[i].f0).length : Int) = 0)
  ·rw [decide_eq_true q0]
   refine Ev.unf (fun k => spec_SheetValid.j1 k i true ys) (fun k => ?_) jt
   simp only [spec_SheetValid.l0]
   rw [if_pos (by omega), if_pos (by omega), rdBlock hi]
   simp only [spec_SheetRules.f, Option.bind_some, if_pos q0]
  ·rw [decide_eq_false q0]
   refine Ev.unf (fun k => (spec_l2NameOk.f k ys[i].f1).bind fun t372 => if t372 = true then (spec_l3LinesOk.f ys[i].f0 ys[i].f2).bind fun t373 => (if t373 = true then (if (i : Int) > 0 then (if 0 ≤ wrap64 ((i : Int) - 1) then (if wrap64 ((i : Int) - 1) < (ys.length : Int) then ((spec_l3Ahead.f (rd_T62 ys (wrap64 ((i : Int) - 1))).f0 (rd_T62 ys (wrap64 ((i : Int) - 1))).f1 (rd_T62 ys (wrap64 ((i : Int) - 1))).f2 ys[i].f0 ys[i].f1 ys[i].f2).bind fun t375 => spec_SheetValid.j1 k i (!t375) ys) else none) else none) else spec_SheetValid.j1 k i false ys) else spec_SheetValid.j1 k i true ys) else spec_SheetValid.j1 k i true ys) (fun k => ?_) ?_
   ·simp only [spec_SheetValid.l0]
    rw [if_pos (by omega), if_pos (by omega), rdBlock hi]
    simp only [spec_SheetRules.f, Option.bind_some, if_neg q0]
   ·refine Ev.bind (ev_l2NameOk ys[i].f1) ?_
    cases nameOk ys[i].f1 with
    | false => exact jt
    | true =>
     simp only [if_true]
     refine Ev.bind (ev_l3LinesOk ys[i].f0 ys[i].f2 hb.2.2) ?_
     cases linesOkL ys[i].f0 ys[i].f2 with
     | false => exact jt
     | true =>
      simp only [if_true]
      by_cases hz : i = 0
      ·subst hz
       simp only [if_neg (show ¬ (((0 : Nat) : Int) > 0) by omega)]
       exact jf
      ·obtain ⟨j, rfl⟩ : ∃ j, i = j + 1 := ⟨i - 1, by omega⟩
       have hj : j < ys.length := by omega
       have ew : wrap64 (((j + 1 : Nat) : Int) - 1) = (j : Int) := by rw [w64 (by omega) (by omega)]; omega
       rw [prevAt_succ ys j hj, prevOk]
       simp only [ew, rdBlock hj, ahead_f, Option.bind_some, if_pos (show ((j + 1 : Nat) : Int) > 0 by omega), if_pos (show (0 : Int) ≤ (j : Int) by omega), if_pos (show (j : Int) < (ys.length : Int) by omega)]
       cases aheadL ys[j] ys[j + 1]
       ·exact jt
       ·exact jf
theorem ev_specValid (ys : List S62) (hf : fitBB ys) : Ev (fun k => spec_SheetValid.f k ys) (sheetOk ys) := by
 unfold spec_SheetValid.f sheetOk
 by_cases q : (ys.length : Int) > 60
 ·simp only [if_pos q]; rw [decide_eq_false (by omega)]; exact Ev.now _
 ·simp only [if_neg q]; rw [decide_eq_true (by omega), Bool.true_and]
  exact specValid_l0 ys hf (by omega) ys.length 0 (by omega)
end Go.Proofs.YtmcdnpooclelgaaDoor.PAll
namespace Go.Proofs.YtmcdnpooclelgaaDoor.PAll
open Go.RowKit Go.Proofs.YtmcdnpooclelgaaDoorW.PrintWords Go.Proofs.YtmcdnpooclelgaaDoorW.PrintLast Go.Proofs.YtmcdnpooclelgaaDoorW.PrintMore
attribute [local go_sem] max2_int min2_int max_two min_two max_three min_three max_four min_four   -- for this text's walks alone
def laws_szSheetLine.f (k : Nat) (a0_0 : ByteArray) (l0_1 : List ByteArray) (a1 : Int) : Option (Int) := if (wrap64 (a1 - (a0_0.size : Int))) < 0 then (some (-1)) else ((laws_szStringS.f k l0_1 (wrap64 (a1 - (a0_0.size : Int)))).bind fun t368 => (if t368 < 0 then (some (-1)) else (some t368)))
set_option maxHeartbeats 8000000 in
set_option maxRecDepth 100000 in
theorem laws_szSheetLine.calls (k : Nat) (a0_0 : ByteArray) (A0_1 : Option Addr) (c0_1 : Nat) (l0_1 : List ByteArray) (a1 : Int) (r : Int) (w : World) (hr0_1 : Kd.C Kd.string w A0_1 l0_1.length l0_1) (hc0_1 : l0_1.length ≤ c0_1) (h : laws_szSheetLine.f k a0_0 l0_1 a1 = some r) :
  Calls Tryd.prog 151 #[.agg #[.string a0_0, .slice A0_1 l0_1.length c0_1], .int .i64 a1] w fun e w' => e = .returned (.int .i64 r) ∧ Below w.heap.size w w' := by
 have hu155 := Tryd.underlying155
 have HR0_1 := Aside0.mk hr0_1
 have HC0_1 := Aside0.mk hc0_1
 clear hr0_1 hc0_1
 have HB := Aside0.mk (Below.refl w.heap.size w)
 have H : (if (wrap64 (a1 - (a0_0.size : Int))) < 0 then (some (-1)) else ((laws_szStringS.f k l0_1 (wrap64 (a1 - (a0_0.size : Int)))).bind fun t368 => (if t368 < 0 then (some (-1)) else (some t368)))) = some r := h
 clear h
 by_cases c3 : (wrap64 (a1 - (a0_0.size : Int))) < 0
 ·rw [if_pos c3] at H
  have c3b0 : decide ((wrap64 (a1 - (a0_0.size : Int))) < 0) = true := decide_eq_true c3
  clear c3
  obtain rfl := Option.some.inj H
  go_enter Tryd.func151, Tryd.ntmps151
  go_wp2_with (first | ((with_reducible refine gate_dst (N := 2) rfl ?_); refine box_event ?hg (N := 2) ?hd (cs := #[.string a0_0, .slice A0_1 l0_1.length c0_1]) (t := 155) ?hr ?_; (case hd => rfl); (case hg => rfl); (case hr => first | (go_simp; done) | (go_simp; rfl)); intro gb367 hg w4 hbox hb; have n0_ := Aside0.mk (below_step (stB HB.out) hb); have n1_ := Aside0.mk (hbox); have n2_ := Aside0.mk ((by rw [hg]; exact (below_size (stB HB.out)) : w.heap.size ≤ gb367)); have n3_ := Aside0.mk ((by rw [hg]; exact (below_size (stB HB.out)) : w.heap.size ≤ gb367)); clear HB; have HB := n0_; have BK367 := n1_; have GW367 := n2_; have GE367 := n3_; clear n0_ n1_ n2_ n3_; clear hb hbox hg; have hcz5_0 : w4.cell? ⟨gb367, 0, none⟩ = some (.string a0_0) := (blk_cell BK367.out 0).trans rfl; have hcz5_1 : w4.cell? ⟨gb367, 1, none⟩ = some (.slice A0_1 l0_1.length c0_1) := (blk_cell BK367.out 1).trans rfl; have hfz5_0 := blk_frozen BK367.out 0; have hfz5_1 := blk_frozen BK367.out 1))
  go_ret
  exact ⟨by first | rfl | (simp [errW_none, errW_some] <;> rfl) | (simp [*, errW_none, errW_some] <;> rfl), by repeat (first | (with_reducible first | exact HB.out | apply below_alloc | apply pw_below_drewN | apply below_drew1 | refine below_set ?_ GE367.out) | exact HB.out)⟩
 ·rw [if_neg c3] at H
  have c3b0 : decide ((wrap64 (a1 - (a0_0.size : Int))) < 0) = false := decide_eq_false c3
  clear c3
  replace H := Option.bind_eq_some_iff.mp H
  obtain ⟨t368, A60, H⟩ := H
  replace H : (if t368 < 0 then (some (-1)) else (some t368)) = some r := H
  have A6 := Aside0.mk A60
  clear A60
  by_cases c7 : t368 < 0
  ·rw [if_pos c7] at H
   have c7b0 : decide (t368 < 0) = true := decide_eq_true c7
   clear c7
   obtain rfl := Option.some.inj H
   go_enter Tryd.func151, Tryd.ntmps151
   go_wp2_with (first | ((with_reducible refine gate_dst (N := 2) rfl ?_); refine box_event ?hg (N := 2) ?hd (cs := #[.string a0_0, .slice A0_1 l0_1.length c0_1]) (t := 155) ?hr ?_; (case hd => rfl); (case hg => rfl); (case hr => first | (go_simp; done) | (go_simp; rfl)); intro gb367 hg w8 hbox hb; have n0_ := Aside0.mk (below_step (stB HB.out) hb); have n1_ := Aside0.mk (hbox); have n2_ := Aside0.mk ((by rw [hg]; exact (below_size (stB HB.out)) : w.heap.size ≤ gb367)); have n3_ := Aside0.mk ((by rw [hg]; exact (below_size (stB HB.out)) : w.heap.size ≤ gb367)); clear HB; have HB := n0_; have BK367 := n1_; have GW367 := n2_; have GE367 := n3_; clear n0_ n1_ n2_ n3_; clear hb hbox hg; have hcz9_0 : w8.cell? ⟨gb367, 0, none⟩ = some (.string a0_0) := (blk_cell BK367.out 0).trans rfl; have hcz9_1 : w8.cell? ⟨gb367, 1, none⟩ = some (.slice A0_1 l0_1.length c0_1) := (blk_cell BK367.out 1).trans rfl; have hfz9_0 := blk_frozen BK367.out 0; have hfz9_1 := blk_frozen BK367.out 1) | ((with_reducible refine gate_callee (f := 18) rfl ?_); refine goesL_ (some 15) rfl rfl Tryd.func18 (by kernel_rfl) rfl #[.slice A0_1 l0_1.length c0_1, .int .i64 (wrap64 (a1 - (a0_0.size : Int)))] rfl (by (try simp only [List.map_toArray, List.map_cons, List.map_nil]); first | done | rfl | (simp only [List.length_drop, List.length_take]; rfl)) ?_; (with_reducible refine (laws_szStringS.calls k _ _ l0_1 (wrap64 (a1 - (a0_0.size : Int))) t368 _ ?side1 ?side2 A6.out).mono ?_); (case side1 => repeat (first | exact (Kd.C_below HR0_1.out HB.out) | (with_reducible refine Kd.C_alloc ?_ _) | (with_reducible refine Kd.C_drewN ?_ _) | (with_reducible refine Kd.C_drew ?_))); (case side2 => exact HC0_1.out); rintro e w' ⟨rfl, ⟨nd, rfl⟩⟩; refine ⟨_, rfl, ?_⟩))
   go_ret
   exact ⟨by first | rfl | (simp [errW_none, errW_some] <;> rfl) | (simp [*, errW_none, errW_some] <;> rfl), by repeat (first | (with_reducible first | exact HB.out | apply below_alloc | apply pw_below_drewN | apply below_drew1 | refine below_set ?_ GE367.out) | exact HB.out)⟩
  ·rw [if_neg c7] at H
   have c7b0 : decide (t368 < 0) = false := decide_eq_false c7
   clear c7
   obtain rfl := Option.some.inj H
   go_enter Tryd.func151, Tryd.ntmps151
   go_wp2_with (first | ((with_reducible refine gate_dst (N := 2) rfl ?_); refine box_event ?hg (N := 2) ?hd (cs := #[.string a0_0, .slice A0_1 l0_1.length c0_1]) (t := 155) ?hr ?_; (case hd => rfl); (case hg => rfl); (case hr => first | (go_simp; done) | (go_simp; rfl)); intro gb367 hg w10 hbox hb; have n0_ := Aside0.mk (below_step (stB HB.out) hb); have n1_ := Aside0.mk (hbox); have n2_ := Aside0.mk ((by rw [hg]; exact (below_size (stB HB.out)) : w.heap.size ≤ gb367)); have n3_ := Aside0.mk ((by rw [hg]; exact (below_size (stB HB.out)) : w.heap.size ≤ gb367)); clear HB; have HB := n0_; have BK367 := n1_; have GW367 := n2_; have GE367 := n3_; clear n0_ n1_ n2_ n3_; clear hb hbox hg; have hcz11_0 : w10.cell? ⟨gb367, 0, none⟩ = some (.string a0_0) := (blk_cell BK367.out 0).trans rfl; have hcz11_1 : w10.cell? ⟨gb367, 1, none⟩ = some (.slice A0_1 l0_1.length c0_1) := (blk_cell BK367.out 1).trans rfl; have hfz11_0 := blk_frozen BK367.out 0; have hfz11_1 := blk_frozen BK367.out 1) | ((with_reducible refine gate_callee (f := 18) rfl ?_); refine goesL_ (some 15) rfl rfl Tryd.func18 (by kernel_rfl) rfl #[.slice A0_1 l0_1.length c0_1, .int .i64 (wrap64 (a1 - (a0_0.size : Int)))] rfl (by (try simp only [List.map_toArray, List.map_cons, List.map_nil]); first | done | rfl | (simp only [List.length_drop, List.length_take]; rfl)) ?_; (with_reducible refine (laws_szStringS.calls k _ _ l0_1 (wrap64 (a1 - (a0_0.size : Int))) t368 _ ?side1 ?side2 A6.out).mono ?_); (case side1 => repeat (first | exact (Kd.C_below HR0_1.out HB.out) | (with_reducible refine Kd.C_alloc ?_ _) | (with_reducible refine Kd.C_drewN ?_ _) | (with_reducible refine Kd.C_drew ?_))); (case side2 => exact HC0_1.out); rintro e w' ⟨rfl, ⟨nd, rfl⟩⟩; refine ⟨_, rfl, ?_⟩))
   go_ret
   exact ⟨by first | rfl | (simp [errW_none, errW_some] <;> rfl) | (simp [*, errW_none, errW_some] <;> rfl), by repeat (first | (with_reducible first | exact HB.out | apply below_alloc | apply pw_below_drewN | apply below_drew1 | refine below_set ?_ GE367.out) | exact HB.out)⟩
def laws_szSheetLineS.l0 : Nat → List (S155) → Int → Int → Option (Int)
 | 0, _, _, _ => none
 | k + 1, x0, x1, x5 => if x5 < (x0.length : Int) then (if 0 ≤ x5 then ((laws_szSheetLine.f k ((rd_T155 x0 x5).f0) ((rd_T155 x0 x5).f1) x1).bind fun t370 => (if t370 < 0 then (some (-1)) else (laws_szSheetLineS.l0 k x0 t370 (wrap64 (x5 + 1))))) else (none)) else (some x1)
def laws_szSheetLineS.f (k : Nat) (l0 : List (S155)) (a1 : Int) : Option (Int) := if (wrap64 (a1 - (l0.length : Int))) < 0 then (some (-1)) else (laws_szSheetLineS.l0 k l0 (wrap64 (a1 - (l0.length : Int))) 0)
set_option maxHeartbeats 8000000 in
set_option maxRecDepth 100000 in
theorem laws_szSheetLineS.calls (k : Nat) (A0 : Option Addr) (c0 : Nat) (l0 : List (S155)) (a1 : Int) (r : Int) (w : World) (hr0 : Kd.C k155 w A0 l0.length l0) (hc0 : l0.length ≤ c0) (h : laws_szSheetLineS.f k l0 a1 = some r) :
  Calls Tryd.prog 137 #[.slice A0 l0.length c0, .int .i64 a1] w fun e w' => e = .returned (.int .i64 r) ∧ Below w.heap.size w w' := by
 have hu155 := Tryd.underlying155
 have HR0 := Aside0.mk hr0
 have HC0 := Aside0.mk hc0
 clear hr0 hc0
 have HB := Aside0.mk (Below.refl w.heap.size w)
 have H : (if (wrap64 (a1 - (l0.length : Int))) < 0 then (some (-1)) else (laws_szSheetLineS.l0 k l0 (wrap64 (a1 - (l0.length : Int))) 0)) = some r := h
 clear h
 by_cases c3 : (wrap64 (a1 - (l0.length : Int))) < 0
 ·rw [if_pos c3] at H
  have c3b0 : decide ((wrap64 (a1 - (l0.length : Int))) < 0) = true := decide_eq_true c3
  clear c3
  obtain rfl := Option.some.inj H
  go_enter Tryd.func137, Tryd.ntmps137
  go_wp2
  go_ret
  exact ⟨by first | rfl | (simp [errW_none, errW_some] <;> rfl) | (simp [*, errW_none, errW_some] <;> rfl), by repeat (first | (with_reducible first | exact HB.out | apply below_alloc | apply pw_below_drewN | apply below_drew1) | exact HB.out)⟩
 ·rw [if_neg c3] at H
  have c3b0 : decide ((wrap64 (a1 - (l0.length : Int))) < 0) = false := decide_eq_false c3
  clear c3
  have H' := Aside0.mk H
  clear H
  go_enter Tryd.func137, Tryd.ntmps137
  go_wp2
  go_loopg [1, 5] k (fun kq v1 v5 w' => ∃ (x1_1 : Int) (x5_1 : Int), v1 = .int .i64 x1_1 ∧ v5 = .int .i64 x5_1 ∧ Aside0 (laws_szSheetLineS.l0 kq l0 x1_1 x5_1 = some r) ∧ Aside0 (kq ≤ k) ∧ Aside0 (Below w.heap.size w w'))
  case atStart => exact ⟨(wrap64 (a1 - (l0.length : Int))), (0), (by first | rfl | (simp; done) | (simp [*]; done)), (by first | rfl | (simp; done) | (simp [*]; done)), H', ⟨Nat.le_refl _⟩, ⟨by repeat (first | (with_reducible first | exact HB.out | apply below_alloc | apply pw_below_drewN | apply below_drew1) | exact HB.out)⟩⟩
  case round =>
   clear H'
   try clear c1
   try clear p2
   try clear c3
   try clear c3b0
   obtain ⟨x1_1, x5_1, rfl, rfl, HA, HK1, HB⟩ := hrel
   cases gk with
   | zero => exact absurd HA.out (by simp [laws_szSheetLineS.l0])
   | succ k1 =>
    have H := HA.out
    clear HA
    simp only [laws_szSheetLineS.l0] at H
    by_cases c4 : x5_1 < (l0.length : Int)
    ·rw [if_pos c4] at H
     have c4b0 : decide (x5_1 < (l0.length : Int)) = true := decide_eq_true c4
     clear c4
     by_cases c5 : 0 ≤ x5_1
     ·rw [if_pos c5] at H
      have c5b0 : decide (0 ≤ x5_1) = true := decide_eq_true c5
      clear c5
      replace H := Option.bind_eq_some_iff.mp H
      obtain ⟨t370, A60, H⟩ := H
      replace H : (if t370 < 0 then (some (-1)) else (laws_szSheetLineS.l0 k1 l0 t370 (wrap64 (x5_1 + 1)))) = some r := H
      have A6 := Aside0.mk A60
      clear A60
      by_cases c7 : t370 < 0
      ·rw [if_pos c7] at H
       have c7b0 : decide (t370 < 0) = true := decide_eq_true c7
       clear c7
       obtain rfl := Option.some.inj H
       have p369 : 0 ≤ (x5_1 : Int) := of_decide_eq_true (by first | (with_reducible assumption) | assumption)
       have q369 : x5_1 < (l0.length : Int) := of_decide_eq_true (by first | (with_reducible assumption) | assumption)
       obtain ⟨ad369, A369_1, c369_1, e369, hx369_0, hx369_1, hl369_1, hi369_1⟩ := at_T155 HR0.out x5_1 p369 q369
       cases e369
       (try replace hx369_0 := (HB.out.cell (World.block_lt_of_cell? w _ hx369_0)).trans hx369_0)
       (try replace hx369_1 := (HB.out.cell (World.block_lt_of_cell? w _ hx369_1)).trans hx369_1)
       have HR369_1 := Aside0.mk hi369_1
       have HC369_1 := Aside0.mk hl369_1
       clear hi369_1 hl369_1
       replace p369 := eq_true p369
       replace q369 := eq_true q369
       go_wp2_with (first | ((with_reducible refine gate_callee (f := 151) rfl ?_); refine goesL_ (some 23) rfl rfl Tryd.func151 (by kernel_rfl) rfl #[.agg #[.string ((rd_T155 l0 x5_1).f0), .slice A369_1 ((rd_T155 l0 x5_1).f1).length c369_1], .int .i64 x1_1] rfl (by (try simp only [List.map_toArray, List.map_cons, List.map_nil]); first | done | rfl | (simp only [List.length_drop, List.length_take]; rfl)) ?_; (with_reducible refine (laws_szSheetLine.calls k1 ((rd_T155 l0 x5_1).f0) _ _ ((rd_T155 l0 x5_1).f1) x1_1 t370 _ ?side1 ?side2 A6.out).mono ?_); (case side1 => repeat (first | exact (Kd.C_below HR369_1.out HB.out) | (with_reducible refine Kd.C_alloc ?_ _) | (with_reducible refine Kd.C_drewN ?_ _) | (with_reducible refine Kd.C_drew ?_))); (case side2 => exact HC369_1.out); rintro e w8 ⟨rfl, hb⟩; refine ⟨_, rfl, ?_⟩; have n0_ := Aside0.mk (below_step (stB HB.out) hb); clear HB; have HB := n0_; clear n0_; (try clear hb); (try clear hb2); (try clear hk); (try clear hi)))
       go_ret
       exact ⟨by first | rfl | (simp [errW_none, errW_some] <;> rfl) | (simp [*, errW_none, errW_some] <;> rfl), by repeat (first | (with_reducible first | exact HB.out | apply below_alloc | apply pw_below_drewN | apply below_drew1) | exact HB.out)⟩
      ·rw [if_neg c7] at H
       have c7b0 : decide (t370 < 0) = false := decide_eq_false c7
       clear c7
       have H' := Aside0.mk H
       clear H
       have p369 : 0 ≤ (x5_1 : Int) := of_decide_eq_true (by first | (with_reducible assumption) | assumption)
       have q369 : x5_1 < (l0.length : Int) := of_decide_eq_true (by first | (with_reducible assumption) | assumption)
       obtain ⟨ad369, A369_1, c369_1, e369, hx369_0, hx369_1, hl369_1, hi369_1⟩ := at_T155 HR0.out x5_1 p369 q369
       cases e369
       (try replace hx369_0 := (HB.out.cell (World.block_lt_of_cell? w _ hx369_0)).trans hx369_0)
       (try replace hx369_1 := (HB.out.cell (World.block_lt_of_cell? w _ hx369_1)).trans hx369_1)
       have HR369_1 := Aside0.mk hi369_1
       have HC369_1 := Aside0.mk hl369_1
       clear hi369_1 hl369_1
       replace p369 := eq_true p369
       replace q369 := eq_true q369
       go_wp2_with (first | ((with_reducible refine gate_callee (f := 151) rfl ?_); refine goesL_ (some 23) rfl rfl Tryd.func151 (by kernel_rfl) rfl #[.agg #[.string ((rd_T155 l0 x5_1).f0), .slice A369_1 ((rd_T155 l0 x5_1).f1).length c369_1], .int .i64 x1_1] rfl (by (try simp only [List.map_toArray, List.map_cons, List.map_nil]); first | done | rfl | (simp only [List.length_drop, List.length_take]; rfl)) ?_; (with_reducible refine (laws_szSheetLine.calls k1 ((rd_T155 l0 x5_1).f0) _ _ ((rd_T155 l0 x5_1).f1) x1_1 t370 _ ?side1 ?side2 A6.out).mono ?_); (case side1 => repeat (first | exact (Kd.C_below HR369_1.out HB.out) | (with_reducible refine Kd.C_alloc ?_ _) | (with_reducible refine Kd.C_drewN ?_ _) | (with_reducible refine Kd.C_drew ?_))); (case side2 => exact HC369_1.out); rintro e w9 ⟨rfl, hb⟩; refine ⟨_, rfl, ?_⟩; have n0_ := Aside0.mk (below_step (stB HB.out) hb); clear HB; have HB := n0_; clear n0_; (try clear hb); (try clear hb2); (try clear hk); (try clear hi)))
       go_roundg k1
       case measure => have := HK1.out; omega
       case rel => exact ⟨(t370), (wrap64 (x5_1 + 1)), (by first | rfl | (simp; done) | (simp [*]; done)), (by first | rfl | (simp; done) | (simp [*]; done)), H', ⟨by have := HK1.out; omega⟩, ⟨by repeat (first | (with_reducible first | exact HB.out | apply below_alloc | apply pw_below_drewN | apply below_drew1) | exact HB.out)⟩⟩
     ·rw [if_neg c5] at H
      exact absurd H (by simp)
    ·rw [if_neg c4] at H
     have c4b0 : decide (x5_1 < (l0.length : Int)) = false := decide_eq_false c4
     clear c4
     obtain rfl := Option.some.inj H
     go_wp2
     go_ret
     exact ⟨by first | rfl | (simp [errW_none, errW_some] <;> rfl) | (simp [*, errW_none, errW_some] <;> rfl), by repeat (first | (with_reducible first | exact HB.out | apply below_alloc | apply pw_below_drewN | apply below_drew1) | exact HB.out)⟩
def laws_szSheetBlock.f (k : Nat) (a0_0 : ByteArray) (a0_1 : ByteArray) (l0_2 : List (S155)) (a1 : Int) : Option (Int) := if (wrap64 (a1 - (a0_0.size : Int))) < 0 then (some (-1)) else (if (wrap64 ((wrap64 (a1 - (a0_0.size : Int))) - (a0_1.size : Int))) < 0 then (some (-1)) else ((laws_szSheetLineS.f k l0_2 (wrap64 ((wrap64 (a1 - (a0_0.size : Int))) - (a0_1.size : Int)))).bind fun t372 => (if t372 < 0 then (some (-1)) else (some t372))))
set_option maxHeartbeats 8000000 in
set_option maxRecDepth 100000 in
theorem laws_szSheetBlock.calls (k : Nat) (a0_0 : ByteArray) (a0_1 : ByteArray) (A0_2 : Option Addr) (c0_2 : Nat) (l0_2 : List (S155)) (a1 : Int) (r : Int) (w : World) (hr0_2 : Kd.C k155 w A0_2 l0_2.length l0_2) (hc0_2 : l0_2.length ≤ c0_2) (h : laws_szSheetBlock.f k a0_0 a0_1 l0_2 a1 = some r) :
  Calls Tryd.prog 112 #[.agg #[.string a0_0, .string a0_1, .slice A0_2 l0_2.length c0_2], .int .i64 a1] w fun e w' => e = .returned (.int .i64 r) ∧ Below w.heap.size w w' := by
 have hu128 := Tryd.underlying128
 have HR0_2 := Aside0.mk hr0_2
 have HC0_2 := Aside0.mk hc0_2
 clear hr0_2 hc0_2
 have HB := Aside0.mk (Below.refl w.heap.size w)
 have H : (if (wrap64 (a1 - (a0_0.size : Int))) < 0 then (some (-1)) else (if (wrap64 ((wrap64 (a1 - (a0_0.size : Int))) - (a0_1.size : Int))) < 0 then (some (-1)) else ((laws_szSheetLineS.f k l0_2 (wrap64 ((wrap64 (a1 - (a0_0.size : Int))) - (a0_1.size : Int)))).bind fun t372 => (if t372 < 0 then (some (-1)) else (some t372))))) = some r := h
 clear h
 by_cases c3 : (wrap64 (a1 - (a0_0.size : Int))) < 0
 ·rw [if_pos c3] at H
  have c3b0 : decide ((wrap64 (a1 - (a0_0.size : Int))) < 0) = true := decide_eq_true c3
  clear c3
  obtain rfl := Option.some.inj H
  go_enter Tryd.func112, Tryd.ntmps112
  go_wp2_with (first | ((with_reducible refine gate_dst (N := 2) rfl ?_); refine box_event ?hg (N := 2) ?hd (cs := #[.string a0_0, .string a0_1, .slice A0_2 l0_2.length c0_2]) (t := 128) ?hr ?_; (case hd => rfl); (case hg => rfl); (case hr => first | (go_simp; done) | (go_simp; rfl)); intro gb371 hg w4 hbox hb; have n0_ := Aside0.mk (below_step (stB HB.out) hb); have n1_ := Aside0.mk (hbox); have n2_ := Aside0.mk ((by rw [hg]; exact (below_size (stB HB.out)) : w.heap.size ≤ gb371)); have n3_ := Aside0.mk ((by rw [hg]; exact (below_size (stB HB.out)) : w.heap.size ≤ gb371)); clear HB; have HB := n0_; have BK371 := n1_; have GW371 := n2_; have GE371 := n3_; clear n0_ n1_ n2_ n3_; clear hb hbox hg; have hcz5_0 : w4.cell? ⟨gb371, 0, none⟩ = some (.string a0_0) := (blk_cell BK371.out 0).trans rfl; have hcz5_1 : w4.cell? ⟨gb371, 1, none⟩ = some (.string a0_1) := (blk_cell BK371.out 1).trans rfl; have hcz5_2 : w4.cell? ⟨gb371, 2, none⟩ = some (.slice A0_2 l0_2.length c0_2) := (blk_cell BK371.out 2).trans rfl; have hfz5_0 := blk_frozen BK371.out 0; have hfz5_1 := blk_frozen BK371.out 1; have hfz5_2 := blk_frozen BK371.out 2))
  go_ret
  exact ⟨by first | rfl | (simp [errW_none, errW_some] <;> rfl) | (simp [*, errW_none, errW_some] <;> rfl), by repeat (first | (with_reducible first | exact HB.out | apply below_alloc | apply pw_below_drewN | apply below_drew1 | refine below_set ?_ GE371.out) | exact HB.out)⟩
 ·rw [if_neg c3] at H
  have c3b0 : decide ((wrap64 (a1 - (a0_0.size : Int))) < 0) = false := decide_eq_false c3
  clear c3
  by_cases c6 : (wrap64 ((wrap64 (a1 - (a0_0.size : Int))) - (a0_1.size : Int))) < 0
  ·rw [if_pos c6] at H
   have c6b0 : decide ((wrap64 ((wrap64 (a1 - (a0_0.size : Int))) - (a0_1.size : Int))) < 0) = true := decide_eq_true c6
   clear c6
   obtain rfl := Option.some.inj H
   go_enter Tryd.func112, Tryd.ntmps112
   go_wp2_with (first | ((with_reducible refine gate_dst (N := 2) rfl ?_); refine box_event ?hg (N := 2) ?hd (cs := #[.string a0_0, .string a0_1, .slice A0_2 l0_2.length c0_2]) (t := 128) ?hr ?_; (case hd => rfl); (case hg => rfl); (case hr => first | (go_simp; done) | (go_simp; rfl)); intro gb371 hg w7 hbox hb; have n0_ := Aside0.mk (below_step (stB HB.out) hb); have n1_ := Aside0.mk (hbox); have n2_ := Aside0.mk ((by rw [hg]; exact (below_size (stB HB.out)) : w.heap.size ≤ gb371)); have n3_ := Aside0.mk ((by rw [hg]; exact (below_size (stB HB.out)) : w.heap.size ≤ gb371)); clear HB; have HB := n0_; have BK371 := n1_; have GW371 := n2_; have GE371 := n3_; clear n0_ n1_ n2_ n3_; clear hb hbox hg; have hcz8_0 : w7.cell? ⟨gb371, 0, none⟩ = some (.string a0_0) := (blk_cell BK371.out 0).trans rfl; have hcz8_1 : w7.cell? ⟨gb371, 1, none⟩ = some (.string a0_1) := (blk_cell BK371.out 1).trans rfl; have hcz8_2 : w7.cell? ⟨gb371, 2, none⟩ = some (.slice A0_2 l0_2.length c0_2) := (blk_cell BK371.out 2).trans rfl; have hfz8_0 := blk_frozen BK371.out 0; have hfz8_1 := blk_frozen BK371.out 1; have hfz8_2 := blk_frozen BK371.out 2))
   go_ret
   exact ⟨by first | rfl | (simp [errW_none, errW_some] <;> rfl) | (simp [*, errW_none, errW_some] <;> rfl), by repeat (first | (with_reducible first | exact HB.out | apply below_alloc | apply pw_below_drewN | apply below_drew1 | refine below_set ?_ GE371.out) | exact HB.out)⟩
  ·rw [if_neg c6] at H
   have c6b0 : decide ((wrap64 ((wrap64 (a1 - (a0_0.size : Int))) - (a0_1.size : Int))) < 0) = false := decide_eq_false c6
   clear c6
   replace H := Option.bind_eq_some_iff.mp H
   obtain ⟨t372, A90, H⟩ := H
   replace H : (if t372 < 0 then (some (-1)) else (some t372)) = some r := H
   have A9 := Aside0.mk A90
   clear A90
   by_cases c10 : t372 < 0
   ·rw [if_pos c10] at H
    have c10b0 : decide (t372 < 0) = true := decide_eq_true c10
    clear c10
    obtain rfl := Option.some.inj H
    go_enter Tryd.func112, Tryd.ntmps112
    go_wp2_with (first | ((with_reducible refine gate_dst (N := 2) rfl ?_); refine box_event ?hg (N := 2) ?hd (cs := #[.string a0_0, .string a0_1, .slice A0_2 l0_2.length c0_2]) (t := 128) ?hr ?_; (case hd => rfl); (case hg => rfl); (case hr => first | (go_simp; done) | (go_simp; rfl)); intro gb371 hg w11 hbox hb; have n0_ := Aside0.mk (below_step (stB HB.out) hb); have n1_ := Aside0.mk (hbox); have n2_ := Aside0.mk ((by rw [hg]; exact (below_size (stB HB.out)) : w.heap.size ≤ gb371)); have n3_ := Aside0.mk ((by rw [hg]; exact (below_size (stB HB.out)) : w.heap.size ≤ gb371)); clear HB; have HB := n0_; have BK371 := n1_; have GW371 := n2_; have GE371 := n3_; clear n0_ n1_ n2_ n3_; clear hb hbox hg; have hcz12_0 : w11.cell? ⟨gb371, 0, none⟩ = some (.string a0_0) := (blk_cell BK371.out 0).trans rfl; have hcz12_1 : w11.cell? ⟨gb371, 1, none⟩ = some (.string a0_1) := (blk_cell BK371.out 1).trans rfl; have hcz12_2 : w11.cell? ⟨gb371, 2, none⟩ = some (.slice A0_2 l0_2.length c0_2) := (blk_cell BK371.out 2).trans rfl; have hfz12_0 := blk_frozen BK371.out 0; have hfz12_1 := blk_frozen BK371.out 1; have hfz12_2 := blk_frozen BK371.out 2) | ((with_reducible refine gate_callee (f := 137) rfl ?_); refine goesL_ (some 22) rfl rfl Tryd.func137 (by kernel_rfl) rfl #[.slice A0_2 l0_2.length c0_2, .int .i64 (wrap64 ((wrap64 (a1 - (a0_0.size : Int))) - (a0_1.size : Int)))] rfl (by (try simp only [List.map_toArray, List.map_cons, List.map_nil]); first | done | rfl | (simp only [List.length_drop, List.length_take]; rfl)) ?_; (with_reducible refine (laws_szSheetLineS.calls k _ _ l0_2 (wrap64 ((wrap64 (a1 - (a0_0.size : Int))) - (a0_1.size : Int))) t372 _ ?side1 ?side2 A9.out).mono ?_); (case side1 => repeat (first | exact (Kd.C_below HR0_2.out HB.out) | (with_reducible refine Kd.C_alloc ?_ _) | (with_reducible refine Kd.C_drewN ?_ _) | (with_reducible refine Kd.C_drew ?_))); (case side2 => exact HC0_2.out); rintro e w13 ⟨rfl, hb⟩; refine ⟨_, rfl, ?_⟩; have n0_ := Aside0.mk (blk_below (g := gb371) (o := .cells #[.string a0_0, .string a0_1, .slice A0_2 l0_2.length c0_2] 128 (0, 0)) (by (with_reducible repeat (first | refine blk_drewN ?_ _ | refine blk_drew ?_ | refine blk_alloc ?_ _)); exact BK371.out) hb); have n1_ := Aside0.mk (below_step (by repeat (first | (with_reducible first | exact HB.out | apply below_alloc | apply pw_below_drewN | apply below_drew1 | refine below_set ?_ GE371.out) | exact HB.out)) hb); clear BK371; clear HB; have BK371 := n0_; have HB := n1_; clear n0_ n1_; (try clear hb); (try clear hb2); (try clear hk); (try clear hi)))
    go_ret
    exact ⟨by first | rfl | (simp [errW_none, errW_some] <;> rfl) | (simp [*, errW_none, errW_some] <;> rfl), by repeat (first | (with_reducible first | exact HB.out | apply below_alloc | apply pw_below_drewN | apply below_drew1 | refine below_set ?_ GE371.out) | exact HB.out)⟩
   ·rw [if_neg c10] at H
    have c10b0 : decide (t372 < 0) = false := decide_eq_false c10
    clear c10
    obtain rfl := Option.some.inj H
    go_enter Tryd.func112, Tryd.ntmps112
    go_wp2_with (first | ((with_reducible refine gate_dst (N := 2) rfl ?_); refine box_event ?hg (N := 2) ?hd (cs := #[.string a0_0, .string a0_1, .slice A0_2 l0_2.length c0_2]) (t := 128) ?hr ?_; (case hd => rfl); (case hg => rfl); (case hr => first | (go_simp; done) | (go_simp; rfl)); intro gb371 hg w14 hbox hb; have n0_ := Aside0.mk (below_step (stB HB.out) hb); have n1_ := Aside0.mk (hbox); have n2_ := Aside0.mk ((by rw [hg]; exact (below_size (stB HB.out)) : w.heap.size ≤ gb371)); have n3_ := Aside0.mk ((by rw [hg]; exact (below_size (stB HB.out)) : w.heap.size ≤ gb371)); clear HB; have HB := n0_; have BK371 := n1_; have GW371 := n2_; have GE371 := n3_; clear n0_ n1_ n2_ n3_; clear hb hbox hg; have hcz15_0 : w14.cell? ⟨gb371, 0, none⟩ = some (.string a0_0) := (blk_cell BK371.out 0).trans rfl; have hcz15_1 : w14.cell? ⟨gb371, 1, none⟩ = some (.string a0_1) := (blk_cell BK371.out 1).trans rfl; have hcz15_2 : w14.cell? ⟨gb371, 2, none⟩ = some (.slice A0_2 l0_2.length c0_2) := (blk_cell BK371.out 2).trans rfl; have hfz15_0 := blk_frozen BK371.out 0; have hfz15_1 := blk_frozen BK371.out 1; have hfz15_2 := blk_frozen BK371.out 2) | ((with_reducible refine gate_callee (f := 137) rfl ?_); refine goesL_ (some 22) rfl rfl Tryd.func137 (by kernel_rfl) rfl #[.slice A0_2 l0_2.length c0_2, .int .i64 (wrap64 ((wrap64 (a1 - (a0_0.size : Int))) - (a0_1.size : Int)))] rfl (by (try simp only [List.map_toArray, List.map_cons, List.map_nil]); first | done | rfl | (simp only [List.length_drop, List.length_take]; rfl)) ?_; (with_reducible refine (laws_szSheetLineS.calls k _ _ l0_2 (wrap64 ((wrap64 (a1 - (a0_0.size : Int))) - (a0_1.size : Int))) t372 _ ?side1 ?side2 A9.out).mono ?_); (case side1 => repeat (first | exact (Kd.C_below HR0_2.out HB.out) | (with_reducible refine Kd.C_alloc ?_ _) | (with_reducible refine Kd.C_drewN ?_ _) | (with_reducible refine Kd.C_drew ?_))); (case side2 => exact HC0_2.out); rintro e w16 ⟨rfl, hb⟩; refine ⟨_, rfl, ?_⟩; have n0_ := Aside0.mk (blk_below (g := gb371) (o := .cells #[.string a0_0, .string a0_1, .slice A0_2 l0_2.length c0_2] 128 (0, 0)) (by (with_reducible repeat (first | refine blk_drewN ?_ _ | refine blk_drew ?_ | refine blk_alloc ?_ _)); exact BK371.out) hb); have n1_ := Aside0.mk (below_step (by repeat (first | (with_reducible first | exact HB.out | apply below_alloc | apply pw_below_drewN | apply below_drew1 | refine below_set ?_ GE371.out) | exact HB.out)) hb); clear BK371; clear HB; have BK371 := n0_; have HB := n1_; clear n0_ n1_; (try clear hb); (try clear hb2); (try clear hk); (try clear hi)))
    go_ret
    exact ⟨by first | rfl | (simp [errW_none, errW_some] <;> rfl) | (simp [*, errW_none, errW_some] <;> rfl), by repeat (first | (with_reducible first | exact HB.out | apply below_alloc | apply pw_below_drewN | apply below_drew1 | refine below_set ?_ GE371.out) | exact HB.out)⟩
def laws_szSheetBlockS.l0 : Nat → List (S128) → Int → Int → Option (Int)
 | 0, _, _, _ => none
 | k + 1, x0, x1, x5 => if x5 < (x0.length : Int) then (if 0 ≤ x5 then ((laws_szSheetBlock.f k ((rd_T128 x0 x5).f0) ((rd_T128 x0 x5).f1) ((rd_T128 x0 x5).f2) x1).bind fun t374 => (if t374 < 0 then (some (-1)) else (laws_szSheetBlockS.l0 k x0 t374 (wrap64 (x5 + 1))))) else (none)) else (some x1)
def laws_szSheetBlockS.f (k : Nat) (l0 : List (S128)) (a1 : Int) : Option (Int) := if (wrap64 (a1 - (l0.length : Int))) < 0 then (some (-1)) else (laws_szSheetBlockS.l0 k l0 (wrap64 (a1 - (l0.length : Int))) 0)
set_option maxHeartbeats 8000000 in
set_option maxRecDepth 100000 in
theorem laws_szSheetBlockS.calls (k : Nat) (A0 : Option Addr) (c0 : Nat) (l0 : List (S128)) (a1 : Int) (r : Int) (w : World) (hr0 : Kd.C k128 w A0 l0.length l0) (hc0 : l0.length ≤ c0) (h : laws_szSheetBlockS.f k l0 a1 = some r) :
  Calls Tryd.prog 70 #[.slice A0 l0.length c0, .int .i64 a1] w fun e w' => e = .returned (.int .i64 r) ∧ Below w.heap.size w w' := by
 have hu128 := Tryd.underlying128
 have HR0 := Aside0.mk hr0
 have HC0 := Aside0.mk hc0
 clear hr0 hc0
 have HB := Aside0.mk (Below.refl w.heap.size w)
 have H : (if (wrap64 (a1 - (l0.length : Int))) < 0 then (some (-1)) else (laws_szSheetBlockS.l0 k l0 (wrap64 (a1 - (l0.length : Int))) 0)) = some r := h
 clear h
 by_cases c3 : (wrap64 (a1 - (l0.length : Int))) < 0
 ·rw [if_pos c3] at H
  have c3b0 : decide ((wrap64 (a1 - (l0.length : Int))) < 0) = true := decide_eq_true c3
  clear c3
  obtain rfl := Option.some.inj H
  go_enter Tryd.func70, Tryd.ntmps70
  go_wp2
  go_ret
  exact ⟨by first | rfl | (simp [errW_none, errW_some] <;> rfl) | (simp [*, errW_none, errW_some] <;> rfl), by repeat (first | (with_reducible first | exact HB.out | apply below_alloc | apply pw_below_drewN | apply below_drew1) | exact HB.out)⟩
 ·rw [if_neg c3] at H
  have c3b0 : decide ((wrap64 (a1 - (l0.length : Int))) < 0) = false := decide_eq_false c3
  clear c3
  have H' := Aside0.mk H
  clear H
  go_enter Tryd.func70, Tryd.ntmps70
  go_wp2
  go_loopg [1, 5] k (fun kq v1 v5 w' => ∃ (x1_1 : Int) (x5_1 : Int), v1 = .int .i64 x1_1 ∧ v5 = .int .i64 x5_1 ∧ Aside0 (laws_szSheetBlockS.l0 kq l0 x1_1 x5_1 = some r) ∧ Aside0 (kq ≤ k) ∧ Aside0 (Below w.heap.size w w'))
  case atStart => exact ⟨(wrap64 (a1 - (l0.length : Int))), (0), (by first | rfl | (simp; done) | (simp [*]; done)), (by first | rfl | (simp; done) | (simp [*]; done)), H', ⟨Nat.le_refl _⟩, ⟨by repeat (first | (with_reducible first | exact HB.out | apply below_alloc | apply pw_below_drewN | apply below_drew1) | exact HB.out)⟩⟩
  case round =>
   clear H'
   try clear p2
   try clear c3
   try clear c3b0
   obtain ⟨x1_1, x5_1, rfl, rfl, HA, HK1, HB⟩ := hrel
   cases gk with
   | zero => exact absurd HA.out (by simp [laws_szSheetBlockS.l0])
   | succ k1 =>
    have H := HA.out
    clear HA
    simp only [laws_szSheetBlockS.l0] at H
    by_cases c4 : x5_1 < (l0.length : Int)
    ·rw [if_pos c4] at H
     have c4b0 : decide (x5_1 < (l0.length : Int)) = true := decide_eq_true c4
     clear c4
     by_cases c5 : 0 ≤ x5_1
     ·rw [if_pos c5] at H
      have c5b0 : decide (0 ≤ x5_1) = true := decide_eq_true c5
      clear c5
      replace H := Option.bind_eq_some_iff.mp H
      obtain ⟨t374, A60, H⟩ := H
      replace H : (if t374 < 0 then (some (-1)) else (laws_szSheetBlockS.l0 k1 l0 t374 (wrap64 (x5_1 + 1)))) = some r := H
      have A6 := Aside0.mk A60
      clear A60
      by_cases c7 : t374 < 0
      ·rw [if_pos c7] at H
       have c7b0 : decide (t374 < 0) = true := decide_eq_true c7
       clear c7
       obtain rfl := Option.some.inj H
       have p373 : 0 ≤ (x5_1 : Int) := of_decide_eq_true (by first | (with_reducible assumption) | assumption)
       have q373 : x5_1 < (l0.length : Int) := of_decide_eq_true (by first | (with_reducible assumption) | assumption)
       obtain ⟨ad373, A373_2, c373_2, e373, hx373_0, hx373_1, hx373_2, hl373_2, hi373_2⟩ := at_T128 HR0.out x5_1 p373 q373
       cases e373
       (try replace hx373_0 := (HB.out.cell (World.block_lt_of_cell? w _ hx373_0)).trans hx373_0)
       (try replace hx373_1 := (HB.out.cell (World.block_lt_of_cell? w _ hx373_1)).trans hx373_1)
       (try replace hx373_2 := (HB.out.cell (World.block_lt_of_cell? w _ hx373_2)).trans hx373_2)
       have HR373_2 := Aside0.mk hi373_2
       have HC373_2 := Aside0.mk hl373_2
       clear hi373_2 hl373_2
       replace p373 := eq_true p373
       replace q373 := eq_true q373
       go_wp2_with (first | ((with_reducible refine gate_callee (f := 112) rfl ?_); refine goesL_ (some 23) rfl rfl Tryd.func112 (by kernel_rfl) rfl #[.agg #[.string ((rd_T128 l0 x5_1).f0), .string ((rd_T128 l0 x5_1).f1), .slice A373_2 ((rd_T128 l0 x5_1).f2).length c373_2], .int .i64 x1_1] rfl (by (try simp only [List.map_toArray, List.map_cons, List.map_nil]); first | done | rfl | (simp only [List.length_drop, List.length_take]; rfl)) ?_; (with_reducible refine (laws_szSheetBlock.calls k1 ((rd_T128 l0 x5_1).f0) ((rd_T128 l0 x5_1).f1) _ _ ((rd_T128 l0 x5_1).f2) x1_1 t374 _ ?side1 ?side2 A6.out).mono ?_); (case side1 => repeat (first | exact (Kd.C_below HR373_2.out HB.out) | (with_reducible refine Kd.C_alloc ?_ _) | (with_reducible refine Kd.C_drewN ?_ _) | (with_reducible refine Kd.C_drew ?_))); (case side2 => exact HC373_2.out); rintro e w8 ⟨rfl, hb⟩; refine ⟨_, rfl, ?_⟩; have n0_ := Aside0.mk (below_step (stB HB.out) hb); clear HB; have HB := n0_; clear n0_; (try clear hb); (try clear hb2); (try clear hk); (try clear hi)))
       go_ret
       exact ⟨by first | rfl | (simp [errW_none, errW_some] <;> rfl) | (simp [*, errW_none, errW_some] <;> rfl), by repeat (first | (with_reducible first | exact HB.out | apply below_alloc | apply pw_below_drewN | apply below_drew1) | exact HB.out)⟩
      ·rw [if_neg c7] at H
       have c7b0 : decide (t374 < 0) = false := decide_eq_false c7
       clear c7
       have H' := Aside0.mk H
       clear H
       have p373 : 0 ≤ (x5_1 : Int) := of_decide_eq_true (by first | (with_reducible assumption) | assumption)
       have q373 : x5_1 < (l0.length : Int) := of_decide_eq_true (by first | (with_reducible assumption) | assumption)
       obtain ⟨ad373, A373_2, c373_2, e373, hx373_0, hx373_1, hx373_2, hl373_2, hi373_2⟩ := at_T128 HR0.out x5_1 p373 q373
       cases e373
       (try replace hx373_0 := (HB.out.cell (World.block_lt_of_cell? w _ hx373_0)).trans hx373_0)
       (try replace hx373_1 := (HB.out.cell (World.block_lt_of_cell? w _ hx373_1)).trans hx373_1)
       (try replace hx373_2 := (HB.out.cell (World.block_lt_of_cell? w _ hx373_2)).trans hx373_2)
       have HR373_2 := Aside0.mk hi373_2
       have HC373_2 := Aside0.mk hl373_2
       clear hi373_2 hl373_2
       replace p373 := eq_true p373
       replace q373 := eq_true q373
       go_wp2_with (first | ((with_reducible refine gate_callee (f := 112) rfl ?_); refine goesL_ (some 23) rfl rfl Tryd.func112 (by kernel_rfl) rfl #[.agg #[.string ((rd_T128 l0 x5_1).f0), .string ((rd_T128 l0 x5_1).f1), .slice A373_2 ((rd_T128 l0 x5_1).f2).length c373_2], .int .i64 x1_1] rfl (by (try simp only [List.map_toArray, List.map_cons, List.map_nil]); first | done | rfl | (simp only [List.length_drop, List.length_take]; rfl)) ?_; (with_reducible refine (laws_szSheetBlock.calls k1 ((rd_T128 l0 x5_1).f0) ((rd_T128 l0 x5_1).f1) _ _ ((rd_T128 l0 x5_1).f2) x1_1 t374 _ ?side1 ?side2 A6.out).mono ?_); (case side1 => repeat (first | exact (Kd.C_below HR373_2.out HB.out) | (with_reducible refine Kd.C_alloc ?_ _) | (with_reducible refine Kd.C_drewN ?_ _) | (with_reducible refine Kd.C_drew ?_))); (case side2 => exact HC373_2.out); rintro e w9 ⟨rfl, hb⟩; refine ⟨_, rfl, ?_⟩; have n0_ := Aside0.mk (below_step (stB HB.out) hb); clear HB; have HB := n0_; clear n0_; (try clear hb); (try clear hb2); (try clear hk); (try clear hi)))
       go_roundg k1
       case measure => have := HK1.out; omega
       case rel => exact ⟨(t374), (wrap64 (x5_1 + 1)), (by first | rfl | (simp; done) | (simp [*]; done)), (by first | rfl | (simp; done) | (simp [*]; done)), H', ⟨by have := HK1.out; omega⟩, ⟨by repeat (first | (with_reducible first | exact HB.out | apply below_alloc | apply pw_below_drewN | apply below_drew1) | exact HB.out)⟩⟩
     ·rw [if_neg c5] at H
      exact absurd H (by simp)
    ·rw [if_neg c4] at H
     have c4b0 : decide (x5_1 < (l0.length : Int)) = false := decide_eq_false c4
     clear c4
     obtain rfl := Option.some.inj H
     go_wp2
     go_ret
     exact ⟨by first | rfl | (simp [errW_none, errW_some] <;> rfl) | (simp [*, errW_none, errW_some] <;> rfl), by repeat (first | (with_reducible first | exact HB.out | apply below_alloc | apply pw_below_drewN | apply below_drew1) | exact HB.out)⟩
def laws_szSheet.f (k : Nat) (l0_0 : List (S128)) (a1 : Int) : Option (Int) := (laws_szSheetBlockS.f k l0_0 a1).bind fun t376 => (if t376 < 0 then (some (-1)) else (some t376))
set_option maxHeartbeats 8000000 in
set_option maxRecDepth 100000 in
theorem laws_szSheet.calls (k : Nat) (A0_0 : Option Addr) (c0_0 : Nat) (l0_0 : List (S128)) (a1 : Int) (r : Int) (w : World) (hr0_0 : Kd.C k128 w A0_0 l0_0.length l0_0) (hc0_0 : l0_0.length ≤ c0_0) (h : laws_szSheet.f k l0_0 a1 = some r) :
  Calls Tryd.prog 26 #[.agg #[.slice A0_0 l0_0.length c0_0], .int .i64 a1] w fun e w' => e = .returned (.int .i64 r) ∧ Below w.heap.size w w' := by
 have hu42 := Tryd.underlying42
 have HR0_0 := Aside0.mk hr0_0
 have HC0_0 := Aside0.mk hc0_0
 clear hr0_0 hc0_0
 have HB := Aside0.mk (Below.refl w.heap.size w)
 have H : ((laws_szSheetBlockS.f k l0_0 a1).bind fun t376 => (if t376 < 0 then (some (-1)) else (some t376))) = some r := h
 clear h
 replace H := Option.bind_eq_some_iff.mp H
 obtain ⟨t376, A30, H⟩ := H
 replace H : (if t376 < 0 then (some (-1)) else (some t376)) = some r := H
 have A3 := Aside0.mk A30
 clear A30
 by_cases c4 : t376 < 0
 ·rw [if_pos c4] at H
  have c4b0 : decide (t376 < 0) = true := decide_eq_true c4
  clear c4
  obtain rfl := Option.some.inj H
  go_enter Tryd.func26, Tryd.ntmps26
  go_wp2_with (first | ((with_reducible refine gate_dst (N := 2) rfl ?_); refine box_event ?hg (N := 2) ?hd (cs := #[.slice A0_0 l0_0.length c0_0]) (t := 42) ?hr ?_; (case hd => rfl); (case hg => rfl); (case hr => first | (go_simp; done) | (go_simp; rfl)); intro gb375 hg w5 hbox hb; have n0_ := Aside0.mk (below_step (stB HB.out) hb); have n1_ := Aside0.mk (hbox); have n2_ := Aside0.mk ((by rw [hg]; exact (below_size (stB HB.out)) : w.heap.size ≤ gb375)); have n3_ := Aside0.mk ((by rw [hg]; exact (below_size (stB HB.out)) : w.heap.size ≤ gb375)); clear HB; have HB := n0_; have BK375 := n1_; have GW375 := n2_; have GE375 := n3_; clear n0_ n1_ n2_ n3_; clear hb hbox hg; have hcz6_0 : w5.cell? ⟨gb375, 0, none⟩ = some (.slice A0_0 l0_0.length c0_0) := (blk_cell BK375.out 0).trans rfl; have hfz6_0 := blk_frozen BK375.out 0) | ((with_reducible refine gate_callee (f := 70) rfl ?_); refine goesL_ (some 8) rfl rfl Tryd.func70 (by kernel_rfl) rfl #[.slice A0_0 l0_0.length c0_0, .int .i64 a1] rfl (by (try simp only [List.map_toArray, List.map_cons, List.map_nil]); first | done | rfl | (simp only [List.length_drop, List.length_take]; rfl)) ?_; (with_reducible refine (laws_szSheetBlockS.calls k _ _ l0_0 a1 t376 _ ?side1 ?side2 A3.out).mono ?_); (case side1 => repeat (first | exact (Kd.C_below HR0_0.out HB.out) | (with_reducible refine Kd.C_alloc ?_ _) | (with_reducible refine Kd.C_drewN ?_ _) | (with_reducible refine Kd.C_drew ?_))); (case side2 => exact HC0_0.out); rintro e w7 ⟨rfl, hb⟩; refine ⟨_, rfl, ?_⟩; have n0_ := Aside0.mk (blk_below (g := gb375) (o := .cells #[.slice A0_0 l0_0.length c0_0] 42 (0, 0)) (by (with_reducible repeat (first | refine blk_drewN ?_ _ | refine blk_drew ?_ | refine blk_alloc ?_ _)); exact BK375.out) hb); have n1_ := Aside0.mk (below_step (by repeat (first | (with_reducible first | exact HB.out | apply below_alloc | apply pw_below_drewN | apply below_drew1 | refine below_set ?_ GE375.out) | exact HB.out)) hb); clear BK375; clear HB; have BK375 := n0_; have HB := n1_; clear n0_ n1_; (try clear hb); (try clear hb2); (try clear hk); (try clear hi)))
  go_ret
  exact ⟨by first | rfl | (simp [errW_none, errW_some] <;> rfl) | (simp [*, errW_none, errW_some] <;> rfl), by repeat (first | (with_reducible first | exact HB.out | apply below_alloc | apply pw_below_drewN | apply below_drew1 | refine below_set ?_ GE375.out) | exact HB.out)⟩
 ·rw [if_neg c4] at H
  have c4b0 : decide (t376 < 0) = false := decide_eq_false c4
  clear c4
  obtain rfl := Option.some.inj H
  go_enter Tryd.func26, Tryd.ntmps26
  go_wp2_with (first | ((with_reducible refine gate_dst (N := 2) rfl ?_); refine box_event ?hg (N := 2) ?hd (cs := #[.slice A0_0 l0_0.length c0_0]) (t := 42) ?hr ?_; (case hd => rfl); (case hg => rfl); (case hr => first | (go_simp; done) | (go_simp; rfl)); intro gb375 hg w8 hbox hb; have n0_ := Aside0.mk (below_step (stB HB.out) hb); have n1_ := Aside0.mk (hbox); have n2_ := Aside0.mk ((by rw [hg]; exact (below_size (stB HB.out)) : w.heap.size ≤ gb375)); have n3_ := Aside0.mk ((by rw [hg]; exact (below_size (stB HB.out)) : w.heap.size ≤ gb375)); clear HB; have HB := n0_; have BK375 := n1_; have GW375 := n2_; have GE375 := n3_; clear n0_ n1_ n2_ n3_; clear hb hbox hg; have hcz9_0 : w8.cell? ⟨gb375, 0, none⟩ = some (.slice A0_0 l0_0.length c0_0) := (blk_cell BK375.out 0).trans rfl; have hfz9_0 := blk_frozen BK375.out 0) | ((with_reducible refine gate_callee (f := 70) rfl ?_); refine goesL_ (some 8) rfl rfl Tryd.func70 (by kernel_rfl) rfl #[.slice A0_0 l0_0.length c0_0, .int .i64 a1] rfl (by (try simp only [List.map_toArray, List.map_cons, List.map_nil]); first | done | rfl | (simp only [List.length_drop, List.length_take]; rfl)) ?_; (with_reducible refine (laws_szSheetBlockS.calls k _ _ l0_0 a1 t376 _ ?side1 ?side2 A3.out).mono ?_); (case side1 => repeat (first | exact (Kd.C_below HR0_0.out HB.out) | (with_reducible refine Kd.C_alloc ?_ _) | (with_reducible refine Kd.C_drewN ?_ _) | (with_reducible refine Kd.C_drew ?_))); (case side2 => exact HC0_0.out); rintro e w10 ⟨rfl, hb⟩; refine ⟨_, rfl, ?_⟩; have n0_ := Aside0.mk (blk_below (g := gb375) (o := .cells #[.slice A0_0 l0_0.length c0_0] 42 (0, 0)) (by (with_reducible repeat (first | refine blk_drewN ?_ _ | refine blk_drew ?_ | refine blk_alloc ?_ _)); exact BK375.out) hb); have n1_ := Aside0.mk (below_step (by repeat (first | (with_reducible first | exact HB.out | apply below_alloc | apply pw_below_drewN | apply below_drew1 | refine below_set ?_ GE375.out) | exact HB.out)) hb); clear BK375; clear HB; have BK375 := n0_; have HB := n1_; clear n0_ n1_; (try clear hb); (try clear hb2); (try clear hk); (try clear hi)))
  go_ret
  exact ⟨by first | rfl | (simp [errW_none, errW_some] <;> rfl) | (simp [*, errW_none, errW_some] <;> rfl), by repeat (first | (with_reducible first | exact HB.out | apply below_alloc | apply pw_below_drewN | apply below_drew1 | refine below_set ?_ GE375.out) | exact HB.out)⟩
end Go.Proofs.YtmcdnpooclelgaaDoor.PAll
namespace Go.Proofs.YtmcdnpooclelgaaDoor.PAll
open Go.RowKit Go.Proofs.YtmcdnpooclelgaaDoorW.PrintWords
def LB (l : S155) : Prop := l.f0.size ≤ 9223372036854775807 ∧ l.f1.length ≤ 9223372036854775807 ∧ BS l.f1
def LBs (ls : List S155) : Prop := ls.length ≤ 9223372036854775807 ∧ ∀ l ∈ ls, LB l
def KB (b : S128) : Prop := b.f0.size ≤ 9223372036854775807 ∧ b.f1.size ≤ 9223372036854775807 ∧ LBs b.f2
def KBs (bs : List S128) : Prop := bs.length ≤ 9223372036854775807 ∧ ∀ b ∈ bs, KB b
def LF (l : S155) : Prop := l.f0.size ≤ 1048576 ∧ l.f1.length ≤ 1048576 ∧ ∀ s ∈ l.f1, s.size ≤ 1048576
def LFs (ls : List S155) : Prop := ls.length ≤ 1048576 ∧ ∀ l ∈ ls, LF l
theorem rdLl {ls : List S155} {i : Nat} (h : i < ls.length) : rd_T155 ls (i : Int) = ls[i] := by unfold rd_T155; rw [List.getD_eq_getElem?_getD, Int.toNat_natCast, List.getElem?_eq_getElem h]; rfl
def KF (b : S128) : Prop := b.f0.size ≤ 1048576 ∧ b.f1.size ≤ 1048576 ∧ LFs b.f2
def KFs (bs : List S128) : Prop := bs.length ≤ 1048576 ∧ ∀ b ∈ bs, KF b
theorem rdBl {bs : List S128} {i : Nat} (h : i < bs.length) : rd_T128 bs (i : Int) = bs[i] := by unfold rd_T128; rw [List.getD_eq_getElem?_getD, Int.toNat_natCast, List.getElem?_eq_getElem h]; rfl
def cvL (l : S155) : S83 := ⟨l.f0, l.f1⟩
def cvB (b : S128) : S62 := ⟨b.f0, b.f1, b.f2.map cvL⟩
def cvBs (bs : List S128) : List S62 := bs.map cvB
def smallL (l : S83) : Prop := l.f0.size ≤ 1048576 ∧ l.f1.length ≤ 1048576 ∧ ∀ s ∈ l.f1, s.size ≤ 1048576
def smallLs (ls : List S83) : Prop := ls.length ≤ 1048576 ∧ ∀ l ∈ ls, smallL l
def smallB (b : S62) : Prop := b.f0.size ≤ 1048576 ∧ b.f1.size ≤ 1048576 ∧ smallLs b.f2
def smallBs (bs : List S62) : Prop := bs.length ≤ 1048576 ∧ ∀ b ∈ bs, smallB b
theorem small_cv (bs : List S128) (h : KFs bs) : smallBs (cvBs bs) := by
 refine ⟨by rw [cvBs, List.length_map]; exact h.1, fun b hb => ?_⟩
 obtain ⟨x, hx, rfl⟩ := List.mem_map.1 hb
 obtain ⟨h1, h2, h3⟩ := h.2 x hx
 refine ⟨h1, h2, by rw [show (cvB x).f2 = x.f2.map cvL from rfl, List.length_map]; exact h3.1, fun l hl => ?_⟩
 obtain ⟨y, hy, rfl⟩ := List.mem_map.1 hl
 exact h3.2 y hy
theorem fit_small (ls : List S83) (h : smallLs ls) : fitB ls := ⟨by have := h.1; omega, fun l hl => by
 obtain ⟨h1, h2, h3⟩ := h.2 l hl
 exact ⟨by omega, by omega, fun s hs => by have := h3 s hs; omega⟩⟩
theorem fits_small (bs : List S62) (h : smallBs bs) : fitBB bs := fun b hb => by
 obtain ⟨h1, h2, h3⟩ := h.2 b hb
 exact ⟨by omega, by omega, fit_small _ h3⟩
theorem LBs_of {w : World} {A : Option Addr} {ls : List S155} (h : Kd.C k155 w A ls.length ls) (hb : BLs ls) : LBs ls := by
 refine ⟨h.2.1, fun l hl => ?_⟩
 obtain ⟨i, hi, rfl⟩ := List.getElem_of_mem hl
 obtain ⟨ad, A1, c1, _, _, _, _, h5⟩ := at_T155 h (i : Int) (by omega) (by omega)
 rw [rdLl hi] at h5
 exact ⟨(hb _ hl).1, h5.2.1, (hb _ hl).2⟩
theorem KBs_of {w : World} {A : Option Addr} {bs : List S128} (h : Kd.C k128 w A bs.length bs) (hb : BBs bs) : KBs bs := by
 refine ⟨h.2.1, fun b hl => ?_⟩
 obtain ⟨i, hi, rfl⟩ := List.getElem_of_mem hl
 obtain ⟨ad, A2, c2, _, _, _, _, _, h5⟩ := at_T128 h (i : Int) (by omega) (by omega)
 rw [rdBl hi] at h5
 exact ⟨(hb _ hl).1, (hb _ hl).2.1, LBs_of h5 (hb _ hl).2.2⟩
end Go.Proofs.YtmcdnpooclelgaaDoor.PAll
namespace Go.Proofs.YtmcdnpooclelgaaDoor.PAll
open Go.RowKit Go.Proofs.YtmcdnpooclelgaaDoorW.PrintWords Go.Proofs.YtmcdnpooclelgaaDoorW.PrintLast Go.Proofs.YtmcdnpooclelgaaDoorW.PrintMore
attribute [local go_sem] max2_int min2_int max_two min_two max_three min_three max_four min_four   -- for this text's walks alone
def laws_markText.l0 : Nat → Int → ByteArray → Option (ByteArray)
 | 0, _, _ => none
 | k + 1, x0, x3 => if x0 > 0 then ((some (([(wrap64 (48 + (Int.tmod x0 10))) % 256] : List Int) : List Int)).bind fun y208 => (if (strOfNums y208).size + x3.size ≤ 9223372036854775807 then (laws_markText.l0 k (wrap64 (Int.tdiv x0 10)) ((strOfNums y208) ++ x3)) else (none))) else (if 1 + x3.size ≤ 9223372036854775807 then (some ((⟨#[109]⟩ : ByteArray) ++ x3)) else (none))
def laws_markText.f (k : Nat) (a0 : Int) : Option (ByteArray) := if a0 ≤ 0 then (some (⟨#[109, 48]⟩ : ByteArray)) else (laws_markText.l0 k a0 (⟨#[]⟩ : ByteArray))
set_option maxHeartbeats 8000000 in
set_option maxRecDepth 100000 in
theorem laws_markText.calls (k : Nat) (a0 : Int) (r : ByteArray) (w : World) (h : laws_markText.f k a0 = some r) :
  Calls Tryd.prog 57 #[.int .i64 a0] w fun e w' => e = .returned (.string r) ∧ Below w.heap.size w w' := by
 have HB := Aside0.mk (Below.refl w.heap.size w)
 have H : (if a0 ≤ 0 then (some (⟨#[109, 48]⟩ : ByteArray)) else (laws_markText.l0 k a0 (⟨#[]⟩ : ByteArray))) = some r := h
 clear h
 by_cases c2 : a0 ≤ 0
 ·rw [if_pos c2] at H
  have c2b0 : decide (a0 ≤ 0) = true := decide_eq_true c2
  clear c2
  obtain rfl := Option.some.inj H
  go_enter Tryd.func57, Tryd.ntmps57
  go_wp2
  go_ret
  exact ⟨by first | rfl | (simp [errW_none, errW_some] <;> rfl) | (simp [*, errW_none, errW_some] <;> rfl), by repeat (first | (with_reducible first | exact HB.out | apply below_alloc | apply pw_below_drewN | apply below_drew1) | exact HB.out)⟩
 ·rw [if_neg c2] at H
  have c2b0 : decide (a0 ≤ 0) = false := decide_eq_false c2
  clear c2
  have H' := Aside0.mk H
  clear H
  go_enter Tryd.func57, Tryd.ntmps57
  go_wp2
  go_loopg [0, 3] k (fun kq v0 v3 w' => ∃ (x0_1 : Int) (x3_1 : ByteArray), v0 = .int .i64 x0_1 ∧ v3 = .string x3_1 ∧ Aside0 (laws_markText.l0 kq x0_1 x3_1 = some r) ∧ Aside0 (kq ≤ k) ∧ Aside0 (Below w.heap.size w w'))
  case atStart => exact ⟨(a0), ((⟨#[]⟩ : ByteArray)), (by first | rfl | (simp; done) | (simp [*]; done)), (by first | rfl | (simp; done) | (simp [*]; done)), H', ⟨Nat.le_refl _⟩, ⟨by repeat (first | (with_reducible first | exact HB.out | apply below_alloc | apply pw_below_drewN | apply below_drew1) | exact HB.out)⟩⟩
  case round =>
   clear H'
   try clear c2
   try clear c2b0
   try clear p2
   obtain ⟨x0_1, x3_1, rfl, rfl, HA, HK1, HB⟩ := hrel
   cases gk with
   | zero => exact absurd HA.out (by simp [laws_markText.l0])
   | succ k1 =>
    have H := HA.out
    clear HA
    simp only [laws_markText.l0] at H
    by_cases c3 : x0_1 > 0
    ·rw [if_pos c3] at H
     have c3b0 : decide (0 < x0_1) = true := decide_eq_true c3
     clear c3
     obtain ⟨y208, hy208⟩ : ∃ y_ : List Int, y_ = (([(wrap64 (48 + (Int.tmod x0_1 10))) % 256] : List Int)) := ⟨_, rfl⟩
     replace H : (if (strOfNums y208).size + x3_1.size ≤ 9223372036854775807 then (laws_markText.l0 k1 (wrap64 (Int.tdiv x0_1 10)) ((strOfNums y208) ++ x3_1)) else (none)) = some r := by first | (rw [hy208]; with_reducible exact H) | (have H2_ := (Option.bind_some _ _).symm.trans H; rw [hy208]; with_reducible exact H2_) | (have H2_ := (Option.bind_some _ _).symm.trans H; with_reducible exact H2_) | with_reducible exact H | (rw [hy208]; exact H) | exact H
     have Ny208 := Aside0.mk hy208
     clear hy208
     by_cases c4 : (strOfNums y208).size + x3_1.size ≤ 9223372036854775807
     ·rw [if_pos c4] at H
      have c4b0 := eq_true c4
      have c4b1 : decide ((strOfNums y208).size + x3_1.size ≤ 9223372036854775807) = true := decide_eq_true c4
      try have c4b2 : (9223372036854775807 < (strOfNums y208).size + x3_1.size) = False := eq_false (Nat.not_lt.2 c4)
      have H' := Aside0.mk H
      clear H
      go_wp2_with (first | ((with_reducible refine gate_dst (N := 12) rfl ?_); refine Kd.R_lit (Kd.int .u8) _ 5 ?hg (N := 12) ?hd (xs := ([(wrap64 (48 + (Int.tmod x0_1 10))) % 256] : List Int)) (inner := [.int .u8 ((wrap64 (48 + (Int.tmod x0_1 10))) % 256)]) (ok := fun _ => True) (okp := fun _ => True) ?hr ?hp (fun _ hk => hk) trivial (Below.refl _ _) (Nat.le_refl _) (by simp) ?_; (case hd => rfl); (case hg => rfl); (case hr => first | (go_simp; done) | (go_simp; rfl)); (case hp => exact (Reps.one (show Kd.M (Kd.int .u8) _ _ _ ((wrap64 (48 + (Int.tmod x0_1 10))) % 256) [.int .u8 ((wrap64 (48 + (Int.tmod x0_1 10))) % 256)] from rfl) (Reps.none _ _))); intro v209 w5 ho6 hb hg_ hnew_; clear hg_ hnew_; (first | rw [← Ny208.out] at ho6 | (simp only [Int.reduceToNat] at ho6; rw [← Ny208.out] at ho6)); have n0_ := Aside0.mk (Kd.R_lower ho6 (below_size (stB HB.out))); have n1_ := Aside0.mk (below_step (stB HB.out) hb); clear HB; have HO210 := n0_; have HB := n1_; clear n0_ n1_; clear hb ho6; have hcv7 := own_string (P := Tryd.prog) Tryd.underlying32 Tryd.underlying5 Tryd.underlying9 (Kd.own_of_R HO210.out)))
      go_roundg k1
      case measure => have := HK1.out; omega
      case rel => exact ⟨(wrap64 (Int.tdiv x0_1 10)), ((strOfNums y208) ++ x3_1), (by first | rfl | (simp; done) | (simp [*]; done)), (by first | rfl | (simp; done) | (simp [*]; done)), H', ⟨by have := HK1.out; omega⟩, ⟨by repeat (first | (with_reducible first | exact HB.out | apply below_alloc | apply pw_below_drewN | apply below_drew1) | exact HB.out)⟩⟩
     ·rw [if_neg c4] at H
      exact absurd H (by simp)
    ·rw [if_neg c3] at H
     have c3b0 : decide (0 < x0_1) = false := decide_eq_false c3
     clear c3
     by_cases c8 : 1 + x3_1.size ≤ 9223372036854775807
     ·rw [if_pos c8] at H
      have c8b0 := eq_true c8
      have c8b1 : decide (1 + x3_1.size ≤ 9223372036854775807) = true := decide_eq_true c8
      try have c8b2 : (9223372036854775807 < 1 + x3_1.size) = False := eq_false (Nat.not_lt.2 c8)
      obtain rfl := Option.some.inj H
      go_wp2
      go_ret
      exact ⟨by first | rfl | (simp [errW_none, errW_some] <;> rfl) | (simp [*, errW_none, errW_some] <;> rfl), by repeat (first | (with_reducible first | exact HB.out | apply below_alloc | apply pw_below_drewN | apply below_drew1) | exact HB.out)⟩
     ·rw [if_neg c8] at H
      exact absurd H (by simp)
end Go.Proofs.YtmcdnpooclelgaaDoor.PAll
namespace Go.Proofs.YtmcdnpooclelgaaDoor.PAll
open Go.RowKit Go.Proofs.YtmcdnpooclelgaaDoorW.PrintWords
def digsP (k : Nat) (out : ByteArray) : ByteArray := if _h : k = 0 then out else digsP (k / 10) (strOfNums [(48 + k % 10 : Nat)] ++ out)
termination_by k
decreasing_by omega
theorem digsP_zero (out : ByteArray) : digsP 0 out = out := by rw [digsP]; simp
theorem digsP_pos (k : Nat) (out : ByteArray) (h : k ≠ 0) : digsP k out = digsP (k / 10) (strOfNums [(48 + k % 10 : Nat)] ++ out) := by rw [digsP, dif_neg h]
def mtP (k : Int) : ByteArray := if k ≤ 0 then ⟨#[109, 48]⟩ else (⟨#[109]⟩ : ByteArray) ++ digsP k.toNat ⟨#[]⟩
theorem markText_l0 : ∀ (b n : Nat) (out : ByteArray), n ≤ b → n ≤ 1099511627776 → out.size + n ≤ 1099511627776 → Ev (fun k => laws_markText.l0 k n out) ((⟨#[109]⟩ : ByteArray) ++ digsP n out)
 | b, n, out, hb, hn, hs => by
  by_cases h0 : n = 0
  ·subst h0
   rw [digsP_zero]
   exact Ev.unf (fun _ => some ((⟨#[109]⟩ : ByteArray) ++ out)) (fun k => by simp only [laws_markText.l0]; rw [if_neg (by omega), if_pos (by omega)]) (Ev.now _)
  ·cases b with
   | zero => omega
   | succ b =>
    have e1 : wrap64 (Int.tdiv (n : Int) 10) = ((n / 10 : Nat) : Int) := by rw [Int.tdiv_eq_ediv_of_nonneg (by omega), w64 (by omega) (by omega)]; omega
    have e2 : (wrap64 (48 + Int.tmod (n : Int) 10)) % 256 = ((48 + n % 10 : Nat) : Int) := by rw [Int.tmod_eq_emod_of_nonneg (by omega), w64 (by omega) (by omega)]; omega
    rw [digsP_pos n out h0]
    refine Ev.unf (fun k => laws_markText.l0 k ((n / 10 : Nat) : Int) (strOfNums [((48 + n % 10 : Nat) : Int)] ++ out)) (fun k => ?_) (markText_l0 b (n / 10) _ (by omega) (by omega) (by rw [ByteArray.size_append, str1_size]; omega))
    simp only [laws_markText.l0]
    rw [if_pos (by omega), e1, e2, Option.bind_some, if_pos (by rw [str1_size]; omega)]
theorem ev_markText (n : Int) (h : n ≤ 1099511627776) : Ev (fun k => laws_markText.f k n) (mtP n) := by
 unfold laws_markText.f mtP
 by_cases h0 : n ≤ 0
 ·simp only [if_pos h0]; exact Ev.now _
 ·simp only [if_neg h0]
  obtain ⟨m, rfl⟩ := Int.eq_ofNat_of_zero_le (show 0 ≤ n by omega)
  exact markText_l0 m m ⟨#[]⟩ (Nat.le_refl _) (by omega) (by show 0 + m ≤ _; omega)
theorem markText_any (n : Int) (w : World) (h : n ≤ 1099511627776) : Calls Tryd.prog 57 #[.int .i64 n] w fun e w' => e = .returned (.string (mtP n)) ∧ Below w.heap.size w w' := by
 obtain ⟨k, hk⟩ := (ev_markText n h).rounds
 exact laws_markText.calls k n _ w hk
def marks (k : Int) (n : Nat) : List ByteArray := (List.range n).map fun (j : Nat) => mtP (k + (j : Int))
theorem marks_len (k : Int) (n : Nat) : (marks k n).length = n := by simp [marks]
theorem marks_succ (k : Int) (n : Nat) : marks k (n + 1) = marks k n ++ [mtP (k + (n : Int))] := by simp [marks, List.range_succ]
theorem marks_set (k : Int) (xs : List ByteArray) (j : Nat) (h : j < xs.length) : (marks k j ++ xs.drop j).set j (mtP (k + (j : Int))) = marks k (j + 1) ++ xs.drop (j + 1) := by
 rw [List.set_append_right _ _ (by rw [marks_len]; exact Nat.le_refl _), marks_len, Nat.sub_self, List.drop_eq_getElem_cons h, List.set_cons_zero, marks_succ, List.append_assoc]; rfl
set_option maxRecDepth 100000 in
set_option maxHeartbeats 1000000 in
theorem markStringS_any (A : Option Addr) (c base : Nat) (xs : List ByteArray) (k : Int) (w : World) (ho : ER Value.string w base 9 (.slice A xs.length c) xs) (hk : 0 ≤ k) (hk2 : k + xs.length ≤ 1099511627776) :
  Calls Tryd.prog 59 #[.slice A xs.length c, .int .i64 k] w fun e w' => e = .returned (.int .i64 (k + (xs.length : Int))) ∧ ER Value.string w' base 9 (.slice A xs.length c) (marks k xs.length) ∧ Upd (Value.slice A xs.length c).ownBlock.toList w w' := by
 have HO := Aside0.mk ho
 clear ho
 go_enter Tryd.func59, Tryd.ntmps59
 go_wp2
 go_loopw [1, 5] (fun kv i wr => ∃ j : Nat, kv = .int .i64 (k + (j : Int)) ∧ i = .int .i64 j ∧ j ≤ xs.length ∧ Aside0 (ER Value.string wr base 9 (.slice A xs.length c) (marks k j ++ xs.drop j)) ∧ Aside0 (Upd (Value.slice A xs.length c).ownBlock.toList w wr)) (fun _ i _ => xs.length - (intOf i).toNat)
 case atStart => exact ⟨0, by simp, rfl, Nat.zero_le _, ⟨by simpa [marks] using HO.out⟩, ⟨Upd.refl _ _⟩⟩
 case round =>
  obtain ⟨j, rfl, rfl, hj, ho, hu⟩ := hrel
  by_cases hlt : j < xs.length
  ·have hL : Aside0 ((marks k j ++ xs.drop j).length = xs.length) := ⟨by rw [List.length_append, marks_len, List.length_drop]; omega⟩
   obtain ⟨A', c', he, hf⟩ := ER.form ho.out
   injection he with he1 he2 he3
   subst he1
   obtain ⟨g, rfl, hb0, hb1, hfz, hcl⟩ := hf (by rw [hL.out]; omega)
   have hc0 := hcl j _ (List.getElem?_eq_getElem (by rw [hL.out]; exact hlt))
   have hfj := hfz j
   clear hf hfz hcl he2 he3
   generalize (marks k j ++ xs.drop j)[j]'(by rw [hL.out]; exact hlt) = old at hc0
   have hgo : Aside0 ((Value.slice (some ⟨g, 0, none⟩) xs.length c).ownBlock.toList = [g]) := ⟨rfl⟩
   go_wp2_with (go_at_call 57; refine (markText_any _ _ (by omega)).mono ?_; rintro e w1 ⟨rfl, hbl⟩; have hc1 := pw_cell_below hbl hc0; have hf1 := (hbl.frozen (p := ⟨g, j, none⟩) hb1).trans hfj; have ho1 := Aside0.mk (ho.out.below hbl))
   go_roundw
   case rel =>
    have h1 := ho1.out
    unfold ER at h1
    rw [hL.out] at h1
    have hst : ER Value.string (w1.setCell ⟨g, j, none⟩ (.string (mtP (k + (j : Int))))) base 9 (.slice (some ⟨g, 0, none⟩) xs.length c) (marks k (j + 1) ++ xs.drop (j + 1)) ∧ w1.grownBy (w1.setCell ⟨g, j, none⟩ (.string (mtP (k + (j : Int))))) (some g) := by
     obtain ⟨q1, q2⟩ := World.ownsRow.stored h1 j (.string (mtP (k + (j : Int))))
     refine ⟨?_, q2⟩
     unfold ER
     rw [← marks_set k xs j hlt, List.length_set, hL.out, List.map_set]
     exact q1
    exact ⟨j + 1, by go_num, by go_num, hlt, ⟨hst.1⟩, ⟨(hu.out.trans (Upd.of_below hbl []) (fun _ hx => by cases hx)).trans (Upd.of_grown hst.2) (fun x hx _ => hx)⟩⟩
   case measure => simp [intOf]; omega
  ·obtain rfl : j = xs.length := by omega
   go_wp2
   go_ret
   exact ⟨rfl, by simpa using ho.out, hu.out⟩
theorem ones_cells {α : Type} {enc : α → Value} {h1 : ∀ x, (enc x).oneCell' = true} {w : World} {b : Nat} : ∀ (vss : List (List Value)) (xs : List α) (F : List Nat), Els (.one enc h1) w b vss xs F → vss = xs.map (fun x => [enc x]) ∧ F = []
 | [], [], F, h => ⟨rfl, h⟩
 | vs :: vss, x :: xs, F, h => by
  obtain ⟨G, H, rfl, ⟨h1, h2⟩, h3, _⟩ := h
  obtain ⟨h4, h5⟩ := ones_cells vss xs H h3
  exact ⟨by rw [h1, h4]; rfl, by rw [h2, h5]; rfl⟩
theorem ones_ER {α : Type} {enc : α → Value} {h1 : ∀ x, (enc x).oneCell' = true} {e : TypeId} {w : World} {b : Nat} {v : Value} {xs : List α} {F : List Nat} : (Sh.row (.one enc h1) e).ow w b [v] xs F ↔ ER enc w b e v xs ∧ F = v.ownBlock.toList := by
 constructor
 ·rintro ⟨v', vss, Gs, hv, ho, he, rfl, _⟩
  injection hv with hv _
  subst hv
  obtain ⟨rfl, rfl⟩ := ones_cells _ _ _ he
  rw [ones_flat] at ho
  exact ⟨ho, by simp⟩
 ·rintro ⟨ho, rfl⟩
  exact ⟨v, _, [], rfl, by rw [ones_flat]; exact ho, Els.ones enc h1 w b xs, by simp, by simp⟩
def cntAll {α : Type} (cnt : α → Nat) : List α → Nat
 | [] => 0
 | x :: xs => cnt x + cntAll cnt xs
def markAll {α : Type} (mk : α → Int → α) (cnt : α → Nat) : List α → Int → List α
 | [], _ => []
 | x :: xs, k => mk x k :: markAll mk cnt xs (k + cnt x)
theorem markAll_len {α : Type} (mk : α → Int → α) (cnt : α → Nat) : ∀ (xs : List α) (k : Int), (markAll mk cnt xs k).length = xs.length
 | [], _ => rfl
 | x :: xs, k => by simp [markAll, markAll_len mk cnt xs]
theorem cntAll_snoc {α : Type} (cnt : α → Nat) : ∀ (xs : List α) (x : α), cntAll cnt (xs ++ [x]) = cntAll cnt xs + cnt x
 | [], x => by simp [cntAll]
 | y :: xs, x => by simp only [List.cons_append, cntAll, cntAll_snoc cnt xs]; omega
theorem markAll_snoc {α : Type} (mk : α → Int → α) (cnt : α → Nat) : ∀ (xs : List α) (x : α) (k : Int), markAll mk cnt (xs ++ [x]) k = markAll mk cnt xs k ++ [mk x (k + cntAll cnt xs)]
 | [], x, k => by simp [markAll, cntAll]
 | y :: xs, x, k => by
  simp only [List.cons_append, markAll, markAll_snoc mk cnt xs, cntAll]
  rw [show k + (cnt y : Int) + (cntAll cnt xs : Int) = k + ((cnt y + cntAll cnt xs : Nat) : Int) by omega]
theorem cntAll_take {α : Type} (cnt : α → Nat) (xs : List α) (j : Nat) (h : j < xs.length) : cntAll cnt (xs.take (j + 1)) = cntAll cnt (xs.take j) + cnt xs[j] := by
 rw [List.take_add_one, List.getElem?_eq_getElem h]
 exact cntAll_snoc _ _ _
theorem cntAll_le {α : Type} (cnt : α → Nat) : ∀ (xs : List α) (j : Nat), cntAll cnt (xs.take j) ≤ cntAll cnt xs
 | [], j => by simp [cntAll]
 | x :: xs, 0 => by simp [cntAll]
 | x :: xs, j + 1 => by simp only [List.take_succ_cons, cntAll]; have := cntAll_le cnt xs j; omega
def half {α : Type} (mk : α → Int → α) (cnt : α → Nat) (xs : List α) (k : Int) (j : Nat) : List α := markAll mk cnt (xs.take j) k ++ xs.drop j
theorem half_len {α : Type} (mk : α → Int → α) (cnt : α → Nat) (xs : List α) (k : Int) (j : Nat) (h : j ≤ xs.length) : (half mk cnt xs k j).length = xs.length := by
 unfold half; rw [List.length_append, markAll_len, List.length_take, List.length_drop]; omega
theorem half_get {α : Type} (mk : α → Int → α) (cnt : α → Nat) (xs : List α) (k : Int) (j : Nat) (h : j < xs.length) : (half mk cnt xs k j)[j]? = some xs[j] := by
 unfold half
 rw [List.getElem?_append_right (by rw [markAll_len, List.length_take]; omega), markAll_len, List.length_take, show j - min j xs.length = 0 by omega, List.drop_eq_getElem_cons h]
 rfl
theorem half_set {α : Type} (mk : α → Int → α) (cnt : α → Nat) (xs : List α) (k : Int) (j : Nat) (h : j < xs.length) : (half mk cnt xs k j).set j (mk xs[j] (k + cntAll cnt (xs.take j))) = half mk cnt xs k (j + 1) := by
 unfold half
 rw [List.set_append_right _ _ (by rw [markAll_len, List.length_take]; omega), markAll_len, List.length_take, show j - min j xs.length = 0 by omega, List.drop_eq_getElem_cons h, List.set_cons_zero, List.take_add_one, List.getElem?_eq_getElem h]
 rw [show xs.take j ++ (some xs[j]).toList = xs.take j ++ [xs[j]] from rfl, markAll_snoc, List.append_assoc]
 rfl
theorem half_end {α : Type} (mk : α → Int → α) (cnt : α → Nat) (xs : List α) (k : Int) : half mk cnt xs k xs.length = markAll mk cnt xs k := by unfold half; simp
theorem strs_ER {w : World} {b : Nat} {v : Value} {xs : List ByteArray} {F : List Nat} : strsS.ow w b [v] xs F ↔ ER Value.string w b 9 v xs ∧ F = v.ownBlock.toList := ones_ER
theorem own_form {α : Type} {A : Sh α} {e : TypeId} {w : World} {b : Nat} {v : Value} {xs : List α} {F : List Nat} (h : (Sh.row A e).ow w b [v] xs F) : ∃ Ad c, v = .slice Ad xs.length c := by
 obtain ⟨Ad, c, hv, _⟩ := (Sh.row A e).ord h
 injection hv with hv _
 exact ⟨Ad, c, hv⟩
section
variable {w w' : World} {b : Nat} {v av dv : Value} {ys : List S36} {F : List Nat} {j g c : Nat} {s0 : ByteArray} {n0 : List Int} {m0 : Bool} {d0 : List ByteArray} {G : List Nat}
end
theorem upd_in {F bs : List Nat} {w w1 w2 : World} (h : Upd F w w1) (k : Upd bs w1 w2) (hb : ∀ y ∈ bs, y ∈ F) : Upd F w w2 := h.trans k (fun y hy _ => hb y hy)
end Go.Proofs.YtmcdnpooclelgaaDoor.PAll
