/- What is proved: the law FnRules answers true at every code: at a drawn kind the program's rules are the specification's, each default fits its key, and at drawn words both say the same of whether they fit. No condition. -/
import Derived.Test.YtmcdnpooclelgaaDoorCards
import Derived.Test.YtmcdnpooclelgaaDoorTie
import Derived.WalkKit
import Derived.ProofKit
import Derived.OpenShut
import Derived.LaidMore
import Derived.Lay
import Derived.LaidOnce
import Derived.ShutString
import Derived.ChangeOld
import Derived.Below
import Derived.SizedLaws
import Derived.Stop.Joined
import Derived.Test.YtmcdnpooclelgaaDoorQRules21
import Derived.Test.YtmcdnpooclelgaaDoorQRules22
import Derived.Test.YtmcdnpooclelgaaDoorQRules23
namespace Go.Proofs.YtmcdnpooclelgaaDoor.fnRules
open Go.ChangeShapes Go.WideShapes Go.ChangeAt Go.RowKit
open Go.ChangeMaps (open_string shut_string)
set_option linter.unusedVariables false
open YtmcdnpooclelgaaDoorW.PrintWords PAll
def IsRow (k : IntKind) (w : World) (a : Option Addr) (len cap : Nat) (zs : List Int) : Prop :=
  (a = none ∧ len = 0 ∧ cap = 0 ∧ zs = []) ∨
  ∃ x, a = some x ∧ len ≤ cap ∧ cap ≤ maxLen ∧ zs.length = cap ∧ (∀ i, i < zs.length → w.cell? (x.add i) = some (.int k (zs.getD i 0))) ∧ ∀ n ∈ zs, (Lit.int k n).wf = true
theorem IsRow.rd {w : World} {a : Option Addr} {len cap : Nat} {zs : List Int} (h : IsRow .u8 w a len cap zs) : Rd (Value.int .u8) w a (zs.take len) ∧ (∀ z ∈ zs.take len, 0 ≤ z ∧ z ≤ 255) ∧ (zs.take len).length = len ∧ len ≤ cap ∧ cap ≤ 9223372036854775807 := by
  rcases h with ⟨rfl, rfl, rfl, rfl⟩ | ⟨x, rfl, h1, h2, h3, h4, h5⟩
  · exact ⟨fun j x hx => by simp at hx, by simp, rfl, by omega, by omega⟩
  · refine ⟨fun j y hy => ?_, fun z hz => ?_, by simp; omega, h1, by simpa [maxLen] using h2⟩
    · rw [List.getElem?_take] at hy
      split at hy
      · obtain ⟨hj, rfl⟩ := List.getElem?_eq_some_iff.1 hy
        refine ⟨x, rfl, ?_⟩
        rw [h4 j hj, List.getD_eq_getElem?_getD, List.getElem?_eq_getElem hj]; rfl
      · cases hy
    · have := h5 z (List.mem_of_mem_take hz)
      simp [Lit.wf, show IntKind.u8.min = 0 from rfl, show IntKind.u8.max = 255 from rfl] at this
      omega
theorem wWords_l0 (xs : List ByteArray) (hn : xs.length ≤ 9223372036854775807) : ∀ (d i : Nat), i + d = xs.length → Ev (fun k => laws_wWords.l0 k xs xs i) true
  | 0, i, h => Ev.unf (fun _ => some true) (fun k => by simp only [laws_wWords.l0]; rw [if_neg (by omega)]) (Ev.now _)
  | d + 1, i, h => Ev.unf (fun k => laws_wWords.l0 k xs xs ((i + 1 : Nat) : Int)) (fun k => by simp only [laws_wWords.l0]; rw [if_pos (by omega), if_pos (by omega), if_pos (by omega)]; simp only [if_true]; rw [inc (by omega)]) (wWords_l0 xs hn d (i + 1) (by omega))
theorem wWords_c (xs : List ByteArray) (hn : xs.length ≤ 1099511627776) (A B : Option Addr) (c d : Nat) (w : World) (hA : YtmcdnpooclelgaaDoorW.PrintWords.Kd.C Kd.string w A xs.length xs) (hc : xs.length ≤ c) (hB : YtmcdnpooclelgaaDoorW.PrintWords.Kd.C Kd.string w B xs.length xs) (hd : xs.length ≤ d) :
    Calls Tryd.prog 24 #[.slice A xs.length c, .slice B xs.length d] w fun e w' => e = .returned (.bool true) ∧ Below w.heap.size w w' := by
  have he : Ev (fun k => laws_wWords.f k xs xs) true := by
    unfold laws_wWords.f
    simp only [if_true]
    exact wWords_l0 xs (by omega) xs.length 0 (by omega)
  obtain ⟨K, hk⟩ := he.rounds
  refine (laws_wWords.calls K A c xs B d xs _ w hA hc hB hd hk).mono ?_
  rintro e w' ⟨rfl, n, rfl⟩
  exact ⟨rfl, pw_below_drewN (Below.refl _ _) n⟩
theorem rules_fit (kind : ByteArray) : ∀ r ∈ rulesL kind, r.f2 = true ∨ fitsL kind r.f0 r.f3 = true := by
  have h1 : rules_team.all (fun r => r.f2 || fitsL ⟨#[116, 101, 97, 109]⟩ r.f0 r.f3) = true := by decide +kernel
  have h2 : rules_berth.all (fun r => r.f2 || fitsL ⟨#[98, 101, 114, 116, 104]⟩ r.f0 r.f3) = true := by decide +kernel
  have h3 : rules_service.all (fun r => r.f2 || fitsL ⟨#[115, 101, 114, 118, 105, 99, 101]⟩ r.f0 r.f3) = true := by decide +kernel
  intro r hr
  rcases kind_cases kind with rfl | rfl | rfl | ⟨q1, q2, q3, q4⟩
  · exact Eq.mp (Bool.or_eq_true _ _) (List.all_eq_true.1 h1 r hr)
  · exact Eq.mp (Bool.or_eq_true _ _) (List.all_eq_true.1 h2 r hr)
  · exact Eq.mp (Bool.or_eq_true _ _) (List.all_eq_true.1 h3 r hr)
  · rw [q4] at hr; cases hr
set_option linter.unusedSimpArgs false
set_option maxRecDepth 100000 in
set_option maxHeartbeats 8000000 in
theorem walk (a : Option Addr) (len cap : Nat) (zs : List Int) (w : World) (w0 : IsRow .u8 w a len cap zs) :
    Calls Tryd.prog 5 #[.slice a len cap] w fun e w' => e = .returned (.bool true) ∧ Below w.heap.size w w' := by
  by_cases h : 1048576 < len
  · go_enter Tryd.func5, Tryd.ntmps5
    go_wp2
    go_ret
    exact ⟨rfl, Below.refl _ _⟩
  · obtain ⟨q1, q2, q3, q4, q5⟩ := w0.rd
    have Q := Aside0.mk q1
    have Z := Aside0.mk q2
    clear w0 q1 q2
    generalize zs.take len = ys at *
    have DF := Aside0.mk (fun w' (hb : Below w.heap.size w w') => drawFits_any w' a len cap ys (fun j x hx => by obtain ⟨ad, h1, h2⟩ := Q.out j x hx; exact ⟨ad, h1, pw_cell_below hb h2⟩) Z.out q3 q4 q5)
    go_enter Tryd.func5, Tryd.ntmps5
    go_wp2_with fail
    refine (drawRules_any w a len cap ys Q.out Z.out q3 q4 q5).mono ?_
    rintro e w1 ⟨s, rfl, hb1⟩
    have hlen := rulesL_len s
    have hfit := Aside0.mk (rules_fit s)
    have harg := Aside0.mk (rules_args s)
    have hsm := Aside0.mk (rules_small s)
    have hwd := Aside0.mk (rules_words s)
    clear Q Z
    go_wp2_with fail
    refine (implRules_any s w1).mono ?_
    rintro e w2 ⟨v2, F2, rfl, ho2, hb2⟩
    obtain ⟨A2, c2, rfl⟩ := own_form ho2
    have C2 := (rules_reads ho2).2.2
    have hl2 := (rules_reads ho2).2.1
    go_wp2_with fail
    refine (specRules_any s w2).mono ?_
    rintro e w3 ⟨v3, rfl, hR3, hb3⟩
    obtain ⟨A3, c3, rfl⟩ := Kd.R_slice hR3
    have CA := Aside0.mk (Kd.C_below C2 hb3)
    have CB := Aside0.mk (Kd.R_reads' hR3).2.2
    have B3 := Aside0.mk ((hb1.trans (hb2.mono hb1.size)).trans (hb3.mono (hb1.trans (hb2.mono hb1.size)).size))
    clear hb1 hb2 hb3 ho2 hR3 C2
    generalize rulesL s = rs at *
    go_wp2
    go_loopw [6] (fun v wr => ∃ j : Nat, v = .int .i64 j ∧ j ≤ rs.length ∧ Aside0 (Below w3.heap.size w3 wr)) (fun v _ => rs.length - (intOf v).toNat)
    case atStart => exact ⟨0, rfl, Nat.zero_le _, ⟨Below.refl _ _⟩⟩
    case round =>
      obtain ⟨j, rfl, hj, hB⟩ := hrel
      by_cases hlt : j < rs.length
      · obtain ⟨r, hrj⟩ : ∃ r, rs[j]? = some r := ⟨_, List.getElem?_eq_getElem hlt⟩
        have hrr := rdRuleAt hrj
        have hmem := List.mem_of_getElem? hrj
        have hf := hfit.out r hmem
        have ha := harg.out r hmem
        have hs := hsm.out r hmem
        have hw := hwd.out r hmem
        obtain ⟨ad, A6, c6, A8, c8, rfl, hx0, hx1, hx2, hx3, hl6, hC6, hl8, hC8⟩ := at_T36 (Kd.C_below CA.out hB.out) (j : Int) (by omega) (by omega)
        obtain ⟨bd, A7, c7, A9, c9, rfl, hy0, hy1, hy2, hy3, hl7, hC7, hl9, hC9⟩ := at_T36 (Kd.C_below CB.out hB.out) (j : Int) (by omega) (by omega)
        rw [hrr] at hx0 hx1 hx2 hx3 hl6 hC6 hl8 hC8 hy0 hy1 hy2 hy3 hl7 hC7 hl9 hC9
        rw [Int.toNat_natCast] at hx0 hx1 hx2 hx3 hy0 hy1 hy2 hy3
        obtain ⟨r0, r1, r2, r3⟩ := r
        simp only at *
        have i1 : (j : Int) < (rs.length : Int) := by omega
        have HC6 := Aside0.mk hC6
        have HC7 := Aside0.mk hC7
        have HC8 := Aside0.mk hC8
        have HC9 := Aside0.mk hC9
        clear hrr hmem hrj hC6 hC7 hC8 hC9
        go_upto_region 11 with (fail)
        have FC := fun p : BW wr => wWords_c r3 (by omega) A8 A9 c8 c9 p.w' (Kd.C_below HC8.out p.h) hl8 (Kd.C_below HC9.out p.h) hl9
        have p0 := fun p : BW wr => p.cell hx0
        have p1 := fun p : BW wr => p.cell hx1
        have p2 := fun p : BW wr => p.cell hx2
        have p3 := fun p : BW wr => p.cell hx3
        have o0 := fun p : BW wr => p.cell hy0
        have o1 := fun p : BW wr => p.cell hy1
        have o2 := fun p : BW wr => p.cell hy2
        have o3 := fun p : BW wr => p.cell hy3
        refine wp_region_below (by kernel_rfl) (by kernel_rfl) ?_
        repeat ((with_reducible refine wpQuiet_step ?_); (with_reducible intro K hK); go_simp; first | ((with_reducible refine hK _ ?_); clear hK K) | ((with_reducible refine quiet_off (fun h => ?_) ?_); exact h; (with_reducible refine hK _ ?_); clear hK K) | (apply Exists.intro; refine ⟨fun _ => ?_, hK _ ?_⟩; (first | (go_at_call 24; exact BW.calls (FC _))); clear hK K))
        with_reducible refine wpQuiet_nil ?_
        intro wn hw'
        obtain ⟨⟨wm, hBn⟩, hwm⟩ := hw'
        simp only at hwm
        subst hwm
        clear FC p0 p1 p2 p3 o0 o1 o2 o3
        have Bm := Aside0.mk (hB.out.trans (hBn.mono hB.out.size))
        replace hx0 := pw_cell_below hBn hx0
        replace hx1 := pw_cell_below hBn hx1
        replace hx2 := pw_cell_below hBn hx2
        replace hx3 := pw_cell_below hBn hx3
        replace hy1 := pw_cell_below hBn hy1
        have D6 := Aside0.mk (Kd.C_below HC6.out hBn)
        have D7 := Aside0.mk (Kd.C_below HC7.out hBn)
        have D8 := Aside0.mk (Kd.C_below HC8.out hBn)
        clear hBn HC6 HC7 HC8 HC9 hy0 hy2 hy3 hB
        go_wp2
        go_loopw [7] (fun v wk => ∃ k : Nat, v = .int .i64 k ∧ k ≤ r1.length ∧ Aside0 (Below wn.heap.size wn wk)) (fun v _ => r1.length - (intOf v).toNat)
        case atStart => exact ⟨0, rfl, Nat.zero_le _, ⟨Below.refl _ _⟩⟩
        case round =>
          obtain ⟨k, rfl, hk, hBk⟩ := hrel
          have zx1 := pw_cell_below hBk.out hx1
          by_cases hkl : k < r1.length
          · have zy1 := pw_cell_below hBk.out hy1
            obtain ⟨a6, h6, e6⟩ := Kd.at_int (Kd.C_below D6.out hBk.out) (k : Int) (by omega) (by omega)
            obtain ⟨a7, h7, e7⟩ := Kd.at_int (Kd.C_below D7.out hBk.out) (k : Int) (by omega) (by omega)
            subst h6
            subst h7
            rw [Int.toNat_natCast] at e6 e7
            have i3 : (k : Int) < (r1.length : Int) := by omega
            generalize rd r1 (k : Int) = ty at *
            go_upto_region 16 with (fail)
            have p1 := fun p : BW wr => p.cell zx1
            have p2 := fun p : BW wr => p.cell zy1
            have p3 := fun p : BW wr => p.cell e6
            have p4 := fun p : BW wr => p.cell e7
            refine wp_region_below (by kernel_rfl) (by kernel_rfl) ?_
            repeat ((with_reducible refine wpQuiet_step ?_); (with_reducible intro K hK); go_simp; first | ((with_reducible refine hK _ ?_); clear hK K) | ((with_reducible refine quiet_off (fun h => ?_) ?_); exact h; (with_reducible refine hK _ ?_); clear hK K) | (apply Exists.intro; refine ⟨fun _ => ?_, hK _ ?_⟩; (fail); clear hK K))
            with_reducible refine wpQuiet_nil ?_
            intro wq hw'
            obtain ⟨⟨wm, hBq⟩, hwm⟩ := hw'
            simp only at hwm
            subst hwm
            have Bq := Aside0.mk (hBk.out.trans (hBq.mono hBk.out.size))
            clear p1 p2 p3 p4 hBq
            go_wp2
            go_roundw
            case rel => exact ⟨k + 1, by go_num, hkl, Bq⟩
            case measure => simp [intOf]; omega
          · obtain rfl : k = r1.length := by omega
            have zx0 := pw_cell_below hBk.out hx0
            have zx2 := pw_cell_below hBk.out hx2
            have zx3 := pw_cell_below hBk.out hx3
            have E8 := Aside0.mk (Kd.C_below D8.out hBk.out)
            have Bk := Aside0.mk (Bm.out.trans (hBk.out.mono Bm.out.size))
            clear hx0 hx1 hx2 hx3 hy1 D6 D7 D8 hBk Bm
            cases r2 with
            | true =>
              go_upto_region 18 with (fail)
              have p0 := fun p : BW wr => p.cell zx0
              have p2 := fun p : BW wr => p.cell zx2
              have p3 := fun p : BW wr => p.cell zx3
              refine wp_region_below (by kernel_rfl) (by kernel_rfl) ?_
              repeat ((with_reducible refine wpQuiet_step ?_); (with_reducible intro K hK); go_simp; first | ((with_reducible refine hK _ ?_); clear hK K) | ((with_reducible refine quiet_off (fun h => ?_) ?_); exact h; (with_reducible refine hK _ ?_); clear hK K) | (apply Exists.intro; refine ⟨fun _ => ?_, hK _ ?_⟩; (fail); clear hK K))
              with_reducible refine wpQuiet_nil ?_
              intro wq hw'
              obtain ⟨⟨wm, hBq⟩, hwm⟩ := hw'
              simp only at hwm
              subst hwm
              have Bq := Aside0.mk (Bk.out.trans (hBq.mono Bk.out.size))
              clear p0 p2 p3 hBq
              go_wp2
              go_roundw
              case rel => exact ⟨j + 1, by go_num, hlt, Bq⟩
              case measure => simp [intOf]; omega
            | false =>
              have hft : fitsL s r0 r3 = true := by rcases hf with h | h <;> simp_all
              go_upto_region 18 with (fail)
              have FC := fun p : BW wr => fits_c s r0 A8 c8 r3 p.w' (Kd.C_below E8.out p.h) hl8 (fun x hx => by have := hw x hx; omega)
              rw [hft] at FC
              have p0 := fun p : BW wr => p.cell zx0
              have p2 := fun p : BW wr => p.cell zx2
              have p3 := fun p : BW wr => p.cell zx3
              refine wp_region_below (by kernel_rfl) (by kernel_rfl) ?_
              repeat ((with_reducible refine wpQuiet_step ?_); (with_reducible intro K hK); go_simp; first | ((with_reducible refine hK _ ?_); clear hK K) | ((with_reducible refine quiet_off (fun h => ?_) ?_); exact h; (with_reducible refine hK _ ?_); clear hK K) | (apply Exists.intro; refine ⟨fun _ => ?_, hK _ ?_⟩; (first | (go_at_call 21; exact BW.calls (FC _))); clear hK K))
              with_reducible refine wpQuiet_nil ?_
              intro wq hw'
              obtain ⟨⟨wm, hBq⟩, hwm⟩ := hw'
              simp only at hwm
              subst hwm
              have Bq := Aside0.mk (Bk.out.trans (hBq.mono Bk.out.size))
              clear p0 p2 p3 hBq FC
              go_wp2
              go_roundw
              case rel => exact ⟨j + 1, by go_num, hlt, Bq⟩
              case measure => simp [intOf]; omega
      · obtain rfl : j = rs.length := by omega
        have Bw := Aside0.mk (B3.out.trans (hB.out.mono B3.out.size))
        go_wp2_with fail
        refine (DF.out wr Bw.out).mono ?_
        rintro e w5 ⟨kd, key, ws, B, d, rfl, hwl, hd, hws, hC, hb5⟩
        have B5 := Aside0.mk (Bw.out.trans (hb5.mono Bw.out.size))
        have HC := Aside0.mk hC
        clear hb5 hC
        go_wp2_with fail
        refine (fits_c kd key B d ws w5 HC.out hd (fun x hx => by have := hws x hx; omega)).mono ?_
        rintro e w6 ⟨rfl, hb6⟩
        have B6 := Aside0.mk (B5.out.trans (hb6.mono B5.out.size))
        have HD := Aside0.mk (Kd.C_below HC.out hb6)
        clear hb6
        go_wp2_with fail
        refine (specFits_any kd key B d ws w6 HD.out).mono ?_
        rintro e w7 ⟨rfl, hb7⟩
        have B7 := Aside0.mk (B6.out.trans (hb7.mono B6.out.size))
        clear hb7
        generalize fitsL kd key ws = fb at *
        go_wp2
        go_ret
        exact ⟨by simp, B7.out⟩
theorem own : ownKnob Tryd.prog.godebug = none := by kernel_rfl
theorem laidOut : laidOutB Tryd.prog = true := by kernel_rfl
set_option maxRecDepth 100000 in
theorem door_met (os : Os) (args : Array Value) : laidMetH Tryd.prog Rows.fnRulesRow.laid ((World.laidAll Tryd.prog os Rows.fnRulesRow.laid).forCall (fun _ _ => 0) ⟨#[], args, []⟩).memory := by
  rw [MakeChecks.laidMetH_plain _ _ _ (by kernel_rfl)]
  exact laidMet_laidAll _ (by kernel_rfl) (by kernel_rfl)
set_option maxRecDepth 100000 in
theorem lifted (os : Os) (started : os.Started) (H : Type) (enc : TypeId × Value → H) :
    ReturnsInHanded {} Tryd.checked os 5 .any (fun w args => (Rows.fnRulesSpec.pre enc Tryd.prog Tryd.f5 [] false w args ∧ laidMetH Tryd.prog Rows.fnRulesRow.laid w) ∧ sizedMet enc Tryd.prog Tryd.f5 (OpenSpec.ofChange Rows.fnRulesSpec) false w args) (Rows.fnRulesSpec.post enc Tryd.prog Tryd.f5 false true false false) := by
  refine deep_of_change (C := Tryd.checked) (X := fun w _ => laidMetH Tryd.prog Rows.fnRulesRow.laid w) own started (by kernel_rfl) Tryd.func5
    (ChangeSpec.witness_shaped (enc := enc) (C := Tryd.checked) (os := os) (X := fun w _ => laidMetH Tryd.prog Rows.fnRulesRow.laid w) false (World.laidAll Tryd.prog os Rows.fnRulesRow.laid) #[.slice none 0 0] 8 rfl (World.shaped_of_ZipB (by kernel_rfl) (by kernel_rfl)) (by kernel_rfl) (by kernel_rfl) (by kernel_rfl) (door_met os _)) ?_
  intro W base args ds gs before hval0 hW hcnd hsz0 hsh _
  have hsz : (DataW.weightsEach Tryd.prog (Tryd.f5.params.toList ++ Rows.fnRulesSpec.plain.varTypes Tryd.prog) (ds ++ gs)).all (· ≤ reachBytes) = true := hsz0
  have hval : ∀ (j : Nat) t v, Tryd.f5.params[j]? = some t → args[j]? = some v → Value.okWide Tryd.prog W .any base t v := hval0
  have hW' := hW
  obtain ⟨p, q, hA0, hV, rfl, hfz, hnd⟩ := hW
  have hA : DataW.TrodAll enc Tryd.prog W 0 (fun _ => true) true Tryd.f5.params.toList args.toList ds p := hA0
  rw [Tryd.params5] at hA hval hsz
  obtain ⟨v0, vs0, d0, ds0, p0, q0, hargs, rfl, rfl, h0, r0⟩ := trodAll_cons hA
  obtain ⟨rfl, rfl, rfl⟩ := trodAll_nil r0
  obtain rfl : args = #[v0] := by cases args; simp_all
  obtain ⟨rfl, rfl⟩ := trodVars_none hV
  obtain ⟨a0, len0, cap0, rfl⟩ := okWide_slice Tryd.underlying32 (hval 0 32 v0 rfl rfl)
  have k0 := h0
  have lt0 : ∀ x ∈ p0, x.block < W.heap.size := by obtain ⟨m, hm⟩ := k0; exact DataW.trod_lt m _ _ _ hm
  obtain ⟨z0, w0⟩ : ∃ zs, IsRow .u8 W a0 len0 cap0 zs := by
    obtain ⟨fuel, hf⟩ := h0
    rcases open_ints Tryd.underlying32 Tryd.underlying5 (by kernel_rfl) hf with ⟨hcs, _⟩ | ⟨x, l, c, zs, hcs, _, hl, hm, hz, _, hcell, hwz⟩
    · simp [Value.cells] at hcs
      obtain ⟨rfl, rfl, rfl⟩ := hcs
      exact ⟨[], .inl ⟨rfl, rfl, rfl, rfl⟩⟩
    · simp [Value.cells] at hcs
      obtain ⟨rfl, rfl, rfl⟩ := hcs
      exact ⟨zs, .inr ⟨_, rfl, hl, hm, by simpa using hz, hcell, hwz⟩⟩
  clear hA0 hval0 hsz0 hsz
  refine (walk a0 len0 cap0 z0 W w0).mono fun e W' ⟨he, bel⟩ => ?_
  subst he
  exact ⟨_, rfl, _, _, _, [], _, [], hW', trodAll_mk1 (shut_bool Tryd.underlying4 _), (trodAll_cons_mk (Below.trod laidOut (by kernel_rfl) (of_decide_eq_true (by kernel_rfl)) k0 bel lt0) trodAll_mk0), rfl, bel.frame _, fun h => by cases h⟩
theorem over : Rows.fnRulesRow.holds Tryd.pinned (OpenSpec.ofChange Rows.fnRulesSpec) :=
  OpenClaim.holds_of_wide 5 Tryd.f5 rfl rfl rfl rfl rfl rfl rfl ⟨rfl, rfl, rfl, rfl, rfl⟩ rfl rfl rfl rfl rfl (by kernel_rfl) Tryd.func5 (by kernel_rfl)
    (of_decide_eq_true (by kernel_rfl)) (by unfold Func.isWrapper; first | (rw [if_pos (by decide +kernel)]; kernel_rfl) | (rw [if_neg (by decide +kernel)]; exact ⟨rfl, rfl⟩))
    (fun os started H enc _ => lifted os started H enc)
theorem card : Rows.FnRulesCardSaid :=
  Claim7.holds_tied_plain_at .later [] Rows.fnRulesCard.laidKinds true Rows.fnRulesCard.stood.harness false
    over (fun _ h => by cases h) (by kernel_rfl) (fun _ h => by cases h) fnRules_row_tie rfl ⟨rfl, rfl⟩ (by kernel_rfl) rfl
    (fun f fn hf hfn => by
      obtain rfl : f = 5 := Option.some.inj ((show Tryd.prog.funcNamed "loop.example/wharfsheet/laws.FnRules" = some 5 by kernel_rfl).symm.trans hf) |>.symm
      obtain rfl : fn = Tryd.f5 := (Option.some.inj (Tryd.func5.symm.trans hfn)).symm
      exact ⟨by kernel_rfl, fun j t ht => by
        rw [Tryd.params5] at ht
        have hs : ∀ t ∈ [32], Tryd.prog.wantsStandIn t = false := by
          intro t ht
          simp only [List.mem_cons, List.mem_nil_iff, or_false] at ht
          rcases ht with rfl
          kernel_rfl
        exact hs t (List.mem_of_getElem? (by simpa using ht))⟩)
    (by kernel_rfl)
end Go.Proofs.YtmcdnpooclelgaaDoor.fnRules
namespace Go.Proofs.YtmcdnpooclelgaaDoor
theorem fnRules_card : Rows.FnRulesCardSaid := fnRules.card
#print axioms fnRules_card
end Go.Proofs.YtmcdnpooclelgaaDoor
