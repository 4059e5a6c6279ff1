import Derived.Test.YtjjmmjgkdmnbcaaKm
import Derived.Deep.DeepCutAuto
import Derived.Deep.CutBlock
namespace Go.Proofs.Ytjjmmjgkdmnbcaa
open Go.RowKit Go.Proofs.YtjjmmjgkdmnbcaaW.PrintWords
set_option maxHeartbeats 400000 in
theorem l1Bare_any (c : Int) (w : World) : Calls Try.prog 17 #[.int .u8 c] w fun e w' => e = .returned (.bool (bareP c)) ∧ w = w' := by
  go_enter Try.func17, Try.ntmps17
  go_wp2
  all_goals (go_ret; refine ⟨ret_bool ?_, rfl⟩; unfold bareP)
  all_goals (simp [*]; try omega)
theorem infoU8 : (Try.prog.info? 5).map (fun i => (i.zero, i.size, i.bytes)) = some (some (.int .u8 0), 1, 1) := by kernel_rfl
set_option maxHeartbeats 1000000 in
theorem specSheetWord_any (s : ByteArray) (w : World) (hs : s.size ≤ 1048576) :
    Calls Try.prog 7 #[.string s] w fun e w' => e = .returned (.string (wordP s)) ∧ Below w.heap.size w w' := by
  go_enter Try.func7, Try.ntmps7
  go_wp2
  go_loop [3, 4] (fun b i => ∃ (k : Nat) (q : Bool), k ≤ s.size ∧ i = .int .i64 k ∧ b = .bool q ∧ Aside0 ((q && (from_ s k).all bareP) = (decide (0 < s.size) && (from_ s 0).all bareP))) (fun _ i => s.size - (intOf i).toNat)
  case atStart => exact ⟨0, _, Nat.zero_le _, rfl, rfl, ⟨by simp⟩⟩
  case round =>
    obtain ⟨k, q, hk, rfl, rfl, hq⟩ := hrel
    by_cases hlt : k < s.size
    · have hb := bt_cast s k
      go_wp2_with (go_at_call 17; refine (l1Bare_any _ _).mono ?_; rintro e w' ⟨rfl, rfl⟩)
      all_goals
        go_round
        case rel => exact ⟨k + 1, _, hlt, by go_num, rfl, ⟨by have := hq.out; rw [from_cons s k hlt] at this; first | simpa using this | simp_all⟩⟩
        case measure => simp [intOf]; omega
    · obtain rfl : k = s.size := by omega
      have hq2 : q = (decide (0 < s.size) && (from_ s 0).all bareP) := by have := hq.out; rw [from_nil s _ (Nat.le_refl _)] at this; simpa using this
      clear hq
      cases q with
      | true =>
        have Hw : Aside0 (wordP s = s) := ⟨by unfold wordP; rw [if_pos hq2.symm]⟩
        clear hq2
        go_wp2
        go_ret
        exact ⟨congrArg (fun z => Ending.returned (.string z)) Hw.out.symm, Below.refl _ _⟩
      | false =>
        have Hw : Aside0 (wordP s = strOfNums ([34] ++ (from_ s 0).flatMap escP ++ [34])) := ⟨by unfold wordP; rw [if_neg (by rw [← hq2]; simp)]⟩
        clear hq2
        go_wp2
        go_loopw [5, 7] (fun v i wr => ∃ (k : Nat) (acc : List Int), k ≤ s.size ∧ i = .int .i64 k ∧ Aside0 (acc.length ≤ 1 + 3 * k) ∧ Aside0 (acc ++ (from_ s k).flatMap escP = [34] ++ (from_ s 0).flatMap escP) ∧ Aside0 (NR wr w.heap.size 5 .u8 v acc) ∧ Below w.heap.size w wr) (fun _ i _ => s.size - (intOf i).toNat)
        case atStart =>
          refine ⟨0, [34], Nat.zero_le _, rfl, ⟨by simp⟩, ⟨rfl⟩, ⟨?_⟩, ?_⟩
          · exact NR.lit w w.heap.size 5 .u8 [34] (Nat.le_refl _) (by simp)
          · exact (Below.refl _ _).alloc (Nat.le_refl _) _
        case round =>
          obtain ⟨k, acc, hk2, rfl, hl, hE, ho, hB⟩ := hrel
          by_cases hlt : k < s.size
          · have hb := bt_cast s k
            obtain ⟨c0, c1⟩ := bt_range s k
            have hF : Aside0 (from_ s k = bt s k :: from_ s (k + 1)) := ⟨from_cons s k hlt⟩
            generalize hc : bt s k = c at *
            clear hc
            go_upto_region 13 with (fail)
            go_cut [54] (fun v wc => v = .bool (selfP c) ∧ wc = wr)
            case first =>
              go_wp2
              all_goals (go_meet; refine ⟨congrArg Value.bool ?_, rfl⟩; unfold selfP; simp [*]; try omega)
            case rest =>
              obtain ⟨rfl, rfl⟩ := hcut
              cases hself : selfP c with
              | true =>
                have hesc : Aside0 (escP c = [c]) := ⟨if_pos hself⟩
                clear hself
                go_wp2_with (at_builtin; refine NR.app 1 [c] (.tmp 55) (.tmp 59) 31 5 ho.out hB ?aL rfl rfl Try.underlying31 infoU8 (by decide) (by decide) hB.size rfl rfl ?_; (case aL => have := hl.out; simp; omega); intro v1 w1 Ho1 hb1 hg1 hat1; clear hg1 hat1)
                go_roundw
                case rel => exact ⟨k + 1, acc ++ [c], hlt, by go_num, ⟨by have := hl.out; simp; omega⟩, ⟨by have := hE.out; rw [hF.out, List.flatMap_cons, hesc.out] at this; simpa using this⟩, Ho1, hb1⟩
                case measure => simp [intOf]; omega
              | false =>
                have hesc : Aside0 (escP c = [92, bt hexs (c / 16), bt hexs (c % 16)]) := ⟨if_neg (by rw [hself]; simp)⟩
                clear hself
                have wD : IntKind.u8.wrap (c.tdiv 16) = c / 16 := by rw [Int.tdiv_eq_ediv_of_nonneg c0]; simp [IntKind.wrap, IntKind.bits]; omega
                have wM : c.tmod 16 = c % 16 := Int.tmod_eq_emod_of_nonneg c0
                obtain ⟨D, eD⟩ : ∃ D, D = c / 16 := ⟨_, rfl⟩
                obtain ⟨M, eM⟩ : ∃ M, M = c % 16 := ⟨_, rfl⟩
                have D0 : 0 ≤ D := by omega
                have D1 : D < 16 := by omega
                have M0 : 0 ≤ M := by omega
                have M1 : M < 16 := by omega
                rw [← eD] at wD hesc
                rw [← eM] at wM hesc
                have hxD := hexs_at D
                have hxM := hexs_at M
                clear eD eM
                go_wp2
                go_region_law (refine NR.app_step 1 [92, bt hexs D, bt hexs M] (.tmp 61) (.tmp 74) 31 5 (NR.drew ho.out) (below_drew hB) ?aL rfl rfl Try.underlying31 infoU8 (by decide) (by decide) hB.size rfl rfl ?_; (case aL => have := hl.out; simp; omega); intro v1 w1 Ho1 hb1 hg1 hat1; clear hg1 hat1)
                all_goals
                  go_wp2
                  go_roundw
                  case rel => exact ⟨k + 1, acc ++ [92, bt hexs D, bt hexs M], hlt, by go_num, ⟨by have := hl.out; simp; omega⟩, ⟨by have := hE.out; rw [hF.out, List.flatMap_cons, hesc.out] at this; simpa using this⟩, Ho1, hb1⟩
                  case measure => simp [intOf]; omega
          · obtain rfl : k = s.size := by omega
            have hfin : Aside0 (strOfNums (acc ++ [34]) = wordP s) := ⟨by have := hE.out; rw [from_nil s _ (Nat.le_refl _)] at this; rw [Hw.out, ← this]; simp⟩
            go_wp2_with (at_builtin; refine NR.app 1 [34] (.tmp 76) (.tmp 77) 31 5 ho.out hB ?aL rfl rfl Try.underlying31 infoU8 (by decide) (by decide) hB.size rfl rfl ?_; (case aL => have := hl.out; simp; omega); intro v1 w1 Ho1 hb1 hg1 hat1; have Hst := own_string (P := Try.prog) Try.underlying31 Try.underlying5 Try.underlying9 Ho1.out; clear hg1 hat1)
            go_ret
            exact ⟨congrArg (fun z => Ending.returned (.string z)) hfin.out, hb1⟩
theorem implBare_any (c : Int) (w : World) : Calls Try.prog 18 #[.int .u8 c] w fun e w' => e = .returned (.bool (bareP c)) ∧ w = w' := by
  go_enter Try.func18, Try.ntmps18
  go_wp2
  all_goals (go_ret; refine ⟨ret_bool ?_, rfl⟩; unfold bareP)
  all_goals (first | rfl | (simp [*]; done) | (simp [*]; omega) | omega | trace_state)
theorem implSelf_any (c : Int) (w : World) : Calls Try.prog 19 #[.int .u8 c] w fun e w' => e = .returned (.bool (selfP c)) ∧ w = w' := by
  go_enter Try.func19, Try.ntmps19
  go_wp2
  all_goals (go_ret; refine ⟨ret_bool ?_, rfl⟩; unfold selfP)
  all_goals (first | rfl | (simp [*]; done) | (simp [*]; omega) | omega | trace_state)
set_option maxHeartbeats 1000000 in
theorem implSheetWord_any (s : ByteArray) (w : World) (hs : s.size ≤ 1048576) :
    Calls Try.prog 8 #[.string s] w fun e w' => e = .returned (.string (wordP s)) ∧ Below w.heap.size w w' := by
  go_enter Try.func8, Try.ntmps8
  go_wp2
  go_loop [3, 4, 12] (fun b _ i => ∃ (k : Nat) (q : Bool), k ≤ s.size ∧ i = .int .i64 k ∧ b = .bool q ∧ Aside0 ((q && (from_ s k).all bareP) = (decide (0 < s.size) && (from_ s 0).all bareP))) (fun _ _ i => s.size - (intOf i).toNat)
  case atStart => exact ⟨0, _, Nat.zero_le _, rfl, rfl, ⟨by rw [bytes_empty]⟩⟩
  case round =>
    obtain ⟨k, q, hk, rfl, rfl, hq⟩ := hrel
    by_cases hlt : k < s.size
    · have hb := bt_cast s k
      go_wp2_with (go_at_call 18; refine (implBare_any _ _).mono ?_; rintro e w' ⟨rfl, rfl⟩)
      all_goals
        go_round
        case rel => exact ⟨k + 1, _, hlt, by go_num, rfl, ⟨by have := hq.out; rw [from_cons s k hlt] at this; first | simpa using this | simp_all⟩⟩
        case measure => simp [intOf]; omega
    · obtain rfl : k = s.size := by omega
      have hq2 : q = (decide (0 < s.size) && (from_ s 0).all bareP) := by have := hq.out; rw [from_nil s _ (Nat.le_refl _)] at this; simpa using this
      clear hq
      cases q with
      | true =>
        have Hw : Aside0 (wordP s = s) := ⟨by unfold wordP; rw [if_pos hq2.symm]⟩
        clear hq2
        go_wp2
        go_ret
        exact ⟨ret_str Hw.out.symm, Below.refl _ _⟩
      | false =>
        have Hw : Aside0 (wordP s = strOfNums ([34] ++ (from_ s 0).flatMap escP ++ [34])) := ⟨by unfold wordP; rw [if_neg (by rw [← hq2]; simp)]⟩
        clear hq2
        go_wp2
        go_loopw [5, 6, 7, 28] (fun v _ _ i wr => ∃ (k : Nat) (acc : List Int), k ≤ s.size ∧ i = .int .i64 k ∧ Aside0 (acc.length ≤ 1 + 3 * k) ∧ Aside0 (acc ++ (from_ s k).flatMap escP = [34] ++ (from_ s 0).flatMap escP) ∧ Aside0 (NR wr w.heap.size 5 .u8 v acc) ∧ Below w.heap.size w wr) (fun _ _ _ i _ => s.size - (intOf i).toNat)
        case atStart =>
          refine ⟨0, [34], Nat.zero_le _, rfl, ⟨by simp⟩, ⟨rfl⟩, ⟨?_⟩, ?_⟩
          · exact NR.lit w w.heap.size 5 .u8 [34] (Nat.le_refl _) (by simp)
          · exact (Below.refl _ _).alloc (Nat.le_refl _) _
        case round =>
          obtain ⟨k, acc, hk2, rfl, hl, hE, ho, hB⟩ := hrel
          by_cases hlt : k < s.size
          · have hb := bt_cast s k
            obtain ⟨c0, c1⟩ := bt_range s k
            have hF : Aside0 (from_ s k = bt s k :: from_ s (k + 1)) := ⟨from_cons s k hlt⟩
            generalize hc : bt s k = c at *
            clear hc
            cases hself : selfP c with
            | true =>
              have hesc : Aside0 (escP c = [c]) := ⟨if_pos hself⟩
              go_wp2_with (first | (go_at_call 19; refine (implSelf_any _ _).mono ?_; rintro e w' ⟨rfl, rfl⟩) | (at_builtin; refine NR.app 1 [c] (.tmp 36) (.tmp 38) 31 5 ho.out hB ?aL rfl rfl Try.underlying31 infoU8 (by decide) (by decide) hB.size rfl rfl ?_; (case aL => have := hl.out; simp; omega); intro v1 w1 Ho1 hb1 hg1 hat1; clear hg1 hat1))
              go_roundw
              case rel => exact ⟨k + 1, acc ++ [c], hlt, by go_num, ⟨by have := hl.out; simp; omega⟩, ⟨by have := hE.out; rw [hF.out, List.flatMap_cons, hesc.out] at this; simpa using this⟩, Ho1, hb1⟩
              case measure => simp [intOf]; omega
            | false =>
              have hesc : Aside0 (escP c = [92, bt hexs (c / 16), bt hexs (c % 16)]) := ⟨if_neg (by rw [hself]; simp)⟩
              have wM : Go.bits .and .u8 c 15 = c % 16 := and_15 c c0 c1
              obtain ⟨D, eD⟩ : ∃ D, D = c / 16 := ⟨_, rfl⟩
              obtain ⟨M, eM⟩ : ∃ M, M = c % 16 := ⟨_, rfl⟩
              have D0 : 0 ≤ D := by omega
              have D1 : D < 16 := by omega
              have M0 : 0 ≤ M := by omega
              have M1 : M < 16 := by omega
              have wD : c / 16 = D := eD.symm
              rw [← eD, ← eM] at hesc
              rw [← eM] at wM
              have hxD := hexs_at D
              have hxM := hexs_at M
              clear eD eM
              go_wp2_with (go_at_call 19; refine (implSelf_any _ _).mono ?_; rintro e w' ⟨rfl, rfl⟩)
              go_region_law (refine NR.app_step 1 [92, bt hexs D, bt hexs M] (.tmp 40) (.tmp 47) 31 5 (NR.drew ho.out) (below_drew hB) ?aL rfl rfl Try.underlying31 infoU8 (by decide) (by decide) hB.size rfl rfl ?_; (case aL => have := hl.out; simp; omega); intro v1 w1 Ho1 hb1 hg1 hat1; clear hg1 hat1)
              all_goals
                go_wp2
                go_roundw
                case rel => exact ⟨k + 1, acc ++ [92, bt hexs D, bt hexs M], hlt, by go_num, ⟨by have := hl.out; simp; omega⟩, ⟨by have := hE.out; rw [hF.out, List.flatMap_cons, hesc.out] at this; simpa using this⟩, Ho1, hb1⟩
                case measure => simp [intOf]; omega
          · obtain rfl : k = s.size := by omega
            have hfin : Aside0 (strOfNums (acc ++ [34]) = wordP s) := ⟨by have := hE.out; rw [from_nil s _ (Nat.le_refl _)] at this; rw [Hw.out, ← this]; simp⟩
            go_wp2_with (at_builtin; refine NR.app 1 [34] (.tmp 50) (.tmp 51) 31 5 ho.out hB ?aL rfl rfl Try.underlying31 infoU8 (by decide) (by decide) hB.size rfl rfl ?_; (case aL => have := hl.out; simp; omega); intro v1 w1 Ho1 hb1 hg1 hat1; have Hst := own_string (P := Try.prog) Try.underlying31 Try.underlying5 Try.underlying9 Ho1.out; clear hg1 hat1)
            go_ret
            exact ⟨ret_str hfin.out, hb1⟩
end Go.Proofs.Ytjjmmjgkdmnbcaa
