import Derived.Test.YtjjmmjgkdmnbcaaKa
import Derived.Test.YtjjmmjgkdmnbcaaKq
import Derived.Test.YtjjmmjgkdmnbcaaShelf
namespace Go.Proofs.Ytjjmmjgkdmnbcaa
open Go.RowKit Go.Proofs.YtjjmmjgkdmnbcaaW.PrintWords
theorem hex_ix : ∀ n : Fin 256, Lib.indexByte [48, 49, 50, 51, 52, 53, 54, 55, 56, 57, 97, 98, 99, 100, 101, 102] (n.val.toUInt8) = hexP (n.val : Int) := by decide +kernel
theorem hex_ix' (c : Int) (h0 : 0 ≤ c) (h1 : c ≤ 255) : Lib.indexByte [48, 49, 50, 51, 52, 53, 54, 55, 56, 57, 97, 98, 99, 100, 101, 102] c.toNat.toUInt8 = hexP c := by
  have := hex_ix ⟨c.toNat, by omega⟩
  simp only [Int.toNat_of_nonneg h0] at this; exact this
theorem hexOf_any (c : Int) (w : World) (h0 : 0 ≤ c) (h1 : c ≤ 255) : Calls Try.prog 33 #[.int .u8 c] w fun e w' => e = .returned (.int .i64 (hexP c)) ∧ w = w' := by
  have H := Lib.hid (hex_ix' c h0 h1)
  go_enter Try.func33, Try.ntmps33
  go_wp2_with (go_at_call 34; refine (Try.strings_IndexByte _ _ _).mono ?_; rintro e w' ⟨rfl, rfl⟩)
  go_ret
  exact ⟨ret_int64 H.out, rfl⟩
theorem l1Hex_any (c : Int) (w : World) (h0 : 0 ≤ c) (h1 : c ≤ 255) : Calls Try.prog 30 #[.int .u8 c] w fun e w' => e = .returned (.int .i64 (hexP c)) ∧ w = w' := by
  go_enter Try.func30, Try.ntmps30
  go_wp2
  all_goals (go_ret; refine ⟨ret_int64 ?_, rfl⟩; unfold hexP)
  all_goals (split <;> (try split) <;> omega)
theorem wrap8_in {i : Int} (h0 : 0 ≤ i) (h1 : i ≤ 255) : IntKind.u8.wrap i = i := by simp [IntKind.wrap, IntKind.bits, IntKind.signed]; omega
theorem ret_pair {a a' : ByteArray} {b b' : Int} (h : (a, b) = (a', b')) : Ending.returned (.tuple #[.string a, .int .i64 b]) = .returned (.tuple #[.string a', .int .i64 b']) := by injection h with h1 h2; rw [h1, h2]
def badHex (s : ByteArray) (k : Nat) : Bool := decide ((s.size : Int) ≤ (k : Int) + 2) || decide (hexP (bt s ((k + 1 : Nat) : Int)) < 0) || decide (hexP (bt s ((k + 2 : Nat) : Int)) < 0)
theorem quotP_badHex (s : ByteArray) (k : Nat) (acc : List Int) (n : Int) (hk : k < s.size) (hc : bt s k = 92) (hb : badHex s k = true) : quotP (from_ s k) acc n = none := by
  rw [from_cons s k hk, hc]
  by_cases h1 : s.size ≤ k + 2
  · exact quotP_hex_short _ _ _ (by rw [from_len]; omega)
  · rw [from_cons s (k + 1) (by omega), show k + 1 + 1 = k + 2 from rfl, from_cons s (k + 2) (by omega)]
    refine quotP_hex_no _ _ _ _ _ ?_
    simp only [badHex, Bool.or_eq_true, decide_eq_true_eq] at hb
    rcases hb with (hb | hb) | hb
    · omega
    · exact .inl hb
    · exact .inr hb
theorem quotP_goodHex (s : ByteArray) (k : Nat) (acc : List Int) (n : Int) (hk : k < s.size) (hc : bt s k = 92) (hb : badHex s k = false) :
    quotP (from_ s k) acc n = quotP (from_ s (k + 3)) (acc ++ [16 * hexP (bt s ((k + 1 : Nat) : Int)) + hexP (bt s ((k + 2 : Nat) : Int))]) (n + 3) ∧ k + 2 < s.size ∧ 0 ≤ hexP (bt s ((k + 1 : Nat) : Int)) ∧ 0 ≤ hexP (bt s ((k + 2 : Nat) : Int)) := by
  simp only [badHex, Bool.or_eq_false_iff, decide_eq_false_iff_not] at hb
  obtain ⟨⟨h1, h2⟩, h3⟩ := hb
  refine ⟨?_, by omega, by omega, by omega⟩
  rw [from_cons s k hk, hc, from_cons s (k + 1) (by omega), show k + 1 + 1 = k + 2 from rfl, from_cons s (k + 2) (by omega)]
  exact quotP_hex _ _ _ _ _ (by omega) (by omega)
set_option maxRecDepth 100000 in
set_option maxHeartbeats 1000000 in
theorem l1Quoted_any (s : ByteArray) (w : World) (hs : s.size ≤ 2097152) :
    Calls Try.prog 20 #[.string s] w fun e w' => e = .returned (.tuple #[.string (quotR s 0).1, .int .i64 (quotR s 0).2]) ∧ Below w.heap.size w w' := by
  go_enter Try.func20, Try.ntmps20
  go_wp2
  go_loopw [4, 5] (fun v i wr => ∃ (k : Nat) (acc : List Int), k ≤ s.size ∧ i = .int .i64 k ∧ Aside0 (acc.length ≤ k) ∧ Aside0 (unq (quotP (from_ s k) acc k) = quotR s 0) ∧ Aside0 (NR wr w.heap.size 5 .u8 v acc) ∧ Below w.heap.size w wr) (fun _ i _ => s.size - (intOf i).toNat)
  case atStart =>
    refine ⟨0, [], Nat.zero_le _, rfl, ⟨by simp⟩, ⟨rfl⟩, ⟨NR.lit w w.heap.size 5 .u8 [] (Nat.le_refl _) (by simp)⟩, (Below.refl _ _).alloc (Nat.le_refl _) _⟩
  case round =>
    obtain ⟨k, acc, hk, rfl, hl, hE, ho, hB⟩ := hrel
    by_cases hlt : k < s.size
    · have hb := bt_cast s k
      obtain ⟨c0, c1⟩ := bt_range s k
      have hF : Aside0 (from_ s k = bt s k :: from_ s (k + 1)) := ⟨from_cons s k hlt⟩
      by_cases h34 : bt s k = 34
      · have hfin : Aside0 ((strOfNums acc, (k : Int) + 1) = quotR s 0) := ⟨by rw [← hE.out, hF.out, h34, quotP_end]; rfl⟩
        have e1 : (bt s k == 34) = true := beq_iff_eq.2 h34
        clear h34
        have Hst := own_string (P := Try.prog) Try.underlying31 Try.underlying5 Try.underlying9 ho.out
        go_wp2
        go_ret2
        exact ⟨ret_pair hfin.out, hB⟩
      · have e1 : (bt s k == 34) = false := beq_eq_false_iff_ne.2 h34
        by_cases h92 : bt s k = 92
        · have e2 : (bt s k == 92) = true := beq_iff_eq.2 h92
          have H92 := Lib.hid h92
          clear h92 h34
          have hb1 := bt_cast s (k + 1)
          have hb2 := bt_cast s (k + 2)
          go_upto_region 9 with (fail)
          go_cut [47] (fun v wc => v = .bool (badHex s k) ∧ wc = wr)
          case first =>
            obtain ⟨p0, p1⟩ := bt_range s ((k + 1 : Nat) : Int)
            obtain ⟨q0, q1⟩ := bt_range s ((k + 2 : Nat) : Int)
            have hB1 : Aside0 (badHex s k = (decide ((s.size : Int) ≤ (k : Int) + 2) || decide (hexP (bt s ((k + 1 : Nat) : Int)) < 0) || decide (hexP (bt s ((k + 2 : Nat) : Int)) < 0))) := ⟨rfl⟩
            generalize badHex s k = Bd at *
            generalize bt s ((k + 1 : Nat) : Int) = x1 at *
            generalize bt s ((k + 2 : Nat) : Int) = x2 at *
            go_wp2_with (go_at_call 30; refine (l1Hex_any _ _ (by assumption) (by assumption)).mono ?_; rintro e w' ⟨rfl, rfl⟩)
            all_goals (go_meet; refine ⟨congrArg Value.bool ?_, rfl⟩; rw [hB1.out])
            all_goals (simp [*]; try omega)
          case rest =>
            obtain ⟨rfl, rfl⟩ := hcut
            cases hbad : badHex s k with
            | true =>
              have hfin : Aside0 (((⟨#[]⟩ : ByteArray), (0 : Int)) = quotR s 0) := ⟨by rw [← hE.out, quotP_badHex s k acc k hlt H92.out hbad]; rfl⟩
              clear hbad
              go_wp2
              go_ret2
              exact ⟨ret_pair hfin.out, hB⟩
            | false =>
              obtain ⟨hq, hk2, g1, g2⟩ := quotP_goodHex s k acc k hlt H92.out hbad
              have HQ := Aside0.mk hq
              clear hq hbad
              obtain ⟨p0, p1⟩ := bt_range s ((k + 1 : Nat) : Int)
              obtain ⟨q0, q1⟩ := bt_range s ((k + 2 : Nat) : Int)
              generalize bt s ((k + 1 : Nat) : Int) = x1 at *
              generalize bt s ((k + 2 : Nat) : Int) = x2 at *
              have r1 := (hexP_range x1).2
              have r2 := (hexP_range x2).2
              have W1 : IntKind.i64.wrap (16 * hexP x1) = 16 * hexP x1 := IntWalk.i64_in _ (by omega)
              have W2 : IntKind.i64.wrap (16 * hexP x1 + hexP x2) = 16 * hexP x1 + hexP x2 := IntWalk.i64_in _ (by omega)
              have W3 : IntKind.u8.wrap (16 * hexP x1 + hexP x2) = 16 * hexP x1 + hexP x2 := wrap8_in (by omega) (by omega)
              have K1 : IntKind.i64.wrap ((k : Int) + 1) = (k : Int) + 1 := IntWalk.i64_in _ (by omega)
              have K2 : IntKind.i64.wrap ((k : Int) + 2) = (k : Int) + 2 := IntWalk.i64_in _ (by omega)
              have K3 : ((k : Int) + 1).toNat = k + 1 := by omega
              have K4 : ((k : Int) + 2).toNat = k + 2 := by omega
              have K5 : (0 : Int) ≤ (k : Int) + 1 ∧ (k : Int) + 1 < (s.size : Int) := by omega
              have K6 : (0 : Int) ≤ (k : Int) + 2 ∧ (k : Int) + 2 < (s.size : Int) := by omega
              go_wp2
              go_region_law (first | (refine NR.app_step 1 [16 * hexP x1 + hexP x2] (.tmp 48) (.tmp 62) 31 5 (NR.drew ho.out) (below_drew hB) ?aL rfl rfl Try.underlying31 infoU8 (by decide) (by decide) hB.size rfl rfl ?_; (case aL => have := hl.out; simp; omega); intro v1 w1 Ho1 hb1 hg1 hat1; clear hg1 hat1) | (go_simp; go_at_call 30; refine (l1Hex_any _ _ (by assumption) (by assumption)).mono ?_; rintro e w' ⟨rfl, rfl⟩))
              all_goals
                clear K1 K2 K3 K4 K5 K6 W1 W2 W3
                go_wp2
                go_roundw
                case rel => exact ⟨k + 3, acc ++ [16 * hexP x1 + hexP x2], hk2, by go_num, ⟨by have := hl.out; simp; omega⟩, ⟨by rw [← hE.out, HQ.out, show ((k + 3 : Nat) : Int) = (k : Int) + 3 from by omega]⟩, Ho1, hb1⟩
                case measure => simp [intOf]; omega
        · have e2 : (bt s k == 92) = false := beq_eq_false_iff_ne.2 h92
          go_upto_region 13 with (fail)
          go_cut [66] (fun v wc => v = .bool (selfP (bt s k)) ∧ wc = wr)
          case first =>
            have e3 : (bt s k != 34) = true := bne_iff_ne.2 h34
            have e4 : (bt s k != 92) = true := bne_iff_ne.2 h92
            generalize bt s k = c at *
            go_wp2
            all_goals (go_meet; refine ⟨congrArg Value.bool ?_, rfl⟩; unfold selfP; simp [*]; try omega)
          case rest =>
            obtain ⟨rfl, rfl⟩ := hcut
            cases hself : selfP (bt s k) with
            | true =>
              have HQ : Aside0 (quotP (from_ s k) acc k = quotP (from_ s (k + 1)) (acc ++ [bt s k]) ((k : Int) + 1)) := ⟨by rw [hF.out, quotP_self _ _ _ _ hself]⟩
              clear hself h34 h92
              generalize bt s k = c at *
              go_wp2_with (at_builtin; refine NR.app 1 [c] (.tmp 77) (.tmp 81) 31 5 ho.out hB ?aL rfl rfl Try.underlying31 infoU8 (by decide) (by decide) hB.size rfl rfl ?_; (case aL => have := hl.out; simp; omega); intro v1 w1 Ho1 hb1 hg1 hat1; clear hg1 hat1)
              go_roundw
              case rel => exact ⟨k + 1, acc ++ [c], hlt, by go_num, ⟨by have := hl.out; simp; omega⟩, ⟨by rw [← hE.out, HQ.out, show ((k + 1 : Nat) : Int) = (k : Int) + 1 from by omega]⟩, Ho1, hb1⟩
              case measure => simp [intOf]; omega
            | false =>
              have hfin : Aside0 (((⟨#[]⟩ : ByteArray), (0 : Int)) = quotR s 0) := ⟨by rw [← hE.out, hF.out, quotP_no _ _ _ _ h34 h92 hself]; rfl⟩
              clear hself h34 h92
              go_wp2
              go_ret2
              exact ⟨ret_pair hfin.out, hB⟩
    · obtain rfl : k = s.size := by omega
      have hfin : Aside0 (((⟨#[]⟩ : ByteArray), (0 : Int)) = quotR s 0) := ⟨by rw [← hE.out, from_nil s _ (Nat.le_refl _), quotP_nil]; rfl⟩
      go_wp2
      go_ret2
      exact ⟨ret_pair hfin.out, hB⟩
set_option maxRecDepth 100000 in
set_option maxHeartbeats 1000000 in
theorem quoted_any (s : ByteArray) (w : World) (hs : s.size ≤ 2097152) (hs1 : 1 ≤ s.size) :
    Calls Try.prog 31 #[.string s] w fun e w' => e = .returned (.tuple #[.string (quotR s 1).1, .int .i64 (quotR s 1).2]) ∧ Below w.heap.size w w' := by
  go_enter Try.func31, Try.ntmps31
  go_wp2
  go_loopw [4, 5, 6] (fun v i _ wr => ∃ (k : Nat) (acc : List Int), k ≤ s.size ∧ i = .int .i64 k ∧ Aside0 (acc.length ≤ k) ∧ Aside0 (unq (quotP (from_ s k) acc k) = quotR s 1) ∧ Aside0 (NR wr w.heap.size 5 .u8 v acc) ∧ Below w.heap.size w wr) (fun _ i _ _ => s.size - (intOf i).toNat)
  case atStart =>
    refine ⟨1, [], hs1, rfl, ⟨by simp⟩, ⟨rfl⟩, ⟨NR.nil w w.heap.size 5 .u8⟩, Below.refl _ _⟩
  case round =>
    obtain ⟨k, acc, hk, rfl, hl, hE, ho, hB⟩ := hrel
    by_cases hlt : k < s.size
    · have hb := bt_cast s k
      obtain ⟨c0, c1⟩ := bt_range s k
      have hF : Aside0 (from_ s k = bt s k :: from_ s (k + 1)) := ⟨from_cons s k hlt⟩
      by_cases h34 : bt s k = 34
      · have hfin : Aside0 ((strOfNums acc, (k : Int) + 1) = quotR s 1) := ⟨by rw [← hE.out, hF.out, h34, quotP_end]; rfl⟩
        have e1 : (bt s k == 34) = true := beq_iff_eq.2 h34
        clear h34
        have Hst := own_string (P := Try.prog) Try.underlying31 Try.underlying5 Try.underlying9 ho.out
        go_wp2
        go_ret2
        exact ⟨ret_pair hfin.out, hB⟩
      · have e1 : (bt s k == 34) = false := beq_eq_false_iff_ne.2 h34
        by_cases h92 : bt s k = 92
        · have e2 : (bt s k == 92) = true := beq_iff_eq.2 h92
          have H92 := Lib.hid h92
          clear h92 h34
          have hb1 := bt_cast s (k + 1)
          have hb2 := bt_cast s (k + 2)
          go_upto_region 10 with (fail)
          go_cut [46] (fun v wc => v = .bool (badHex s k) ∧ wc = wr)
          case first =>
            obtain ⟨p0, p1⟩ := bt_range s ((k + 1 : Nat) : Int)
            obtain ⟨q0, q1⟩ := bt_range s ((k + 2 : Nat) : Int)
            have hB1 : Aside0 (badHex s k = (decide ((s.size : Int) ≤ (k : Int) + 2) || decide (hexP (bt s ((k + 1 : Nat) : Int)) < 0) || decide (hexP (bt s ((k + 2 : Nat) : Int)) < 0))) := ⟨rfl⟩
            generalize badHex s k = Bd at *
            generalize bt s ((k + 1 : Nat) : Int) = x1 at *
            generalize bt s ((k + 2 : Nat) : Int) = x2 at *
            go_wp2_with (go_at_call 33; refine (hexOf_any _ _ (by assumption) (by assumption)).mono ?_; rintro e w' ⟨rfl, rfl⟩)
            all_goals (go_meet; refine ⟨congrArg Value.bool ?_, rfl⟩; rw [hB1.out])
            all_goals (simp [*]; try omega)
          case rest =>
            obtain ⟨rfl, rfl⟩ := hcut
            cases hbad : badHex s k with
            | true =>
              have hfin : Aside0 (((⟨#[]⟩ : ByteArray), (0 : Int)) = quotR s 1) := ⟨by rw [← hE.out, quotP_badHex s k acc k hlt H92.out hbad]; rfl⟩
              clear hbad
              go_wp2
              go_ret2
              exact ⟨ret_pair hfin.out, hB⟩
            | false =>
              obtain ⟨hq, hk2, g1, g2⟩ := quotP_goodHex s k acc k hlt H92.out hbad
              have HQ := Aside0.mk hq
              clear hq hbad
              obtain ⟨p0, p1⟩ := bt_range s ((k + 1 : Nat) : Int)
              obtain ⟨q0, q1⟩ := bt_range s ((k + 2 : Nat) : Int)
              generalize bt s ((k + 1 : Nat) : Int) = x1 at *
              generalize bt s ((k + 2 : Nat) : Int) = x2 at *
              have r1 := (hexP_range x1).2
              have r2 := (hexP_range x2).2
              have W1 : IntKind.i64.wrap (16 * hexP x1) = 16 * hexP x1 := IntWalk.i64_in _ (by omega)
              have W2 : IntKind.i64.wrap (16 * hexP x1 + hexP x2) = 16 * hexP x1 + hexP x2 := IntWalk.i64_in _ (by omega)
              have W3 : IntKind.u8.wrap (16 * hexP x1 + hexP x2) = 16 * hexP x1 + hexP x2 := wrap8_in (by omega) (by omega)
              have K1 : IntKind.i64.wrap ((k : Int) + 1) = (k : Int) + 1 := IntWalk.i64_in _ (by omega)
              have K2 : IntKind.i64.wrap ((k : Int) + 2) = (k : Int) + 2 := IntWalk.i64_in _ (by omega)
              have K3 : ((k : Int) + 1).toNat = k + 1 := by omega
              have K4 : ((k : Int) + 2).toNat = k + 2 := by omega
              have K5 : (0 : Int) ≤ (k : Int) + 1 ∧ (k : Int) + 1 < (s.size : Int) := by omega
              have K6 : (0 : Int) ≤ (k : Int) + 2 ∧ (k : Int) + 2 < (s.size : Int) := by omega
              go_wp2
              go_region_law (first | (refine NR.app_step 1 [16 * hexP x1 + hexP x2] (.tmp 47) (.tmp 61) 31 5 (NR.drew ho.out) (below_drew hB) ?aL rfl rfl Try.underlying31 infoU8 (by decide) (by decide) hB.size rfl rfl ?_; (case aL => have := hl.out; simp; omega); intro v1 w1 Ho1 hb1 hg1 hat1; clear hg1 hat1) | (go_simp; go_at_call 33; refine (hexOf_any _ _ (by assumption) (by assumption)).mono ?_; rintro e w' ⟨rfl, rfl⟩))
              all_goals
                clear K1 K2 K3 K4 K5 K6 W1 W2 W3
                go_wp2
                go_roundw
                case rel => exact ⟨k + 3, acc ++ [16 * hexP x1 + hexP x2], hk2, by go_num, ⟨by have := hl.out; simp; omega⟩, ⟨by rw [← hE.out, HQ.out, show ((k + 3 : Nat) : Int) = (k : Int) + 3 from by omega]⟩, Ho1, hb1⟩
                case measure => simp [intOf]; omega
        · have e2 : (bt s k == 92) = false := beq_eq_false_iff_ne.2 h92
          cases hself : selfP (bt s k) with
          | true =>
            have HQ : Aside0 (quotP (from_ s k) acc k = quotP (from_ s (k + 1)) (acc ++ [bt s k]) ((k : Int) + 1)) := ⟨by rw [hF.out, quotP_self _ _ _ _ hself]⟩
            clear h34 h92
            generalize bt s k = c at *
            go_wp2_with (first | (go_at_call 19; refine (implSelf_any _ _).mono ?_; rintro e w' ⟨rfl, rfl⟩) | (at_builtin; refine NR.app 1 [c] (.tmp 68) (.tmp 70) 31 5 ho.out hB ?aL rfl rfl Try.underlying31 infoU8 (by decide) (by decide) hB.size rfl rfl ?_; (case aL => have := hl.out; simp; omega); intro v1 w1 Ho1 hb1 hg1 hat1; clear hg1 hat1))
            go_roundw
            case rel => exact ⟨k + 1, acc ++ [c], hlt, by go_num, ⟨by have := hl.out; simp; omega⟩, ⟨by rw [← hE.out, HQ.out, show ((k + 1 : Nat) : Int) = (k : Int) + 1 from by omega]⟩, Ho1, hb1⟩
            case measure => simp [intOf]; omega
          | false =>
            have hfin : Aside0 (((⟨#[]⟩ : ByteArray), (0 : Int)) = quotR s 1) := ⟨by rw [← hE.out, hF.out, quotP_no _ _ _ _ h34 h92 hself]; rfl⟩
            clear h34 h92
            generalize bt s k = c at *
            go_wp2_with (go_at_call 19; refine (implSelf_any _ _).mono ?_; rintro e w' ⟨rfl, rfl⟩)
            go_ret2
            exact ⟨ret_pair hfin.out, hB⟩
    · obtain rfl : k = s.size := by omega
      have hfin : Aside0 (((⟨#[]⟩ : ByteArray), (0 : Int)) = quotR s 1) := ⟨by rw [← hE.out, from_nil s _ (Nat.le_refl _), quotP_nil]; rfl⟩
      go_wp2
      go_ret2
      exact ⟨ret_pair hfin.out, hB⟩
end Go.Proofs.Ytjjmmjgkdmnbcaa
