import Derived.Test.YtjjmmjgkdmnbcaaKs
import Derived.Deep.LoopGhost
namespace Go.Proofs.Ytjjmmjgkdmnbcaa
open Go.RowKit Go.Proofs.YtjjmmjgkdmnbcaaW.PrintWords
theorem infoStr : (Try.prog.info? 9).map (fun i => (i.zero, i.size, i.bytes)) = some (some (.string ⟨#[]⟩), 1, 16) := by kernel_rfl
def CutPost (s : ByteArray) (w : World) (e : Ending) (w' : World) : Prop := ∃ (r : Option (List ByteArray)) (v : Value), WR s 0 [] r ∧ e = .returned (.tuple #[v, .bool r.isSome]) ∧ ER Value.string w' w.heap.size 9 v (r.getD []) ∧ Below w.heap.size w w'
def WordIs (s : ByteArray) (k : Nat) (v7 v8 : Value) : Prop := v7 = .string (wordAt s k).1 ∧ v8 = .int .i64 ((wordAt s k).2 : Nat)
theorem wordAt_quote (s : ByteArray) (k : Nat) (h : bt s k = 34) : wordAt s k = match quotP (from_ s (k + 1)) [] 0 with | some (a, n) => (strOfNums a, n.toNat + 1) | none => (⟨#[]⟩, 0) := by unfold wordAt; rw [if_pos h]; rfl
theorem wordAt_bare (s : ByteArray) (k : Nat) (h : bt s k ≠ 34) : wordAt s k = (s.extract k (k + runP s k), runP s k) := by unfold wordAt; rw [if_neg h]
theorem wordAt_quot_two (s : ByteArray) (k : Nat) (hk : k < s.size) (h : bt s k = 34) : WordIs s k (.string (quotR (s.extract k s.size) 1).1) (.int .i64 (quotR (s.extract k s.size) 1).2) := by
  unfold WordIs
  rw [quot_two s k hk, wordAt_quote s k h]
  cases hq : quotP (from_ s (k + 1)) [] 0 with
  | none => exact ⟨rfl, rfl⟩
  | some q =>
    obtain ⟨a, n⟩ := q
    have := quotP_place _ _ _ _ _ _ (Nat.le_refl _) hq
    refine ⟨rfl, congrArg (Value.int .i64) ?_⟩
    show n + 1 = ((n.toNat + 1 : Nat) : Int)
    omega
theorem wordAt_le (s : ByteArray) (k : Nat) (hk : k < s.size) : k + (wordAt s k).2 ≤ s.size := by
  by_cases h : bt s k = 34
  · rw [wordAt_quote s k h]
    cases hq : quotP (from_ s (k + 1)) [] 0 with
    | none => show k + 0 ≤ _; omega
    | some q =>
      obtain ⟨a, n⟩ := q
      have := quotP_place _ _ _ _ _ _ (Nat.le_refl _) hq
      rw [from_len] at this
      show k + (n.toNat + 1) ≤ _
      omega
  · rw [wordAt_bare s k h]
    have := runP_le s k
    show k + runP s k ≤ _
    omega
theorem slice_run (s : ByteArray) (k j : Nat) (h : k + j ≤ s.size) (wx : World) : (Instr.slice 9 (.string s) (some (.int .i64 (k : Int))) (some (.int .i64 ((k : Int) + (j : Int)))) none).run Try.prog wx = .ok (.string (s.extract k (k + j))) wx := by
  rw [run_slice_string (P := Try.prog) (w := wx) 9 s .i64 .i64 (k : Int) ((k : Int) + (j : Int)) Try.underlying9 (by omega) (by omega) (by omega)]
  rw [Int.toNat_natCast, show ((k : Int) + (j : Int)).toNat = k + j from by omega]
set_option maxRecDepth 100000 in
set_option maxHeartbeats 1000000 in
theorem cut_any (s : ByteArray) (w : World) (hs : s.size ≤ 2097152) : Calls Try.prog 21 #[.string s] w (CutPost s w) := by
  go_enter Try.func21, Try.ntmps21
  go_wp2
  go_loopw [4, 5, 6, 7, 8] (fun v i _ _ _ wr => ∃ (k : Nat) (acc : List ByteArray), k ≤ s.size ∧ i = .int .i64 k ∧ acc.length ≤ 8 ∧ Aside0 (∀ r, WR s k acc r → WR s 0 [] r) ∧ Aside0 (ER Value.string wr w.heap.size 9 v acc) ∧ Below w.heap.size w wr) (fun _ i _ _ _ _ => s.size - (intOf i).toNat)
  case atStart => exact ⟨0, [], Nat.zero_le _, rfl, by simp, ⟨fun r h => h⟩, ⟨ER.nil _ _ _ _⟩, Below.refl _ _⟩
  case round =>
    obtain ⟨k, acc, hk, rfl, ha, hE, ho, hB⟩ := hrel
    by_cases hlt : k < s.size
    · have hb := bt_cast s k
      obtain ⟨c0, c1⟩ := bt_range s k
      by_cases h32 : bt s k = 32
      · have HE : Aside0 (∀ r, WR s (k + 1) acc r → WR s 0 [] r) := ⟨fun r h => hE.out r (.go (wstep_space hlt h32) h)⟩
        have e1 : (bt s k == 32) = true := beq_iff_eq.2 h32
        clear h32 hE
        go_wp2
        go_roundw
        case rel => exact ⟨k + 1, acc, hlt, by go_num, ha, HE, ho, hB⟩
        case measure => simp [intOf]; omega
      · have e1 : (bt s k == 32) = false := beq_eq_false_iff_ne.2 h32
        by_cases h35 : bt s k = 35
        · have HE : Aside0 (WR s 0 [] (some acc)) := ⟨hE.out _ (.stop (wstep_hash hlt h35))⟩
          have e2 : (bt s k == 35) = true := beq_iff_eq.2 h35
          clear h35 h32 hE
          go_wp2
          go_ret2
          exact ⟨some acc, _, HE.out, rfl, ho.out, hB⟩
        · have e2 : (bt s k == 35) = false := beq_eq_false_iff_ne.2 h35
          have H32 := Lib.hid h32
          have H35 := Lib.hid h35
          clear h32 h35
          go_upto_if 23 with (fail)
          go_cut [7, 8] (fun v7 v8 wc => Aside0 (WordIs s k v7 v8) ∧ Aside0 (ER Value.string wc w.heap.size 9 u4 acc) ∧ Below w.heap.size w wc)
          case first =>
            by_cases h34 : bt s k = 34
            · have e3 : (bt s k == 34) = true := beq_iff_eq.2 h34
              have HW : Aside0 (WordIs s k (.string (quotR (s.extract k s.size) 1).1) (.int .i64 (quotR (s.extract k s.size) 1).2)) := ⟨wordAt_quot_two s k hlt h34⟩
              clear h34
              rw [e3]
              go_wp2_with (go_at_call 31; refine (quoted_any _ _ (by simp [ByteArray.size_extract]; omega) (by simp [ByteArray.size_extract]; omega)).mono ?_; rintro e w1 ⟨rfl, hb1⟩)
              go_meet
              case rel => exact ⟨HW, ⟨ho.out.below hb1⟩, hB.trans (hb1.mono hB.size)⟩
            · have e3 : (bt s k == 34) = false := beq_eq_false_iff_ne.2 h34
              have HW : Aside0 (WordIs s k (.string (s.extract k (k + runP s k))) (.int .i64 ((runP s k : Nat) : Int))) := ⟨by unfold WordIs; rw [wordAt_bare s k h34]; exact ⟨rfl, rfl⟩⟩
              clear h34
              rw [e3]
              go_wp2
              go_loopg [8] s.size (fun g n w' => w' = wr ∧ ∃ j : Nat, n = .int .i64 j ∧ k + j ≤ s.size ∧ g + j = s.size ∧ Aside0 (j + runP s (k + j) = runP s k))
              case atStart => exact ⟨rfl, 0, rfl, by omega, by omega, ⟨by simp⟩⟩
              case round =>
                obtain ⟨rfl, j, rfl, hj, hg, hr⟩ := hrel
                have HS := slice_run s k j hj
                by_cases hjl : k + j < s.size
                · have hbj := bt_cast s (k + j)
                  have hyes : Aside0 (bareP (bt s ((k + j : Nat) : Int)) = true → j + 1 + runP s (k + (j + 1)) = runP s k) := ⟨fun hbb => by have := hr.out; rw [runP_yes s (k + j) hjl hbb] at this; rw [← this, Nat.add_assoc k j 1]; omega⟩
                  have hno : Aside0 (bareP (bt s ((k + j : Nat) : Int)) = false → runP s k = j) := ⟨fun hbb => by have := hr.out; rw [runP_no s (k + j) hjl hbb] at this; omega⟩
                  generalize bt s ((k + j : Nat) : Int) = y at *
                  cases hbb : bareP y with
                  | true =>
                    have HR : Aside0 (j + 1 + runP s (k + (j + 1)) = runP s k) := ⟨hyes.out hbb⟩
                    clear hr HS
                    go_wp2_with (go_at_call 18; refine (implBare_any _ _).mono ?_; rintro e w' ⟨rfl, rfl⟩)
                    go_roundg (s.size - (j + 1))
                    case rel => exact ⟨rfl, j + 1, by go_num, by omega, by omega, HR⟩
                    case measure => omega
                  | false =>
                    have HR : Aside0 (runP s k = j) := ⟨hno.out hbb⟩
                    clear hr
                    go_wp2_with (go_at_call 18; refine (implBare_any _ _).mono ?_; rintro e w' ⟨rfl, rfl⟩)
                    go_meet
                    case rel => rw [HR.out] at HW; exact ⟨HW, ho, hB⟩
                · have HR : Aside0 (runP s k = j) := ⟨by have := hr.out; rw [runP_stop s (k + j) (by omega)] at this; omega⟩
                  clear hr
                  go_wp2
                  go_meet
                  case rel => rw [HR.out] at HW; exact ⟨HW, ho, hB⟩
          case rest =>
            obtain ⟨hwd, ho1, hB1⟩ := hcut
            have hle := wordAt_le s k hlt
            have hbad : Aside0 (badAt s k acc = true → WR s 0 [] none) := ⟨fun h => hE.out _ (.stop (wstep_bad hlt H32.out H35.out h))⟩
            have hgood : Aside0 (badAt s k acc = false → (0 < (wordAt s k).2 ∧ acc.length < 8) ∧ ∀ r, WR s (k + (wordAt s k).2) (acc ++ [(wordAt s k).1]) r → WR s 0 [] r) := ⟨fun h => ⟨by simp only [badAt, Bool.or_eq_false_iff, decide_eq_false_iff_not] at h; omega, fun r hr => hE.out _ (.go (wstep_word hlt H32.out H35.out h) hr)⟩⟩
            have hbd : Aside0 (badAt s k acc = (decide ((wordAt s k).2 = 0) || decide (200 < (wordAt s k).1.size) || decide (8 ≤ acc.length) || (decide (k + (wordAt s k).2 < s.size) && (bt s (k + (wordAt s k).2 : Nat) != 32) && (bt s (k + (wordAt s k).2 : Nat) != 35)))) := ⟨rfl⟩
            unfold WordIs at hwd
            generalize badAt s k acc = B at *
            generalize (wordAt s k).1 = wt at *
            generalize (wordAt s k).2 = n at *
            obtain ⟨rfl, rfl⟩ := hwd.out
            clear hwd hE ho hB
            have hbn := bt_cast s (k + n)
            obtain ⟨A4, C4, hv4, _⟩ := ER.form ho1.out
            rw [hv4] at ho1 ⊢
            clear hv4
            go_upto_region 15 with (fail)
            go_cut [85] (fun v wc2 => v = .bool B ∧ wc2 = wc)
            case first =>
              generalize bt s ((k + n : Nat) : Int) = y at *
              by_cases hn : n = 0
              · have en : (((n : Nat) : Int) == 0) = true := by simp [hn]
                have Hn := Lib.hid hn
                clear hn
                go_wp2
                go_meet
                case rel => exact ⟨congrArg Value.bool (by rw [hbd.out, decide_eq_true Hn.out]; simp), rfl⟩
              · have en : (((n : Nat) : Int) == 0) = false := by simp [hn]
                have Hb : Aside0 (B = (decide (200 < wt.size) || decide (8 ≤ acc.length) || (decide (k + n < s.size) && (y != 32) && (y != 35)))) := ⟨by rw [hbd.out, decide_eq_false hn]; simp⟩
                clear hn hbd
                have A1 : Aside0 (decide ((200 : Int) < (wt.size : Int)) = decide (200 < wt.size)) := ⟨by rw [Bool.eq_iff_iff]; simp; omega⟩
                have A2 : Aside0 (((acc.length : Int) == 8) = decide (8 ≤ acc.length)) := ⟨by rw [Bool.eq_iff_iff]; simp; omega⟩
                have A3 : Aside0 (decide ((k : Int) + (n : Int) < (s.size : Int)) = decide (k + n < s.size)) := ⟨by rw [Bool.eq_iff_iff]; simp; omega⟩
                go_wp2
                all_goals (go_meet; refine ⟨congrArg Value.bool ?_, rfl⟩; rw [Hb.out, ← A1.out, ← A2.out, ← A3.out]; clear en)
                all_goals (first | (simp [*]; done) | (simp [*]; omega) | (rw [decide_eq_false (p := (k : Int) + (n : Int) < (s.size : Int)) (by omega)]; simp))
            case rest =>
              obtain ⟨rfl, rfl⟩ := hcut
              cases B with
              | true =>
                have HB := Lib.hid (hbad.out rfl)
                clear hbad hgood hbd
                go_wp2
                go_ret2
                exact ⟨none, _, HB.out, rfl, ER.nil _ _ _ _, hB1⟩
              | false =>
                obtain ⟨⟨hn0, ha8⟩, hgo⟩ := hgood.out rfl
                have HGO := Lib.hid hgo
                clear hbad hgood hbd hgo
                go_wp2_with (at_builtin; refine ER.app (fun _ => rfl) (.string ⟨#[]⟩) 16 [wt] (.tmp 86) (.tmp 88) 25 9 ho1.out hB1 ?aL rfl rfl Try.underlying25 infoStr rfl (by decide) (by decide) hB1.size rfl rfl ?_; (case aL => simp; omega); intro v1 w1 Ho1 hb1 hg1 hat1; clear hg1 hat1)
                go_roundw
                case rel => exact ⟨k + n, acc ++ [wt], hle, by go_num, by simp; omega, ⟨HGO.out⟩, Ho1, hb1⟩
                case measure => simp [intOf]; omega
    · obtain rfl : k = s.size := by omega
      have HE : Aside0 (WR s 0 [] (some acc)) := ⟨hE.out _ (.stop (wstep_end (Nat.le_refl _)))⟩
      clear hE
      go_wp2
      go_ret2
      exact ⟨some acc, _, HE.out, rfl, ho.out, hB⟩
end Go.Proofs.Ytjjmmjgkdmnbcaa
