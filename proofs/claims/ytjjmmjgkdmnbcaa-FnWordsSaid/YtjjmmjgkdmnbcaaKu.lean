import Derived.Test.YtjjmmjgkdmnbcaaKt
namespace Go.Proofs.Ytjjmmjgkdmnbcaa
open Go.RowKit Go.Proofs.YtjjmmjgkdmnbcaaW.PrintWords
def CutS (s : ByteArray) (w : World) (e : Ending) (w' : World) : Prop := ∃ (r : Option (List ByteArray)) (v : Value), WR s 0 [] r ∧ e = .returned (.agg #[v, .bool r.isNone]) ∧ ER Value.string w' w.heap.size 9 v (r.getD []) ∧ Below w.heap.size w w'
set_option maxRecDepth 100000 in
theorem implSheetWords_any (s : ByteArray) (w : World) (hs : s.size ≤ 2097152) : Calls Try.prog 10 #[.string s] w (CutS s w) := by
  go_enter Try.func10, Try.ntmps10
  go_wp2_with (go_at_call 21; refine (cut_any _ _ hs).mono ?_; rintro e w1 ⟨r, v, hr, rfl, ho, hb⟩; obtain ⟨A, c, rfl, _⟩ := ER.form ho; have ho' := Aside0.mk ho; have hr' := Aside0.mk hr; clear ho hr; have hc0 := hb.cell (p := ⟨w.heap.size, 0, none⟩) (by simp); have hc1 := hb.cell (p := ⟨w.heap.size, 1, none⟩) (by simp); have hf0 := hb.frozen (p := ⟨w.heap.size, 0, none⟩) (by simp); have hf1 := hb.frozen (p := ⟨w.heap.size, 1, none⟩) (by simp); have hz : w.heap.size < w1.heap.size := by have := hb.size; simp at this; omega)
  have hbk : w1.heap[w.heap.size]? = some (.cells #[.slice none 0 0, .bool false] 27 (0, 0)) := (hb.block _ (by simp)).trans (blk_new w _)
  refine bodyPost_ret (results_cell_row rfl _ _ w.heap.size _ #[.slice A (r.getD []).length c, .bool r.isNone] (0, 0) _ rfl (blk_put (blk_put hbk 0 _ rfl) 1 _ rfl) Try.underlying27 rfl (by kernel_rfl)) rfl ⟨r, _, hr'.out, rfl, ?_, ?_⟩
  · exact ((ho'.out.far (by simp) _).far (by simp) _).lower (by simp)
  · exact (((Below.refl _ _).alloc (Nat.le_refl _) _).trans (hb.mono (by simp))).setCell (by simp) _ |>.setCell (by simp) _

def SpMem (w wr : World) (v : Value) (acc : List ByteArray) : Prop := wr.heap[w.heap.size]? = some (.cells #[.slice none 0 0, .bool false] 27 (0, 0)) ∧ wr.heap[w.heap.size + 1]? = some (.cells #[.slice none 0 0, .bool true] 27 (0, 0)) ∧ wr.heap[w.heap.size + 1 + 1]? = some (.cells #[v, .bool false] 27 (0, 0)) ∧ ER Value.string wr (w.heap.size + 1 + 1 + 1) 9 v acc ∧ Below w.heap.size w wr ∧ w.heap.size + 1 + 1 + 1 ≤ wr.heap.size
theorem SpMem.next {w wr w1 : World} {v : Value} {acc : List ByteArray} (h : SpMem w wr v acc) (hb : Below wr.heap.size wr w1) : SpMem w w1 v acc :=
  ⟨blk_below h.1 hb, blk_below h.2.1 hb, blk_below h.2.2.1 hb, h.2.2.2.1.below hb, h.2.2.2.2.1.trans (hb.mono h.2.2.2.2.1.size), Nat.le_trans h.2.2.2.2.2 hb.size⟩
theorem blk_two {w : World} {g : Nat} {t : TypeId} {a b : Value} (h : w.heap[g]? = some (.cells #[a, b] t (0, 0))) : w.cell? ⟨g, 0, none⟩ = some a ∧ w.cell? ⟨g, 1, none⟩ = some b ∧ w.frozen? ⟨g, 0, none⟩ = false ∧ w.frozen? ⟨g, 1, none⟩ = false :=
  ⟨(blk_cell h 0).trans rfl, (blk_cell h 1).trans rfl, blk_frozen h 0, blk_frozen h 1⟩
theorem SpMem.facts {w wr : World} {v : Value} {acc : List ByteArray} (h : SpMem w wr v acc) :
    (wr.cell? ⟨w.heap.size, 0, none⟩ = some (.slice none 0 0) ∧ wr.cell? ⟨w.heap.size, 1, none⟩ = some (.bool false) ∧ wr.frozen? ⟨w.heap.size, 0, none⟩ = false ∧ wr.frozen? ⟨w.heap.size, 1, none⟩ = false) ∧
    (wr.cell? ⟨w.heap.size + 1, 0, none⟩ = some (.slice none 0 0) ∧ wr.cell? ⟨w.heap.size + 1, 1, none⟩ = some (.bool true)) ∧
    (wr.cell? ⟨w.heap.size + 1 + 1, 0, none⟩ = some v ∧ wr.cell? ⟨w.heap.size + 1 + 1, 1, none⟩ = some (.bool false) ∧ wr.frozen? ⟨w.heap.size + 1 + 1, 0, none⟩ = false) :=
  ⟨blk_two h.1, ⟨(blk_two h.2.1).1, (blk_two h.2.1).2.1⟩, (blk_two h.2.2.1).1, (blk_two h.2.2.1).2.1, (blk_two h.2.2.1).2.2.1⟩
theorem SpMem.app {w wr w1 : World} {v v1 : Value} {acc acc' : List ByteArray} (h : SpMem w wr v acc) (hb : Below (w.heap.size + 1 + 1 + 1) wr w1) (ho : ER Value.string w1 (w.heap.size + 1 + 1 + 1) 9 v1 acc') : SpMem w (w1.setCell ⟨w.heap.size + 1 + 1, 0, none⟩ v1) v1 acc' := by
  refine ⟨?_, ?_, ?_, ho.far (by simp) _, ?_, by simpa using Nat.le_trans h.2.2.2.2.2 hb.size⟩
  · exact blk_far ((hb.block _ (by omega)).trans h.1) (by simp; omega) _
  · exact blk_far ((hb.block _ (by omega)).trans h.2.1) (by simp) _
  · exact blk_put ((hb.block _ (by omega)).trans h.2.2.1) 0 _ rfl
  · exact (h.2.2.2.2.1.trans (hb.mono (by omega))).setCell (by simp; omega) _
set_option maxRecDepth 100000 in
set_option maxHeartbeats 2000000 in
theorem specSheetWords_any (s : ByteArray) (w : World) (hs : s.size ≤ 2097152) : Calls Try.prog 9 #[.string s] w (CutS s w) := by
  go_enter Try.func9, Try.ntmps9
  go_wp2
  go_loopw [5, 6, 7, 8, 9] (fun i _ _ _ _ wr => ∃ (k : Nat) (acc : List ByteArray) (A : Option Addr) (c : Nat), k ≤ s.size ∧ i = .int .i64 k ∧ acc.length ≤ 8 ∧ Aside0 (∀ r, WR s k acc r → WR s 0 [] r) ∧ Aside0 (SpMem w wr (.slice A acc.length c) acc)) (fun i _ _ _ _ _ => s.size - (intOf i).toNat)
  case atStart =>
    refine ⟨0, [], none, 0, Nat.zero_le _, rfl, by simp, ⟨fun r h => h⟩, ⟨?_, ?_, ?_, ER.nil _ _ _ _, ?_, by simp⟩⟩
    · exact blk_alloc (blk_alloc (blk_new w _) _) _
    · exact blk_alloc (by simpa using blk_new (w.alloc _) (.cells #[.slice none 0 0, .bool true] 27)) _
    · simpa using blk_new ((w.alloc (.cells #[.slice none 0 0, .bool false] 27)).alloc (.cells #[.slice none 0 0, .bool true] 27)) (.cells #[.slice none 0 0, .bool false] 27)
    · exact (((Below.refl _ _).alloc (Nat.le_refl _) _).alloc (by simp) _).alloc (by simp; omega) _
  case round =>
    obtain ⟨k, acc, A, c, hk, rfl, ha, hE, hm⟩ := hrel
    have hmo := hm.out
    have hB := hmo.2.2.2.2.1
    obtain ⟨⟨f1, f2, f3, f4⟩, ⟨f5, f6⟩, f7, f8, f9⟩ := hmo.facts
    clear hmo
    by_cases hlt : k < s.size
    · have hb := bt_cast s k
      obtain ⟨c0, c1⟩ := bt_range s k
      by_cases h32 : bt s k = 32
      · have HE : Aside0 (∀ r, WR s (k + 1) acc r → WR s 0 [] r) := ⟨fun r h => hE.out r (.go (wstep_space hlt h32) h)⟩
        have e1 : (bt s k == 32) = true := beq_iff_eq.2 h32
        clear h32 hE
        go_wp2
        go_roundw
        case rel => exact ⟨k + 1, acc, A, c, hlt, by go_num, ha, HE, hm⟩
        case measure => simp [intOf]; omega
      · have e1 : (bt s k == 32) = false := beq_eq_false_iff_ne.2 h32
        by_cases h35 : bt s k = 35
        · have HE : Aside0 (WR s 0 [] (some acc)) := ⟨hE.out _ (.stop (wstep_hash hlt h35))⟩
          have e2 : (bt s k == 35) = true := beq_iff_eq.2 h35
          clear h35 h32 hE
          go_wp2
          refine bodyPost_ret (results_cell_row rfl _ _ w.heap.size _ #[.slice A acc.length c, .bool false] (0, 0) _ rfl (blk_put (blk_put hm.out.1 0 _ rfl) 1 _ rfl) Try.underlying27 rfl (by kernel_rfl)) rfl ⟨some acc, _, HE.out, rfl, ?_, ?_⟩
          · exact ((hm.out.2.2.2.1.far (by simp; omega) _).far (by simp; omega) _).lower (by omega)
          · exact (hB.setCell (by simp) _).setCell (by simp) _
        · have e2 : (bt s k == 35) = false := beq_eq_false_iff_ne.2 h35
          have H32 := Lib.hid h32
          have H35 := Lib.hid h35
          clear h32 h35
          go_upto_block 2 with (fail)
          go_cut [6, 7, 8, 9] (fun v6 v7 _ _ wc => ∃ n : Nat, n = (wordAt s k).2 ∧ 0 < n ∧ v6 = .string (wordAt s k).1 ∧ v7 = .int .i64 ((k : Int) + (n : Int)) ∧ Aside0 (SpMem w wc (.slice A acc.length c) acc))
          case first =>
            by_cases h34 : bt s k = 34
            · have e3 : (bt s k == 34) = true := beq_iff_eq.2 h34
              have HQ := Aside0.mk (quot_one s k hlt)
              have HW := Aside0.mk (wordAt_quote s k h34)
              have K1 : ((k : Int) + 1).toNat = k + 1 := by omega
              cases hq : quotP (from_ s (k + 1)) [] 0 with
              | none =>
                have HE : Aside0 (WR s 0 [] none) := ⟨hE.out _ (.stop (wstep_bad hlt H32.out H35.out (by unfold badAt; rw [wordAt_quote s k h34, hq]; simp)))⟩
                have HR : quotR (s.extract (k + 1) s.size) 0 = ((⟨#[]⟩ : ByteArray), 0) := by rw [HQ.out, hq]; rfl
                clear hE h34 hq HW HQ
                go_wp2_with (go_at_call 20; refine (l1Quoted_any _ _ (by simp [ByteArray.size_extract]; omega)).mono ?_; rintro e w1 ⟨rfl, hb1⟩; have hm1 := Aside0.mk (hm.out.next hb1); have hB1 := hm1.out.2.2.2.2.1; obtain ⟨⟨g1, g2, g3, g4⟩, ⟨g5, g6⟩, g7, g8, g9⟩ := hm1.out.facts)
                refine bodyPost_ret (results_cell_row rfl _ _ w.heap.size _ #[.slice none 0 0, .bool true] (0, 0) _ rfl (blk_put (blk_put hm1.out.1 0 _ rfl) 1 _ rfl) Try.underlying27 rfl (by kernel_rfl)) rfl ⟨none, _, HE.out, rfl, ER.nil _ _ _ _, ?_⟩
                exact (hB1.setCell (by simp) _).setCell (by simp) _
              | some q =>
                obtain ⟨t, m⟩ := q
                have hp := quotP_place _ _ _ _ _ _ (Nat.le_refl _) hq
                rw [from_len] at hp
                obtain ⟨hp1, hp2, _⟩ := hp
                have HR : quotR (s.extract (k + 1) s.size) 0 = (strOfNums t, m) := by rw [HQ.out, hq]; rfl
                have HW2 : Aside0 (wordAt s k = (strOfNums t, m.toNat + 1)) := ⟨by rw [HW.out, hq]⟩
                have em : (m == 0) = false := by simp; omega
                clear h34 hq HW HQ
                go_wp2_with (go_at_call 20; refine (l1Quoted_any _ _ (by simp [ByteArray.size_extract]; omega)).mono ?_; rintro e w1 ⟨rfl, hb1⟩; have hm1 := Aside0.mk (hm.out.next hb1))
                go_meet
                case rel => exact ⟨m.toNat + 1, by rw [HW2.out], by omega, by rw [HW2.out], congrArg (Value.int .i64) (by omega), hm1⟩
            · have e3 : (bt s k == 34) = false := beq_eq_false_iff_ne.2 h34
              have HW := Aside0.mk (wordAt_bare s k h34)
              clear h34
              go_wp2
              go_loopg [7] s.size (fun g n w' => w' = wr ∧ ∃ j : Nat, n = .int .i64 ((k : Int) + (j : Int)) ∧ k + j ≤ s.size ∧ g + j = s.size ∧ Aside0 (j + runP s (k + j) = runP s k))
              case atStart => exact ⟨rfl, 0, by simp, by omega, by omega, ⟨by simp⟩⟩
              case round =>
                obtain ⟨rfl, j, rfl, hj, hg, hr⟩ := hrel
                have HS := slice_run s k j hj
                have hfin : Aside0 (runP s k = j → (j = 0 → WR s 0 [] none) ∧ wordAt s k = (s.extract k (k + j), j)) := ⟨fun h => ⟨fun h0 => hE.out _ (.stop (wstep_bad hlt H32.out H35.out (by unfold badAt; rw [HW.out]; simp [h, h0]))), by rw [HW.out, h]⟩⟩
                by_cases hjl : k + j < s.size
                · have hbj := bt_cast s (k + j)
                  have hyes : Aside0 (bareP (bt s ((k + j : Nat) : Int)) = true → j + 1 + runP s (k + (j + 1)) = runP s k) := ⟨fun hbb => by have := hr.out; rw [runP_yes s (k + j) hjl hbb] at this; rw [← this, Nat.add_assoc k j 1]; omega⟩
                  have hno : Aside0 (bareP (bt s ((k + j : Nat) : Int)) = false → runP s k = j) := ⟨fun hbb => by have := hr.out; rw [runP_no s (k + j) hjl hbb] at this; omega⟩
                  generalize bt s ((k + j : Nat) : Int) = y at *
                  cases hbb : bareP y with
                  | true =>
                    have HR : Aside0 (j + 1 + runP s (k + (j + 1)) = runP s k) := ⟨hyes.out hbb⟩
                    clear hr HS hfin
                    go_wp2_with (go_at_call 17; refine (l1Bare_any _ _).mono ?_; rintro e w' ⟨rfl, rfl⟩)
                    go_roundg (s.size - (j + 1))
                    case rel => exact ⟨rfl, j + 1, by go_num, by omega, by omega, HR⟩
                    case measure => omega
                  | false =>
                    obtain ⟨hz, hww⟩ := hfin.out (hno.out hbb)
                    have HZ := Lib.hid hz
                    have HWW := Lib.hid hww
                    clear hr hyes hno hz hww hfin
                    by_cases h0 : j = 0
                    · have ej : ((k : Int) + (j : Int) == (k : Int)) = true := by simp [h0]
                      have HN := Lib.hid (HZ.out h0)
                      clear h0
                      go_wp2_with (go_at_call 17; refine (l1Bare_any _ _).mono ?_; rintro e w' ⟨rfl, rfl⟩)
                      refine bodyPost_ret (results_cell_row rfl _ _ w.heap.size _ #[.slice none 0 0, .bool true] (0, 0) _ rfl (blk_put (blk_put hm.out.1 0 _ rfl) 1 _ rfl) Try.underlying27 rfl (by kernel_rfl)) rfl ⟨none, _, HN.out, rfl, ER.nil _ _ _ _, ?_⟩
                      exact (hB.setCell (by simp) _).setCell (by simp) _
                    · have ej : ((k : Int) + (j : Int) == (k : Int)) = false := by simp; omega
                      go_wp2_with (go_at_call 17; refine (l1Bare_any _ _).mono ?_; rintro e w' ⟨rfl, rfl⟩)
                      go_meet
                      case rel => exact ⟨j, by rw [HWW.out], by omega, by rw [HWW.out], rfl, hm⟩
                · obtain ⟨hz, hww⟩ := hfin.out (by have := hr.out; rw [runP_stop s (k + j) (by omega)] at this; omega)
                  have HZ := Lib.hid hz
                  have HWW := Lib.hid hww
                  clear hr hz hww hfin
                  by_cases h0 : j = 0
                  · omega
                  · have ej : ((k : Int) + (j : Int) == (k : Int)) = false := by simp; omega
                    go_wp2
                    go_meet
                    case rel => exact ⟨j, by rw [HWW.out], by omega, by rw [HWW.out], rfl, hm⟩
          case rest =>
            obtain ⟨n, hn, hn0, rfl, rfl, hm1⟩ := hcut
            clear hm f1 f2 f3 f4 f5 f6 f7 f8 f9 hB
            have hB := hm1.out.2.2.2.2.1
            obtain ⟨⟨f1, f2, f3, f4⟩, ⟨f5, f6⟩, f7, f8, f9⟩ := hm1.out.facts
            have hle := wordAt_le s k hlt
            rw [← hn] at hle
            have hbad : Aside0 (badAt s k acc = true → WR s 0 [] none) := ⟨fun h => hE.out _ (.stop (wstep_bad hlt H32.out H35.out h))⟩
            have hgood : Aside0 (badAt s k acc = false → acc.length < 8 ∧ ∀ r, WR s (k + (wordAt s k).2) (acc ++ [(wordAt s k).1]) r → WR s 0 [] r) := ⟨fun h => ⟨by simp only [badAt, Bool.or_eq_false_iff, decide_eq_false_iff_not] at h; omega, fun r hr => hE.out _ (.go (wstep_word hlt H32.out H35.out h) hr)⟩⟩
            have hbd : Aside0 (badAt s k acc = (decide (200 < (wordAt s k).1.size) || decide (8 ≤ acc.length) || (decide (k + n < s.size) && (bt s (k + n : Nat) != 32) && (bt s (k + n : Nat) != 35)))) := ⟨by unfold badAt; rw [← hn, decide_eq_false (p := n = 0) (by omega)]; simp⟩
            rw [← hn] at hgood
            generalize badAt s k acc = B at *
            generalize (wordAt s k).1 = wt at *
            have Hn := Lib.hid hn
            clear hn hE
            have hbn := bt_cast s (k + n)
            go_upto_region 22 with (fail)
            go_cut [97] (fun v wc2 => v = .bool B ∧ wc2 = wc)
            case first =>
              generalize bt s ((k + n : Nat) : Int) = y at *
              have A1 : Aside0 (decide ((200 : Int) < (wt.size : Int)) = decide (200 < wt.size)) := ⟨by rw [Bool.eq_iff_iff]; simp; omega⟩
              have A2 : Aside0 (decide ((8 : Int) ≤ (acc.length : Int)) = decide (8 ≤ acc.length)) := ⟨by rw [Bool.eq_iff_iff]; simp; omega⟩
              have A3 : Aside0 (decide ((k : Int) + (n : Int) < (s.size : Int)) = decide (k + n < s.size)) := ⟨by rw [Bool.eq_iff_iff]; simp; omega⟩
              go_wp2
              all_goals (go_meet; refine ⟨congrArg Value.bool ?_, rfl⟩; rw [hbd.out, ← A1.out, ← A2.out, ← A3.out])
              all_goals (first | (simp [*]; done) | (simp [*]; omega) | (rw [decide_eq_false (p := (k : Int) + (n : Int) < (s.size : Int)) (by omega)]; simp))
            case rest =>
              obtain ⟨rfl, rfl⟩ := hcut
              cases B with
              | true =>
                have HB := Lib.hid (hbad.out rfl)
                clear hbad hgood hbd
                go_wp2
                refine bodyPost_ret (results_cell_row rfl _ _ w.heap.size _ #[.slice none 0 0, .bool true] (0, 0) _ rfl (blk_put (blk_put hm1.out.1 0 _ rfl) 1 _ rfl) Try.underlying27 rfl (by kernel_rfl)) rfl ⟨none, _, HB.out, rfl, ER.nil _ _ _ _, ?_⟩
                exact (hB.setCell (by simp) _).setCell (by simp) _
              | false =>
                obtain ⟨ha8, hgo⟩ := hgood.out rfl
                have HGO := Lib.hid hgo
                clear hbad hgood hbd hgo
                have hHB := Aside0.mk (Below.refl wc.heap.size wc)
                go_wp2_with (at_builtin; refine ER.app (w0 := wc) (fun _ => rfl) (.string ⟨#[]⟩) 16 [wt] (.tmp 100) (.tmp 102) 25 9 hm1.out.2.2.2.1 (Below.refl _ _) ?aL rfl rfl Try.underlying25 infoStr rfl (by decide) (by decide) hm1.out.2.2.2.2.2 rfl rfl ?_; (case aL => simp; omega); intro v1 w1 Ho1 hb1 hg1 hat1; clear hg1 hat1; obtain ⟨A1, c1, rfl, _⟩ := ER.form Ho1.out; have hm2 := Aside0.mk (hm1.out.app hb1 Ho1.out); have q7 := (blk_two ((hb1.block _ (by omega)).trans hm1.out.2.2.1)).1; have q9 := (blk_two ((hb1.block _ (by omega)).trans hm1.out.2.2.1)).2.2.1)
                go_roundw
                case rel => exact ⟨k + n, acc ++ [wt], A1, c1, hle, by go_num, by simp; omega, ⟨HGO.out⟩, ⟨by simpa using hm2.out⟩⟩
                case measure => simp [intOf]; omega
    · obtain rfl : k = s.size := by omega
      have HE : Aside0 (WR s 0 [] (some acc)) := ⟨hE.out _ (.stop (wstep_end (Nat.le_refl _)))⟩
      clear hE
      go_wp2
      refine bodyPost_ret (results_cell_row rfl _ _ w.heap.size _ #[.slice A acc.length c, .bool false] (0, 0) _ rfl (blk_put (blk_put hm.out.1 0 _ rfl) 1 _ rfl) Try.underlying27 rfl (by kernel_rfl)) rfl ⟨some acc, _, HE.out, rfl, ?_, ?_⟩
      · exact ((hm.out.2.2.2.1.far (by simp; omega) _).far (by simp; omega) _).lower (by omega)
      · exact (hB.setCell (by simp) _).setCell (by simp) _
end Go.Proofs.Ytjjmmjgkdmnbcaa
