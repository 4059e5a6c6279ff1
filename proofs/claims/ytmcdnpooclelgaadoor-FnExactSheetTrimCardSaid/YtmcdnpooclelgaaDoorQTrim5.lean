/- Texts of this claim, packed: contracts of functions and plain lemmas that the law is proved from. -/
import Derived.Deep.LoopGhost
import Derived.Deep.RegionHeld3
import Derived.Deep.RegionLaw
import Derived.Test.YtmcdnpooclelgaaDoorQTrim1
import Derived.Test.YtmcdnpooclelgaaDoorQTrim2
import Derived.Test.YtmcdnpooclelgaaDoorQTrim3
import Derived.Test.YtmcdnpooclelgaaDoorQTrim4
set_option linter.unusedVariables false
set_option linter.unusedSimpArgs false
namespace Go.Proofs.YtmcdnpooclelgaaDoor.PAll
open Go.RowKit Go.Proofs.YtmcdnpooclelgaaDoorW.PrintWords Go.Proofs.YtmcdnpooclelgaaDoorW.PrintLast Go.Proofs.YtmcdnpooclelgaaDoorW.PrintMore
attribute [local go_sem] max2_int min2_int max_two min_two max_three min_three max_four min_four   -- for this text's walks alone
set_option linter.unusedVariables false
set_option linter.unusedSimpArgs false
def laws_heldStringS.l0 : Nat → List ByteArray → Int → Int → Option (Int)
 | 0, _, _, _ => none
 | k + 1, x0, x1, x5 => if x5 < (x0.length : Int) then (if 0 ≤ x5 then ((laws_markText.f k x1).bind fun t204 => (if (rdOf ByteArray.empty x0 x5).toList = t204.toList then (laws_heldStringS.l0 k x0 (wrap64 (x1 + 1)) (wrap64 (x5 + 1))) else (some (-1)))) else (none)) else (some x1)
def laws_heldStringS.f (k : Nat) (l0 : List ByteArray) (a1 : Int) : Option (Int) := laws_heldStringS.l0 k l0 a1 0
set_option maxHeartbeats 8000000 in
set_option maxRecDepth 100000 in
theorem laws_heldStringS.calls (k : Nat) (A0 : Option Addr) (c0 : Nat) (l0 : List ByteArray) (a1 : Int) (r : Int) (w : World) (hr0 : Kd.C Kd.string w A0 l0.length l0) (hc0 : l0.length ≤ c0) (h : laws_heldStringS.f k l0 a1 = some r) :
  Calls Tryd.prog 61 #[.slice A0 l0.length c0, .int .i64 a1] w fun e w' => e = .returned (.int .i64 r) ∧ Below w.heap.size w w' := by
 have HR0 := Aside0.mk hr0
 have HC0 := Aside0.mk hc0
 clear hr0 hc0
 have HB := Aside0.mk (Below.refl w.heap.size w)
 have H : (laws_heldStringS.l0 k l0 a1 0) = some r := h
 clear h
 have H' := Aside0.mk H
 clear H
 go_enter Tryd.func61, Tryd.ntmps61
 go_wp2
 go_loopg [1, 5] k (fun kq v1 v5 w' => ∃ (x1_1 : Int) (x5_1 : Int), v1 = .int .i64 x1_1 ∧ v5 = .int .i64 x5_1 ∧ Aside0 (laws_heldStringS.l0 kq l0 x1_1 x5_1 = some r) ∧ Aside0 (kq ≤ k) ∧ Aside0 (Below w.heap.size w w'))
 case atStart => exact ⟨(a1), (0), (by first | rfl | (simp; done) | (simp [*]; done)), (by first | rfl | (simp; done) | (simp [*]; done)), H', ⟨Nat.le_refl _⟩, ⟨by repeat (first | (with_reducible first | exact HB.out | apply below_alloc | apply pw_below_drewN | apply below_drew1) | exact HB.out)⟩⟩
 case round =>
  clear H'
  try clear p2
  obtain ⟨x1_1, x5_1, rfl, rfl, HA, HK1, HB⟩ := hrel
  cases gk with
  | zero => exact absurd HA.out (by simp [laws_heldStringS.l0])
  | succ k1 =>
   have H := HA.out
   clear HA
   simp only [laws_heldStringS.l0] at H
   by_cases c3 : x5_1 < (l0.length : Int)
   ·rw [if_pos c3] at H
    have c3b0 : decide (x5_1 < (l0.length : Int)) = true := decide_eq_true c3
    clear c3
    by_cases c4 : 0 ≤ x5_1
    ·rw [if_pos c4] at H
     have c4b0 : decide (0 ≤ x5_1) = true := decide_eq_true c4
     clear c4
     replace H := Option.bind_eq_some_iff.mp H
     obtain ⟨t204, A50, H⟩ := H
     replace H : (if (rdOf ByteArray.empty l0 x5_1).toList = t204.toList then (laws_heldStringS.l0 k1 l0 (wrap64 (x1_1 + 1)) (wrap64 (x5_1 + 1))) else (some (-1))) = some r := H
     have A5 := Aside0.mk A50
     clear A50
     by_cases c6 : (rdOf ByteArray.empty l0 x5_1).toList = t204.toList
     ·rw [if_pos c6] at H
      have c6b0 : ((rdOf ByteArray.empty l0 x5_1).toList == t204.toList) = true := beq_iff_eq.mpr c6
      have c6b1 : ((rdOf ByteArray.empty l0 x5_1).toList != t204.toList) = false := bne_eq_false_iff_eq.mpr c6
      clear c6
      have H' := Aside0.mk H
      clear H
      try go_wp2
      have n0_ := Aside0.mk (below_drew1 HB.out)
      clear HB
      have HB := n0_
      clear n0_
      have p203 : 0 ≤ (x5_1 : Int) := of_decide_eq_true (by first | (with_reducible assumption) | assumption)
      have q203 : x5_1 < (l0.length : Int) := of_decide_eq_true (by first | (with_reducible assumption) | assumption)
      obtain ⟨ad203, e203, hx203_0⟩ := Kd.at_string HR0.out x5_1 p203 q203
      have hw203_0 := hx203_0
      cases e203
      (try replace hx203_0 := (HB.out.cell (World.block_lt_of_cell? w _ hx203_0)).trans hx203_0)
      replace p203 := eq_true p203
      replace q203 := eq_true q203
      refine start_ (n := 7) (S := fun w' => w'.cell? (ad203.add (x5_1).toNat) = some (.string (rdOf ByteArray.empty l0 x5_1))) (ds := []) (bz 7 0) (by kernel_rfl) rfl rfl ((by first | exact (HB.out.cell (World.block_lt_of_cell? w _ hw203_0)).trans hw203_0 | exact hw203_0)) (fun hHeld => ?_)
      generalize wr.drew = w7 at HB hx203_0 hHeld ⊢
      refine pure_ (i := 0) (N := some 12) (v := ?_) (a' := ?_) (bz 7 1) rfl rfl (by kernel_rfl) (fun _ _ _ h => h) (Or.inl ⟨by rfl, ?_⟩) ?_ ?_
      rotate_left
      ·intro w'
       go_simp
       with_reducible rfl
      rotate_left
      ·simp only [Act.put, List.setIfInBounds_toArray, List.set_cons_zero, List.set_cons_succ, i64_w, i32_w]
       rfl
      refine pure_ (i := 1) (N := some 13) (v := ?_) (a' := ?_) (bz 7 3) rfl rfl (by kernel_rfl) (fun _ _ _ h => h) (Or.inl ⟨by rfl, ?_⟩) ?_ ?_
      rotate_left
      ·intro w'
       go_simp
       with_reducible rfl
      rotate_left
      ·simp only [Act.put, List.setIfInBounds_toArray, List.set_cons_zero, List.set_cons_succ, i64_w, i32_w]
       rfl
      refine pure_ (i := 2) (N := some 14) (v := ?_) (a' := ?_) (bz 7 7) rfl rfl (by kernel_rfl) (fun _ _ _ h => h) (Or.inl ⟨by rfl, ?_⟩) ?_ ?_
      rotate_left
      ·intro w'
       go_simp
       with_reducible rfl
      rotate_left
      ·simp only [Act.put, List.setIfInBounds_toArray, List.set_cons_zero, List.set_cons_succ, i64_w, i32_w]
       rfl
      refine pure_ (i := 4) (N := some 16) (v := ?_) (a' := ?_) (bz 7 23) rfl rfl (by kernel_rfl) (fun _ _ _ h => h) (Or.inl ⟨by rfl, ?_⟩) ?_ ?_
      rotate_left
      ·intro w'
       go_simp
       with_reducible rfl
      rotate_left
      ·simp only [Act.put, List.setIfInBounds_toArray, List.set_cons_zero, List.set_cons_succ, i64_w, i32_w]
       rfl
      refine take_ (i := 3) (N := some 15) (v := ?_) (a' := ?_) (bz 7 31) rfl rfl (by kernel_rfl) (fun _ _ _ h => h) (Or.inl ⟨by rfl, ?_⟩) hHeld ?_ ?_
      rotate_left
      ·intro w' s0
       go_simp
       with_reducible rfl
      rotate_left
      ·simp only [Act.put, List.setIfInBounds_toArray, List.set_cons_zero, List.set_cons_succ, i64_w, i32_w]
       rfl
      refine one_ (i := 5) (N := some 17) (bz 7 63) rfl rfl (by kernel_rfl) (by decide) (fun K hK => ?_)
      refine goes_ Tryd.func57 (by kernel_rfl) rfl #[.int .i64 x1_1] (by rfl) rfl rfl (by (try simp only [List.map_toArray, List.map_cons, List.map_nil]); first | done | rfl | (simp only [List.length_drop, List.length_take]; rfl)) ?_
      with_reducible refine (laws_markText.calls k1 x1_1 t204 _ A5.out).mono ?_
      rintro e w8 ⟨rfl, hb⟩
      refine ⟨_, rfl, ?_⟩
      have n0_ := Aside0.mk (below_step (stB HB.out) hb)
      clear HB
      have HB := n0_
      clear n0_
      (try clear hb)
      (try clear hb2)
      (try clear hk)
      (try clear hi)
      refine hK.out _ _ ((by first | exact (HB.out.cell (World.block_lt_of_cell? w _ hw203_0)).trans hw203_0 | exact hw203_0)) (fun hHeld => ?_)
      clear hK K
      refine norm_ (a' := ?_) ?_ ?_
      rotate_left
      ·show Act.put _ (some 17) _ = _
       simp only [Act.put, List.setIfInBounds_toArray, List.set_cons_zero, List.set_cons_succ, i64_w, i32_w]
       rfl
      refine pure_ (i := 6) (N := some 18) (v := ?_) (a' := ?_) (bz 7 127) rfl rfl (by kernel_rfl) (fun _ _ _ h => h) (Or.inl ⟨by rfl, ?_⟩) ?_ ?_
      rotate_left
      ·intro w'
       go_simp
       with_reducible rfl
      rotate_left
      ·simp only [Act.put, List.setIfInBounds_toArray, List.set_cons_zero, List.set_cons_succ, i64_w, i32_w]
       rfl
      refine done_ (by kernel_rfl) ?_
      try go_wp2
      go_roundg k1
      case measure => have := HK1.out; omega
      case rel => exact ⟨(wrap64 (x1_1 + 1)), (wrap64 (x5_1 + 1)), (by first | rfl | (simp; done) | (simp [*]; done)), (by first | rfl | (simp; done) | (simp [*]; done)), H', ⟨by have := HK1.out; omega⟩, ⟨by repeat (first | (with_reducible first | exact HB.out | apply below_alloc | apply pw_below_drewN | apply below_drew1) | exact HB.out)⟩⟩
     ·rw [if_neg c6] at H
      have c6b0 : ((rdOf ByteArray.empty l0 x5_1).toList == t204.toList) = false := beq_eq_false_iff_ne.mpr c6
      have c6b1 : ((rdOf ByteArray.empty l0 x5_1).toList != t204.toList) = true := bne_iff_ne.mpr c6
      obtain rfl := Option.some.inj H
      try go_wp2
      have n0_ := Aside0.mk (below_drew1 HB.out)
      clear HB
      have HB := n0_
      clear n0_
      have p203 : 0 ≤ (x5_1 : Int) := of_decide_eq_true (by first | (with_reducible assumption) | assumption)
      have q203 : x5_1 < (l0.length : Int) := of_decide_eq_true (by first | (with_reducible assumption) | assumption)
      obtain ⟨ad203, e203, hx203_0⟩ := Kd.at_string HR0.out x5_1 p203 q203
      have hw203_0 := hx203_0
      cases e203
      (try replace hx203_0 := (HB.out.cell (World.block_lt_of_cell? w _ hx203_0)).trans hx203_0)
      replace p203 := eq_true p203
      replace q203 := eq_true q203
      refine start_ (n := 7) (S := fun w' => w'.cell? (ad203.add (x5_1).toNat) = some (.string (rdOf ByteArray.empty l0 x5_1))) (ds := []) (bz 7 0) (by kernel_rfl) rfl rfl ((by first | exact (HB.out.cell (World.block_lt_of_cell? w _ hw203_0)).trans hw203_0 | exact hw203_0)) (fun hHeld => ?_)
      generalize wr.drew = w9 at HB hx203_0 hHeld ⊢
      refine pure_ (i := 0) (N := some 12) (v := ?_) (a' := ?_) (bz 7 1) rfl rfl (by kernel_rfl) (fun _ _ _ h => h) (Or.inl ⟨by rfl, ?_⟩) ?_ ?_
      rotate_left
      ·intro w'
       go_simp
       with_reducible rfl
      rotate_left
      ·simp only [Act.put, List.setIfInBounds_toArray, List.set_cons_zero, List.set_cons_succ, i64_w, i32_w]
       rfl
      refine pure_ (i := 1) (N := some 13) (v := ?_) (a' := ?_) (bz 7 3) rfl rfl (by kernel_rfl) (fun _ _ _ h => h) (Or.inl ⟨by rfl, ?_⟩) ?_ ?_
      rotate_left
      ·intro w'
       go_simp
       with_reducible rfl
      rotate_left
      ·simp only [Act.put, List.setIfInBounds_toArray, List.set_cons_zero, List.set_cons_succ, i64_w, i32_w]
       rfl
      refine pure_ (i := 2) (N := some 14) (v := ?_) (a' := ?_) (bz 7 7) rfl rfl (by kernel_rfl) (fun _ _ _ h => h) (Or.inl ⟨by rfl, ?_⟩) ?_ ?_
      rotate_left
      ·intro w'
       go_simp
       with_reducible rfl
      rotate_left
      ·simp only [Act.put, List.setIfInBounds_toArray, List.set_cons_zero, List.set_cons_succ, i64_w, i32_w]
       rfl
      refine pure_ (i := 4) (N := some 16) (v := ?_) (a' := ?_) (bz 7 23) rfl rfl (by kernel_rfl) (fun _ _ _ h => h) (Or.inl ⟨by rfl, ?_⟩) ?_ ?_
      rotate_left
      ·intro w'
       go_simp
       with_reducible rfl
      rotate_left
      ·simp only [Act.put, List.setIfInBounds_toArray, List.set_cons_zero, List.set_cons_succ, i64_w, i32_w]
       rfl
      refine take_ (i := 3) (N := some 15) (v := ?_) (a' := ?_) (bz 7 31) rfl rfl (by kernel_rfl) (fun _ _ _ h => h) (Or.inl ⟨by rfl, ?_⟩) hHeld ?_ ?_
      rotate_left
      ·intro w' s0
       go_simp
       with_reducible rfl
      rotate_left
      ·simp only [Act.put, List.setIfInBounds_toArray, List.set_cons_zero, List.set_cons_succ, i64_w, i32_w]
       rfl
      refine one_ (i := 5) (N := some 17) (bz 7 63) rfl rfl (by kernel_rfl) (by decide) (fun K hK => ?_)
      refine goes_ Tryd.func57 (by kernel_rfl) rfl #[.int .i64 x1_1] (by rfl) rfl rfl (by (try simp only [List.map_toArray, List.map_cons, List.map_nil]); first | done | rfl | (simp only [List.length_drop, List.length_take]; rfl)) ?_
      with_reducible refine (laws_markText.calls k1 x1_1 t204 _ A5.out).mono ?_
      rintro e w10 ⟨rfl, hb⟩
      refine ⟨_, rfl, ?_⟩
      have n0_ := Aside0.mk (below_step (stB HB.out) hb)
      clear HB
      have HB := n0_
      clear n0_
      (try clear hb)
      (try clear hb2)
      (try clear hk)
      (try clear hi)
      refine hK.out _ _ ((by first | exact (HB.out.cell (World.block_lt_of_cell? w _ hw203_0)).trans hw203_0 | exact hw203_0)) (fun hHeld => ?_)
      clear hK K
      refine norm_ (a' := ?_) ?_ ?_
      rotate_left
      ·show Act.put _ (some 17) _ = _
       simp only [Act.put, List.setIfInBounds_toArray, List.set_cons_zero, List.set_cons_succ, i64_w, i32_w]
       rfl
      refine pure_ (i := 6) (N := some 18) (v := ?_) (a' := ?_) (bz 7 127) rfl rfl (by kernel_rfl) (fun _ _ _ h => h) (Or.inl ⟨by rfl, ?_⟩) ?_ ?_
      rotate_left
      ·intro w'
       go_simp
       with_reducible rfl
      rotate_left
      ·simp only [Act.put, List.setIfInBounds_toArray, List.set_cons_zero, List.set_cons_succ, i64_w, i32_w]
       rfl
      refine done_ (by kernel_rfl) ?_
      try go_wp2
      go_ret
      exact ⟨by first | rfl | (simp [errW_none, errW_some] <;> rfl) | (simp [*, errW_none, errW_some] <;> rfl), by repeat (first | (with_reducible first | exact HB.out | apply below_alloc | apply pw_below_drewN | apply below_drew1) | exact HB.out)⟩
    ·rw [if_neg c4] at H
     exact absurd H (by simp)
   ·rw [if_neg c3] at H
    have c3b0 : decide (x5_1 < (l0.length : Int)) = false := decide_eq_false c3
    clear c3
    obtain rfl := Option.some.inj H
    go_wp2
    go_ret
    exact ⟨by first | rfl | (simp [errW_none, errW_some] <;> rfl) | (simp [*, errW_none, errW_some] <;> rfl), by repeat (first | (with_reducible first | exact HB.out | apply below_alloc | apply pw_below_drewN | apply below_drew1) | exact HB.out)⟩
end Go.Proofs.YtmcdnpooclelgaaDoor.PAll

namespace Go.Proofs.YtmcdnpooclelgaaDoor.PAll
open Go.RowKit Go.Proofs.YtmcdnpooclelgaaDoorW.PrintWords
theorem getD_drop {α : Type} {z : α} {l : List α} {i : Nat} {x : α} {t : List α} (h : l.drop i = x :: t) : l.getD ((i : Nat) : Int).toNat z = x ∧ i < l.length ∧ l.drop (i + 1) = t := by
  have hi : i < l.length := by
    rcases Nat.lt_or_ge i l.length with h' | h'
    · exact h'
    · rw [List.drop_eq_nil_of_le h'] at h; cases h
  rw [List.drop_eq_getElem_cons hi] at h
  injection h with h1 h2
  exact ⟨by rw [List.getD_eq_getElem?_getD, Int.toNat_natCast, List.getElem?_eq_getElem hi]; exact h1, hi, h2⟩
theorem drop_nil {α : Type} {l : List α} {i : Nat} (h : l.drop i = []) (hi : i ≤ l.length) : i = l.length := by have := List.drop_eq_nil_iff.1 h; omega
theorem marks_cons (k : Int) (n : Nat) : marks k (n + 1) = mtP k :: marks (k + 1) n := by
  simp only [marks, List.range_succ_eq_map, List.map_cons, List.map_map]
  congr 1
  · simp
  · apply List.map_congr_left; intro j _; simp only [Function.comp]; congr 1; omega
theorem heldStr_l0 (ys : List ByteArray) (hn : ys.length ≤ 1099511627776) : ∀ (d i : Nat) (k : Int), ys.drop i = marks k d → i ≤ ys.length → 0 ≤ k → k + d ≤ 1099511627776 → Ev (fun n => laws_heldStringS.l0 n ys k i) (k + d)
  | 0, i, k, h, hi, _, _ => Ev.unf (fun _ => some (k + (0 : Nat))) (fun n => by
      have := drop_nil h hi
      simp only [laws_heldStringS.l0]; rw [if_neg (by omega)]; simp) (Ev.now _)
  | d + 1, i, k, h, hi, h0, h1 => by
    rw [marks_cons] at h
    obtain ⟨e1, e2, e3⟩ := getD_drop (z := ByteArray.empty) h
    have e1 : rdOf ByteArray.empty ys (i : Int) = mtP k := e1
    have ih := heldStr_l0 ys hn d (i + 1) (k + 1) e3 (by omega) (by omega) (by omega)
    rw [show k + 1 + (d : Int) = k + ((d + 1 : Nat) : Int) by omega] at ih
    refine Ev.unf (fun n => (laws_markText.f n k).bind fun t => if (mtP k).toList = t.toList then laws_heldStringS.l0 n ys (k + 1) ((i + 1 : Nat) : Int) else some (-1)) (fun n => ?_) ?_
    · simp only [laws_heldStringS.l0]
      rw [if_pos (by omega), if_pos (by omega), e1, inc (by omega), w64 (by omega) (by omega)]
    · refine Ev.bind (ev_markText k (by omega)) ?_
      simp only [if_true]
      exact ih
theorem ev_heldStr (k : Int) (d : Nat) (h0 : 0 ≤ k) (h1 : k + d ≤ 1099511627776) : Ev (fun n => laws_heldStringS.f n (marks k d) k) (k + d) := by
  unfold laws_heldStringS.f
  exact heldStr_l0 (marks k d) (by rw [marks_len]; omega) d 0 k rfl (by omega) h0 h1
theorem heldStr_any (A : Option Addr) (c n : Nat) (k : Int) (w : World) (hr : Kd.C Kd.string w A (marks k n).length (marks k n)) (hc : (marks k n).length ≤ c) (h0 : 0 ≤ k) (h1 : k + n ≤ 1099511627776) :
    Calls Tryd.prog 61 #[.slice A n c, .int .i64 k] w fun e w' => e = .returned (.int .i64 (k + (n : Int))) ∧ Below w.heap.size w w' := by
  obtain ⟨q, hq⟩ := (ev_heldStr k n h0 h1).rounds
  have := laws_heldStringS.calls q A c (marks k n) k _ w hr hc hq
  rw [marks_len] at this
  exact this
theorem markAll_get {α : Type} (mk : α → Int → α) (cnt : α → Nat) : ∀ (xs : List α) (j : Nat) (k : Int) (h : j < xs.length), (markAll mk cnt xs k)[j]? = some (mk xs[j] (k + (cntAll cnt (xs.take j) : Int)))
  | x :: xs, 0, k, _ => by simp [markAll, cntAll]
  | x :: xs, j + 1, k, h => by
    simp only [markAll, List.getElem?_cons_succ, List.take_succ_cons, cntAll, List.getElem_cons_succ]
    rw [markAll_get mk cnt xs j (k + cnt x) (by simpa using h), show k + ((cnt x + cntAll cnt (xs.take j) : Nat) : Int) = k + (cnt x : Int) + (cntAll cnt (xs.take j) : Int) by omega]
end Go.Proofs.YtmcdnpooclelgaaDoor.PAll

namespace Go.Proofs.YtmcdnpooclelgaaDoor.PAll
open Go.RowKit Go.Proofs.YtmcdnpooclelgaaDoorW.PrintWords
def lineS : Sh S83 := .iso (.pair strS strsS) (fun x : S83 => (x.f0, x.f1))
abbrev linesS : Sh (List S83) := .row lineS 83
def blockS : Sh S62 := .iso (.pair strS (.pair strS linesS)) (fun x : S62 => (x.f0, x.f1, x.f2))
abbrev blocksS : Sh (List S62) := .row blockS 62
theorem line_ow {w : World} {b : Nat} {key : ByteArray} {dv : Value} {ds : List ByteArray} {H : List Nat} (h : strsS.ow w b [dv] ds H) : lineS.ow w b [.string key, dv] ⟨key, ds⟩ H :=
  ⟨[.string key], [dv], [], H, rfl, rfl, ⟨rfl, rfl⟩, h, by simp⟩
theorem line_open {w : World} {b : Nat} {us : List Value} {x : S83} {G : List Nat} (h : lineS.ow w b us x G) : ∃ dv, us = [.string x.f0, dv] ∧ strsS.ow w b [dv] x.f1 G := by
  obtain ⟨u0, v0, G0, H0, rfl, rfl, ⟨rfl, rfl⟩, h1, _⟩ := h
  obtain ⟨dv, _, _, rfl, _⟩ := id h1
  exact ⟨dv, rfl, h1⟩
theorem block_ow {w : World} {b : Nat} {kind name : ByteArray} {lv : Value} {ls : List S83} {H : List Nat} (h : linesS.ow w b [lv] ls H) : blockS.ow w b [.string kind, .string name, lv] ⟨kind, name, ls⟩ H :=
  ⟨[.string kind], [.string name, lv], [], H, rfl, rfl, ⟨rfl, rfl⟩, ⟨[.string name], [lv], [], H, rfl, rfl, ⟨rfl, rfl⟩, h, by simp⟩, by simp⟩
theorem block_open {w : World} {b : Nat} {us : List Value} {x : S62} {G : List Nat} (h : blockS.ow w b us x G) : ∃ lv, us = [.string x.f0, .string x.f1, lv] ∧ linesS.ow w b [lv] x.f2 G := by
  obtain ⟨u0, v0, G0, H0, rfl, rfl, ⟨rfl, rfl⟩, ⟨u1, v1, G1, H1, rfl, rfl, ⟨rfl, rfl⟩, h1, _⟩, _⟩ := h
  obtain ⟨lv, _, _, rfl, _⟩ := id h1
  exact ⟨lv, rfl, h1⟩
section
variable {w w' : World} {b : Nat} {v dv lv : Value} {ys : List S83} {bs : List S62} {F : List Nat} {j g c : Nat} {s0 s1 : ByteArray} {d0 : List ByteArray} {l0 : List S83} {G : List Nat}
theorem line_key (h : RowAt lineS 83 w b v ys F j g c [.string s0, dv] ⟨s0, d0⟩ G) (s : ByteArray) : RowAt lineS 83 (w.setCell ⟨g, j * 2, none⟩ (.string s)) b v (ys.set j ⟨s, d0⟩) F j g c [.string s, dv] ⟨s, d0⟩ G := by
  obtain ⟨_, he, hd⟩ := line_open h.ow
  injection he with _ he; injection he with he1 _
  subst he1
  exact h.set 0 (.string s) (by decide) (line_ow hd)
theorem line_strs (h : RowAt lineS 83 w b v ys F j g c [.string s0, dv] ⟨s0, d0⟩ G) : ER Value.string w b 9 dv d0 ∧ (∀ y ∈ dv.ownBlock.toList, y ∈ F) ∧
    ∀ w' ss, ER Value.string w' b 9 dv ss → Upd dv.ownBlock.toList w w' → RowAt lineS 83 w' b v (ys.set j ⟨s0, ss⟩) F j g c [.string s0, dv] ⟨s0, ss⟩ G := by
  obtain ⟨_, he, hd⟩ := line_open h.ow
  injection he with _ he; injection he with he1 _
  subst he1
  obtain ⟨e1, rfl⟩ := strs_ER.1 hd
  exact ⟨e1, fun y hy => h.away.2.2 y hy, fun w' ss hn hu => h.mov hu (line_ow (strs_ER.2 ⟨hn, rfl⟩))⟩
theorem block_kind (h : RowAt blockS 62 w b v bs F j g c [.string s0, .string s1, lv] ⟨s0, s1, l0⟩ G) (s : ByteArray) : RowAt blockS 62 (w.setCell ⟨g, j * 3, none⟩ (.string s)) b v (bs.set j ⟨s, s1, l0⟩) F j g c [.string s, .string s1, lv] ⟨s, s1, l0⟩ G := by
  obtain ⟨_, he, hd⟩ := block_open h.ow
  injection he with _ he; injection he with _ he; injection he with he1 _
  subst he1
  exact h.set 0 (.string s) (by decide) (block_ow hd)
theorem block_name (h : RowAt blockS 62 w b v bs F j g c [.string s0, .string s1, lv] ⟨s0, s1, l0⟩ G) (s : ByteArray) : RowAt blockS 62 (w.setCell ⟨g, j * 3 + 1, none⟩ (.string s)) b v (bs.set j ⟨s0, s, l0⟩) F j g c [.string s0, .string s, lv] ⟨s0, s, l0⟩ G := by
  obtain ⟨_, he, hd⟩ := block_open h.ow
  injection he with _ he; injection he with _ he; injection he with he1 _
  subst he1
  exact h.set 1 (.string s) (by decide) (block_ow hd)
theorem block_lines (h : RowAt blockS 62 w b v bs F j g c [.string s0, .string s1, lv] ⟨s0, s1, l0⟩ G) : linesS.ow w b [lv] l0 G ∧ (∀ y ∈ G, y ∈ F) ∧
    ∀ w' ls, linesS.ow w' b [lv] ls G → Upd G w w' → RowAt blockS 62 w' b v (bs.set j ⟨s0, s1, ls⟩) F j g c [.string s0, .string s1, lv] ⟨s0, s1, ls⟩ G := by
  obtain ⟨_, he, hd⟩ := block_open h.ow
  injection he with _ he; injection he with _ he; injection he with he1 _
  subst he1
  exact ⟨hd, fun y hy => h.away.2.2 y hy, fun w' ls hn hu => h.mov hu (block_ow hn)⟩
end
def mkLine (l : S83) (k : Int) : S83 := ⟨mtP k, marks (k + 1) l.f1.length⟩
def cntLine (l : S83) : Nat := 1 + l.f1.length
def mkBlock (b : S62) (k : Int) : S62 := ⟨mtP k, mtP (k + 1), markAll mkLine cntLine b.f2 (k + 2)⟩
def cntBlock (b : S62) : Nat := 2 + cntAll cntLine b.f2
theorem len_cnt {α : Type} (cnt : α → Nat) (h : ∀ x, 1 ≤ cnt x) : ∀ ys : List α, ys.length ≤ cntAll cnt ys
  | [] => Nat.zero_le _
  | y :: ys => by have := len_cnt cnt h ys; have := h y; simp only [List.length_cons, cntAll]; omega
theorem cntLine_pos (l : S83) : 1 ≤ cntLine l := by unfold cntLine; omega
theorem cntBlock_pos (l : S62) : 1 ≤ cntBlock l := by unfold cntBlock; omega
set_option maxRecDepth 100000 in
set_option maxHeartbeats 2000000 in
theorem markLines_any (v : Value) (xs : List S83) (F : List Nat) (b : Nat) (k : Int) (w : World) (ho : linesS.ow w b [v] xs F) (hk : 0 ≤ k) (hk2 : k + cntAll cntLine xs ≤ 1099511627776) :
    Calls Tryd.prog 37 #[v, .int .i64 k] w fun e w' => e = .returned (.int .i64 (k + (cntAll cntLine xs : Int))) ∧ linesS.ow w' b [v] (markAll mkLine cntLine xs k) F ∧ Upd F w w' := by
  obtain ⟨Ad, c, rfl⟩ := own_form ho
  have HO := Aside0.mk ho
  clear ho
  have hlen : xs.length ≤ 1099511627776 := by have := len_cnt cntLine cntLine_pos xs; omega
  go_enter Tryd.func37, Tryd.ntmps37
  go_wp2
  go_loopw [1, 5] (fun kv i wr => ∃ j : Nat, kv = .int .i64 (k + (cntAll cntLine (xs.take j) : Int)) ∧ i = .int .i64 j ∧ j ≤ xs.length ∧ Aside0 (linesS.ow wr b [.slice Ad xs.length c] (half mkLine cntLine xs k j) F) ∧ Aside0 (Upd F w wr)) (fun _ i _ => xs.length - (intOf i).toNat)
  case atStart => exact ⟨0, by simp [cntAll], rfl, Nat.zero_le _, ⟨HO.out⟩, ⟨Upd.refl _ _⟩⟩
  case round =>
    obtain ⟨j, rfl, rfl, hj, ho, hu⟩ := hrel
    by_cases hlt : j < xs.length
    · have hct := cntAll_take cntLine xs j hlt
      have hle := cntAll_le cntLine xs (j + 1)
      have hset := half_set mkLine cntLine xs k j hlt
      have hget := half_get mkLine cntLine xs k j hlt
      have hhl := half_len mkLine cntLine xs k j hj
      generalize xs[j] = x at *
      obtain ⟨s0, d0⟩ := x
      generalize hys : half mkLine cntLine xs k j = ys at *
      clear hys
      have HS := Aside0.mk hset
      have HCT := Aside0.mk hct
      have HL := Aside0.mk hhl
      have hkk0 : 0 ≤ k + (cntAll cntLine (xs.take j) : Int) := by omega
      have hkk1 : k + (cntAll cntLine (xs.take j) : Int) + 1 + d0.length ≤ 1099511627776 := by
        have : cntLine ⟨s0, d0⟩ = 1 + d0.length := rfl
        omega
      clear hset hct hhl hle
      generalize hkk : k + (cntAll cntLine (xs.take j) : Int) = kk at *
      have HKK := Aside0.mk hkk
      clear hkk
      obtain ⟨g, c', us, G, hR⟩ := RowAt.of ho.out hget
      have hv := hR.val
      injection hv with hv1 hv2 hv3
      subst hv1 hv3
      obtain ⟨dv, rfl, hd⟩ := line_open hR.ow
      obtain ⟨A3, c3, rfl⟩ := own_form hd
      have R0 := Aside0.mk hR
      clear hd hv2 hR
      go_wp2_with fail
      refine (markText_any _ _ (by omega)).mono ?_
      rintro e w1 ⟨rfl, hbl⟩
      have R1 := Aside0.mk (R0.out.below hbl)
      have hc0 : w1.cell? ⟨g, j * 2, none⟩ = some (.string s0) := R1.out.cell 0 (by decide)
      have hc1 : w1.cell? ⟨g, j * 2 + 1, none⟩ = some (.slice A3 d0.length c3) := R1.out.cell 1 (by decide)
      have hf0 := R1.out.frozen (j * 2)
      have U1 := Aside0.mk (upd_in hu.out (Upd.of_below hbl []) (fun _ hx => by cases hx))
      have R2 := Aside0.mk (line_key R1.out (mtP kk))
      have U2 := Aside0.mk (upd_in U1.out (upd_cell w1 g (j * 2) (.string (mtP kk))) (fun y hy => by simp at hy; subst hy; exact R1.out.away.2.1))
      clear hbl
      go_wp2_with fail
      obtain ⟨E4, Y4, M4⟩ := line_strs R2.out
      refine (markStringS_any A3 c3 b d0 (kk + 1) _ E4 (by omega) (by omega)).mono ?_
      rintro e w5 ⟨rfl, hE5, hu5⟩
      have R5 := Aside0.mk (M4 w5 _ hE5 hu5)
      have U5 := Aside0.mk (upd_in U2.out hu5 Y4)
      have HR5 : Aside0 (linesS.ow w5 b [.slice (some ⟨g, 0, none⟩) xs.length c] (half mkLine cntLine xs k (j + 1)) F) := ⟨by
        have h5 := R5.out.row
        rw [List.set_set] at h5
        rw [← HS.out]
        exact h5⟩
      have hkn : Aside0 (kk + 1 + (d0.length : Int) = k + (cntAll cntLine (xs.take (j + 1)) : Int)) := ⟨by rw [HCT.out, ← HKK.out]; show _ = k + ((_ + (1 + d0.length) : Nat) : Int); omega⟩
      clear E4 Y4 M4 hE5 hu5 hc0 hc1 hf0
      go_wp2_with fail
      go_roundw
      case rel => exact ⟨j + 1, by rw [hkn.out], by go_num, hlt, HR5, U5⟩
      case measure => simp [intOf]; omega
    · obtain rfl : j = xs.length := by omega
      have hh := half_end mkLine cntLine xs k
      have ho2 := ho.out
      rw [hh] at ho2
      have HO2 := Aside0.mk ho2
      clear hh ho2
      have he : xs.take xs.length = xs := List.take_length
      rw [he]
      go_wp2
      go_ret
      exact ⟨rfl, HO2.out, hu.out⟩
set_option maxRecDepth 100000 in
set_option maxHeartbeats 2000000 in
theorem markBlocks_any (v : Value) (xs : List S62) (F : List Nat) (b : Nat) (k : Int) (w : World) (ho : blocksS.ow w b [v] xs F) (hk : 0 ≤ k) (hk2 : k + cntAll cntBlock xs ≤ 1099511627776) :
    Calls Tryd.prog 90 #[v, .int .i64 k] w fun e w' => e = .returned (.int .i64 (k + (cntAll cntBlock xs : Int))) ∧ blocksS.ow w' b [v] (markAll mkBlock cntBlock xs k) F ∧ Upd F w w' := by
  obtain ⟨Ad, c, rfl⟩ := own_form ho
  have HO := Aside0.mk ho
  clear ho
  have hlen : xs.length ≤ 1099511627776 := by have := len_cnt cntBlock cntBlock_pos xs; omega
  go_enter Tryd.func90, Tryd.ntmps90
  go_wp2
  go_loopw [1, 5] (fun kv i wr => ∃ j : Nat, kv = .int .i64 (k + (cntAll cntBlock (xs.take j) : Int)) ∧ i = .int .i64 j ∧ j ≤ xs.length ∧ Aside0 (blocksS.ow wr b [.slice Ad xs.length c] (half mkBlock cntBlock xs k j) F) ∧ Aside0 (Upd F w wr)) (fun _ i _ => xs.length - (intOf i).toNat)
  case atStart => exact ⟨0, by simp [cntAll], rfl, Nat.zero_le _, ⟨HO.out⟩, ⟨Upd.refl _ _⟩⟩
  case round =>
    obtain ⟨j, rfl, rfl, hj, ho, hu⟩ := hrel
    by_cases hlt : j < xs.length
    · have hct := cntAll_take cntBlock xs j hlt
      have hle := cntAll_le cntBlock xs (j + 1)
      have hset := half_set mkBlock cntBlock xs k j hlt
      have hget := half_get mkBlock cntBlock xs k j hlt
      have hhl := half_len mkBlock cntBlock xs k j hj
      generalize xs[j] = x at *
      obtain ⟨s0, s1, l0⟩ := x
      generalize hys : half mkBlock cntBlock xs k j = ys at *
      clear hys
      have HS := Aside0.mk hset
      have HCT := Aside0.mk hct
      have HL := Aside0.mk hhl
      have hkk0 : 0 ≤ k + (cntAll cntBlock (xs.take j) : Int) := by omega
      have hkk1 : k + (cntAll cntBlock (xs.take j) : Int) + 2 + cntAll cntLine l0 ≤ 1099511627776 := by
        have : cntBlock ⟨s0, s1, l0⟩ = 2 + cntAll cntLine l0 := rfl
        omega
      clear hset hct hhl hle
      generalize hkk : k + (cntAll cntBlock (xs.take j) : Int) = kk at *
      have HKK := Aside0.mk hkk
      clear hkk
      obtain ⟨g, c', us, G, hR⟩ := RowAt.of ho.out hget
      have hv := hR.val
      injection hv with hv1 hv2 hv3
      subst hv1 hv3
      obtain ⟨lv, rfl, hd⟩ := block_open hR.ow
      obtain ⟨A3, c3, rfl⟩ := own_form hd
      have R0 := Aside0.mk hR
      clear hd hv2 hR
      go_wp2_with fail
      refine (markText_any _ _ (by omega)).mono ?_
      rintro e w1 ⟨rfl, hbl⟩
      have R1 := Aside0.mk (R0.out.below hbl)
      have hc0 : w1.cell? ⟨g, j * 3, none⟩ = some (.string s0) := R1.out.cell 0 (by decide)
      have hc1 : w1.cell? ⟨g, j * 3 + 1, none⟩ = some (.string s1) := R1.out.cell 1 (by decide)
      have hc2 : w1.cell? ⟨g, j * 3 + 2, none⟩ = some (.slice A3 l0.length c3) := R1.out.cell 2 (by decide)
      have hf0 := R1.out.frozen (j * 3)
      have U1 := Aside0.mk (upd_in hu.out (Upd.of_below hbl []) (fun _ hx => by cases hx))
      have R2 := Aside0.mk (block_kind R1.out (mtP kk))
      have U2 := Aside0.mk (upd_in U1.out (upd_cell w1 g (j * 3) (.string (mtP kk))) (fun y hy => by simp at hy; subst hy; exact R1.out.away.2.1))
      clear hbl
      go_wp2_with fail
      refine (markText_any _ _ (by omega)).mono ?_
      rintro e w3 ⟨rfl, hbl3⟩
      have R3 := Aside0.mk (R2.out.below hbl3)
      have hd0 : w3.cell? ⟨g, j * 3, none⟩ = some (.string (mtP kk)) := R3.out.cell 0 (by decide)
      have hd1 : w3.cell? ⟨g, j * 3 + 1, none⟩ = some (.string s1) := R3.out.cell 1 (by decide)
      have hd2 : w3.cell? ⟨g, j * 3 + 2, none⟩ = some (.slice A3 l0.length c3) := R3.out.cell 2 (by decide)
      have hf1 := R3.out.frozen (j * 3 + 1)
      have U3 := Aside0.mk (upd_in U2.out (Upd.of_below hbl3 []) (fun _ hx => by cases hx))
      have R4 := Aside0.mk (block_name R3.out (mtP (kk + 1)))
      have U4 := Aside0.mk (upd_in U3.out (upd_cell w3 g (j * 3 + 1) (.string (mtP (kk + 1)))) (fun y hy => by simp at hy; subst hy; exact R3.out.away.2.1))
      clear hbl3 hc0 hc1 hc2 hf0
      go_wp2_with fail
      obtain ⟨E4, Y4, M4⟩ := block_lines R4.out
      refine (markLines_any (.slice A3 l0.length c3) l0 G b (kk + 1 + 1) _ E4 (by omega) (by omega)).mono ?_
      rintro e w5 ⟨rfl, hE5, hu5⟩
      have R5 := Aside0.mk (M4 w5 _ hE5 hu5)
      have U5 := Aside0.mk (upd_in U4.out hu5 Y4)
      have HR5 : Aside0 (blocksS.ow w5 b [.slice (some ⟨g, 0, none⟩) xs.length c] (half mkBlock cntBlock xs k (j + 1)) F) := ⟨by
        have h5 := R5.out.row
        rw [List.set_set, List.set_set, show kk + 1 + 1 = kk + 2 by omega] at h5
        rw [← HS.out]
        exact h5⟩
      have hkn : Aside0 (kk + 1 + 1 + (cntAll cntLine l0 : Int) = k + (cntAll cntBlock (xs.take (j + 1)) : Int)) := ⟨by rw [HCT.out, ← HKK.out]; show _ = k + ((_ + (2 + cntAll cntLine l0) : Nat) : Int); omega⟩
      clear E4 Y4 M4 hE5 hu5 hd0 hd1 hd2 hf1
      go_wp2_with fail
      go_roundw
      case rel => exact ⟨j + 1, by rw [hkn.out], by go_num, hlt, HR5, U5⟩
      case measure => simp [intOf]; omega
    · obtain rfl : j = xs.length := by omega
      have hh := half_end mkBlock cntBlock xs k
      have ho2 := ho.out
      rw [hh] at ho2
      have HO2 := Aside0.mk ho2
      clear hh ho2
      have he : xs.take xs.length = xs := List.take_length
      rw [he]
      go_wp2
      go_ret
      exact ⟨rfl, HO2.out, hu.out⟩
end Go.Proofs.YtmcdnpooclelgaaDoor.PAll

namespace Go.Proofs.YtmcdnpooclelgaaDoor
open Go.RowKit Go.Proofs.YtmcdnpooclelgaaDoorW.PrintWords
theorem Els.split {α : Type} {A : Sh α} {w : World} {b : Nat} : ∀ (vss : List (List Value)) (xs : List α) (F : List Nat), Els A w b vss xs F → ∀ (j : Nat) (x : α), xs[j]? = some x → ∃ us F1 G F2, F = F1 ++ (G ++ F2) ∧ Els A w b (vss.take j) (xs.take j) F1 ∧ A.ow w b us x G ∧ Els A w b (vss.drop (j + 1)) (xs.drop (j + 1)) F2 ∧ vss = vss.take j ++ us :: vss.drop (j + 1)
  | [], [], F, h, j, x, hj => by simp at hj
  | vs :: vss, y :: xs, F, h, j, x, hj => by
    obtain ⟨G, H, rfl, h1, h2, h3⟩ := h
    cases j with
    | zero =>
      simp only [List.getElem?_cons_zero, Option.some.injEq] at hj
      subst hj
      exact ⟨vs, [], G, H, rfl, rfl, h1, h2, rfl⟩
    | succ j =>
      rw [List.getElem?_cons_succ] at hj
      obtain ⟨us, F1, G', F2, rfl, e1, e2, e3, e4⟩ := Els.split vss xs H h2 j x hj
      refine ⟨us, G ++ F1, G', F2, by simp, ?_, e2, e3, ?_⟩
      · exact ⟨G, F1, rfl, h1, e1, fun g hg hg' => h3 g hg (List.mem_append_left _ hg')⟩
      · rw [List.take_succ_cons, List.drop_succ_cons, List.cons_append, ← e4]
theorem Els.nodup {α : Type} {A : Sh α} {w : World} {b : Nat} {vss : List (List Value)} {xs : List α} {F : List Nat} (h : Els A w b vss xs F) : F.Nodup := (Els.mem _ _ _ h).2.1
theorem Els.lenv {α : Type} {A : Sh α} {w : World} {b : Nat} {vss : List (List Value)} {xs : List α} {F : List Nat} (h : Els A w b vss xs F) : vss.length = xs.length := (Els.mem _ _ _ h).2.2.1
def Foc {α : Type} (A : Sh α) (e : TypeId) (w : World) (b : Nat) (v : Value) (xs1 : List α) (x : α) (xs2 : List α) (g c : Nat) (us : List Value) (F1 G F2 : List Nat) : Prop :=
  ∃ (vs1 vs2 : List (List Value)), v = .slice (some ⟨g, 0, none⟩) (xs1 ++ x :: xs2).length c ∧ w.ownsRow b e A.k v (xs1 ++ x :: xs2).length (vs1 ++ us :: vs2).flatten ∧ Els A w b vs1 xs1 F1 ∧ A.ow w b us x G ∧ Els A w b vs2 xs2 F2 ∧ (g :: (F1 ++ (G ++ F2))).Nodup
section
variable {α : Type} {A : Sh α} {e : TypeId} {w w' : World} {b : Nat} {v : Value} {xs xs1 xs2 : List α} {F F1 F2 : List Nat} {j g c : Nat} {us : List Value} {x x' : α} {G G' : List Nat}
theorem Foc.of (h : (Sh.row A e).ow w b [v] xs F) (hj : xs[j]? = some x) : ∃ g c us F1 G F2, F = g :: (F1 ++ (G ++ F2)) ∧ Foc A e w b v (xs.take j) x (xs.drop (j + 1)) g c us F1 G F2 := by
  have hnd := (Sh.row A e).ond h
  obtain ⟨v', vss, Gs, hv, h1, h2, rfl, h3⟩ := h
  injection hv with hv _
  subst hv
  have hjl := (List.getElem?_eq_some_iff.1 hj).1
  have hx : xs = xs.take j ++ x :: xs.drop (j + 1) := by
    have : xs.drop j = x :: xs.drop (j + 1) := by rw [List.drop_eq_getElem_cons hjl]; congr 1; exact (List.getElem?_eq_some_iff.1 hj).2
    rw [← this, List.take_append_drop]
  rcases ownSl h1 with ⟨rfl, hn⟩ | ⟨g, c, rfl⟩
  · omega
  · obtain ⟨us, F1, G, F2, rfl, e1, e2, e3, e4⟩ := Els.split _ _ _ h2 j x hj
    refine ⟨g, c, us, F1, G, F2, by simp [Value.ownBlock], vss.take j, vss.drop (j + 1), by rw [← hx], ?_, e1, e2, e3, by simpa [Value.ownBlock] using hnd⟩
    rw [← hx, ← e4]
    exact h1
theorem Foc.row (h : Foc A e w b v xs1 x xs2 g c us F1 G F2) : (Sh.row A e).ow w b [v] (xs1 ++ x :: xs2) (g :: (F1 ++ (G ++ F2))) := by
  obtain ⟨vs1, vs2, rfl, h1, h2, h3, h4, h5⟩ := h
  have hn := List.nodup_cons.1 h5
  have hn2 := List.nodup_append.1 hn.2
  have hn3 := List.nodup_append.1 hn2.2.1
  refine ⟨_, vs1 ++ us :: vs2, F1 ++ (G ++ F2), rfl, h1, ?_, by simp [Value.ownBlock], fun y hy => by simp [Value.ownBlock] at hy; subst hy; exact hn.1⟩
  exact Els.append _ _ _ h2 ⟨G, F2, rfl, h3, h4, fun y hy hy' => hn3.2.2 y hy y hy' rfl⟩ (fun y hy hy' => hn2.2.2 y hy y hy' rfl)
theorem Foc.ow (h : Foc A e w b v xs1 x xs2 g c us F1 G F2) : A.ow w b us x G := by
  obtain ⟨vs1, vs2, _, _, _, h3, _⟩ := h
  exact h3
theorem Foc.nodup (h : Foc A e w b v xs1 x xs2 g c us F1 G F2) : (g :: (F1 ++ (G ++ F2))).Nodup := by
  obtain ⟨vs1, vs2, _, _, _, _, _, h5⟩ := h
  exact h5
theorem Foc.val (h : Foc A e w b v xs1 x xs2 g c us F1 G F2) : v = .slice (some ⟨g, 0, none⟩) (xs1 ++ x :: xs2).length c := by
  obtain ⟨vs1, vs2, h, _⟩ := h
  exact h
theorem Foc.lt (h : Foc A e w b v xs1 x xs2 g c us F1 G F2) : b ≤ g ∧ g < w.heap.size := by
  obtain ⟨vs1, vs2, rfl, h1, _⟩ := h
  exact ⟨own_base h1 g rfl, own_lt h1 g rfl⟩
theorem Foc.in (h : Foc A e w b v xs1 x xs2 g c us F1 G F2) : ∀ y ∈ g :: (F1 ++ (G ++ F2)), b ≤ y ∧ y < w.heap.size := fun y hy => (Sh.row A e).oin h.row y hy
theorem Foc.frozen (h : Foc A e w b v xs1 x xs2 g c us F1 G F2) (i : Nat) : w.frozen? ⟨g, i, none⟩ = false := by
  obtain ⟨vs1, vs2, rfl, h1, _⟩ := h
  exact World.ownsRow.frozenAt h1 i
theorem Foc.cell (h : Foc A e w b v xs1 x xs2 g c us F1 G F2) (i : Nat) (hi : i < A.k) : w.cell? ⟨g, xs1.length * A.k + i, none⟩ = us[i]? := by
  obtain ⟨vs1, vs2, rfl, h1, h2, h3, h4, _⟩ := h
  have hl1 := h2.lenv
  have hv : (vs1 ++ us :: vs2)[xs1.length]? = some us := by rw [List.getElem?_append_right (by omega), hl1, Nat.sub_self]; rfl
  have hls : ∀ vs ∈ vs1 ++ us :: vs2, vs.length = A.k := by
    intro vs hvs
    rcases List.mem_append.1 hvs with hvs | hvs
    · exact Els.lens _ _ _ h2 vs hvs
    · rcases List.mem_cons.1 hvs with rfl | hvs
      · exact A.olen h3
      · exact Els.lens _ _ _ h4 vs hvs
  have hb : xs1.length * A.k + i < (xs1 ++ x :: xs2).length * A.k := by
    have : (xs1.length + 1) * A.k ≤ (xs1 ++ x :: xs2).length * A.k := Nat.mul_le_mul_right _ (by simp)
    rw [Nat.add_mul] at this
    omega
  rw [World.ownsRow.cellAt h1 (xs1.length * A.k + i) hb, flat_at _ xs1.length us hls hv i hi]
theorem Foc.below (h : Foc A e w b v xs1 x xs2 g c us F1 G F2) (hb : Below w.heap.size w w') : Foc A e w' b v xs1 x xs2 g c us F1 G F2 := by
  obtain ⟨vs1, vs2, h0, h1, h2, h3, h4, h5⟩ := h
  exact ⟨vs1, vs2, h0, own_move h1 (fun k hk => hb.block k (own_lt h1 k hk)), h2.below hb, A.obelow h3 hb, h4.below hb, h5⟩
theorem Foc.set (h : Foc A e w b v xs1 x xs2 g c us F1 G F2) (i : Nat) (u : Value) (hi : i < A.k) (ho : A.ow w b (us.set i u) x' G') (hn : (g :: (F1 ++ (G' ++ F2))).Nodup) : Foc A e (w.setCell ⟨g, xs1.length * A.k + i, none⟩ u) b v xs1 x' xs2 g c (us.set i u) F1 G' F2 := by
  obtain ⟨vs1, vs2, rfl, h1, h2, h3, h4, _⟩ := h
  have hfar : ∀ y, y ≠ g → (w.setCell ⟨g, xs1.length * A.k + i, none⟩ u).heap[y]? = w.heap[y]? := fun y hy => Below.heap_setCell w ⟨g, xs1.length * A.k + i, none⟩ u y hy
  have hng := (List.nodup_cons.1 hn).1
  have hl1 := h2.lenv
  have hv : (vs1 ++ us :: vs2)[xs1.length]? = some us := by rw [List.getElem?_append_right (by omega), hl1, Nat.sub_self]; rfl
  have hls : ∀ vs ∈ vs1 ++ us :: vs2, vs.length = A.k := by
    intro vs hvs
    rcases List.mem_append.1 hvs with hvs | hvs
    · exact Els.lens _ _ _ h2 vs hvs
    · rcases List.mem_cons.1 hvs with rfl | hvs
      · exact A.olen h3
      · exact Els.lens _ _ _ h4 vs hvs
  have hset : vs1 ++ (us.set i u) :: vs2 = (vs1 ++ us :: vs2).set xs1.length (us.set i u) := by rw [List.set_append_right _ _ (by omega), hl1, Nat.sub_self, List.set_cons_zero]
  have hlen : (xs1 ++ x' :: xs2).length = (xs1 ++ x :: xs2).length := by simp
  refine ⟨vs1, vs2, by rw [hlen], ?_, h2.frame fun y hy => hfar y (fun e => hng (e ▸ List.mem_append_left _ hy)), A.oframe ho fun y hy => hfar y (fun e => hng (e ▸ List.mem_append_right _ (List.mem_append_left _ hy))), h4.frame fun y hy => hfar y (fun e => hng (e ▸ List.mem_append_right _ (List.mem_append_right _ hy))), hn⟩
  rw [hlen, hset, flat_set _ xs1.length us hls hv i u hi]
  exact (World.ownsRow.stored h1 (xs1.length * A.k + i) u).1
theorem Foc.mov {bs : List Nat} (h : Foc A e w b v xs1 x xs2 g c us F1 G F2) (hu : Upd bs w w') (hbs : ∀ y ∈ bs, y ≠ g ∧ y ∉ F1 ∧ y ∉ F2) (ho : A.ow w' b us x' G') (hn : (g :: (F1 ++ (G' ++ F2))).Nodup) : Foc A e w' b v xs1 x' xs2 g c us F1 G' F2 := by
  obtain ⟨vs1, vs2, rfl, h1, h2, h3, h4, _⟩ := h
  have hlen : (xs1 ++ x' :: xs2).length = (xs1 ++ x :: xs2).length := by simp
  refine ⟨vs1, vs2, by rw [hlen], ?_, h2.frame fun y hy => hu.block y ((Els.mem _ _ _ h2).1 y hy).2 (fun hb => (hbs y hb).2.1 hy), ho, h4.frame fun y hy => hu.block y ((Els.mem _ _ _ h4).1 y hy).2 (fun hb => (hbs y hb).2.2 hy), hn⟩
  rw [hlen]
  exact own_move h1 (fun k hk => hu.block k (own_lt h1 k hk) (fun hb => by simp [Value.ownBlock] at hk; subst hk; exact (hbs _ hb).1 rfl))
end
theorem nodup_swap {g : Nat} {F1 G G' F2 : List Nat} (h : (g :: (F1 ++ (G ++ F2))).Nodup) (hG : G'.Nodup) (hd : ∀ y ∈ G', y ∉ g :: (F1 ++ F2)) : (g :: (F1 ++ (G' ++ F2))).Nodup := by
  obtain ⟨h1, h2⟩ := List.nodup_cons.1 h
  obtain ⟨h3, h4, h5⟩ := List.nodup_append.1 h2
  obtain ⟨h6, h7, h8⟩ := List.nodup_append.1 h4
  refine List.nodup_cons.2 ⟨fun hg => ?_, List.nodup_append.2 ⟨h3, List.nodup_append.2 ⟨hG, h7, fun a ha c hc e => hd a ha (by simp [e, hc])⟩, fun a ha c hc e => ?_⟩⟩
  · rcases List.mem_append.1 hg with hg | hg
    · exact h1 (List.mem_append_left _ hg)
    · rcases List.mem_append.1 hg with hg | hg
      · exact hd g hg List.mem_cons_self
      · exact h1 (List.mem_append_right _ (List.mem_append_right _ hg))
  · rcases List.mem_append.1 hc with hc | hc
    · exact hd c hc (by rw [← e]; simp [ha])
    · exact h5 a ha c (List.mem_append_right _ hc) e
structure Part (α : Type) where
  us : List Value
  x : α
  G : List Nat
def Parts {α : Type} (A : Sh α) (w : World) (b : Nat) (T : List (Part α)) : Prop := (∀ t ∈ T, A.ow w b t.us t.x t.G) ∧ (T.flatMap Part.G).Nodup
theorem Els.parts {α : Type} {A : Sh α} {w : World} {b : Nat} : ∀ (vss : List (List Value)) (xs : List α) (F : List Nat), Els A w b vss xs F → ∃ T : List (Part α), vss = T.map Part.us ∧ xs = T.map Part.x ∧ F = T.flatMap Part.G ∧ Parts A w b T
  | [], [], F, h => by
    have h : F = [] := h
    subst h
    exact ⟨[], rfl, rfl, rfl, by simp, by simp⟩
  | vs :: vss, x :: xs, F, h => by
    have hnd := h.nodup
    obtain ⟨G, H, rfl, h1, h2, h3⟩ := h
    obtain ⟨T, rfl, rfl, rfl, h4, _⟩ := Els.parts vss xs H h2
    refine ⟨⟨vs, x, G⟩ :: T, rfl, rfl, rfl, fun t ht => ?_, hnd⟩
    rcases List.mem_cons.1 ht with rfl | ht
    · exact h1
    · exact h4 t ht
theorem Parts.els {α : Type} {A : Sh α} {w : World} {b : Nat} : ∀ (T : List (Part α)), Parts A w b T → Els A w b (T.map Part.us) (T.map Part.x) (T.flatMap Part.G)
  | [], _ => rfl
  | t :: T, h => by
    have hn := List.nodup_append.1 h.2
    exact ⟨t.G, T.flatMap Part.G, rfl, h.1 t List.mem_cons_self, Parts.els T ⟨fun s hs => h.1 s (List.mem_cons_of_mem _ hs), hn.2.1⟩, fun y hy hy' => hn.2.2 y hy y hy' rfl⟩
theorem own_at {W : World} {b e k n : Nat} {v v1 : Value} {cs : List Value} (hr : W.ownsRow b e k v n cs) (hb : b ≤ W.heap.size) (hat : v1.ownBlock = v.ownBlock ∨ ∃ k, v1.ownBlock = some k ∧ W.heap.size ≤ k) (g : Nat) (hg : v1.ownBlock = some g) : b ≤ g := by
  rcases hat with hat | ⟨k, hat, hk⟩
  · exact own_base hr g (by rw [← hat, hg])
  · rw [hg] at hat
    injection hat with hat
    omega
section
variable {P : Program} {ops : Array Oper} {rest : List Oper} {o : Oper} {a : Act} {Q : Exit → Act → World → Prop} {K : Act → World → Prop} {α : Type} {A : Sh α}
theorem row_grown {e : TypeId} {W w1 : World} {b : Nat} {v v1 : Value} {xs : List α} {F G : List Nat} {us : List Value} {x : α} {vss : List (List Value)} {Gs : List Nat}
    (h2 : Els A W b vss xs Gs) (hF : F = v.ownBlock.toList ++ Gs) (h3 : ∀ g ∈ v.ownBlock.toList, g ∉ Gs) (hx : A.ow W b us x G) (hd : ∀ g ∈ G, g ∉ F)
    (hown : w1.ownsRow b e A.k v1 (xs.length + 1) (vss.flatten ++ us)) (hg : W.grownBy w1 v.ownBlock) (hat : v1.ownBlock = v.ownBlock ∨ ∃ k, v1.ownBlock = some k ∧ W.heap.size ≤ k) :
    ∃ F1, (Sh.row A e).ow w1 b [v1] (xs ++ [x]) F1 ∧ (∀ g ∈ F1, g ∈ F ∨ g ∈ G ∨ W.heap.size ≤ g) ∧ (∀ g ∈ F, g ∉ F1 → v.ownBlock = some g) := by
  subst hF
  have hk : ∀ y, y ∈ Gs ∨ y ∈ G → w1.heap[y]? = W.heap[y]? := by
    intro y hy
    refine hg.block y ?_ ?_
    · rcases hy with hy | hy
      · exact ((Els.mem _ _ _ h2).1 y hy).2
      · exact (A.oin hx y hy).2
    · intro he
      rcases hy with hy | hy
      · exact h3 y (by rw [← he]; simp) hy
      · exact hd y hy (List.mem_append_left _ (by rw [← he]; simp))
  have hE : Els A w1 b (vss ++ [us]) (xs ++ [x]) (Gs ++ G) :=
    Els.append _ _ _ (h2.frame fun y hy => hk y (.inl hy)) ⟨G, [], by simp, A.oframe hx fun y hy => hk y (.inr hy), rfl, by simp⟩ (fun y hy hy' => hd y hy' (List.mem_append_right _ hy))
  refine ⟨v1.ownBlock.toList ++ (Gs ++ G), ⟨v1, vss ++ [us], Gs ++ G, rfl, by simpa using hown, hE, rfl, fun y hy hy' => ?_⟩, fun y hy => ?_, fun y hy hn => ?_⟩
  · have hy : v1.ownBlock = some y := by simpa using hy
    rcases hat with hat | ⟨k, hat, hk'⟩
    · have hv : v.ownBlock = some y := by rw [← hat, hy]
      rcases List.mem_append.1 hy' with hy' | hy'
      · exact h3 y (by rw [hv]; simp) hy'
      · exact hd y hy' (List.mem_append_left _ (by rw [hv]; simp))
    · rw [hy] at hat
      injection hat with hat
      subst hat
      rcases List.mem_append.1 hy' with hy' | hy'
      · have := ((Els.mem _ _ _ h2).1 y hy').2; omega
      · have := (A.oin hx y hy').2; omega
  · rcases List.mem_append.1 hy with hy | hy
    · have hy : v1.ownBlock = some y := by simpa using hy
      rcases hat with hat | ⟨k, hat, hk'⟩
      · exact .inl (List.mem_append_left _ (by rw [← hat, hy]; simp))
      · rw [hy] at hat
        injection hat with hat
        subst hat
        exact .inr (.inr hk')
    · rcases List.mem_append.1 hy with hy | hy
      · exact .inl (List.mem_append_right _ hy)
      · exact .inr (.inl hy)
  · rcases List.mem_append.1 hy with hy | hy
    · simpa using hy
    · exact absurd (List.mem_append_right _ (List.mem_append_left _ hy)) hn
theorem Sh.app {w0 W : World} {base b : Nat} {e : TypeId} {v : Value} {xs : List α} {F G : List Nat} {us : List Value} {x : α} (z : Value) (bytes : Nat) (s y : Operand) (t : TypeId)
    (HO : (Sh.row A e).ow W b [v] xs F) (hx : A.ow W b us x G) (hd : ∀ g ∈ G, g ∉ F) (HB : Below base w0 W) (hbb : base ≤ b) (hl : (xs.length + 1) * bytes ≤ 140737488355328)
    (hgd : o.guard = none)
    (ho : o.op = .call { callee := .builtin .append, args := #[s, y], argTypes := #[t, t] })
    (ht : P.underlying t = some (.slice e)) (hinfo : (P.info? e).map (fun i => (i.zero, i.size, i.bytes)) = some (some z, A.k, bytes)) (hz : z.cells.size = A.k) (hk0 : 0 < A.k) (hb0 : 0 < bytes)
    (hbase : b ≤ W.heap.size) (hs : a.eval s = v) (hy : a.eval y = .slice (some ⟨W.heap.size, 0, none⟩) 1 1) (h1 : ∀ u ∈ us, u.oneCell' = true)
    (h : ∀ v1 w1 F1, Aside0 ((Sh.row A e).ow w1 b [v1] (xs ++ [x]) F1) → Aside0 (Below base w0 w1) → Aside0 (∀ g ∈ F1, g ∈ F ∨ g ∈ G ∨ W.heap.size ≤ g) → Aside0 (W.grownBy w1 v.ownBlock) → wpList P ops Q rest (a.put o.dst v1) w1) :
    wpList P ops Q (o :: rest) a (W.alloc (.cells us.toArray e)) := by
  obtain ⟨v', vss, Gs, hv, hr, h2, hF, h3⟩ := HO
  injection hv with hv _
  subst hv
  refine ap_lit (w0 := w0) base hgd s y t e z A.k bytes ho ht hinfo hz hk0 hb0 v xs.length 1 vss.flatten us hs hy (by rw [A.olen hx, Nat.one_mul]) h1 (own_weaken hr hbb) HB (by omega) hl ?_
  intro v1 w1 q1 q2 q3 q4
  obtain ⟨F1, r1, r2, _⟩ := row_grown h2 hF h3 hx hd (own_raise q1 fun g hg => own_at hr hbase q4 g (by simpa using hg)) q3 q4
  exact h v1 w1 F1 ⟨r1⟩ ⟨q2⟩ ⟨r2⟩ ⟨q3⟩
end
end Go.Proofs.YtmcdnpooclelgaaDoor

namespace Go.Proofs.YtmcdnpooclelgaaDoor.PAll
open Go.RowKit Go.Proofs.YtmcdnpooclelgaaDoorW.PrintWords
def Half {α : Type} (A : Sh α) (e : TypeId) (z : List Value) (w : World) (b : Nat) (v : Value) (n : Nat) (xs : List α) (Gs : List Nat) : Prop :=
  ∃ vss : List (List Value), xs.length ≤ n ∧ w.ownsRow b e A.k v n (vss.flatten ++ (List.replicate (n - xs.length) z).flatten) ∧ Els A w b vss xs Gs ∧ ∀ g ∈ v.ownBlock.toList, g ∉ Gs
theorem Half.done {α : Type} {A : Sh α} {e : TypeId} {z : List Value} {w : World} {b : Nat} {v : Value} {xs : List α} {Gs : List Nat} (h : Half A e z w b v xs.length xs Gs) : (Sh.row A e).ow w b [v] xs (v.ownBlock.toList ++ Gs) := by
  obtain ⟨vss, _, h1, h2, h3⟩ := h
  rw [Nat.sub_self] at h1
  exact ⟨v, vss, Gs, rfl, by simpa using h1, h2, rfl, h3⟩
theorem Half.below {α : Type} {A : Sh α} {e : TypeId} {z : List Value} {w w' : World} {b n : Nat} {v : Value} {xs : List α} {Gs : List Nat} (h : Half A e z w b v n xs Gs) (hb : Below w.heap.size w w') : Half A e z w' b v n xs Gs := by
  obtain ⟨vss, h0, h1, h2, h3⟩ := h
  exact ⟨vss, h0, own_move h1 (fun k hk => hb.block k (own_lt h1 k hk)), h2.below hb, h3⟩
theorem Half.cell {α : Type} {A : Sh α} {e : TypeId} {z : List Value} {w : World} {b g c n : Nat} {xs : List α} {Gs : List Nat} (h : Half A e z w b (.slice (some ⟨g, 0, none⟩) n c) n xs Gs) (hz : z.length = A.k) (hlt : xs.length < n) (i : Nat) (hi : i < A.k) : w.cell? ⟨g, xs.length * A.k + i, none⟩ = z[i]? ∧ w.frozen? ⟨g, xs.length * A.k + i, none⟩ = false := by
  obtain ⟨vss, h0, h1, h2, h3⟩ := h
  have hf : vss.flatten.length = xs.length * A.k := (Els.mem _ _ _ h2).2.2.2
  have hb : xs.length * A.k + i < n * A.k := by
    have : (xs.length + 1) * A.k ≤ n * A.k := Nat.mul_le_mul_right _ hlt
    rw [Nat.add_mul] at this
    omega
  refine ⟨?_, World.ownsRow.frozenAt h1 _⟩
  rw [World.ownsRow.cellAt h1 (xs.length * A.k + i) hb, List.getElem?_append_right (by omega), hf, Nat.add_sub_cancel_left]
  obtain ⟨m, hm⟩ : ∃ m, n - xs.length = m + 1 := ⟨n - xs.length - 1, by omega⟩
  rw [hm, List.replicate_succ, List.flatten_cons, List.getElem?_append_left (by omega)]
theorem set2 {P R : List Value} {z0 z1 u0 u1 : Value} : ((P ++ (z0 :: z1 :: R)).set P.length u0).set (P.length + 1) u1 = P ++ (u0 :: u1 :: R) := by
  rw [List.set_append_right _ _ (Nat.le_refl _), Nat.sub_self, List.set_cons_zero, List.set_append_right _ _ (by omega), Nat.add_sub_cancel_left, List.set_cons_succ, List.set_cons_zero]
theorem set3 {P R : List Value} {z0 z1 z2 u0 u1 u2 : Value} : (((P ++ (z0 :: z1 :: z2 :: R)).set P.length u0).set (P.length + 1) u1).set (P.length + 2) u2 = P ++ (u0 :: u1 :: u2 :: R) := by
  rw [List.set_append_right _ _ (Nat.le_refl _), Nat.sub_self, List.set_cons_zero, List.set_append_right _ _ (by omega), Nat.add_sub_cancel_left, List.set_cons_succ, List.set_cons_zero, List.set_append_right _ _ (by omega), Nat.add_sub_cancel_left, List.set_cons_succ, List.set_cons_succ, List.set_cons_zero]
section
variable {α : Type} {A : Sh α} {e : TypeId} {w : World} {b g c n : Nat} {xs : List α} {Gs G : List Nat} {x : α} {z0 z1 z2 u0 u1 u2 : Value}
theorem Half.step2 (h : Half A e [z0, z1] w b (.slice (some ⟨g, 0, none⟩) n c) n xs Gs) (hk : A.k = 2) (hlt : xs.length < n) (hx : A.ow w b [u0, u1] x G) (hd : ∀ y ∈ G, y ≠ g ∧ y ∉ Gs) :
    Half A e [z0, z1] ((w.setCell ⟨g, xs.length * 2, none⟩ u0).setCell ⟨g, xs.length * 2 + 1, none⟩ u1) b (.slice (some ⟨g, 0, none⟩) n c) n (xs ++ [x]) (Gs ++ G) := by
  obtain ⟨vss, h0, h1, h2, h3⟩ := h
  have hf : vss.flatten.length = xs.length * 2 := by rw [(Els.mem _ _ _ h2).2.2.2, hk]
  have hfar : ∀ y, y ≠ g → ((w.setCell ⟨g, xs.length * 2, none⟩ u0).setCell ⟨g, xs.length * 2 + 1, none⟩ u1).heap[y]? = w.heap[y]? := fun y hy => (Below.heap_setCell _ ⟨g, xs.length * 2 + 1, none⟩ u1 y hy).trans (Below.heap_setCell w ⟨g, xs.length * 2, none⟩ u0 y hy)
  obtain ⟨m, hm⟩ : ∃ m, n - xs.length = m + 1 := ⟨n - xs.length - 1, by omega⟩
  have hgs : g ∉ Gs := h3 g (by simp [Value.ownBlock])
  refine ⟨vss ++ [[u0, u1]], by simp; omega, ?_, ?_, fun y hy hy' => ?_⟩
  · have h4 := (World.ownsRow.stored (World.ownsRow.stored h1 (xs.length * 2) u0).1 (xs.length * 2 + 1) u1).1
    rw [hm, List.replicate_succ, List.flatten_cons] at h4
    rw [← hf] at h4 ⊢
    rw [show ([z0, z1] ++ (List.replicate m [z0, z1]).flatten) = z0 :: z1 :: (List.replicate m [z0, z1]).flatten from rfl, set2] at h4
    rw [show n - (xs ++ [x]).length = m by simp; omega]
    simpa using h4
  · exact Els.append _ _ _ (h2.frame fun y hy => hfar y (fun e => hgs (e ▸ hy))) ⟨G, [], by simp, A.oframe hx (fun y hy => hfar y (hd y hy).1), rfl, by simp⟩ (fun y hy hy' => (hd y hy').2 hy)
  · rcases List.mem_append.1 hy' with hy' | hy'
    · exact h3 y hy hy'
    · simp [Value.ownBlock] at hy; exact (hd y hy').1 hy
theorem Half.step3 (h : Half A e [z0, z1, z2] w b (.slice (some ⟨g, 0, none⟩) n c) n xs Gs) (hk : A.k = 3) (hlt : xs.length < n) (hx : A.ow w b [u0, u1, u2] x G) (hd : ∀ y ∈ G, y ≠ g ∧ y ∉ Gs) :
    Half A e [z0, z1, z2] (((w.setCell ⟨g, xs.length * 3, none⟩ u0).setCell ⟨g, xs.length * 3 + 1, none⟩ u1).setCell ⟨g, xs.length * 3 + 2, none⟩ u2) b (.slice (some ⟨g, 0, none⟩) n c) n (xs ++ [x]) (Gs ++ G) := by
  obtain ⟨vss, h0, h1, h2, h3⟩ := h
  have hf : vss.flatten.length = xs.length * 3 := by rw [(Els.mem _ _ _ h2).2.2.2, hk]
  have hfar : ∀ y, y ≠ g → (((w.setCell ⟨g, xs.length * 3, none⟩ u0).setCell ⟨g, xs.length * 3 + 1, none⟩ u1).setCell ⟨g, xs.length * 3 + 2, none⟩ u2).heap[y]? = w.heap[y]? := fun y hy => (Below.heap_setCell _ ⟨g, xs.length * 3 + 2, none⟩ u2 y hy).trans ((Below.heap_setCell _ ⟨g, xs.length * 3 + 1, none⟩ u1 y hy).trans (Below.heap_setCell w ⟨g, xs.length * 3, none⟩ u0 y hy))
  obtain ⟨m, hm⟩ : ∃ m, n - xs.length = m + 1 := ⟨n - xs.length - 1, by omega⟩
  have hgs : g ∉ Gs := h3 g (by simp [Value.ownBlock])
  refine ⟨vss ++ [[u0, u1, u2]], by simp; omega, ?_, ?_, fun y hy hy' => ?_⟩
  · have h4 := (World.ownsRow.stored (World.ownsRow.stored (World.ownsRow.stored h1 (xs.length * 3) u0).1 (xs.length * 3 + 1) u1).1 (xs.length * 3 + 2) u2).1
    rw [hm, List.replicate_succ, List.flatten_cons] at h4
    rw [← hf] at h4 ⊢
    rw [show ([z0, z1, z2] ++ (List.replicate m [z0, z1, z2]).flatten) = z0 :: z1 :: z2 :: (List.replicate m [z0, z1, z2]).flatten from rfl, set3] at h4
    rw [show n - (xs ++ [x]).length = m by simp; omega]
    simpa using h4
  · exact Els.append _ _ _ (h2.frame fun y hy => hfar y (fun e => hgs (e ▸ hy))) ⟨G, [], by simp, A.oframe hx (fun y hy => hfar y (hd y hy).1), rfl, by simp⟩ (fun y hy hy' => (hd y hy').2 hy)
  · rcases List.mem_append.1 hy' with hy' | hy'
    · exact h3 y hy hy'
    · simp [Value.ownBlock] at hy; exact (hd y hy').1 hy
end
theorem made_flat (z : Array Value) (n : Nat) (hk : 0 < z.size) : (madeCells z (n * z.size)).toList = (List.replicate n z.toList).flatten := by
  apply List.ext_getElem?
  intro m
  by_cases hm : m < n * z.size
  · have e : m = (m / z.size) * z.size + m % z.size := (Nat.div_add_mod' m z.size).symm
    have hd : m / z.size < n := Nat.div_lt_of_lt_mul (by rw [Nat.mul_comm]; exact hm)
    have h2 := flat_at (k := z.size) (List.replicate n z.toList) (m / z.size) z.toList (by intro vs hvs; rw [List.eq_of_mem_replicate hvs]; simp) (by rw [List.getElem?_replicate, if_pos hd]) (m % z.size) (Nat.mod_lt _ hk)
    rw [← e] at h2
    rw [h2]
    have h3 := Nat.mod_lt m hk
    unfold madeCells
    simp [hm, h3]
  · rw [List.getElem?_eq_none (by rw [Array.length_toList, size_madeCells]; omega), List.getElem?_eq_none (by simp; omega)]
theorem toStrs_any (ss : List ByteArray) (hn : ss.length ≤ 1048576) (A : Option Addr) (c : Nat) (w : World) (hr : Kd.C Kd.string w A ss.length ss) (hc : ss.length ≤ c) :
    Calls Tryd.prog 20 #[.slice A ss.length c] w fun e w' => ∃ v G, e = .returned v ∧ strsS.ow w' w.heap.size [v] ss G ∧ Below w.heap.size w w' := by
  obtain ⟨k, hk⟩ := (ev_toStringS ss (by omega)).rounds
  refine (laws_toStringS.calls k A c ss ss w hr hc hk).mono ?_
  rintro e w' ⟨v, rfl, hR, hb⟩
  exact ⟨v, _, rfl, strs_ER.2 ⟨Kd.own_of_R hR, rfl⟩, hb⟩
theorem far3 {w : World} {a b c : Addr} {u v x : Value} {g : Nat} (h1 : g ≠ a.block) (h2 : g ≠ b.block) (h3 : g ≠ c.block) : (((w.setCell a u).setCell b v).setCell c x).heap[g]? = w.heap[g]? :=
  (Below.heap_setCell _ c x g h3).trans ((Below.heap_setCell _ b v g h2).trans (Below.heap_setCell _ a u g h1))
set_option maxRecDepth 100000 in
set_option maxHeartbeats 2000000 in
theorem toLine_any (l : S155) (h : LF l) (A : Option Addr) (c : Nat) (w : World) (hr : Kd.C Kd.string w A l.f1.length l.f1) (hc : l.f1.length ≤ c) :
    Calls Tryd.prog 152 #[.agg #[.string l.f0, .slice A l.f1.length c]] w fun e w' => ∃ dv G, e = .returned (.agg #[.string l.f0, dv]) ∧ strsS.ow w' w.heap.size [dv] l.f1 G ∧ Below w.heap.size w w' := by
  have HR := Aside0.mk hr
  have HL := Aside0.mk h
  clear hr h
  go_enter Tryd.func152, Tryd.ntmps152
  go_wp2_with fail
  have b1 := blk_alloc (blk_new (w.alloc (.cells #[.string l.f0, .slice A l.f1.length c] 155)) (.cells #[.string ⟨#[]⟩, .slice none 0 0] 83)) (.cells #[.string l.f0, .slice none 0 0] 83)
  have b2 := blk_new ((w.alloc (.cells #[.string l.f0, .slice A l.f1.length c] 155)).alloc (.cells #[.string ⟨#[]⟩, .slice none 0 0] 83)) (.cells #[.string l.f0, .slice none 0 0] 83)
  have hB : Below w.heap.size w (((w.alloc (.cells #[.string l.f0, .slice A l.f1.length c] 155)).alloc (.cells #[.string ⟨#[]⟩, .slice none 0 0] 83)).alloc (.cells #[.string l.f0, .slice none 0 0] 83)) := (((Below.refl _ _).alloc (Nat.le_refl _) _).alloc (by simp) _).alloc (by simp; omega) _
  have hs : (((w.alloc (.cells #[.string l.f0, .slice A l.f1.length c] 155)).alloc (.cells #[.string ⟨#[]⟩, .slice none 0 0] 83)).alloc (.cells #[.string l.f0, .slice none 0 0] 83)).heap.size = w.heap.size + 1 + 1 + 1 := by simp
  rw [show (w.alloc (.cells #[.string l.f0, .slice A l.f1.length c] 155)).heap.size = w.heap.size + 1 by simp] at b1
  rw [show ((w.alloc (.cells #[.string l.f0, .slice A l.f1.length c] 155)).alloc (.cells #[.string ⟨#[]⟩, .slice none 0 0] 83)).heap.size = w.heap.size + 1 + 1 by simp] at b2
  generalize ((w.alloc (.cells #[.string l.f0, .slice A l.f1.length c] 155)).alloc (.cells #[.string ⟨#[]⟩, .slice none 0 0] 83)).alloc (.cells #[.string l.f0, .slice none 0 0] 83) = W3 at *
  refine (toStrs_any l.f1 HL.out.2.1 A c W3 (Kd.C_below HR.out hB) hc).mono ?_
  rintro e w4 ⟨dv, G, rfl, ho, hb⟩
  obtain ⟨D, d, rfl⟩ := own_form ho
  have HO := Aside0.mk ho
  have k1 := blk_below b1 hb
  have k2 := blk_below b2 hb
  have K1 := Aside0.mk k1
  have c10 := (blk_cell k1 0).trans rfl
  have c11 := (blk_cell k1 1).trans rfl
  have c20 := (blk_cell k2 0).trans rfl
  have c21 := (blk_cell k2 1).trans rfl
  have f10 := blk_frozen k1 0
  have f11 := blk_frozen k1 1
  have f21 := blk_frozen k2 1
  have hB4 : Aside0 (Below w.heap.size w w4) := ⟨hB.trans (hb.mono (by omega))⟩
  clear b1 b2 hB hb ho k1 k2
  go_wp2_with fail
  refine bodyPost_ret (results_cell_row rfl _ _ (w.heap.size + 1) 83 #[.string l.f0, .slice D l.f1.length d] (0, 0) _ rfl ?blk Tryd.underlying83 rfl (by kernel_rfl)) rfl ⟨_, G, rfl, ?ow, ?bel⟩
  case blk =>
    refine blk_put (cs := #[.string l.f0, .slice none 0 0]) ?_ 1 _ rfl
    refine blk_put (cs := #[.string ⟨#[]⟩, .slice none 0 0]) ?_ 0 _ rfl
    refine blk_far ?_ (show w.heap.size + 1 ≠ w.heap.size + 1 + 1 by omega) _
    exact K1.out
  case ow =>
    refine strsS.olow (strsS.oframe HO.out fun g hg => ?_) (show w.heap.size ≤ W3.heap.size by omega)
    have hgb := (strsS.oin HO.out g hg).1
    exact far3 (show g ≠ w.heap.size + 1 + 1 by omega) (show g ≠ w.heap.size + 1 by omega) (show g ≠ w.heap.size + 1 by omega)
  case bel => exact ((hB4.out.setCell (p := ⟨w.heap.size + 1 + 1, 1, none⟩) (show w.heap.size ≤ w.heap.size + 1 + 1 by omega) _).setCell (p := ⟨w.heap.size + 1, 0, none⟩) (show w.heap.size ≤ w.heap.size + 1 by omega) _).setCell (p := ⟨w.heap.size + 1, 1, none⟩) (show w.heap.size ≤ w.heap.size + 1 by omega) _
set_option maxRecDepth 100000 in
set_option maxHeartbeats 2000000 in
theorem toLines_any (ls : List S155) (h : LFs ls) (A : Option Addr) (c : Nat) (w : World) (hr : Kd.C k155 w A ls.length ls) :
    Calls Tryd.prog 138 #[.slice A ls.length c] w fun e w' => ∃ v G, e = .returned v ∧ linesS.ow w' w.heap.size [v] (ls.map cvL) G ∧ Below w.heap.size w w' := by
  have HR := Aside0.mk hr
  have HL := Aside0.mk h
  have hlen : ls.length ≤ 1048576 := h.1
  clear hr h
  obtain ⟨i0, hi, hz0, hz1, hz2⟩ := info_parts (show (Tryd.prog.info? 83).map (fun i => (i.zero, i.size, i.bytes)) = some (some (.agg #[.string ⟨#[]⟩, .slice none 0 0]), 2, 40) by kernel_rfl)
  go_enter Tryd.func138, Tryd.ntmps138
  go_wp2_with (at_make; refine wpList_make_full _ rfl _ _ 52 rfl w.heap.size 83 i0 _ 2 Tryd.underlying52 hi hz0 hz1 .i64 .i64 ls.length ls.length ls.length rfl rfl rfl rfl ?b2 ?b3 (Nat.le_refl _) ?_)
  case b2 => rw [hz2]; omega
  case b3 => unfold maxLen; omega
  intro w1 hown hg
  have hz := made_flat #[.string ⟨#[]⟩, .slice none 0 0] ls.length (by decide)
  have hH : Aside0 (∃ Gs, Half lineS 83 [.string ⟨#[]⟩, .slice none 0 0] w1 w.heap.size (.slice (some ⟨w.heap.size, 0, none⟩) ls.length ls.length) ls.length ((ls.take 0).map cvL) Gs) :=
    ⟨[], [], by simp, by have h2 := hown; rw [show ls.length * 2 = ls.length * (#[Value.string ⟨#[]⟩, .slice none 0 0] : Array Value).size from rfl] at h2; change w1.ownsRow _ _ _ _ _ (madeCells #[.string ⟨#[]⟩, .slice none 0 0] _).toList at h2; rw [hz] at h2; have h3 : w1.ownsRow w.heap.size 83 lineS.k (.slice (some ⟨w.heap.size, 0, none⟩) ls.length ls.length) ls.length (List.replicate ls.length [Value.string ⟨#[]⟩, .slice none 0 0]).flatten := h2; simpa using h3, rfl, by simp⟩
  have hB1 : Below w.heap.size w w1 := (Below.refl _ _).grown hg (Nat.le_refl _) (fun k hk => by cases hk)
  have hs1 : w.heap.size < w1.heap.size := own_lt hown _ rfl
  clear hown hg hz hi hz0 hz1 hz2
  go_wp2_with fail
  go_loopw [4] (fun v wr => ∃ j : Nat, v = .int .i64 j ∧ j ≤ ls.length ∧ Below w.heap.size w wr ∧ w.heap.size < wr.heap.size ∧ Aside0 (∃ Gs, Half lineS 83 [.string ⟨#[]⟩, .slice none 0 0] wr w.heap.size (.slice (some ⟨w.heap.size, 0, none⟩) ls.length ls.length) ls.length ((ls.take j).map cvL) Gs)) (fun v _ => ls.length - (intOf v).toNat)
  case atStart => exact ⟨0, rfl, Nat.zero_le _, hB1, hs1, hH⟩
  case round =>
    clear hH hB1 hs1
    obtain ⟨j, rfl, hj, hB, hs, hH⟩ := hrel
    by_cases hlt : j < ls.length
    · obtain ⟨ad, A1, c1, rfl, hx0, hx1, hl1, hC1⟩ := at_T155 (Kd.C_below HR.out hB) (j : Int) (by omega) (by omega)
      rw [rdLl hlt, Int.toNat_natCast] at hx0 hx1
      rw [rdLl hlt] at hl1 hC1
      have hL := HL.out.2 _ (List.getElem_mem hlt)
      have hnx : (ls.take (j + 1)).map cvL = (ls.take j).map cvL ++ [cvL ls[j]] := by rw [List.take_add_one, List.getElem?_eq_getElem hlt, List.map_append]; rfl
      have hjl : ((ls.take j).map cvL).length = j := by rw [List.length_map, List.length_take]; omega
      generalize ls[j] = l at *
      obtain ⟨f0, f1⟩ := l
      have HNX := Aside0.mk hnx
      have HJL := Aside0.mk hjl
      have HL1 := Aside0.mk hL
      have HC1 := Aside0.mk hC1
      clear hnx hjl hL hC1
      have i1 : (j : Int) < (ls.length : Int) := by omega
      go_wp2_with fail
      refine (toLine_any ⟨f0, f1⟩ HL1.out A1 c1 _ HC1.out hl1).mono ?_
      rintro e w2 ⟨dv, G, rfl, ho, hb⟩
      obtain ⟨D, d, rfl⟩ := own_form ho
      obtain ⟨Gs, hGs⟩ := hH.out
      have hG2 := hGs.below hb
      have q0 := hG2.cell rfl (by rw [HJL.out]; exact hlt) 0 (by decide)
      have q1 := hG2.cell rfl (by rw [HJL.out]; exact hlt) 1 (by decide)
      rw [HJL.out] at q0 q1
      obtain ⟨q00, q01⟩ := q0
      obtain ⟨q10, q11⟩ := q1
      have q00 : w2.cell? ⟨w.heap.size, j * 2, none⟩ = some (.string ⟨#[]⟩) := q00
      have q01 : w2.frozen? ⟨w.heap.size, j * 2, none⟩ = false := q01
      have q10 : w2.cell? ⟨w.heap.size, j * 2 + 1, none⟩ = some (.slice none 0 0) := q10
      have q11 : w2.frozen? ⟨w.heap.size, j * 2 + 1, none⟩ = false := q11
      have hst := Aside0.mk (hG2.step2 (x := cvL ⟨f0, f1⟩) rfl (by rw [HJL.out]; exact hlt) (line_ow (key := f0) (strsS.olow ho hB.size)) (fun y hy => ⟨by have := (strsS.oin ho y hy).1; omega, fun hy' => by
        have h1 := (strsS.oin ho y hy).1
        obtain ⟨vss, _, _, h2, _⟩ := hGs
        have := ((Els.mem _ _ _ h2).1 y hy').2
        omega⟩))
      have hB2 : Below w.heap.size w w2 := hB.trans (hb.mono hB.size)
      have hs2 : w.heap.size < w2.heap.size := by have := hb.size; omega
      clear hb ho hG2 hGs hx0 hx1 hB hs hH
      go_wp2_with fail
      go_roundw
      case rel => exact ⟨j + 1, by go_num, hlt, (hB2.setCell (p := ⟨w.heap.size, j * 2, none⟩) (Nat.le_refl _) _).setCell (p := ⟨w.heap.size, j * 2 + 1, none⟩) (Nat.le_refl _) _, by simpa using hs2, ⟨_, by rw [HNX.out]; have := hst.out; rw [HJL.out] at this; exact this⟩⟩
      case measure => simp [intOf]; omega
    · obtain rfl : j = ls.length := by omega
      obtain ⟨Gs, hGs⟩ := hH.out
      rw [List.take_length] at hGs
      have hd : Aside0 (linesS.ow wr w.heap.size [.slice (some ⟨w.heap.size, 0, none⟩) ls.length ls.length] (ls.map cvL) ((Value.slice (some ⟨w.heap.size, 0, none⟩) ls.length ls.length).ownBlock.toList ++ Gs)) := ⟨Half.done (by rw [List.length_map]; exact hGs)⟩
      clear hGs hH
      go_wp2
      go_ret
      exact ⟨_, _, rfl, hd.out, hB⟩
theorem far4 {w : World} {a b c d : Addr} {u v x y : Value} {g : Nat} (h1 : g ≠ a.block) (h2 : g ≠ b.block) (h3 : g ≠ c.block) (h4 : g ≠ d.block) : ((((w.setCell a u).setCell b v).setCell c x).setCell d y).heap[g]? = w.heap[g]? :=
  (Below.heap_setCell _ d y g h4).trans (far3 h1 h2 h3)
set_option maxRecDepth 100000 in
set_option maxHeartbeats 2000000 in
theorem toBlock_any (b : S128) (h : KF b) (A : Option Addr) (c : Nat) (w : World) (hr : Kd.C k155 w A b.f2.length b.f2) :
    Calls Tryd.prog 115 #[.agg #[.string b.f0, .string b.f1, .slice A b.f2.length c]] w fun e w' => ∃ lv G, e = .returned (.agg #[.string b.f0, .string b.f1, lv]) ∧ linesS.ow w' w.heap.size [lv] (b.f2.map cvL) G ∧ Below w.heap.size w w' := by
  have HR := Aside0.mk hr
  have HL := Aside0.mk h
  clear hr h
  go_enter Tryd.func115, Tryd.ntmps115
  go_wp2_with fail
  have b1 := blk_alloc (blk_new (w.alloc (.cells #[.string b.f0, .string b.f1, .slice A b.f2.length c] 128)) (.cells #[.string ⟨#[]⟩, .string ⟨#[]⟩, .slice none 0 0] 62)) (.cells #[.string b.f0, .string b.f1, .slice none 0 0] 62)
  have b2 := blk_new ((w.alloc (.cells #[.string b.f0, .string b.f1, .slice A b.f2.length c] 128)).alloc (.cells #[.string ⟨#[]⟩, .string ⟨#[]⟩, .slice none 0 0] 62)) (.cells #[.string b.f0, .string b.f1, .slice none 0 0] 62)
  have hB : Below w.heap.size w (((w.alloc (.cells #[.string b.f0, .string b.f1, .slice A b.f2.length c] 128)).alloc (.cells #[.string ⟨#[]⟩, .string ⟨#[]⟩, .slice none 0 0] 62)).alloc (.cells #[.string b.f0, .string b.f1, .slice none 0 0] 62)) := (((Below.refl _ _).alloc (Nat.le_refl _) _).alloc (by simp) _).alloc (by simp; omega) _
  have hs : (((w.alloc (.cells #[.string b.f0, .string b.f1, .slice A b.f2.length c] 128)).alloc (.cells #[.string ⟨#[]⟩, .string ⟨#[]⟩, .slice none 0 0] 62)).alloc (.cells #[.string b.f0, .string b.f1, .slice none 0 0] 62)).heap.size = w.heap.size + 1 + 1 + 1 := by simp
  rw [show (w.alloc (.cells #[.string b.f0, .string b.f1, .slice A b.f2.length c] 128)).heap.size = w.heap.size + 1 by simp] at b1
  rw [show ((w.alloc (.cells #[.string b.f0, .string b.f1, .slice A b.f2.length c] 128)).alloc (.cells #[.string ⟨#[]⟩, .string ⟨#[]⟩, .slice none 0 0] 62)).heap.size = w.heap.size + 1 + 1 by simp] at b2
  generalize ((w.alloc (.cells #[.string b.f0, .string b.f1, .slice A b.f2.length c] 128)).alloc (.cells #[.string ⟨#[]⟩, .string ⟨#[]⟩, .slice none 0 0] 62)).alloc (.cells #[.string b.f0, .string b.f1, .slice none 0 0] 62) = W3 at *
  refine (toLines_any b.f2 HL.out.2.2 A c W3 (Kd.C_below HR.out hB)).mono ?_
  rintro e w4 ⟨dv, G, rfl, ho, hb⟩
  obtain ⟨D, d, rfl⟩ := own_form ho
  rw [List.length_map] at ho
  have HO := Aside0.mk ho
  have k1 := blk_below b1 hb
  have k2 := blk_below b2 hb
  have K1 := Aside0.mk k1
  have c10 := (blk_cell k1 0).trans rfl
  have c11 := (blk_cell k1 1).trans rfl
  have c12 := (blk_cell k1 2).trans rfl
  have c20 := (blk_cell k2 0).trans rfl
  have c21 := (blk_cell k2 1).trans rfl
  have c22 := (blk_cell k2 2).trans rfl
  have f10 := blk_frozen k1 0
  have f11 := blk_frozen k1 1
  have f12 := blk_frozen k1 2
  have f22 := blk_frozen k2 2
  have hB4 : Aside0 (Below w.heap.size w w4) := ⟨hB.trans (hb.mono (by omega))⟩
  clear b1 b2 hB hb ho k1 k2
  go_wp2_with fail
  refine bodyPost_ret (results_cell_row rfl _ _ (w.heap.size + 1) 62 #[.string b.f0, .string b.f1, .slice D b.f2.length d] (0, 0) _ rfl ?blk Tryd.underlying62 rfl (by kernel_rfl)) rfl ⟨_, G, rfl, ?ow, ?bel⟩
  case blk =>
    refine blk_put (cs := #[.string b.f0, .string b.f1, .slice none 0 0]) ?_ 2 _ rfl
    refine blk_put (cs := #[.string b.f0, .string ⟨#[]⟩, .slice none 0 0]) ?_ 1 _ rfl
    refine blk_put (cs := #[.string ⟨#[]⟩, .string ⟨#[]⟩, .slice none 0 0]) ?_ 0 _ rfl
    refine blk_far ?_ (show w.heap.size + 1 ≠ w.heap.size + 1 + 1 by omega) _
    exact K1.out
  case ow =>
    refine linesS.olow (linesS.oframe HO.out fun g hg => ?_) (show w.heap.size ≤ W3.heap.size by omega)
    have hgb := (linesS.oin HO.out g hg).1
    exact far4 (show g ≠ w.heap.size + 1 + 1 by omega) (show g ≠ w.heap.size + 1 by omega) (show g ≠ w.heap.size + 1 by omega) (show g ≠ w.heap.size + 1 by omega)
  case bel => exact (((hB4.out.setCell (p := ⟨w.heap.size + 1 + 1, 2, none⟩) (show w.heap.size ≤ w.heap.size + 1 + 1 by omega) _).setCell (p := ⟨w.heap.size + 1, 0, none⟩) (show w.heap.size ≤ w.heap.size + 1 by omega) _).setCell (p := ⟨w.heap.size + 1, 1, none⟩) (show w.heap.size ≤ w.heap.size + 1 by omega) _).setCell (p := ⟨w.heap.size + 1, 2, none⟩) (show w.heap.size ≤ w.heap.size + 1 by omega) _
set_option maxRecDepth 100000 in
set_option maxHeartbeats 2000000 in
theorem toBlocks_any (ls : List S128) (h : KFs ls) (A : Option Addr) (c : Nat) (w : World) (hr : Kd.C k128 w A ls.length ls) :
    Calls Tryd.prog 74 #[.slice A ls.length c] w fun e w' => ∃ v G, e = .returned v ∧ blocksS.ow w' w.heap.size [v] (ls.map cvB) G ∧ Below w.heap.size w w' := by
  have HR := Aside0.mk hr
  have HL := Aside0.mk h
  have hlen : ls.length ≤ 1048576 := h.1
  clear hr h
  obtain ⟨i0, hi, hz0, hz1, hz2⟩ := info_parts (show (Tryd.prog.info? 62).map (fun i => (i.zero, i.size, i.bytes)) = some (some (.agg #[.string ⟨#[]⟩, .string ⟨#[]⟩, .slice none 0 0]), 3, 56) by kernel_rfl)
  go_enter Tryd.func74, Tryd.ntmps74
  go_wp2_with (at_make; refine wpList_make_full _ rfl _ _ 45 rfl w.heap.size 62 i0 _ 3 Tryd.underlying45 hi hz0 hz1 .i64 .i64 ls.length ls.length ls.length rfl rfl rfl rfl ?b2 ?b3 (Nat.le_refl _) ?_)
  case b2 => rw [hz2]; omega
  case b3 => unfold maxLen; omega
  intro w1 hown hg
  have hz := made_flat #[.string ⟨#[]⟩, .string ⟨#[]⟩, .slice none 0 0] ls.length (by decide)
  have hH : Aside0 (∃ Gs, Half blockS 62 [.string ⟨#[]⟩, .string ⟨#[]⟩, .slice none 0 0] w1 w.heap.size (.slice (some ⟨w.heap.size, 0, none⟩) ls.length ls.length) ls.length ((ls.take 0).map cvB) Gs) :=
    ⟨[], [], by simp, by have h2 := hown; rw [show ls.length * 3 = ls.length * (#[Value.string ⟨#[]⟩, .string ⟨#[]⟩, .slice none 0 0] : Array Value).size from rfl] at h2; change w1.ownsRow _ _ _ _ _ (madeCells #[.string ⟨#[]⟩, .string ⟨#[]⟩, .slice none 0 0] _).toList at h2; rw [hz] at h2; have h3 : w1.ownsRow w.heap.size 62 blockS.k (.slice (some ⟨w.heap.size, 0, none⟩) ls.length ls.length) ls.length (List.replicate ls.length [Value.string ⟨#[]⟩, .string ⟨#[]⟩, .slice none 0 0]).flatten := h2; simpa using h3, rfl, by simp⟩
  have hB1 : Below w.heap.size w w1 := (Below.refl _ _).grown hg (Nat.le_refl _) (fun k hk => by cases hk)
  have hs1 : w.heap.size < w1.heap.size := own_lt hown _ rfl
  clear hown hg hz hi hz0 hz1 hz2
  go_wp2_with fail
  go_loopw [4] (fun v wr => ∃ j : Nat, v = .int .i64 j ∧ j ≤ ls.length ∧ Below w.heap.size w wr ∧ w.heap.size < wr.heap.size ∧ Aside0 (∃ Gs, Half blockS 62 [.string ⟨#[]⟩, .string ⟨#[]⟩, .slice none 0 0] wr w.heap.size (.slice (some ⟨w.heap.size, 0, none⟩) ls.length ls.length) ls.length ((ls.take j).map cvB) Gs)) (fun v _ => ls.length - (intOf v).toNat)
  case atStart => exact ⟨0, rfl, Nat.zero_le _, hB1, hs1, hH⟩
  case round =>
    clear hH hB1 hs1
    obtain ⟨j, rfl, hj, hB, hs, hH⟩ := hrel
    by_cases hlt : j < ls.length
    · obtain ⟨ad, A1, c1, rfl, hx0, hx1, hx2, hl1, hC1⟩ := at_T128 (Kd.C_below HR.out hB) (j : Int) (by omega) (by omega)
      rw [rdBl hlt, Int.toNat_natCast] at hx0 hx1 hx2
      rw [rdBl hlt] at hl1 hC1
      have hL := HL.out.2 _ (List.getElem_mem hlt)
      have hnx : (ls.take (j + 1)).map cvB = (ls.take j).map cvB ++ [cvB ls[j]] := by rw [List.take_add_one, List.getElem?_eq_getElem hlt, List.map_append]; rfl
      have hjl : ((ls.take j).map cvB).length = j := by rw [List.length_map, List.length_take]; omega
      generalize ls[j] = l at *
      obtain ⟨f0, f1, f2⟩ := l
      have HNX := Aside0.mk hnx
      have HJL := Aside0.mk hjl
      have HL1 := Aside0.mk hL
      have HC1 := Aside0.mk hC1
      clear hnx hjl hL hC1
      have i1 : (j : Int) < (ls.length : Int) := by omega
      go_wp2_with fail
      refine (toBlock_any ⟨f0, f1, f2⟩ HL1.out A1 c1 _ HC1.out).mono ?_
      rintro e w2 ⟨dv, G, rfl, ho, hb⟩
      obtain ⟨D, d, rfl⟩ := own_form ho
      rw [List.length_map] at ho
      obtain ⟨Gs, hGs⟩ := hH.out
      have hG2 := hGs.below hb
      have q0 := hG2.cell rfl (by rw [HJL.out]; exact hlt) 0 (by decide)
      have q1 := hG2.cell rfl (by rw [HJL.out]; exact hlt) 1 (by decide)
      have q2 := hG2.cell rfl (by rw [HJL.out]; exact hlt) 2 (by decide)
      rw [HJL.out] at q0 q1 q2
      obtain ⟨q00, q01⟩ := q0
      obtain ⟨q10, q11⟩ := q1
      obtain ⟨q20, q21⟩ := q2
      have q00 : w2.cell? ⟨w.heap.size, j * 3, none⟩ = some (.string ⟨#[]⟩) := q00
      have q01 : w2.frozen? ⟨w.heap.size, j * 3, none⟩ = false := q01
      have q10 : w2.cell? ⟨w.heap.size, j * 3 + 1, none⟩ = some (.string ⟨#[]⟩) := q10
      have q20 : w2.cell? ⟨w.heap.size, j * 3 + 2, none⟩ = some (.slice none 0 0) := q20
      have q21 : w2.frozen? ⟨w.heap.size, j * 3 + 2, none⟩ = false := q21
      have q11 : w2.frozen? ⟨w.heap.size, j * 3 + 1, none⟩ = false := q11
      have hst := Aside0.mk (hG2.step3 (x := cvB ⟨f0, f1, f2⟩) rfl (by rw [HJL.out]; exact hlt) (block_ow (kind := f0) (name := f1) (linesS.olow ho hB.size)) (fun y hy => ⟨by have := (linesS.oin ho y hy).1; omega, fun hy' => by
        have h1 := (linesS.oin ho y hy).1
        obtain ⟨vss, _, _, h2, _⟩ := hGs
        have := ((Els.mem _ _ _ h2).1 y hy').2
        omega⟩))
      have hB2 : Below w.heap.size w w2 := hB.trans (hb.mono hB.size)
      have hs2 : w.heap.size < w2.heap.size := by have := hb.size; omega
      clear hb ho hG2 hGs hx0 hx1 hx2 hB hs hH
      go_wp2_with fail
      go_roundw
      case rel => exact ⟨j + 1, by go_num, hlt, ((hB2.setCell (p := ⟨w.heap.size, j * 3, none⟩) (Nat.le_refl _) _).setCell (p := ⟨w.heap.size, j * 3 + 1, none⟩) (Nat.le_refl _) _).setCell (p := ⟨w.heap.size, j * 3 + 2, none⟩) (Nat.le_refl _) _, by simpa using hs2, ⟨_, by rw [HNX.out]; have := hst.out; rw [HJL.out] at this; exact this⟩⟩
      case measure => simp [intOf]; omega
    · obtain rfl : j = ls.length := by omega
      obtain ⟨Gs, hGs⟩ := hH.out
      rw [List.take_length] at hGs
      have hd : Aside0 (blocksS.ow wr w.heap.size [.slice (some ⟨w.heap.size, 0, none⟩) ls.length ls.length] (ls.map cvB) ((Value.slice (some ⟨w.heap.size, 0, none⟩) ls.length ls.length).ownBlock.toList ++ Gs)) := ⟨Half.done (by rw [List.length_map]; exact hGs)⟩
      clear hGs hH
      go_wp2
      go_ret
      exact ⟨_, _, rfl, hd.out, hB⟩
set_option maxRecDepth 100000 in
set_option maxHeartbeats 2000000 in
theorem toSheet_any (bs : List S128) (h : KFs bs) (A : Option Addr) (c : Nat) (w : World) (hr : Kd.C k128 w A bs.length bs) :
    Calls Tryd.prog 28 #[.agg #[.slice A bs.length c]] w fun e w' => ∃ v G, e = .returned (.agg #[v]) ∧ blocksS.ow w' w.heap.size [v] (cvBs bs) G ∧ Below w.heap.size w w' := by
  have HR := Aside0.mk hr
  have HL := Aside0.mk h
  clear hr h
  go_enter Tryd.func28, Tryd.ntmps28
  go_wp2_with fail
  have b1 := blk_alloc (blk_new (w.alloc (.cells #[.slice A bs.length c] 42)) (.cells #[.slice none 0 0] 47)) (.cells #[.slice none 0 0] 47)
  have b2 := blk_new ((w.alloc (.cells #[.slice A bs.length c] 42)).alloc (.cells #[.slice none 0 0] 47)) (.cells #[.slice none 0 0] 47)
  have hB : Below w.heap.size w (((w.alloc (.cells #[.slice A bs.length c] 42)).alloc (.cells #[.slice none 0 0] 47)).alloc (.cells #[.slice none 0 0] 47)) := (((Below.refl _ _).alloc (Nat.le_refl _) _).alloc (by simp) _).alloc (by simp; omega) _
  have hs : (((w.alloc (.cells #[.slice A bs.length c] 42)).alloc (.cells #[.slice none 0 0] 47)).alloc (.cells #[.slice none 0 0] 47)).heap.size = w.heap.size + 1 + 1 + 1 := by simp
  rw [show (w.alloc (.cells #[.slice A bs.length c] 42)).heap.size = w.heap.size + 1 by simp] at b1
  rw [show ((w.alloc (.cells #[.slice A bs.length c] 42)).alloc (.cells #[.slice none 0 0] 47)).heap.size = w.heap.size + 1 + 1 by simp] at b2
  generalize ((w.alloc (.cells #[.slice A bs.length c] 42)).alloc (.cells #[.slice none 0 0] 47)).alloc (.cells #[.slice none 0 0] 47) = W3 at *
  refine (toBlocks_any bs HL.out A c W3 (Kd.C_below HR.out hB)).mono ?_
  rintro e w4 ⟨dv, G, rfl, ho, hb⟩
  obtain ⟨D, d, rfl⟩ := own_form ho
  rw [List.length_map] at ho
  have HO := Aside0.mk ho
  have k1 := blk_below b1 hb
  have k2 := blk_below b2 hb
  have K1 := Aside0.mk k1
  have c10 := (blk_cell k1 0).trans rfl
  have c20 := (blk_cell k2 0).trans rfl
  have f10 := blk_frozen k1 0
  have f20 := blk_frozen k2 0
  have hB4 : Aside0 (Below w.heap.size w w4) := ⟨hB.trans (hb.mono (by omega))⟩
  clear b1 b2 hB hb ho k1 k2
  go_wp2_with fail
  refine bodyPost_ret (results_cell_row rfl _ _ (w.heap.size + 1) 47 #[.slice D bs.length d] (0, 0) _ rfl ?blk Tryd.underlying47 rfl (by kernel_rfl)) rfl ⟨.slice D bs.length d, G, rfl, ?ow, ?bel⟩
  case blk =>
    refine blk_put (cs := #[.slice none 0 0]) ?_ 0 _ rfl
    refine blk_far ?_ (show w.heap.size + 1 ≠ w.heap.size + 1 + 1 by omega) _
    exact K1.out
  case ow =>
    refine blocksS.olow (blocksS.oframe HO.out fun g hg => ?_) (show w.heap.size ≤ W3.heap.size by omega)
    have hgb := (blocksS.oin HO.out g hg).1
    exact (Below.heap_setCell _ ⟨w.heap.size + 1, 0, none⟩ _ g (show g ≠ w.heap.size + 1 by omega)).trans (Below.heap_setCell _ ⟨w.heap.size + 1 + 1, 0, none⟩ _ g (show g ≠ w.heap.size + 1 + 1 by omega))
  case bel => exact (hB4.out.setCell (p := ⟨w.heap.size + 1 + 1, 0, none⟩) (show w.heap.size ≤ w.heap.size + 1 + 1 by omega) _).setCell (p := ⟨w.heap.size + 1, 0, none⟩) (show w.heap.size ≤ w.heap.size + 1 by omega) _
end Go.Proofs.YtmcdnpooclelgaaDoor.PAll

namespace Go.Proofs.YtmcdnpooclelgaaDoor.PAll
open Go.RowKit Go.Proofs.YtmcdnpooclelgaaDoorW.PrintWords
theorem eqStr_c (ws : List ByteArray) (hn : ws.length ≤ 1048576) (A B : Option Addr) (c d : Nat) (w : World) (ha : Kd.C Kd.string w A ws.length ws) (hc : ws.length ≤ c) (hb : Kd.C Kd.string w B ws.length ws) (hd : ws.length ≤ d) :
    Calls Tryd.prog 22 #[.slice A ws.length c, .slice B ws.length d] w fun e w' => e = .returned (.bool true) ∧ Below w.heap.size w w' := by
  have h := ev_eqStringS ws ws (by omega)
  rw [decide_eq_true rfl] at h
  obtain ⟨k, hk⟩ := h.rounds
  exact (laws_eqStringS.calls k A c ws B d ws true w ha hc hb hd hk).mono fun e w' ⟨he, hd⟩ => ⟨he, hd.below⟩
set_option maxRecDepth 100000 in
set_option maxHeartbeats 1000000 in
theorem eqLine_c (l : S83) (h : smallL l) (A B : Option Addr) (c d : Nat) (w : World) (ha : Kd.C Kd.string w A l.f1.length l.f1) (hc : l.f1.length ≤ c) (hb : Kd.C Kd.string w B l.f1.length l.f1) (hd : l.f1.length ≤ d) :
    Calls Tryd.prog 89 #[.agg #[.string l.f0, .slice A l.f1.length c], .agg #[.string l.f0, .slice B l.f1.length d]] w fun e w' => e = .returned (.bool true) ∧ Below w.heap.size w w' := by
  have HA := Aside0.mk (fun w' hb' => eqStr_c l.f1 h.2.1 A B c d w' (Kd.C_below ha hb') hc (Kd.C_below hb hb') hd)
  clear ha hb h
  go_enter Tryd.func89, Tryd.ntmps89
  go_wp2_with fail
  have hB : ∀ x y, Below w.heap.size w ((w.alloc x).alloc y) := fun x y => ((Below.refl _ _).alloc (Nat.le_refl _) _).alloc (by simp) _
  refine (HA.out _ (hB _ _)).mono ?_
  rintro e w1 ⟨rfl, hb1⟩
  have hB1 := Aside0.mk ((hB _ _).trans (hb1.mono (by simp; omega)))
  clear hb1 hB
  go_wp2_with fail
  go_ret
  exact ⟨rfl, hB1.out⟩
set_option maxRecDepth 100000 in
set_option maxHeartbeats 2000000 in
theorem eqLines_c (ls : List S83) (h : smallLs ls) (A B : Option Addr) (c d : Nat) (w : World) (ha : Kd.C k83 w A ls.length ls) (hb : Kd.C k83 w B ls.length ls) :
    Calls Tryd.prog 35 #[.slice A ls.length c, .slice B ls.length d] w fun e w' => e = .returned (.bool true) ∧ Below w.heap.size w w' := by
  have HA := Aside0.mk ha
  have HB := Aside0.mk hb
  have HS := Aside0.mk h
  have hn : ls.length ≤ 1048576 := h.1
  clear ha hb h
  go_enter Tryd.func35, Tryd.ntmps35
  go_wp2
  go_loopw [5] (fun v wr => ∃ k : Nat, v = .int .i64 k ∧ k ≤ ls.length ∧ Below w.heap.size w wr) (fun v _ => ls.length - (intOf v).toNat)
  case atStart => exact ⟨0, rfl, Nat.zero_le _, Below.refl _ _⟩
  case round =>
    obtain ⟨k, rfl, hk, hBr⟩ := hrel
    by_cases hlt : k < ls.length
    · obtain ⟨ad, A1, c1, rfl, hx0, hx1, hl1, hC1⟩ := line_at (Kd.C_below HA.out hBr) k ls[k] (List.getElem?_eq_getElem hlt)
      obtain ⟨bd, B1, d1, rfl, hy0, hy1, hm1, hD1⟩ := line_at (Kd.C_below HB.out hBr) k ls[k] (List.getElem?_eq_getElem hlt)
      have hL := HS.out.2 _ (List.getElem_mem hlt)
      generalize ls[k] = l at *
      have i1 : (k : Int) < (ls.length : Int) := by omega
      go_upto_region 6 with (fail)
      have FC := fun p : BW wr => eqLine_c l hL A1 B1 c1 d1 p.w' (Kd.C_below hC1 p.h) hl1 (Kd.C_below hD1 p.h) hm1
      have q0 := fun p : BW wr => p.cell hx0
      have q1 := fun p : BW wr => p.cell hx1
      have r0 := fun p : BW wr => p.cell hy0
      have r1 := fun p : BW wr => p.cell hy1
      clear hx0 hx1 hy0 hy1 hC1 hD1
      refine wp_region_below (by kernel_rfl) (by kernel_rfl) ?_
      repeat ((with_reducible refine wpQuiet_step ?_); (with_reducible intro K hK); go_simp; first | ((with_reducible refine hK _ ?_); clear hK K) | (apply Exists.intro; refine ⟨fun _ => ?_, hK _ ?_⟩; (first | (go_at_call 89; exact BW.calls (FC _))); clear hK K))
      with_reducible refine wpQuiet_nil ?_
      intro wn hw'
      obtain ⟨⟨_, hBn⟩, rfl⟩ := hw'
      clear FC q0 q1 r0 r1
      have hB2 := hBr.trans (hBn.mono hBr.size)
      go_wp2
      go_roundw
      case rel => exact ⟨k + 1, by go_num, hlt, hB2⟩
      case measure => simp [intOf]; omega
    · obtain rfl : k = ls.length := by omega
      go_wp2
      go_ret
      exact ⟨rfl, hBr⟩
theorem block_at {w : World} {A : Option Addr} {n : Nat} {ls : List S62} (h : Kd.C k62 w A n ls) (j : Nat) (l : S62) (hj : ls[j]? = some l) : ∃ ad A1 c1, A = some ad ∧ w.cell? (ad.add (j * 3)) = some (.string l.f0) ∧ w.cell? ⟨(ad.add (j * 3)).block, (ad.add (j * 3)).off + 1, none⟩ = some (.string l.f1) ∧ w.cell? ⟨(ad.add (j * 3)).block, (ad.add (j * 3)).off + 2, none⟩ = some (.slice A1 l.f2.length c1) ∧ l.f2.length ≤ c1 ∧ Kd.C k83 w A1 l.f2.length l.f2 := by
  have hjl := (List.getElem?_eq_some_iff.1 hj).1
  obtain ⟨ad, A1, c1, h1, h2, h3, h4, h5, h6⟩ := at_T62 h (j : Int) (by omega) (by have := h.1; omega)
  have hg : rd_T62 ls (j : Int) = l := by unfold rd_T62; rw [List.getD_eq_getElem?_getD, Int.toNat_natCast, hj]; rfl
  rw [hg] at h2 h3 h4 h5 h6
  rw [Int.toNat_natCast] at h2 h3 h4
  exact ⟨ad, A1, c1, h1, h2, h3, h4, h5, h6⟩
set_option maxRecDepth 100000 in
set_option maxHeartbeats 1000000 in
theorem eqBlock_c (l : S62) (h : smallB l) (A B : Option Addr) (c d : Nat) (w : World) (ha : Kd.C k83 w A l.f2.length l.f2) (hb : Kd.C k83 w B l.f2.length l.f2) :
    Calls Tryd.prog 118 #[.agg #[.string l.f0, .string l.f1, .slice A l.f2.length c], .agg #[.string l.f0, .string l.f1, .slice B l.f2.length d]] w fun e w' => e = .returned (.bool true) ∧ Below w.heap.size w w' := by
  have HA := Aside0.mk (fun w' hb' => eqLines_c l.f2 h.2.2 A B c d w' (Kd.C_below ha hb') (Kd.C_below hb hb'))
  clear ha hb h
  go_enter Tryd.func118, Tryd.ntmps118
  go_wp2_with fail
  have hB : ∀ x y, Below w.heap.size w ((w.alloc x).alloc y) := fun x y => ((Below.refl _ _).alloc (Nat.le_refl _) _).alloc (by simp) _
  refine (HA.out _ (hB _ _)).mono ?_
  rintro e w1 ⟨rfl, hb1⟩
  have hB1 := Aside0.mk ((hB _ _).trans (hb1.mono (by simp; omega)))
  clear hb1 hB
  go_wp2_with fail
  go_ret
  exact ⟨rfl, hB1.out⟩
set_option maxRecDepth 100000 in
set_option maxHeartbeats 2000000 in
theorem eqBlocks_c (ls : List S62) (h : smallBs ls) (A B : Option Addr) (c d : Nat) (w : World) (ha : Kd.C k62 w A ls.length ls) (hb : Kd.C k62 w B ls.length ls) :
    Calls Tryd.prog 77 #[.slice A ls.length c, .slice B ls.length d] w fun e w' => e = .returned (.bool true) ∧ Below w.heap.size w w' := by
  have HA := Aside0.mk ha
  have HB := Aside0.mk hb
  have HS := Aside0.mk h
  have hn : ls.length ≤ 1048576 := h.1
  clear ha hb h
  go_enter Tryd.func77, Tryd.ntmps77
  go_wp2
  go_loopw [5] (fun v wr => ∃ k : Nat, v = .int .i64 k ∧ k ≤ ls.length ∧ Below w.heap.size w wr) (fun v _ => ls.length - (intOf v).toNat)
  case atStart => exact ⟨0, rfl, Nat.zero_le _, Below.refl _ _⟩
  case round =>
    obtain ⟨k, rfl, hk, hBr⟩ := hrel
    by_cases hlt : k < ls.length
    · obtain ⟨ad, A1, c1, rfl, hx0, hx1, hx2, hl1, hC1⟩ := block_at (Kd.C_below HA.out hBr) k ls[k] (List.getElem?_eq_getElem hlt)
      obtain ⟨bd, B1, d1, rfl, hy0, hy1, hy2, hm1, hD1⟩ := block_at (Kd.C_below HB.out hBr) k ls[k] (List.getElem?_eq_getElem hlt)
      have hL := HS.out.2 _ (List.getElem_mem hlt)
      generalize ls[k] = l at *
      have i1 : (k : Int) < (ls.length : Int) := by omega
      go_upto_region 6 with (fail)
      have FC := fun p : BW wr => eqBlock_c l hL A1 B1 c1 d1 p.w' (Kd.C_below hC1 p.h) (Kd.C_below hD1 p.h)
      have q0 := fun p : BW wr => p.cell hx0
      have q1 := fun p : BW wr => p.cell hx1
      have q2 := fun p : BW wr => p.cell hx2
      have r2 := fun p : BW wr => p.cell hy2
      have r0 := fun p : BW wr => p.cell hy0
      have r1 := fun p : BW wr => p.cell hy1
      clear hx0 hx1 hx2 hy0 hy1 hy2 hC1 hD1
      refine wp_region_below (by kernel_rfl) (by kernel_rfl) ?_
      repeat ((with_reducible refine wpQuiet_step ?_); (with_reducible intro K hK); go_simp; first | ((with_reducible refine hK _ ?_); clear hK K) | (apply Exists.intro; refine ⟨fun _ => ?_, hK _ ?_⟩; (first | (go_at_call 118; exact BW.calls (FC _))); clear hK K))
      with_reducible refine wpQuiet_nil ?_
      intro wn hw'
      obtain ⟨⟨_, hBn⟩, rfl⟩ := hw'
      clear FC q0 q1 q2 r0 r1 r2
      have hB2 := hBr.trans (hBn.mono hBr.size)
      go_wp2
      go_roundw
      case rel => exact ⟨k + 1, by go_num, hlt, hB2⟩
      case measure => simp [intOf]; omega
    · obtain rfl : k = ls.length := by omega
      go_wp2
      go_ret
      exact ⟨rfl, hBr⟩
set_option maxRecDepth 100000 in
set_option maxHeartbeats 1000000 in
theorem eqSheet_c (bs : List S62) (h : smallBs bs) (A B : Option Addr) (c d : Nat) (w : World) (ha : Kd.C k62 w A bs.length bs) (hb : Kd.C k62 w B bs.length bs) :
    Calls Tryd.prog 30 #[.agg #[.slice A bs.length c], .agg #[.slice B bs.length d]] w fun e w' => e = .returned (.bool true) ∧ Below w.heap.size w w' := by
  have HA := Aside0.mk (fun w' hb' => eqBlocks_c bs h A B c d w' (Kd.C_below ha hb') (Kd.C_below hb hb'))
  clear ha hb h
  go_enter Tryd.func30, Tryd.ntmps30
  go_wp2_with fail
  have hB : ∀ x y, Below w.heap.size w ((w.alloc x).alloc y) := fun x y => ((Below.refl _ _).alloc (Nat.le_refl _) _).alloc (by simp) _
  refine (HA.out _ (hB _ _)).mono ?_
  rintro e w1 ⟨rfl, hb1⟩
  have hB1 := Aside0.mk ((hB _ _).trans (hb1.mono (by simp; omega)))
  clear hb1 hB
  go_wp2_with fail
  go_ret
  exact ⟨rfl, hB1.out⟩
end Go.Proofs.YtmcdnpooclelgaaDoor.PAll

namespace Go.Proofs.YtmcdnpooclelgaaDoor
open Go.RowKit Go.Proofs.YtmcdnpooclelgaaDoorW.PrintWords
section
variable {P : Program} {ops : Array Oper} {rest : List Oper} {o : Oper} {a : Act} {Q : Exit → Act → World → Prop} {K : Act → World → Prop}
theorem ap_run {W : World} (base : Nat) (ty t e : TypeId) (z : Value) (size bytes : Nat)
    (ht : P.underlying t = some (.slice e)) (hinfo : (P.info? e).map (fun i => (i.zero, i.size, i.bytes)) = some (some z, size, bytes)) (hz : z.cells.size = size) (hs0 : 0 < size) (hb0 : 0 < bytes)
    (v : Value) (n : Nat) (xs : List Value) (A : Option Addr) (m c : Nat) (news : List Value) (hA : A = none → m = 0) (hn : news.length = m * size) (hnews : ∀ ad, A = some ad → ∀ j u, news[j]? = some u → W.cell? (ad.add j) = some u) (h1 : ∀ u ∈ news, u.oneCell' = true)
    (HO : W.ownsRow base e size v n xs) (hbase : base ≤ W.heap.size) (hl : (n + m) * bytes ≤ 140737488355328) :
    ∃ v1 w1, (Builtin.append_ #[t, t] ty #[v, .slice A m c]).run P W = .ok v1 w1 ∧ w1.ownsRow base e size v1 (n + m) (xs ++ news) ∧ W.grownBy w1 v.ownBlock ∧ (v1.ownBlock = v.ownBlock ∨ ∃ b, v1.ownBlock = some b ∧ W.heap.size ≤ b) := by
  obtain ⟨i0, hi, hzz⟩ := Option.map_eq_some_iff.1 hinfo
  simp only [Prod.mk.injEq] at hzz
  obtain ⟨hz0, hz1, hz2⟩ := hzz
  have hlen : n + m ≤ 140737488355328 := Nat.le_trans (Nat.le_mul_of_pos_right _ hb0) hl
  rcases A with _ | ad
  · have h0 := hA rfl
    subst h0
    have hnn : news = [] := List.eq_nil_of_length_eq_zero (by omega)
    subst hnn
    refine ⟨v, W, ?_, by simpa using HO, World.grownBy.refl W _, .inl rfl⟩
    rcases HO.2 with ⟨rfl, hn⟩ | ⟨g, cap, cur, rfl, _, _, hnc, _⟩
    · simp [Builtin.append_, run_underlying ht, sizeOf, typeInfo, hi, Builtin.lenOf, Builtin.firstCells]
    · simp [Builtin.append_, run_underlying ht, sizeOf, typeInfo, hi, Builtin.lenOf, Builtin.firstCells, hnc, storeCells]
  · obtain ⟨v1, w1, hr, hown, hg, _, hat⟩ := run_append_own_at (P := P) W base t ty e i0 z size bytes ht hi hz0 hz1 hz2 hz hs0 v n xs HO ad m c news hn (hnews ad rfl) h1 (by simp only [maxLen]; omega) hl hbase
    refine ⟨v1, w1, hr, hown, hg, ?_⟩
    rcases hat with hat | hat
    · exact .inl hat
    · exact .inr ⟨_, hat, Nat.le_refl _⟩
theorem ap_src {w0 W : World} (base : Nat) (hgd : o.guard = none) (s x : Operand) (t e : TypeId) (z : Value) (size bytes : Nat)
    (ho : o.op = .call { callee := .builtin .append, args := #[s, x], argTypes := #[t, t] })
    (ht : P.underlying t = some (.slice e)) (hinfo : (P.info? e).map (fun i => (i.zero, i.size, i.bytes)) = some (some z, size, bytes)) (hz : z.cells.size = size) (hs0 : 0 < size) (hb0 : 0 < bytes)
    (v : Value) (n : Nat) (xs : List Value) (A : Option Addr) (m c : Nat) (news : List Value) (hs : a.eval s = v) (hx : a.eval x = .slice A m c) (hA : A = none → m = 0) (hn : news.length = m * size) (hnews : ∀ ad, A = some ad → ∀ j u, news[j]? = some u → W.cell? (ad.add j) = some u) (h1 : ∀ u ∈ news, u.oneCell' = true)
    (HO : W.ownsRow base e size v n xs) (HB : Below base w0 W) (hbase : base ≤ W.heap.size) (hl : (n + m) * bytes ≤ 140737488355328)
    (h : ∀ v1 w1, w1.ownsRow base e size v1 (n + m) (xs ++ news) → Below base w0 w1 → W.grownBy w1 v.ownBlock → (v1.ownBlock = v.ownBlock ∨ ∃ b, v1.ownBlock = some b ∧ W.heap.size ≤ b) → wpList P ops Q rest (a.put o.dst v1) w1) :
    wpList P ops Q (o :: rest) a W := by
  obtain ⟨v1, w1, hr, hown, hg, hat⟩ := ap_run (P := P) base o.type t e z size bytes ht hinfo hz hs0 hb0 v n xs A m c news hA hn hnews h1 HO hbase hl
  refine wpList_plain hgd fun K hK => ?_
  unfold Oper.wp execOp
  simp only [ho, resolve, invoke, builtin, Sem.run_bind, Sem.run_pure, Result.andThen_ok, List.map_toArray, List.map_cons, List.map_nil, hs, hx, hr]
  exact hK _ _ (h v1 w1 hown (HB.grown hg hbase (own_base HO)) hg hat)
end
theorem strs_src {w : World} {A : Option Addr} {n : Nat} {ss : List ByteArray} (h : Kd.C Kd.string w A n ss) : n = ss.length ∧ (A = none → n = 0) ∧ (ss.map Value.string).length = n * 1 ∧ (∀ ad, A = some ad → ∀ j u, (ss.map Value.string)[j]? = some u → w.cell? (ad.add j) = some u) ∧ ∀ u ∈ ss.map Value.string, u.oneCell' = true := by
  have hn : ss.length = n := h.1
  refine ⟨hn.symm, fun hA => ?_, by simp [hn], fun ad hA j u hj => ?_, fun u hu => by obtain ⟨s, _, rfl⟩ := List.mem_map.1 hu; rfl⟩
  · rcases Nat.eq_zero_or_pos n with h0 | h0
    · exact h0
    · obtain ⟨ad, h', _⟩ := Kd.at_string h 0 (Int.le_refl _) (by omega)
      rw [hA] at h'; cases h'
  · have hjl : j < ss.length := by have := (List.getElem?_eq_some_iff.1 hj).1; simpa using this
    obtain ⟨ad', h', hc⟩ := Kd.at_string h (j : Int) (by omega) (by omega)
    rw [hA] at h'
    injection h' with h'
    subst h'
    rw [Int.toNat_natCast] at hc
    rw [hc]
    rw [List.getElem?_map, List.getElem?_eq_getElem hjl] at hj
    unfold rdOf
    rw [Int.toNat_natCast, List.getD_eq_getElem?_getD, List.getElem?_eq_getElem hjl]
    exact hj
end Go.Proofs.YtmcdnpooclelgaaDoor

namespace Go.Proofs.YtmcdnpooclelgaaDoor.PAll
open Go.RowKit Go.Proofs.YtmcdnpooclelgaaDoorW.PrintWords
theorem infoStr : (Tryd.prog.info? 9).map (fun i => (i.zero, i.size, i.bytes)) = some (some (.string ⟨#[]⟩), 1, 16) := by kernel_rfl
theorem infoLine : (Tryd.prog.info? 83).map (fun i => (i.zero, i.size, i.bytes)) = some (some (.agg #[.string ⟨#[]⟩, .slice none 0 0]), 2, 40) := by kernel_rfl
theorem infoBlock : (Tryd.prog.info? 62).map (fun i => (i.zero, i.size, i.bytes)) = some (some (.agg #[.string ⟨#[]⟩, .string ⟨#[]⟩, .slice none 0 0]), 3, 56) := by kernel_rfl
set_option maxRecDepth 100000 in
set_option maxHeartbeats 2000000 in
theorem cloneLines_any (ls : List S83) (h : smallLs ls) (A : Option Addr) (c : Nat) (w : World) (hr : Kd.C k83 w A ls.length ls) :
    Calls Tryd.prog 86 #[.slice A ls.length c] w fun e w' => ∃ v G, e = .returned v ∧ linesS.ow w' w.heap.size [v] ls G ∧ Below w.heap.size w w' := by
  have HR := Aside0.mk hr
  have HS := Aside0.mk h
  have hn : ls.length ≤ 1048576 := h.1
  clear hr h
  go_enter Tryd.func86, Tryd.ntmps86
  go_wp2
  go_loopw [3, 8] (fun v i wr => ∃ (j : Nat), i = .int .i64 j ∧ j ≤ ls.length ∧ Below w.heap.size w wr ∧ Aside0 (∃ F, linesS.ow wr w.heap.size [v] (ls.take j) F)) (fun _ i _ => ls.length - (intOf i).toNat)
  case atStart => exact ⟨0, rfl, Nat.zero_le _, Below.refl _ _, ⟨[], Sh.row_nil _ _ _ _⟩⟩
  case round =>
    obtain ⟨j, rfl, hj, hB, hO⟩ := hrel
    obtain ⟨F, hF⟩ := hO.out
    obtain ⟨Ad, d, rfl⟩ := own_form hF
    have HF := Aside0.mk hF
    clear hF hO
    by_cases hlt : j < ls.length
    · have hjl : (ls.take j).length = j := by rw [List.length_take]; omega
      have hnx : ls.take (j + 1) = ls.take j ++ [ls[j]] := by rw [List.take_add_one, List.getElem?_eq_getElem hlt]; rfl
      obtain ⟨ad, A1, c1, rfl, hx0, hx1, hl1, hC1⟩ := line_at (Kd.C_below HR.out hB) j ls[j] (List.getElem?_eq_getElem hlt)
      have hl := HS.out.2 _ (List.getElem_mem hlt)
      generalize ls[j] = l at *
      obtain ⟨f0, f1⟩ := l
      have HNX := Aside0.mk hnx
      have HL := Aside0.mk hl
      have HC1 := Aside0.mk hC1
      have i1 : (j : Int) < (ls.length : Int) := by omega
      clear hnx hl hC1
      obtain ⟨_, hA0, hnl, hcells, hone⟩ := strs_src (Kd.C_below HC1.out ((Below.refl _ _).alloc (Nat.le_refl wr.heap.size) (.cells #[.string f0, .slice A1 f1.length c1] 83)))
      have hsz : f1.length ≤ 1048576 := HL.out.2.1
      have b5 := blk_new wr (.cells #[.string f0, .slice A1 f1.length c1] 83)
      go_wp2_with (at_builtin; refine ap_src (w0 := wr) wr.heap.size rfl (.const (.slice none 0 0)) (.tmp 13) 27 9 (.string ⟨#[]⟩) 1 16 rfl Tryd.underlying27 infoStr rfl (by decide) (by decide) (.slice none 0 0) 0 [] A1 f1.length c1 _ rfl rfl hA0 hnl hcells hone (World.ownsRow_nil _ _ _ _) ((Below.refl _ _).alloc (Nat.le_refl _) _) (by simp) (by omega) ?_)
      intro v1 w2 ho1 hb1 hg1 hat1
      obtain ⟨B1, d1, rfl⟩ : ∃ B d, v1 = .slice B f1.length d := by
        rcases ownSl ho1 with ⟨rfl, h0⟩ | ⟨g, c, rfl⟩
        · exact ⟨_, _, by rw [h0]⟩
        · exact ⟨_, _, rfl⟩
      have hG : ∀ y ∈ (Value.slice B1 f1.length d1).ownBlock.toList, wr.heap.size < y := by
        intro y hy
        have hy : (Value.slice B1 f1.length d1).ownBlock = some y := by simpa using hy
        rcases hat1 with hat | ⟨b, hat, hb⟩
        · rw [hy] at hat; cases hat
        · rw [hy] at hat; injection hat with hat; omega
      have k5 : w2.heap[wr.heap.size]? = some (.cells #[.string f0, .slice A1 f1.length c1] 83 (0, 0)) := (hg1.block _ (by simp) (by simp [Value.ownBlock])).trans b5
      have hS := Aside0.mk (strs_ER.2 ⟨ho1, rfl⟩ : strsS.ow w2 wr.heap.size [.slice B1 f1.length d1] f1 (Value.slice B1 f1.length d1).ownBlock.toList)
      have hF2 := Aside0.mk (linesS.obelow HF.out hb1)
      have hBw := Aside0.mk (hB.trans (hb1.mono hB.size))
      have hFl := Aside0.mk (fun y hy => (linesS.oin HF.out y hy).2)
      have hs2 : wr.heap.size < w2.heap.size := by have := hg1.size; simp at this; omega
      have hs3 : w.heap.size ≤ wr.heap.size := hB.size
      have y0 := (blk_cell k5 0).trans rfl
      have y1 := (blk_cell k5 1).trans rfl
      have yf := blk_frozen k5 1
      clear hA0 hnl hcells hone b5 ho1 hb1 hg1 hat1 k5 hx0 hx1 HF hB
      go_wp2_with (at_builtin; (refine Sh.app (A := lineS) (w0 := w) (base := w.heap.size) (b := w.heap.size) (xs := ls.take j) (F := F) (G := (Value.slice B1 f1.length d1).ownBlock.toList) (x := ⟨f0, f1⟩) (us := [.string f0, .slice B1 f1.length d1]) (W := w2.setCell ⟨wr.heap.size, 1, none⟩ (.slice B1 f1.length d1)) (v := .slice Ad j d) (.agg #[.string ⟨#[]⟩, .slice none 0 0]) 40 (.tmp 16) (.tmp 18) 52 ?HO ?hx ?hd ?HB (Nat.le_refl _) ?hl rfl rfl Tryd.underlying52 infoLine rfl (by decide) (by decide) ?hbase rfl ?hy ?h1 ?_))
      case HO => rw [hjl] at hF2; exact linesS.oframe hF2.out fun g hg => Below.heap_setCell w2 ⟨wr.heap.size, 1, none⟩ _ g (fun e => by have := hFl.out g hg; have e : g = wr.heap.size := e; omega)
      case hx => exact line_ow (strsS.olow (strsS.oframe hS.out fun g hg => Below.heap_setCell w2 ⟨wr.heap.size, 1, none⟩ _ g (fun e => by have := hG g hg; have e : g = wr.heap.size := e; omega)) hs3)
      case hd => exact fun y hy hy' => by have := hG y hy; have := hFl.out y hy'; omega
      case HB => exact hBw.out.setCell (p := ⟨wr.heap.size, 1, none⟩) hs3 _
      case hl => omega
      case hbase => simp; omega
      case hy => simp [Act.eval]
      case h1 => intro u hu; simp at hu; rcases hu with rfl | rfl <;> rfl
      intro v3 w3 F3 ho3 hb3 _ _
      rw [← HNX.out] at ho3
      have hO3 : Aside0 (∃ F, linesS.ow w3 w.heap.size [v3] (ls.take (j + 1)) F) := ⟨_, ho3.out⟩
      have hB3 := hb3.out
      clear ho3 hb3 y0 y1 yf hG
      go_wp2
      go_roundw
      case rel => exact ⟨j + 1, by go_num, hlt, hB3, hO3⟩
      case measure => simp [intOf]; omega
    · obtain rfl : j = ls.length := by omega
      have HF2 := HF.out
      rw [List.take_length] at HF2
      have HF3 := Aside0.mk HF2
      clear HF HF2
      rw [List.take_length]
      go_wp2
      go_ret
      exact ⟨_, _, rfl, HF3.out, hB⟩
end Go.Proofs.YtmcdnpooclelgaaDoor.PAll

namespace Go.Proofs.YtmcdnpooclelgaaDoor.PAll
open Go.RowKit Go.Proofs.YtmcdnpooclelgaaDoorW.PrintWords
theorem place_le {kind : ByteArray} {a b : S83} (h : lineLt kind a b = true) : placeL kind a.f0 ≤ placeL kind b.f0 := by
  unfold lineLt at h
  simp only [Bool.or_eq_true, Bool.and_eq_true, decide_eq_true_eq] at h
  omega
theorem linesFrom_ok (kind : ByteArray) : ∀ (ls pre : List S83), linesFrom kind pre ls = true → (∀ l ∈ ls, fitsL kind l.f0 l.f1 = true) ∧ ls.Pairwise (fun a b => placeL kind a.f0 ≤ placeL kind b.f0) ∧ (∀ p, pre.getLast? = some p → ∀ l ∈ ls, placeL kind p.f0 ≤ placeL kind l.f0)
  | [], pre, _ => ⟨by simp, List.Pairwise.nil, by simp⟩
  | l :: ls, pre, h => by
    simp only [linesFrom, Bool.and_eq_true] at h
    obtain ⟨h1, h2, h3, h4⟩ := h
    obtain ⟨a1, a2, a3⟩ := linesFrom_ok kind ls _ h4
    have hb : ∀ m ∈ ls, placeL kind l.f0 ≤ placeL kind m.f0 := a3 l (by simp)
    refine ⟨fun m hm => ?_, List.pairwise_cons.2 ⟨hb, a2⟩, fun p hp m hm => ?_⟩
    · rcases List.mem_cons.1 hm with rfl | hm
      · exact h1
      · exact a1 m hm
    · have hpl : placeL kind p.f0 ≤ placeL kind l.f0 := by
        unfold headOk at h2
        rw [hp] at h2
        exact place_le h2
      rcases List.mem_cons.1 hm with rfl | hm
      · exact hpl
      · exact Int.le_trans hpl (hb m hm)
theorem rules_keys (kind : ByteArray) : ((rulesL kind).map fun r => r.f0).Nodup := by
  unfold rulesL; split; · unfold rules_team; decide +kernel
  split; · unfold rules_berth; decide +kernel
  split; · unfold rules_service; decide +kernel
  exact List.nodup_nil
theorem lookFrom_at (rs : List S36) : ∀ (i k : Nat) (r : S36), (rs.map fun r => r.f0).Nodup → rs[k]? = some r → lookFrom r.f0 rs i = some (r, i + k) := by
  induction rs with
  | nil => intro i k r _ h; simp at h
  | cons q rs ih =>
    intro i k r hn h
    rw [List.map_cons, List.nodup_cons] at hn
    cases k with
    | zero =>
      simp only [List.getElem?_cons_zero, Option.some.injEq] at h
      subst h
      simp [lookFrom]
    | succ k =>
      rw [List.getElem?_cons_succ] at h
      have hne : ¬ q.f0 = r.f0 := fun e => hn.1 (e ▸ List.mem_map_of_mem (List.mem_of_getElem? h))
      rw [lookFrom, if_neg hne, ih (i + 1) k r hn.2 h, show i + 1 + k = i + (k + 1) by omega]
theorem look_at (kind : ByteArray) (k : Nat) (r : S36) (h : (rulesL kind)[k]? = some r) : lookL kind r.f0 = some (r, k) := by
  unfold lookL
  rw [lookFrom_at _ 0 k r (rules_keys kind) h, Nat.zero_add]
theorem place_at (kind : ByteArray) (k : Nat) (r : S36) (h : (rulesL kind)[k]? = some r) : placeL kind r.f0 = k := by
  unfold placeL; rw [look_at kind k r h]
theorem look_some (kind key : ByteArray) (h : 0 ≤ placeL kind key) : ∃ r k, lookL kind key = some (r, k) ∧ (rulesL kind)[k]? = some r ∧ r.f0 = key ∧ placeL kind key = (k : Int) := by
  have hp := h
  unfold placeL at h
  cases hl : lookL kind key with
  | none => rw [hl] at h; simp at h
  | some q =>
    obtain ⟨r, k⟩ := q
    obtain ⟨_, h2, _, h4⟩ := lookFrom_mem key _ _ _ _ hl
    exact ⟨r, k, rfl, by simpa using h4, h2, by unfold placeL; rw [hl]⟩
theorem key_place (kind key : ByteArray) (k : Nat) (r : S36) (h : (rulesL kind)[k]? = some r) (hp : 0 ≤ placeL kind key) : key = r.f0 ↔ placeL kind key = k := by
  constructor
  · rintro rfl; exact place_at kind k r h
  · intro e
    obtain ⟨r', k', _, h2, h3, h4⟩ := look_some kind key hp
    have : k' = k := by omega
    subst this
    rw [h] at h2
    injection h2 with h2
    rw [← h3, ← h2]
def ofKey (key : ByteArray) (ls : List S83) : List S83 := ls.filter fun l => decide (l.f0 = key)
def stdLine (r : S36) : S83 := ⟨r.f0, r.f3⟩
def fillR (ls : List S83) (r : S36) : List S83 := if (!r.f2 && (ofKey r.f0 ls).isEmpty) = true then [stdLine r] else ofKey r.f0 ls
def defL (kind key : ByteArray) : List ByteArray := match lookL kind key with | none => [] | some (r, _) => r.f3
def keepT (kind : ByteArray) (l : S83) : Bool := manyL kind l.f0 || !decide (l.f1 = defL kind l.f0)
def trimB (b : S62) : S62 := ⟨b.f0, b.f1, b.f2.filter (keepT b.f0)⟩
def trimP (bs : List S62) : List S62 := if sheetOk bs = true then bs.map trimB else []
theorem blocksOk_all : ∀ (p : Option S62) (bs : List S62), blocksOk p bs = true → ∀ b ∈ bs, blockOkL b.f0 b.f1 b.f2 = true
  | _, [], _ => by simp
  | p, x :: bs, h => by
    simp only [blocksOk, Bool.and_eq_true] at h
    intro b hb
    rcases List.mem_cons.1 hb with rfl | hb
    · exact h.1
    · exact blocksOk_all _ bs h.2.2 b hb
theorem sheetOk_lines {bs : List S62} (h : sheetOk bs = true) : ∀ b ∈ bs, linesOkL b.f0 b.f2 = true ∧ nameOk b.f1 = true ∧ rulesL b.f0 ≠ [] := by
  intro b hb
  have := blocksOk_all none bs (by unfold sheetOk at h; exact (Bool.and_eq_true _ _ ▸ h).2) b hb
  unfold blockOkL at this
  simp only [Bool.and_eq_true] at this
  exact ⟨this.2.2, this.2.1, fun e => by rw [e] at this; simp at this⟩
end Go.Proofs.YtmcdnpooclelgaaDoor.PAll

namespace Go.Proofs.YtmcdnpooclelgaaDoor.PAll
open Go.RowKit Go.Proofs.YtmcdnpooclelgaaDoorW.PrintWords
abbrev Cut2 := List Value × S83
def SrcL (w : World) (A : Option Addr) (T : List Cut2) : Prop := ∀ (j : Nat) (t : Cut2), T[j]? = some t → ∃ ad B n d, A = some ad ∧ t.1 = [.string t.2.f0, .slice B n d] ∧ w.cell? (ad.add (j * 2)) = some (.string t.2.f0) ∧ w.cell? ⟨(ad.add (j * 2)).block, (ad.add (j * 2)).off + 1, none⟩ = some (.slice B n d)
theorem SrcL.below {w w' : World} {A : Option Addr} {T : List Cut2} (h : SrcL w A T) (hb : Below w.heap.size w w') : SrcL w' A T := fun j t hj => by
  obtain ⟨ad, B, n, d, h1, h2, h3, h4⟩ := h j t hj
  exact ⟨ad, B, n, d, h1, h2, pw_cell_below hb h3, pw_cell_below hb h4⟩
theorem own_shapeN {w : World} {b e k n : Nat} {v : Value} {cs : List Value} (h : w.ownsRow b e k v n cs) : ∃ A d, v = .slice A n d := by
  rcases ownSl h with ⟨rfl, rfl⟩ | ⟨g, c, rfl⟩
  · exact ⟨_, _, rfl⟩
  · exact ⟨_, _, rfl⟩
end Go.Proofs.YtmcdnpooclelgaaDoor.PAll

namespace Go.Proofs.YtmcdnpooclelgaaDoor.PAll
open Go.RowKit Go.Proofs.YtmcdnpooclelgaaDoorW.PrintWords
theorem rules_small (kind : ByteArray) : ∀ r ∈ rulesL kind, r.f3.length ≤ 16 := by
  have h1 : rules_team.all (fun r => decide (r.f3.length ≤ 16)) = true := by decide
  have h2 : rules_berth.all (fun r => decide (r.f3.length ≤ 16)) = true := by decide
  have h3 : rules_service.all (fun r => decide (r.f3.length ≤ 16)) = true := by decide
  intro r hr
  unfold rulesL at hr
  split at hr
  · simpa using List.all_eq_true.1 h1 r hr
  · split at hr
    · simpa using List.all_eq_true.1 h2 r hr
    · split at hr
      · simpa using List.all_eq_true.1 h3 r hr
      · cases hr
end Go.Proofs.YtmcdnpooclelgaaDoor.PAll

namespace Go.Proofs.YtmcdnpooclelgaaDoor.PAll
open Go.RowKit Go.Proofs.YtmcdnpooclelgaaDoorW.PrintWords Go.Proofs.YtmcdnpooclelgaaDoorW.PrintLast Go.Proofs.YtmcdnpooclelgaaDoorW.PrintMore
attribute [local go_sem] max2_int min2_int max_two min_two max_three min_three max_four min_four   -- for this text's walks alone
set_option linter.unusedVariables false
set_option linter.unusedSimpArgs false
def spec_l3Lines.l0 : Nat → List (S83) → List (S83) → Int → Option ((List (S83)))
 | 0, _, _, _ => none
 | k + 1, x0, x3, x4 => if x4 < (x0.length : Int) then (if 0 ≤ x4 then ((some (([] : List ByteArray) : List ByteArray)).bind fun y500 => (if y500.length + ((rd_T83 x0 x4).f1).length < 8796093022208 then (if x3.length < 3518437208883 then (spec_l3Lines.l0 k x0 (x3 ++ [(⟨(rd_T83 x0 x4).f0, (y500 ++ ((rd_T83 x0 x4).f1))⟩ : S83)]) (wrap64 (x4 + 1))) else (none)) else (none))) else (none)) else (some x3)
def spec_l3Lines.f (k : Nat) (l0 : List (S83)) : Option ((List (S83))) := spec_l3Lines.l0 k l0 (([] : List (S83))) 0
def spec_l3Lines.T5 : Bool × List (List Nat × List Nat) := (true, [([], []), ([], []), ([], []), ([1, 2], [1, 2]), ([3], [3]), ([4], [4]), ([], []), ([], []), ([], []), ([7, 8], [7, 8]), ([9], [9]), ([10], [10]), ([6, 11], [6, 11]), ([5, 12], [5, 12]), ([13], [13]), ([0, 14, 12], [0, 14]), ([15, 15, 0, 1, 2, 3, 4, 5, 6, 7, 8, 9, 10, 11, 12, 13, 14, 15], [0, 15])])
def spec_l3Lines.B5 : List Nat := [0, 0, 0, 6, 14, 30, 0, 0, 0, 384, 896, 1920, 4032, 8190, 16382, 32767, 65535]
theorem spec_l3Lines.tab5 : rtab .any (opsOf Tryd.f100 5) = spec_l3Lines.T5 := by kernel_rfl
theorem spec_l3Lines.bits5 : waitsOk spec_l3Lines.T5.2 spec_l3Lines.B5 = true := by kernel_rfl
set_option maxHeartbeats 8000000 in
set_option maxRecDepth 100000 in
theorem spec_l3Lines.calls (k : Nat) (A0 : Option Addr) (c0 : Nat) (l0 : List (S83)) (r : List (S83)) (w : World) (hr0 : Kd.C k83 w A0 l0.length l0) (hc0 : l0.length ≤ c0) (h : spec_l3Lines.f k l0 = some r) :
  Calls Tryd.prog 100 #[.slice A0 l0.length c0] w fun e w' => ∃ v0_ : Value, e = .returned (v0_) ∧ Kd.R k83 83 w' w.heap.size (fun _ => True) v0_ r ∧ Below w.heap.size w w' := by
 have hu83 := Tryd.underlying83
 have HR0 := Aside0.mk hr0
 have HC0 := Aside0.mk hc0
 clear hr0 hc0
 have HB := Aside0.mk (Below.refl w.heap.size w)
 have H : (spec_l3Lines.l0 k l0 (([] : List (S83))) 0) = some r := h
 clear h
 obtain ⟨y496, hy496⟩ : ∃ y_ : List (S83), y_ = (([] : List (S83))) := ⟨_, rfl⟩
 replace H : (spec_l3Lines.l0 k l0 y496 0) = some r := by first | (rw [hy496]; with_reducible exact H) | (have H2_ := (Option.bind_some _ _).symm.trans H; rw [hy496]; with_reducible exact H2_) | (have H2_ := (Option.bind_some _ _).symm.trans H; with_reducible exact H2_) | with_reducible exact H | (rw [hy496]; exact H) | exact H
 have Ny496 := Aside0.mk hy496
 clear hy496
 have H' := Aside0.mk H
 clear H
 go_enter Tryd.func100, Tryd.ntmps100
 go_wp2_with (first | ((with_reducible refine gate_dst (N := 5) rfl ?_); refine Kd.R_lit k83 _ 83 ?hg (N := 5) ?hd (xs := ([] : List (S83))) (inner := []) (ok := fun _ => True) (okp := fun _ => True) ?hr ?hp (fun _ hk => hk) trivial (Below.refl _ _) (Nat.le_refl _) (by simp) ?_; (case hd => rfl); (case hg => rfl); (case hr => first | (go_simp; done) | (go_simp; rfl)); (case hp => exact (Reps.none _ _)); intro v497 w2 ho3 hb hg_ hnew_; clear hg_ hnew_; (first | rw [← Ny496.out] at ho3 | (simp only [Int.reduceToNat] at ho3; rw [← Ny496.out] at ho3)); have n0_ := Aside0.mk (Kd.R_lower ho3 (below_size (stB HB.out))); have n1_ := Aside0.mk (below_step (stB HB.out) hb); clear HB; have HO498 := n0_; have HB := n1_; clear n0_ n1_; clear hb ho3))
 go_loopg [3, 4] k (fun kq v3 v4 w' => ∃ (x3_1 : List (S83)) (x4_1 : Int), v4 = .int .i64 x4_1 ∧ Aside0 (spec_l3Lines.l0 kq l0 x3_1 x4_1 = some r) ∧ Aside0 (kq ≤ k) ∧ Aside0 (Kd.R k83 83 w' w.heap.size (fun _ => True) v3 x3_1) ∧ Aside0 (Below w.heap.size w w'))
 case atStart => exact ⟨(y496), (0), (by first | rfl | (simp; done) | (simp [*]; done)), H', ⟨Nat.le_refl _⟩, ⟨by (with_reducible repeat (first | apply Kd.R_alloc | apply Kd.R_drewN | apply Kd.R_drew)); exact HO498.out⟩, ⟨by repeat (first | (with_reducible first | exact HB.out | apply below_alloc | apply pw_below_drewN | apply below_drew1) | exact HB.out)⟩⟩
 case round =>
  clear H'
  try clear c1
  try clear p2
  obtain ⟨x3_1, x4_1, rfl, HA, HK1, HO_3, HB⟩ := hrel
  cases gk with
  | zero => exact absurd HA.out (by simp [spec_l3Lines.l0])
  | succ k1 =>
   have H := HA.out
   clear HA
   simp only [spec_l3Lines.l0] at H
   by_cases c4 : x4_1 < (l0.length : Int)
   ·rw [if_pos c4] at H
    have c4b0 : decide (x4_1 < (l0.length : Int)) = true := decide_eq_true c4
    clear c4
    by_cases c5 : 0 ≤ x4_1
    ·rw [if_pos c5] at H
     have c5b0 : decide (0 ≤ x4_1) = true := decide_eq_true c5
     clear c5
     obtain ⟨y500, hy500⟩ : ∃ y_ : List ByteArray, y_ = (([] : List ByteArray)) := ⟨_, rfl⟩
     replace H : (if y500.length + ((rd_T83 l0 x4_1).f1).length < 8796093022208 then (if x3_1.length < 3518437208883 then (spec_l3Lines.l0 k1 l0 (x3_1 ++ [(⟨(rd_T83 l0 x4_1).f0, (y500 ++ ((rd_T83 l0 x4_1).f1))⟩ : S83)]) (wrap64 (x4_1 + 1))) else (none)) else (none)) = some r := by first | (rw [hy500]; with_reducible exact H) | (have H2_ := (Option.bind_some _ _).symm.trans H; rw [hy500]; with_reducible exact H2_) | (have H2_ := (Option.bind_some _ _).symm.trans H; with_reducible exact H2_) | with_reducible exact H | (rw [hy500]; exact H) | exact H
     have Ny500 := Aside0.mk hy500
     clear hy500
     by_cases c6 : y500.length + ((rd_T83 l0 x4_1).f1).length < 8796093022208
     ·rw [if_pos c6] at H
      have LMc6 := Aside0.mk c6
      clear c6
      obtain ⟨y504, hy504⟩ : ∃ y_ : List ByteArray, y_ = (y500 ++ ((rd_T83 l0 x4_1).f1)) := ⟨_, rfl⟩
      replace H : (if x3_1.length < 3518437208883 then (spec_l3Lines.l0 k1 l0 (x3_1 ++ [(⟨(rd_T83 l0 x4_1).f0, y504⟩ : S83)]) (wrap64 (x4_1 + 1))) else (none)) = some r := by first | (rw [hy504]; with_reducible exact H) | (have H2_ := (Option.bind_some _ _).symm.trans H; rw [hy504]; with_reducible exact H2_) | (have H2_ := (Option.bind_some _ _).symm.trans H; with_reducible exact H2_) | with_reducible exact H | (rw [hy504]; exact H) | exact H
      have Ny504 := Aside0.mk hy504
      clear hy504
      by_cases c7 : x3_1.length < 3518437208883
      ·rw [if_pos c7] at H
       have LMc7 := Aside0.mk c7
       clear c7
       obtain ⟨y507, hy507⟩ : ∃ y_ : List (S83), y_ = (x3_1 ++ [(⟨(rd_T83 l0 x4_1).f0, y504⟩ : S83)]) := ⟨_, rfl⟩
       replace H : (spec_l3Lines.l0 k1 l0 y507 (wrap64 (x4_1 + 1))) = some r := by first | (rw [hy507]; with_reducible exact H) | (have H2_ := (Option.bind_some _ _).symm.trans H; rw [hy507]; with_reducible exact H2_) | (have H2_ := (Option.bind_some _ _).symm.trans H; with_reducible exact H2_) | with_reducible exact H | (rw [hy507]; exact H) | exact H
       have Ny507 := Aside0.mk hy507
       clear hy507
       have H' := Aside0.mk H
       clear H
       try go_wp2
       have n0_ := Aside0.mk (Kd.R_drew HO_3.out)
       have n1_ := Aside0.mk (below_drew1 HB.out)
       clear HO_3
       clear HB
       have HO_3 := n0_
       have HB := n1_
       clear n0_ n1_
       have p499 : 0 ≤ (x4_1 : Int) := of_decide_eq_true (by first | (with_reducible assumption) | assumption)
       have q499 : x4_1 < (l0.length : Int) := of_decide_eq_true (by first | (with_reducible assumption) | assumption)
       obtain ⟨ad499, A499_1, c499_1, e499, hx499_0, hx499_1, hl499_1, hi499_1⟩ := at_T83 HR0.out x4_1 p499 q499
       have hw499_1 := hx499_1
       have hw499_0 := hx499_0
       cases e499
       (try replace hx499_0 := (HB.out.cell (World.block_lt_of_cell? w _ hx499_0)).trans hx499_0)
       (try replace hx499_1 := (HB.out.cell (World.block_lt_of_cell? w _ hx499_1)).trans hx499_1)
       have HR499_1 := Aside0.mk hi499_1
       have HC499_1 := Aside0.mk hl499_1
       clear hi499_1 hl499_1
       replace p499 := eq_true p499
       replace q499 := eq_true q499
       have p503 : 0 ≤ (x4_1 : Int) := of_decide_eq_true (by first | (with_reducible assumption) | assumption)
       have q503 : x4_1 < (l0.length : Int) := of_decide_eq_true (by first | (with_reducible assumption) | assumption)
       obtain ⟨ad503, A503_1, c503_1, e503, hx503_0, hx503_1, hl503_1, hi503_1⟩ := at_T83 HR0.out x4_1 p503 q503
       have hw503_1 := hx503_1
       have hw503_0 := hx503_0
       obtain rfl : ad499 = ad503 := (by injection e503)
       (try replace hx503_0 := (HB.out.cell (World.block_lt_of_cell? w _ hx503_0)).trans hx503_0)
       (try replace hx503_1 := (HB.out.cell (World.block_lt_of_cell? w _ hx503_1)).trans hx503_1)
       have HR503_1 := Aside0.mk hi503_1
       have HC503_1 := Aside0.mk hl503_1
       clear hi503_1 hl503_1
       replace p503 := eq_true p503
       replace q503 := eq_true q503
       have ea_ := Option.some.inj (hx499_1.symm.trans hx503_1)
       injection ea_ with ea_ en_ ec_
       subst ea_
       subst ec_
       clear en_
       refine start_ (n := 17) (S := fun w' => w'.cell? (ad499.add ((x4_1).toNat * 2)) = some (.string ((rd_T83 l0 x4_1).f0)) ∧ w'.cell? ⟨(ad499.add ((x4_1).toNat * 2)).block, (ad499.add ((x4_1).toNat * 2)).off + 1, none⟩ = some (.slice A499_1 ((rd_T83 l0 x4_1).f1).length c499_1) ∧ w'.cell? (ad499.add ((x4_1).toNat * 2)) = some (.string ((rd_T83 l0 x4_1).f0)) ∧ w'.cell? ⟨(ad499.add ((x4_1).toNat * 2)).block, (ad499.add ((x4_1).toNat * 2)).off + 1, none⟩ = some (.slice A499_1 ((rd_T83 l0 x4_1).f1).length c499_1)) (ds := []) (bz 17 0) (by kernel_rfl) rfl rfl ⟨(by first | exact (HB.out.cell (World.block_lt_of_cell? w _ hw499_0)).trans hw499_0 | exact hw499_0), (by first | exact (HB.out.cell (World.block_lt_of_cell? w _ hw499_1)).trans hw499_1 | exact hw499_1), (by first | exact (HB.out.cell (World.block_lt_of_cell? w _ hw503_0)).trans hw503_0 | exact hw503_0), (by first | exact (HB.out.cell (World.block_lt_of_cell? w _ hw503_1)).trans hw503_1 | exact hw503_1)⟩ (fun hHeld => ?_); refine with_tabW spec_l3Lines.tab5 spec_l3Lines.bits5 (fun HT_ HW_ => ?_)
       generalize wr.drew = w8 at HO_3 HB HR499_1 HR503_1 hx499_0 hx499_1 hx503_0 hx503_1 hHeld ⊢
       refine pure_ (i := 0) (N := some 12) (v := ?_) (a' := ?_) (bz 17 1) rfl rfl (any_of HT_.out (by kernel_rfl)) (fun _ _ _ h => h) (Or.inl ⟨by rfl, ?_⟩) ?_ ?_
       rotate_left
       ·intro w'
        go_simp
        with_reducible rfl
       rotate_left
       ·simp only [Act.put, List.setIfInBounds_toArray, List.set_cons_zero, List.set_cons_succ, i64_w, i32_w]
        rfl
       refine pure_ (i := 1) (N := some 13) (v := ?_) (a' := ?_) (bz 17 3) rfl rfl (any_of HT_.out (by kernel_rfl)) (fun _ _ _ h => h) (Or.inl ⟨by rfl, ?_⟩) ?_ ?_
       rotate_left
       ·intro w'
        go_simp
        with_reducible rfl
       rotate_left
       ·simp only [Act.put, List.setIfInBounds_toArray, List.set_cons_zero, List.set_cons_succ, i64_w, i32_w]
        rfl
       refine pure_ (i := 2) (N := some 14) (v := ?_) (a' := ?_) (bz 17 7) rfl rfl (any_of HT_.out (by kernel_rfl)) (fun _ _ _ h => h) (Or.inl ⟨by rfl, ?_⟩) ?_ ?_
       rotate_left
       ·intro w'
        go_simp
        with_reducible rfl
       rotate_left
       ·simp only [Act.put, List.setIfInBounds_toArray, List.set_cons_zero, List.set_cons_succ, i64_w, i32_w]
        rfl
       refine pure_ (i := 3) (N := some 15) (v := ?_) (a' := ?_) (bz 17 15) rfl rfl (any_of HT_.out (by kernel_rfl)) (fun _ _ _ h => h) (Or.inl ⟨by rfl, ?_⟩) ?_ ?_
       rotate_left
       ·intro w'
        go_simp
        with_reducible rfl
       rotate_left
       ·simp only [Act.put, List.setIfInBounds_toArray, List.set_cons_zero, List.set_cons_succ, i64_w, i32_w]
        rfl
       refine pure_ (i := 4) (N := some 16) (v := ?_) (a' := ?_) (bz 17 31) rfl rfl (any_of HT_.out (by kernel_rfl)) (fun _ _ _ h => h) (Or.inl ⟨by rfl, ?_⟩) ?_ ?_
       rotate_left
       ·intro w'
        go_simp
        with_reducible rfl
       rotate_left
       ·simp only [Act.put, List.setIfInBounds_toArray, List.set_cons_zero, List.set_cons_succ, i64_w, i32_w]
        rfl
       refine pure_ (i := 7) (N := some 19) (v := ?_) (a' := ?_) (bz 17 159) rfl rfl (any_of HT_.out (by kernel_rfl)) (fun _ _ _ h => h) (Or.inl ⟨by rfl, ?_⟩) ?_ ?_
       rotate_left
       ·intro w'
        go_simp
        with_reducible rfl
       rotate_left
       ·simp only [Act.put, List.setIfInBounds_toArray, List.set_cons_zero, List.set_cons_succ, i64_w, i32_w]
        rfl
       refine pure_ (i := 8) (N := some 20) (v := ?_) (a' := ?_) (bz 17 415) rfl rfl (any_of HT_.out (by kernel_rfl)) (fun _ _ _ h => h) (Or.inl ⟨by rfl, ?_⟩) ?_ ?_
       rotate_left
       ·intro w'
        go_simp
        with_reducible rfl
       rotate_left
       ·simp only [Act.put, List.setIfInBounds_toArray, List.set_cons_zero, List.set_cons_succ, i64_w, i32_w]
        rfl
       refine pure_ (i := 9) (N := some 21) (v := ?_) (a' := ?_) (bz 17 927) rfl rfl (any_of HT_.out (by kernel_rfl)) (fun _ _ _ h => h) (Or.inl ⟨by rfl, ?_⟩) ?_ ?_
       rotate_left
       ·intro w'
        go_simp
        with_reducible rfl
       rotate_left
       ·simp only [Act.put, List.setIfInBounds_toArray, List.set_cons_zero, List.set_cons_succ, i64_w, i32_w]
        rfl
       refine pure_ (i := 10) (N := some 22) (v := ?_) (a' := ?_) (bz 17 1951) rfl rfl (any_of HT_.out (by kernel_rfl)) (fun _ _ _ h => h) (Or.inl ⟨by rfl, ?_⟩) ?_ ?_
       rotate_left
       ·intro w'
        go_simp
        with_reducible rfl
       rotate_left
       ·simp only [Act.put, List.setIfInBounds_toArray, List.set_cons_zero, List.set_cons_succ, i64_w, i32_w]
        rfl
       refine take_ (i := 5) (N := some 17) (v := ?_) (a' := ?_) (bz 17 1983) rfl rfl (take_ofW HT_.out HW_.out (by kernel_rfl)) (fun _ _ _ h => h) (Or.inl ⟨by rfl, ?_⟩) hHeld ?_ ?_
       rotate_left
       ·rintro w' ⟨s0, s1, s2, s3⟩
        go_simp
        with_reducible rfl
       rotate_left
       ·simp only [Act.put, List.setIfInBounds_toArray, List.set_cons_zero, List.set_cons_succ, i64_w, i32_w]
        rfl
       refine take_ (i := 11) (N := some 23) (v := ?_) (a' := ?_) (bz 17 4031) rfl rfl (take_ofW HT_.out HW_.out (by kernel_rfl)) (fun _ _ _ h => h) (Or.inl ⟨by rfl, ?_⟩) hHeld ?_ ?_
       rotate_left
       ·rintro w' ⟨s0, s1, s2, s3⟩
        go_simp
        with_reducible rfl
       rotate_left
       ·simp only [Act.put, List.setIfInBounds_toArray, List.set_cons_zero, List.set_cons_succ, i64_w, i32_w]
        rfl
       refine one_ (i := 6) (N := some 18) (bz 17 4095) rfl rfl (one_of HT_.out (by kernel_rfl)) (by decide) (fun K hK => ?_)
       refine Kd.R_lit_step Kd.string _ 9 ?hg (N := 18) ?hd (xs := ([] : List ByteArray)) (inner := []) (ok := fun _ => True) (okp := fun _ => True) ?hr ?hp (fun _ hk => hk) trivial (Below.refl _ _) (Nat.le_refl _) (by simp) ?_; (case hd => rfl); (case hg => rfl); (case hr => first | (go_simp; done) | (go_simp; rfl)); (case hp => exact (Reps.none _ _))
       intro v501 w9 ho10 hb hg_ hnew_
       clear hg_ hnew_
       (first | rw [← Ny500.out] at ho10 | (simp only [Int.reduceToNat] at ho10; rw [← Ny500.out] at ho10))
       have n0_ := Aside0.mk (Kd.R_elder' (stR HO_3.out) (Kd.R_base ho10) hb)
       have n1_ := Aside0.mk (Kd.R_lower ho10 (below_size (stB HB.out)))
       have n2_ := Aside0.mk (below_step (stB HB.out) hb)
       clear HO_3
       clear HB
       have HO_3 := n0_
       have HO502 := n1_
       have HB := n2_
       clear n0_ n1_ n2_
       clear hb ho10
       refine hK.out _ _ ⟨(by first | exact (HB.out.cell (World.block_lt_of_cell? w _ hw499_0)).trans hw499_0 | exact hw499_0), (by first | exact (HB.out.cell (World.block_lt_of_cell? w _ hw499_1)).trans hw499_1 | exact hw499_1), (by first | exact (HB.out.cell (World.block_lt_of_cell? w _ hw503_0)).trans hw503_0 | exact hw503_0), (by first | exact (HB.out.cell (World.block_lt_of_cell? w _ hw503_1)).trans hw503_1 | exact hw503_1)⟩ (fun hHeld => ?_)
       clear hK K
       refine norm_ (a' := ?_) ?_ ?_
       rotate_left
       ·show Act.put _ (some 18) _ = _
        simp only [Act.put, List.setIfInBounds_toArray, List.set_cons_zero, List.set_cons_succ, i64_w, i32_w]
        rfl
       refine one_ (i := 12) (N := some 24) (bz 17 8191) rfl rfl (one_of HT_.out (by kernel_rfl)) (by decide) (fun K hK => ?_)
       refine Kd.R_append_rows_step Kd.string (w0 := w) w.heap.size (by rfl) (.tmp 18) (.tmp 23) 27 9 (.string ⟨#[]⟩) 16 rfl Tryd.underlying27 info9 rfl (by decide) (by omega) v501 y500 ((rd_T83 l0 x4_1).f1) _ _ _ (fun _ => True) (fun _ => False) rfl rfl ?aO ?aR (fun _ _ h => h) (fun _ h => h.elim) ?aF ?aB ?aS ?aL ?_
       (case aR => repeat (first | exact (Kd.C_below HR503_1.out HB.out) | (with_reducible refine Kd.C_alloc ?_ _) | (with_reducible refine Kd.C_drewN ?_ _) | (with_reducible refine Kd.C_drew ?_)))
       (case aB => exact (stB HB.out))
       (case aF => exact (fun _ _ => trivial))
       (case aO => exact (stR HO502.out))
       (case aS => exact (below_size (stB HB.out)))
       (case aL => have := LMc6.out; omega)
       intro v505 w11 ho hb hg hat
       rw [← Ny504.out] at ho
       have n0_ := Aside0.mk (Kd.R_after (ok := (fun _ => True)) (stR HO_3.out) hg hat)
       have n1_ := Aside0.mk (hb)
       have n2_ := Aside0.mk (ho)
       clear HO_3
       clear HB
       clear HO502
       have HO_3 := n0_
       have HB := n1_
       have HO506 := n2_
       clear n0_ n1_ n2_
       clear ho hb hg hat
       obtain ⟨Ao12, co12, eo12⟩ := Kd.R_slice HO506.out
       (first | subst eo12 | (injection eo12 with f1_ f2_ f3_; have f4_ := f1_.symm; have f5_ := f3_.symm; clear f1_ f2_ f3_; subst f4_; subst f5_))
       refine hK.out _ _ ⟨(by first | exact (HB.out.cell (World.block_lt_of_cell? w _ hw499_0)).trans hw499_0 | exact hw499_0), (by first | exact (HB.out.cell (World.block_lt_of_cell? w _ hw499_1)).trans hw499_1 | exact hw499_1), (by first | exact (HB.out.cell (World.block_lt_of_cell? w _ hw503_0)).trans hw503_0 | exact hw503_0), (by first | exact (HB.out.cell (World.block_lt_of_cell? w _ hw503_1)).trans hw503_1 | exact hw503_1)⟩ (fun hHeld => ?_)
       clear hK K
       refine norm_ (a' := ?_) ?_ ?_
       rotate_left
       ·show Act.put _ (some 24) _ = _
        simp only [Act.put, List.setIfInBounds_toArray, List.set_cons_zero, List.set_cons_succ, i64_w, i32_w]
        rfl
       refine pure_ (i := 13) (N := some 25) (v := ?_) (a' := ?_) (bz 17 16383) rfl rfl (any_of HT_.out (by kernel_rfl)) (fun _ _ _ h => h) (Or.inl ⟨by rfl, ?_⟩) ?_ ?_
       rotate_left
       ·intro w'
        go_simp
        with_reducible rfl
       rotate_left
       ·simp only [Act.put, List.setIfInBounds_toArray, List.set_cons_zero, List.set_cons_succ, i64_w, i32_w]
        rfl
       refine one_ (i := 14) (N := some 26) (bz 17 32767) rfl rfl (one_of HT_.out (by kernel_rfl)) (by decide) (fun K hK => ?_)
       refine value_ (w1 := ?_) (v := ?_) (by rfl) rfl ?_ ?_
       rotate_left 2
       ·go_simp
        constructor
        ·rfl
        ·rfl
       refine hK.out _ _ ⟨(World.cell?_alloc_lt _ _ _ (World.block_lt_of_cell? _ _ ((by first | exact (HB.out.cell (World.block_lt_of_cell? w _ hw499_0)).trans hw499_0 | exact hw499_0)))).trans ((by first | exact (HB.out.cell (World.block_lt_of_cell? w _ hw499_0)).trans hw499_0 | exact hw499_0)), (World.cell?_alloc_lt _ _ _ (World.block_lt_of_cell? _ _ ((by first | exact (HB.out.cell (World.block_lt_of_cell? w _ hw499_1)).trans hw499_1 | exact hw499_1)))).trans ((by first | exact (HB.out.cell (World.block_lt_of_cell? w _ hw499_1)).trans hw499_1 | exact hw499_1)), (World.cell?_alloc_lt _ _ _ (World.block_lt_of_cell? _ _ ((by first | exact (HB.out.cell (World.block_lt_of_cell? w _ hw503_0)).trans hw503_0 | exact hw503_0)))).trans ((by first | exact (HB.out.cell (World.block_lt_of_cell? w _ hw503_0)).trans hw503_0 | exact hw503_0)), (World.cell?_alloc_lt _ _ _ (World.block_lt_of_cell? _ _ ((by first | exact (HB.out.cell (World.block_lt_of_cell? w _ hw503_1)).trans hw503_1 | exact hw503_1)))).trans ((by first | exact (HB.out.cell (World.block_lt_of_cell? w _ hw503_1)).trans hw503_1 | exact hw503_1))⟩ (fun hHeld => ?_)
       clear hK K
       refine norm_ (a' := ?_) ?_ ?_
       rotate_left
       ·show Act.put _ (some 26) _ = _
        simp only [Act.put, List.setIfInBounds_toArray, List.set_cons_zero, List.set_cons_succ, i64_w, i32_w]
        rfl
       refine one_ (i := 15) (N := some 27) (bz 17 65535) rfl rfl (one_of HT_.out (by kernel_rfl)) (by decide) (fun K hK => ?_)
       refine Kd.R_append_step k83 (w0 := w) w.heap.size (by rfl) (.tmp 12) (.tmp 26) 52 83 (.agg #[(.string ⟨#[]⟩), (.slice none 0 0)]) 40 rfl Tryd.underlying52 info83 rfl (by decide) (by omega) u3 x3_1 (⟨(rd_T83 l0 x4_1).f0, y504⟩ : S83) [.string ((rd_T83 l0 x4_1).f0), .slice Ao12 y504.length co12] (fun _ => True) (fun k_ => ((fun _ => True)) k_ ∧ some k_ ≠ (u3 : Value).ownBlock) rfl rfl ?aP (fun _ hk => hk) ?aF ?aO ?aB ?aS ?aL ?_
       (case aP => exact k83_mkM _ _ _ (⟨(rd_T83 l0 x4_1).f0, y504⟩ : S83) (Kd.R_mono (Kd.R_apart' (HO506.out) (Kd.R_typed HO_3.out) (by decide)) (fun k_ hk => ⟨trivial, hk.2⟩)))
       (case aB => exact (stB HB.out))
       (case aF => exact (fun _ _ => trivial))
       (case aO => exact (by (with_reducible repeat (first | apply Kd.R_alloc | apply Kd.R_drewN | apply Kd.R_drew)); exact Kd.R_mono HO_3.out (fun _ hk => trivial)))
       (case aS => exact (below_size (stB HB.out)))
       (case aL => have := LMc7.out; omega)
       intro v508 w13 ho hb hg hat
       rw [← Ny507.out] at ho
       have n0_ := Aside0.mk (hb)
       have n1_ := Aside0.mk (ho)
       clear HB
       clear HO_3
       clear HO506
       have HB := n0_
       have HO509 := n1_
       clear n0_ n1_
       clear ho hb hg hat
       refine hK.out _ _ ⟨(by first | exact (HB.out.cell (World.block_lt_of_cell? w _ hw499_0)).trans hw499_0 | exact hw499_0), (by first | exact (HB.out.cell (World.block_lt_of_cell? w _ hw499_1)).trans hw499_1 | exact hw499_1), (by first | exact (HB.out.cell (World.block_lt_of_cell? w _ hw503_0)).trans hw503_0 | exact hw503_0), (by first | exact (HB.out.cell (World.block_lt_of_cell? w _ hw503_1)).trans hw503_1 | exact hw503_1)⟩ (fun hHeld => ?_)
       clear hK K
       refine norm_ (a' := ?_) ?_ ?_
       rotate_left
       ·show Act.put _ (some 27) _ = _
        simp only [Act.put, List.setIfInBounds_toArray, List.set_cons_zero, List.set_cons_succ, i64_w, i32_w]
        rfl
       refine pure_ (i := 16) (N := some 3) (v := ?_) (a' := ?_) (bz 17 131071) rfl rfl (any_of HT_.out (by kernel_rfl)) (fun _ _ _ h => h) (Or.inl ⟨by rfl, ?_⟩) ?_ ?_
       rotate_left
       ·intro w'
        go_simp
        with_reducible rfl
       rotate_left
       ·simp only [Act.put, List.setIfInBounds_toArray, List.set_cons_zero, List.set_cons_succ, i64_w, i32_w]
        rfl
       refine done_ (done_of HT_.out (by kernel_rfl)) ?_
       try go_wp2
       go_roundg k1
       case measure => have := HK1.out; omega
       case rel => exact ⟨(y507), (wrap64 (x4_1 + 1)), (by first | rfl | (simp; done) | (simp [*]; done)), H', ⟨by have := HK1.out; omega⟩, ⟨by (with_reducible repeat (first | apply Kd.R_alloc | apply Kd.R_drewN | apply Kd.R_drew)); exact HO509.out⟩, ⟨by repeat (first | (with_reducible first | exact HB.out | apply below_alloc | apply pw_below_drewN | apply below_drew1) | exact HB.out)⟩⟩
      ·rw [if_neg c7] at H
       exact absurd H (by simp)
     ·rw [if_neg c6] at H
      exact absurd H (by simp)
    ·rw [if_neg c5] at H
     exact absurd H (by simp)
   ·rw [if_neg c4] at H
    have c4b0 : decide (x4_1 < (l0.length : Int)) = false := decide_eq_false c4
    clear c4
    obtain rfl := Option.some.inj H
    go_wp2
    go_ret
    exact ⟨_, by first | rfl | (simp [errW_none, errW_some] <;> rfl) | (simp [*, errW_none, errW_some] <;> rfl), by (with_reducible repeat (first | apply Kd.R_alloc | apply Kd.R_drewN | apply Kd.R_drew)); exact HO_3.out, by repeat (first | (with_reducible first | exact HB.out | apply below_alloc | apply pw_below_drewN | apply below_drew1) | exact HB.out)⟩
end Go.Proofs.YtmcdnpooclelgaaDoor.PAll

namespace Go.Proofs.YtmcdnpooclelgaaDoor.PAll
open Go.RowKit Go.Proofs.YtmcdnpooclelgaaDoorW.PrintWords
theorem specLines_l0 (xs : List S83) (h : smallLs xs) : ∀ (d i : Nat) (acc : List S83), i + d = xs.length → acc.length ≤ i → Ev (fun k => spec_l3Lines.l0 k xs acc i) (acc ++ xs.drop i)
  | 0, i, acc, hd, ha => Ev.unf (fun _ => some acc) (fun k => by simp only [spec_l3Lines.l0]; rw [if_neg (by omega)]) (by rw [List.drop_eq_nil_of_le (by omega), List.append_nil]; exact Ev.now _)
  | d + 1, i, acc, hd, ha => by
    have hi : i < xs.length := by omega
    have hl := h.1
    have hs := h.2 _ (List.getElem_mem hi)
    have ih := specLines_l0 xs h d (i + 1) (acc ++ [xs[i]]) (by omega) (by simp; omega)
    rw [List.drop_eq_getElem_cons hi, show acc ++ xs[i] :: xs.drop (i + 1) = (acc ++ [xs[i]]) ++ xs.drop (i + 1) by simp]
    refine Ev.unf (fun k => spec_l3Lines.l0 k xs (acc ++ [xs[i]]) ((i + 1 : Nat) : Int)) (fun k => ?_) ih
    simp only [spec_l3Lines.l0, Option.bind_some, List.nil_append, List.length_nil]
    rw [if_pos (by omega), if_pos (by omega), rdLine hi, if_pos (by have := hs.2.1; omega), if_pos (by omega), inc (by omega)]
theorem ev_l3Lines (xs : List S83) (h : smallLs xs) : Ev (fun k => spec_l3Lines.f k xs) xs := specLines_l0 xs h xs.length 0 [] (by omega) (by simp)
theorem rdRuleAt {ls : List S36} {i : Nat} {r : S36} (h : ls[i]? = some r) : rd_T36 ls (i : Int) = r := by unfold rd_T36; rw [List.getD_eq_getElem?_getD, Int.toNat_natCast, h]; rfl
end Go.Proofs.YtmcdnpooclelgaaDoor.PAll

namespace Go.Proofs.YtmcdnpooclelgaaDoor.PAll
open Go.RowKit Go.Proofs.YtmcdnpooclelgaaDoorW.PrintWords
theorem C_nil {α : Type} (d : Kd α) (w : World) (A : Option Addr) : d.C w A 0 [] := ⟨rfl, by omega, fun hp => absurd hp (by omega)⟩
end Go.Proofs.YtmcdnpooclelgaaDoor.PAll

namespace Go.Proofs.YtmcdnpooclelgaaDoor.PAll
open Go.RowKit Go.Proofs.YtmcdnpooclelgaaDoorW.PrintWords
set_option maxRecDepth 100000 in
set_option maxHeartbeats 4000000 in
theorem clone_any (bs : List S62) (h : smallBs bs) (A : Option Addr) (c : Nat) (w : World) (hr : Kd.C k62 w A bs.length bs) :
    Calls Tryd.prog 93 #[.agg #[.slice A bs.length c]] w fun e w' => ∃ v G, e = .returned (.agg #[v]) ∧ blocksS.ow w' w.heap.size [v] bs G ∧ Below w.heap.size w w' := by
  have HR := Aside0.mk hr
  have HS := Aside0.mk h
  have hn : bs.length ≤ 1048576 := h.1
  clear hr h
  go_enter Tryd.func93, Tryd.ntmps93
  go_wp2
  go_loopw [9] (fun i wr => ∃ (j : Nat) (v : Value), i = .int .i64 j ∧ j ≤ bs.length ∧ Below w.heap.size w wr ∧ w.heap.size + 3 ≤ wr.heap.size ∧ Aside0 (wr.heap[w.heap.size + 1]? = some (.cells #[.slice none 0 0] 47 (0, 0))) ∧ Aside0 (wr.heap[w.heap.size + 1 + 1]? = some (.cells #[v] 47 (0, 0))) ∧ Aside0 (∃ F, blocksS.ow wr (w.heap.size + 3) [v] (bs.take j) F)) (fun i _ => bs.length - (intOf i).toNat)
  case atStart =>
    refine ⟨0, .slice none 0 0, rfl, Nat.zero_le _, (((Below.refl _ _).alloc (Nat.le_refl _) _).alloc (by simp) _).alloc (by simp; omega) _, by simp, ⟨?_⟩, ⟨?_⟩, ⟨[], Sh.row_nil _ _ _ _⟩⟩
    · have h := blk_alloc (blk_new (w.alloc (.cells #[.slice A bs.length c] 47)) (.cells #[.slice none 0 0] 47)) (.cells #[.slice none 0 0] 47)
      rw [show (w.alloc (.cells #[.slice A bs.length c] 47)).heap.size = w.heap.size + 1 by simp] at h
      exact h
    · have h := blk_new ((w.alloc (.cells #[.slice A bs.length c] 47)).alloc (.cells #[.slice none 0 0] 47)) (.cells #[.slice none 0 0] 47)
      rw [show ((w.alloc (.cells #[.slice A bs.length c] 47)).alloc (.cells #[.slice none 0 0] 47)).heap.size = w.heap.size + 1 + 1 by simp] at h
      exact h
  case round =>
    obtain ⟨j, v, rfl, hj, hB, hsz, h1, h2, hO⟩ := hrel
    obtain ⟨F, hF⟩ := hO.out
    obtain ⟨Ad, d, rfl⟩ := own_form hF
    have HF := Aside0.mk hF
    clear hF hO
    by_cases hlt : j < bs.length
    · have hjl : (bs.take j).length = j := by rw [List.length_take]; omega
      have hnx : bs.take (j + 1) = bs.take j ++ [bs[j]] := by rw [List.take_add_one, List.getElem?_eq_getElem hlt]; rfl
      obtain ⟨ad, A1, c1, rfl, hx0, hx1, hx2, hl1, hC1⟩ := block_at (Kd.C_below HR.out hB) j bs[j] (List.getElem?_eq_getElem hlt)
      have hl := (HS.out.2 _ (List.getElem_mem hlt)).2.2
      generalize bs[j] = l at *
      obtain ⟨f0, f1, f2⟩ := l
      simp only at *
      have HNX := Aside0.mk hnx
      have HL := Aside0.mk hl
      have HC1 := Aside0.mk hC1
      have i1 : (j : Int) < (bs.length : Int) := by omega
      clear hnx hl hC1
      have q2 : wr.cell? ⟨w.heap.size + 1 + 1, 0, none⟩ = some (.slice Ad (bs.take j).length d) := (blk_cell h2.out 0).trans rfl
      have a5 : Below wr.heap.size wr (wr.alloc (.cells #[.string f0, .string f1, .slice A1 f2.length c1] 62)) := (Below.refl _ _).alloc (Nat.le_refl _) _
      have s5 : (wr.alloc (.cells #[.string f0, .string f1, .slice A1 f2.length c1] 62)).heap.size = wr.heap.size + 1 := by simp
      have b5 := blk_new wr (.cells #[.string f0, .string f1, .slice A1 f2.length c1] 62)
      go_wp2_with fail
      refine (cloneLines_any f2 HL.out A1 c1 _ (Kd.C_below HC1.out a5)).mono ?_
      rintro e w2 ⟨v1, G, rfl, ho1, hb1⟩
      have k5 := blk_below b5 hb1
      rw [s5] at ho1 hb1
      obtain ⟨B1, d1, rfl⟩ := own_form ho1
      have D2 := Aside0.mk (a5.trans (hb1.mono (Nat.le_succ _)))
      have hs2 : wr.heap.size < w2.heap.size := by have := hb1.size; rw [s5] at this; omega
      have HF2 := Aside0.mk (blocksS.obelow HF.out D2.out)
      have hFl := Aside0.mk (fun y hy => blocksS.oin HF.out y hy)
      have hGl := Aside0.mk (fun y hy => linesS.oin ho1 y hy)
      have HG := Aside0.mk ho1
      have hBw := Aside0.mk (hB.trans (D2.out.mono hB.size))
      have hvb : ∀ k, (Value.slice Ad j d).ownBlock = some k → w.heap.size + 3 ≤ k := by
        obtain ⟨v', vss, Gs, hv, hr, _⟩ := HF.out
        injection hv with hv _
        subst hv
        exact fun k hk => own_base hr k (by rw [hjl]; exact hk)
      have HVB := Aside0.mk hvb
      have y0 : w2.cell? ⟨wr.heap.size, 0, none⟩ = some (.string f0) := (blk_cell k5 0).trans rfl
      have y1 : w2.cell? ⟨wr.heap.size, 1, none⟩ = some (.string f1) := (blk_cell k5 1).trans rfl
      have y2 : w2.cell? ⟨wr.heap.size, 2, none⟩ = some (.slice A1 f2.length c1) := (blk_cell k5 2).trans rfl
      have yf := blk_frozen k5 2
      rw [hjl] at q2 HF2
      have q3 := pw_cell_below D2.out q2
      have m1 := Aside0.mk (blk_below h1.out D2.out)
      have m2 := Aside0.mk (blk_below h2.out D2.out)
      have hN : w.heap.size + 1 + 1 < wr.heap.size := by omega
      clear hvb hb1 ho1 k5 b5 a5 s5 q2 hx0 hx1 hx2 HF hB h1 h2 D2
      go_wp2_with (at_builtin; (refine Sh.app (A := blockS) (w0 := w) (base := w.heap.size) (b := w.heap.size + 3) (xs := bs.take j) (F := F) (G := G) (x := ⟨f0, f1, f2⟩) (us := [.string f0, .string f1, .slice B1 f2.length d1]) (W := w2.setCell ⟨wr.heap.size, 2, none⟩ (.slice B1 f2.length d1)) (v := .slice Ad j d) (.agg #[.string ⟨#[]⟩, .string ⟨#[]⟩, .slice none 0 0]) 56 (.tmp 18) (.tmp 20) 45 ?HO ?hx ?hd ?HB (by omega) ?hl rfl rfl Tryd.underlying45 infoBlock rfl (by decide) (by decide) ?hbase rfl ?hy ?h1 ?_))
      case HO => exact blocksS.oframe HF2.out fun g hg => Below.heap_setCell w2 ⟨wr.heap.size, 2, none⟩ _ g (fun e => by have := (hFl.out g hg).2; have e : g = wr.heap.size := e; omega)
      case hx => exact block_ow (linesS.olow (linesS.oframe HG.out fun g hg => Below.heap_setCell w2 ⟨wr.heap.size, 2, none⟩ _ g (fun e => by have := (hGl.out g hg).1; have e : g = wr.heap.size := e; omega)) (by omega))
      case hd => exact fun y hy hy' => by have := (hGl.out y hy).1; have := (hFl.out y hy').2; omega
      case HB => exact hBw.out.setCell (p := ⟨wr.heap.size, 2, none⟩) (show w.heap.size ≤ wr.heap.size by omega) _
      case hl => rw [hjl]; omega
      case hbase => simp; omega
      case hy => simp [Act.eval]
      case h1 => intro u hu; simp at hu; rcases hu with rfl | rfl | rfl <;> rfl
      intro v3 w3 F3 ho3 hb3 _ hg3
      rw [← HNX.out] at ho3
      obtain ⟨B3, d3, hv3⟩ := own_form ho3.out
      rw [show (bs.take (j + 1)).length = j + 1 by rw [List.length_take]; omega] at hv3
      subst hv3
      have m3 : w3.heap[w.heap.size + 1 + 1]? = some (.cells #[.slice Ad (bs.take j).length d] 47 (0, 0)) := (hg3.out.block _ (by simp; omega) (fun e => by have := HVB.out _ e.symm; omega)).trans (blk_far m2.out (show w.heap.size + 1 + 1 ≠ wr.heap.size by omega) _)
      have m4 : w3.heap[w.heap.size + 1]? = some (.cells #[.slice none 0 0] 47 (0, 0)) := (hg3.out.block _ (by simp; omega) (fun e => by have := HVB.out _ e.symm; omega)).trans (blk_far m1.out (show w.heap.size + 1 ≠ wr.heap.size by omega) _)
      have z3 : w3.cell? ⟨w.heap.size + 1 + 1, 0, none⟩ = some (.slice Ad (bs.take j).length d) := (blk_cell m3 0).trans rfl
      have f3 := blk_frozen m3 0
      have M3 := Aside0.mk (blk_put m3 0 (.slice B3 (j + 1) d3) rfl)
      have M4 := Aside0.mk (blk_far m4 (show w.heap.size + 1 ≠ w.heap.size + 1 + 1 by omega) (p := ⟨w.heap.size + 1 + 1, 0, none⟩) (.slice B3 (j + 1) d3))
      have hsz3 : w.heap.size + 3 ≤ w3.heap.size := by have := hg3.out.size; simp at this; omega
      have hO3 : Aside0 (∃ F, blocksS.ow (w3.setCell ⟨w.heap.size + 1 + 1, 0, none⟩ (.slice B3 (j + 1) d3)) (w.heap.size + 3) [.slice B3 (j + 1) d3] (bs.take (j + 1)) F) := ⟨F3, blocksS.oframe ho3.out fun g hg => Below.heap_setCell w3 ⟨w.heap.size + 1 + 1, 0, none⟩ _ g (fun e => by have := (blocksS.oin ho3.out g hg).1; have e : g = w.heap.size + 1 + 1 := e; omega)⟩
      have hB3 := Aside0.mk (hb3.out.setCell (p := ⟨w.heap.size + 1 + 1, 0, none⟩) (show w.heap.size ≤ w.heap.size + 1 + 1 by omega) (.slice B3 (j + 1) d3))
      clear ho3 hb3 y0 y1 y2 yf q3 m1 m2 m3 m4 hg3
      go_wp2
      go_roundw
      case rel => exact ⟨j + 1, _, by go_num, hlt, hB3.out, by simpa using hsz3, M4, M3, hO3⟩
      case measure => simp [intOf]; omega
    · obtain rfl : j = bs.length := by omega
      rw [List.take_length] at HF h2
      have x2 : wr.cell? ⟨w.heap.size + 1 + 1, 0, none⟩ = some (.slice Ad bs.length d) := (blk_cell h2.out 0).trans rfl
      have f1 := blk_frozen h1.out 0
      have z1 : wr.cell? ⟨w.heap.size + 1, 0, none⟩ = some (.slice none 0 0) := (blk_cell h1.out 0).trans rfl
      go_wp2
      refine bodyPost_ret (results_cell_row rfl _ _ (w.heap.size + 1) 47 #[.slice Ad bs.length d] (0, 0) _ rfl ?blk Tryd.underlying47 rfl (by kernel_rfl)) rfl ⟨.slice Ad bs.length d, F, rfl, ?ow, ?bel⟩
      case blk => exact blk_put h1.out 0 _ rfl
      case ow => exact blocksS.olow (blocksS.oframe HF.out fun g hg => Below.heap_setCell _ ⟨w.heap.size + 1, 0, none⟩ _ g (fun e => by have := (blocksS.oin HF.out g hg).1; have e : g = w.heap.size + 1 := e; omega)) (by omega)
      case bel => exact hB.setCell (p := ⟨w.heap.size + 1, 0, none⟩) (show w.heap.size ≤ w.heap.size + 1 by omega) _
end Go.Proofs.YtmcdnpooclelgaaDoor.PAll

namespace Go.Proofs.YtmcdnpooclelgaaDoor.PAll
open Go.RowKit Go.Proofs.YtmcdnpooclelgaaDoorW.PrintWords
theorem parts_perm {α : Type} {A : Sh α} {w : World} {b : Nat} {T T' : List (Part α)} (h : Parts A w b T) (hp : T.Perm T') : Parts A w b T' :=
  ⟨fun t ht => h.1 t (hp.mem_iff.2 ht), ((List.Perm.flatMap_right Part.G hp).nodup_iff).1 h.2⟩
theorem filter_perm {α : Type} (p q s : α → Bool) : ∀ (T : List α), (∀ t ∈ T, p t = (q t || s t)) → (∀ t ∈ T, q t = true → s t = false) → (T.filter p).Perm (T.filter q ++ T.filter s)
  | [], _, _ => List.Perm.refl _
  | t :: T, h, hx => by
    have ih := filter_perm p q s T (fun u hu => h u (List.mem_cons_of_mem _ hu)) (fun u hu => hx u (List.mem_cons_of_mem _ hu))
    have ht := h t List.mem_cons_self
    have hxt := hx t List.mem_cons_self
    cases hq : q t with
    | true =>
      have hs := hxt hq
      rw [hq, Bool.true_or] at ht
      rw [List.filter_cons_of_pos ht, List.filter_cons_of_pos hq, List.filter_cons_of_neg (by rw [hs]; simp), List.cons_append]
      exact ih.cons t
    | false =>
      rw [hq, Bool.false_or] at ht
      cases hs : s t with
      | true =>
        rw [hs] at ht
        rw [List.filter_cons_of_pos ht, List.filter_cons_of_neg (by rw [hq]; simp), List.filter_cons_of_pos hs]
        exact (ih.cons t).trans List.perm_middle.symm
      | false =>
        rw [hs] at ht
        rw [List.filter_cons_of_neg (by rw [ht]; simp), List.filter_cons_of_neg (by rw [hq]; simp), List.filter_cons_of_neg (by rw [hs]; simp)]
        exact ih
abbrev PartL := Part S83
def restL (kind : ByteArray) (T : List PartL) (k : Nat) : List PartL := T.filter fun t => decide ((k : Int) ≤ placeL kind t.x.f0)
def keyL (key : ByteArray) (T : List PartL) : List PartL := T.filter fun t => decide (t.x.f0 = key)
structure FillAt (w : World) (b : Nat) (kind : ByteArray) (ls : List S83) (T : List PartL) (k : Nat) (v : Value) (N : List PartL) : Prop where
  row : w.ownsRow b 83 2 v N.length (N.map Part.us).flatten
  xs : N.map Part.x = ((rulesL kind).take k).flatMap (fillR ls)
  parts : Parts lineS w b (N ++ restL kind T k)
  away : ∀ g, v.ownBlock = some g → g ∉ (N ++ restL kind T k).flatMap Part.G
theorem rest_perm {kind : ByteArray} {T : List PartL} {k : Nat} {r : S36} (hr : (rulesL kind)[k]? = some r) (hpos : ∀ t ∈ T, 0 ≤ placeL kind t.x.f0) : (restL kind T k).Perm (keyL r.f0 T ++ restL kind T (k + 1)) := by
  refine filter_perm _ _ _ T (fun t ht => ?_) (fun t ht hq => ?_)
  · have := key_place kind t.x.f0 k r hr (hpos t ht)
    rw [Bool.eq_iff_iff]
    simp only [Bool.or_eq_true, decide_eq_true_eq]
    rw [this]
    omega
  · have := key_place kind t.x.f0 k r hr (hpos t ht)
    simp only [decide_eq_true_eq] at hq
    rw [this] at hq
    exact decide_eq_false (by omega)
theorem parts_move {α : Type} {A : Sh α} {w w' : World} {b : Nat} {T : List (Part α)} (h : Parts A w b T) (hf : ∀ g ∈ T.flatMap Part.G, w'.heap[g]? = w.heap[g]?) : Parts A w' b T :=
  ⟨fun t ht => A.oframe (h.1 t ht) fun g hg => hf g (List.mem_flatMap.2 ⟨t, ht, hg⟩), h.2⟩
theorem parts_lt {α : Type} {A : Sh α} {w : World} {b : Nat} {T : List (Part α)} (h : Parts A w b T) : ∀ g ∈ T.flatMap Part.G, b ≤ g ∧ g < w.heap.size := fun g hg => by
  obtain ⟨t, ht, hg⟩ := List.mem_flatMap.1 hg
  exact A.oin (h.1 t ht) g hg
theorem FillAt.below {w w' : World} {b : Nat} {kind : ByteArray} {ls : List S83} {T : List PartL} {k : Nat} {v : Value} {N : List PartL} (h : FillAt w b kind ls T k v N) (hb : Below w.heap.size w w') : FillAt w' b kind ls T k v N :=
  ⟨own_move h.row (fun g hg => hb.block g (own_lt h.row g hg)), h.xs, parts_move h.parts (fun g hg => hb.block g (parts_lt h.parts g hg).2), h.away⟩
theorem FillAt.step {w w1 : World} {b : Nat} {kind : ByteArray} {ls : List S83} {T : List PartL} {k : Nat} {v v1 : Value} {N : List PartL} (h : FillAt w b kind ls T k v N) {r : S36} (hr : (rulesL kind)[k]? = some r) (Pc : List PartL) (hx : Pc.map Part.x = fillR ls r) (hp : Parts lineS w b (N ++ Pc ++ restL kind T (k + 1))) (haw : ∀ g, v.ownBlock = some g → g ∉ (N ++ Pc ++ restL kind T (k + 1)).flatMap Part.G)
    (ho : w1.ownsRow b 83 2 v1 (N.length + Pc.length) ((N.map Part.us).flatten ++ (Pc.map Part.us).flatten)) (hg : w.grownBy w1 v.ownBlock) (hat : v1.ownBlock = v.ownBlock ∨ ∃ g, v1.ownBlock = some g ∧ w.heap.size ≤ g) : FillAt w1 b kind ls T (k + 1) v1 (N ++ Pc) := by
  refine ⟨by simpa using ho, ?_, parts_move hp (fun g hgm => hg.block g (parts_lt hp g hgm).2 (fun e => haw g e.symm hgm)), fun g hg1 hgm => ?_⟩
  · rw [List.map_append, h.xs, hx, List.take_add_one, hr, List.flatMap_append]
    simp
  · rcases hat with hat | ⟨g', hat, hge⟩
    · exact haw g (by rw [← hat, hg1]) hgm
    · rw [hg1] at hat
      injection hat with hat
      have := (parts_lt hp g hgm).2
      omega
theorem FillAt.old {w w1 : World} {b : Nat} {kind : ByteArray} {ls : List S83} {T : List PartL} {k : Nat} {v v1 : Value} {N : List PartL} (h : FillAt w b kind ls T k v N) {r : S36} (hr : (rulesL kind)[k]? = some r) (hpos : ∀ t ∈ T, 0 ≤ placeL kind t.x.f0) (hx : (keyL r.f0 T).map Part.x = fillR ls r)
    (ho : w1.ownsRow b 83 2 v1 (N.length + (keyL r.f0 T).length) ((N.map Part.us).flatten ++ ((keyL r.f0 T).map Part.us).flatten)) (hg : w.grownBy w1 v.ownBlock) (hat : v1.ownBlock = v.ownBlock ∨ ∃ g, v1.ownBlock = some g ∧ w.heap.size ≤ g) : FillAt w1 b kind ls T (k + 1) v1 (N ++ keyL r.f0 T) := by
  have hpm : (N ++ restL kind T k).Perm (N ++ keyL r.f0 T ++ restL kind T (k + 1)) := by
    rw [List.append_assoc]
    exact (rest_perm hr hpos).append_left N
  exact h.step hr _ hx (parts_perm h.parts hpm) (fun g hg1 hgm => h.away g hg1 ((List.Perm.flatMap_right Part.G hpm).mem_iff.2 hgm)) ho hg hat
theorem lines_parts {w : World} {b : Nat} {v : Value} {ls : List S83} {F : List Nat} (h : linesS.ow w b [v] ls F) : ∃ T : List PartL, w.ownsRow b 83 2 v T.length (T.map Part.us).flatten ∧ T.map Part.x = ls ∧ Parts lineS w b T ∧ F = v.ownBlock.toList ++ T.flatMap Part.G ∧ ∀ g, v.ownBlock = some g → g ∉ T.flatMap Part.G := by
  obtain ⟨v', vss, Gs, hv, hr, h2, hF, h3⟩ := h
  injection hv with hv _
  subst hv
  obtain ⟨T, rfl, rfl, rfl, hT⟩ := Els.parts _ _ _ h2
  rw [List.length_map] at hr
  exact ⟨T, hr, rfl, hT, hF, fun g hg => h3 g (by simp [hg])⟩
theorem FillAt.start {w : World} {b : Nat} {kind : ByteArray} {T : List PartL} {ls : List S83} (h : Parts lineS w b T) (hpos : ∀ t ∈ T, 0 ≤ placeL kind t.x.f0) : FillAt w b kind ls T 0 (.slice none 0 0) [] := by
  have e : restL kind T 0 = T := List.filter_eq_self.2 fun t ht => decide_eq_true (by have := hpos t ht; omega)
  exact ⟨World.ownsRow_nil _ _ _ _, rfl, by rw [e]; exact h, fun g hg => by cases hg⟩
end Go.Proofs.YtmcdnpooclelgaaDoor.PAll

namespace Go.Proofs.YtmcdnpooclelgaaDoor.PAll
open Go.RowKit Go.Proofs.YtmcdnpooclelgaaDoorW.PrintWords
theorem own_empty {w : World} {e : TypeId} {base size g : Nat} (h : w.heap[g]? = some (.cells #[] e (0, 0))) (hb : base ≤ g) : w.ownsRow base e size (.slice (some ⟨g, 0, none⟩) 0 0) 0 [] := by
 exact ⟨by simp, .inr ⟨g, 0, #[], rfl, hb, h, by simp, by simp [maxLen], by simp, by simp⟩⟩
end Go.Proofs.YtmcdnpooclelgaaDoor.PAll

namespace Go.Proofs.YtmcdnpooclelgaaDoor.PAll
open Go.RowKit Go.Proofs.YtmcdnpooclelgaaDoorW.PrintWords Go.Proofs.YtmcdnpooclelgaaDoorW.PrintLast Go.Proofs.YtmcdnpooclelgaaDoorW.PrintMore
attribute [local go_sem] max2_int min2_int max_two min_two max_three min_three max_four min_four   -- for this text's walks alone
set_option linter.unusedVariables false
set_option linter.unusedSimpArgs false
def spec_l3Block.f (k : Nat) (a0_0 : ByteArray) (a0_1 : ByteArray) (l0_2 : List (S83)) : Option (ByteArray × ByteArray × (List (S83))) := (spec_l3Lines.f k l0_2).bind fun t596 => (some (a0_0, a0_1, t596))
set_option maxHeartbeats 8000000 in
set_option maxRecDepth 100000 in
theorem spec_l3Block.calls (k : Nat) (a0_0 : ByteArray) (a0_1 : ByteArray) (A0_2 : Option Addr) (c0_2 : Nat) (l0_2 : List (S83)) (r1 : ByteArray) (r2 : ByteArray) (r3 : List (S83)) (w : World) (hr0_2 : Kd.C k83 w A0_2 l0_2.length l0_2) (hc0_2 : l0_2.length ≤ c0_2) (h : spec_l3Block.f k a0_0 a0_1 l0_2 = some (r1, r2, r3)) :
  Calls Tryd.prog 125 #[.agg #[.string a0_0, .string a0_1, .slice A0_2 l0_2.length c0_2]] w fun e w' => ∃ v2_ : Value, e = .returned (.agg #[.string r1, .string r2, v2_]) ∧ Kd.R k83 83 w' w.heap.size (fun _ => True) v2_ r3 ∧ Below w.heap.size w w' := by
 have hu62 := Tryd.underlying62
 have HR0_2 := Aside0.mk hr0_2
 have HC0_2 := Aside0.mk hc0_2
 clear hr0_2 hc0_2
 have HB := Aside0.mk (Below.refl w.heap.size w)
 have H : ((spec_l3Lines.f k l0_2).bind fun t596 => (some (a0_0, a0_1, t596))) = some (r1, r2, r3) := h
 clear h
 replace H := Option.bind_eq_some_iff.mp H
 obtain ⟨t596, A20, H⟩ := H
 replace H : (some (a0_0, a0_1, t596)) = some (r1, r2, r3) := H
 have A2 := Aside0.mk A20
 clear A20
 simp only [Option.some.injEq, Prod.mk.injEq] at H
 obtain ⟨rfl, rfl, rfl⟩ := H
 go_enter Tryd.func125, Tryd.ntmps125
 go_wp2_with (first | ((with_reducible refine gate_dst (N := 1) rfl ?_); refine box_event ?hg (N := 1) ?hd (cs := #[.string a0_0, .string a0_1, .slice A0_2 l0_2.length c0_2]) (t := 62) ?hr ?_; (case hd => rfl); (case hg => rfl); (case hr => first | (go_simp; done) | (go_simp; rfl)); intro gb594 hg w3 hbox hb; have n0_ := Aside0.mk (below_step (stB HB.out) hb); have n1_ := Aside0.mk (hbox); have n2_ := Aside0.mk ((by rw [hg]; exact (below_size (stB HB.out)) : w.heap.size ≤ gb594)); have n3_ := Aside0.mk ((by rw [hg]; exact (below_size (stB HB.out)) : w.heap.size ≤ gb594)); clear HB; have HB := n0_; have BK594 := n1_; have GW594 := n2_; have GE594 := n3_; clear n0_ n1_ n2_ n3_; clear hb hbox hg) | ((with_reducible refine gate_dst (N := 2) rfl ?_); refine box_event ?hg (N := 2) ?hd (cs := #[.string (⟨#[]⟩ : ByteArray), .string (⟨#[]⟩ : ByteArray), .slice none 0 0]) (t := 62) ?hr ?_; (case hd => rfl); (case hg => rfl); (case hr => first | (go_simp; done) | (go_simp; rfl)); intro gb595 hg w4 hbox hb; have n0_ := Aside0.mk (blk_below (g := gb594) (o := .cells #[.string a0_0, .string a0_1, .slice A0_2 l0_2.length c0_2] 62 (0, 0)) (by (with_reducible repeat (first | refine blk_drewN ?_ _ | refine blk_drew ?_ | refine blk_alloc ?_ _)); exact BK594.out) hb); have n1_ := Aside0.mk (below_step (by repeat (first | (with_reducible first | exact HB.out | apply below_alloc | apply pw_below_drewN | apply below_drew1 | refine below_set ?_ GE594.out) | exact HB.out)) hb); have n2_ := Aside0.mk (hbox); have n3_ := Aside0.mk ((by rw [hg]; exact (below_size (by repeat (first | (with_reducible first | exact HB.out | apply below_alloc | apply pw_below_drewN | apply below_drew1 | refine below_set ?_ GE594.out) | exact HB.out))) : w.heap.size ≤ gb595)); have n4_ := Aside0.mk ((by rw [hg]; exact (below_size (by repeat (first | (with_reducible first | exact HB.out | apply below_alloc | apply pw_below_drewN | apply below_drew1 | refine below_set ?_ GE594.out) | exact HB.out))) : w.heap.size ≤ gb595)); have n5_ := Aside0.mk ((by rw [hg]; exact Nat.ne_of_lt (blk_lt (g := gb594) (o := .cells #[.string a0_0, .string a0_1, .slice A0_2 l0_2.length c0_2] 62 (0, 0)) (by (with_reducible repeat (first | refine blk_drewN ?_ _ | refine blk_drew ?_ | refine blk_alloc ?_ _)); exact BK594.out)) : gb594 ≠ gb595)); have n6_ := Aside0.mk ((by rw [hg]; exact Nat.ne_of_gt (blk_lt (g := gb594) (o := .cells #[.string a0_0, .string a0_1, .slice A0_2 l0_2.length c0_2] 62 (0, 0)) (by (with_reducible repeat (first | refine blk_drewN ?_ _ | refine blk_drew ?_ | refine blk_alloc ?_ _)); exact BK594.out)) : gb595 ≠ gb594)); clear BK594; clear HB; have BK594 := n0_; have HB := n1_; have BK595 := n2_; have GW595 := n3_; have GE595 := n4_; have NB594_595 := n5_; have NB595_594 := n6_; clear n0_ n1_ n2_ n3_ n4_ n5_ n6_; clear hb hbox hg; have hnb5 := NB594_595.out; have hnc5 := NB595_594.out; have hcz6_0 : w4.cell? ⟨gb594, 0, none⟩ = some (.string a0_0) := (blk_cell BK594.out 0).trans rfl; have hcz6_1 : w4.cell? ⟨gb594, 1, none⟩ = some (.string a0_1) := (blk_cell BK594.out 1).trans rfl; have hcz6_2 : w4.cell? ⟨gb594, 2, none⟩ = some (.slice A0_2 l0_2.length c0_2) := (blk_cell BK594.out 2).trans rfl; have hfz6_0 := blk_frozen BK594.out 0; have hfz6_1 := blk_frozen BK594.out 1; have hfz6_2 := blk_frozen BK594.out 2) | ((with_reducible refine gate_callee (f := 100) rfl ?_); refine goesL_ (some 5) rfl rfl Tryd.func100 (by kernel_rfl) rfl #[.slice A0_2 l0_2.length c0_2] rfl (by (try simp only [List.map_toArray, List.map_cons, List.map_nil]); first | done | rfl | (simp only [List.length_drop, List.length_take]; rfl)) ?_; (with_reducible refine (spec_l3Lines.calls k _ _ l0_2 t596 _ ?side1 ?side2 A2.out).mono ?_); (case side1 => repeat (first | exact (Kd.C_below HR0_2.out HB.out) | (with_reducible refine Kd.C_alloc ?_ _) | (with_reducible refine Kd.C_drewN ?_ _) | (with_reducible refine Kd.C_drew ?_))); (case side2 => exact HC0_2.out); rintro e w7 ⟨v597, rfl, ho0, hb⟩; refine ⟨_, rfl, ?_⟩; have n0_ := Aside0.mk (Kd.R_lower ho0 (below_size (by repeat (first | (with_reducible first | exact HB.out | apply below_alloc | apply pw_below_drewN | apply below_drew1 | refine below_set ?_ GE594.out | refine below_set ?_ GE595.out) | exact HB.out)))); have n1_ := Aside0.mk (blk_below (g := gb594) (o := .cells #[.string a0_0, .string a0_1, .slice A0_2 l0_2.length c0_2] 62 (0, 0)) (by (with_reducible repeat (first | refine blk_drewN ?_ _ | refine blk_drew ?_ | refine blk_alloc ?_ _)); exact BK594.out) hb); have n2_ := Aside0.mk (blk_below (g := gb595) (o := .cells #[.string (⟨#[]⟩ : ByteArray), .string (⟨#[]⟩ : ByteArray), .slice none 0 0] 62 (0, 0)) (by (with_reducible repeat (first | refine blk_drewN ?_ _ | refine blk_drew ?_ | refine blk_alloc ?_ _)); exact BK595.out) hb); have n3_ := Aside0.mk (below_step (by repeat (first | (with_reducible first | exact HB.out | apply below_alloc | apply pw_below_drewN | apply below_drew1 | refine below_set ?_ GE594.out | refine below_set ?_ GE595.out) | exact HB.out)) hb); clear BK594; clear BK595; clear HB; have HO598 := n0_; have BK594 := n1_; have BK595 := n2_; have HB := n3_; clear n0_ n1_ n2_ n3_; (try clear hb); (try clear hb2); (try clear hk); (try clear hi); (try clear ho0); obtain ⟨Ao8, co8, eo8⟩ := Kd.R_slice HO598.out; subst eo8; have hcz9_0 : w7.cell? ⟨gb594, 0, none⟩ = some (.string a0_0) := (blk_cell BK594.out 0).trans rfl; have hcz9_1 : w7.cell? ⟨gb594, 1, none⟩ = some (.string a0_1) := (blk_cell BK594.out 1).trans rfl; have hcz9_2 : w7.cell? ⟨gb594, 2, none⟩ = some (.slice A0_2 l0_2.length c0_2) := (blk_cell BK594.out 2).trans rfl; have hfz9_0 := blk_frozen BK594.out 0; have hfz9_1 := blk_frozen BK594.out 1; have hfz9_2 := blk_frozen BK594.out 2; have hcz10_0 : w7.cell? ⟨gb595, 0, none⟩ = some (.string (⟨#[]⟩ : ByteArray)) := (blk_cell BK595.out 0).trans rfl; have hcz10_1 : w7.cell? ⟨gb595, 1, none⟩ = some (.string (⟨#[]⟩ : ByteArray)) := (blk_cell BK595.out 1).trans rfl; have hcz10_2 : w7.cell? ⟨gb595, 2, none⟩ = some (.slice none 0 0) := (blk_cell BK595.out 2).trans rfl; have hfz10_0 := blk_frozen BK595.out 0; have hfz10_1 := blk_frozen BK595.out 1; have hfz10_2 := blk_frozen BK595.out 2))
 refine bodyPost_ret (results_cell_row rfl _ _ gb595 62 #[.string a0_0, .string a0_1, .slice Ao8 t596.length co8] (0, 0) _ rfl (by (with_reducible repeat (first | refine blk_drewN ?_ _ | refine blk_drew ?_ | refine blk_alloc ?_ _)); refine blk_put (cs := #[.string a0_0, .string a0_1, .slice none 0 0]) ?_ 2 _ rfl; (with_reducible repeat (first | refine blk_drewN ?_ _ | refine blk_drew ?_ | refine blk_alloc ?_ _)); refine blk_put (cs := #[.string a0_0, .string (⟨#[]⟩ : ByteArray), .slice none 0 0]) ?_ 1 _ rfl; (with_reducible repeat (first | refine blk_drewN ?_ _ | refine blk_drew ?_ | refine blk_alloc ?_ _)); refine blk_put (cs := #[.string (⟨#[]⟩ : ByteArray), .string (⟨#[]⟩ : ByteArray), .slice none 0 0]) ?_ 0 _ rfl; (with_reducible repeat (first | refine blk_drewN ?_ _ | refine blk_drew ?_ | refine blk_alloc ?_ _)); refine blk_far ?_ NB595_594.out _; (with_reducible repeat (first | refine blk_drewN ?_ _ | refine blk_drew ?_ | refine blk_alloc ?_ _)); exact BK595.out) Tryd.underlying62 rfl (by kernel_rfl)) rfl ?_
 exact ⟨_, by first | rfl | (simp [errW_none, errW_some] <;> rfl) | (simp [*, errW_none, errW_some] <;> rfl), by (with_reducible repeat (first | apply Kd.R_alloc | apply Kd.R_drewN | apply Kd.R_drew)); exact Kd.R_mono (Kd.R_far (p := ⟨gb595, 2, none⟩) (Kd.R_far (p := ⟨gb595, 1, none⟩) (Kd.R_far (p := ⟨gb595, 0, none⟩) (Kd.R_far (p := ⟨gb594, 2, none⟩) (Kd.R_types (Kd.R_types HO598.out BK594.out (by decide)) BK595.out (by decide)) (fun _ hk => hk.1.2) (.slice Ao8 t596.length co8)) (fun _ hk => hk.2) (.string a0_0)) (fun _ hk => hk.2) (.string a0_1)) (fun _ hk => hk.2) (.slice Ao8 t596.length co8)) (fun _ hk => trivial), by repeat (first | (with_reducible first | exact HB.out | apply below_alloc | apply pw_below_drewN | apply below_drew1 | refine below_set ?_ GE594.out | refine below_set ?_ GE595.out) | exact HB.out)⟩
end Go.Proofs.YtmcdnpooclelgaaDoor.PAll

namespace Go.Proofs.YtmcdnpooclelgaaDoor.PAll
open Go.RowKit Go.Proofs.YtmcdnpooclelgaaDoorW.PrintWords Go.Proofs.YtmcdnpooclelgaaDoorW.PrintLast Go.Proofs.YtmcdnpooclelgaaDoorW.PrintMore
attribute [local go_sem] max2_int min2_int max_two min_two max_three min_three max_four min_four   -- for this text's walks alone
set_option linter.unusedVariables false
set_option linter.unusedSimpArgs false
def spec_l3Copy.l0 : Nat → Int → List (S62) → List (S62) → Option ((List (S62)))
 | 0, _, _, _ => none
 | k + 1, x4, x600000, x602000 => if x4 < (x600000.length : Int) then (if 0 ≤ x4 then ((spec_l3Block.f k ((rd_T62 x600000 x4).f0) ((rd_T62 x600000 x4).f1) ((rd_T62 x600000 x4).f2)).bind fun bt603 => (if x602000.length < 2513169434916 then (spec_l3Copy.l0 k (wrap64 (x4 + 1)) x600000 (x602000 ++ [(⟨bt603.1, bt603.2.1, bt603.2.2⟩ : S62)])) else (none))) else (none)) else (some x602000)
def spec_l3Copy.f (k : Nat) (l0_0 : List (S62)) : Option ((List (S62))) := spec_l3Copy.l0 k 0 l0_0 ([] : List (S62))
def spec_l3Copy.T5 : Bool × List (List Nat × List Nat) := (true, [([], []), ([0], [0]), ([], []), ([2], [2]), ([], []), ([3, 4], [3, 4]), ([5], [5]), ([6], [6]), ([7], [7]), ([1, 8, 7], [1, 8]), ([0, 1, 2, 3, 4, 5, 6, 7, 8, 9], []), ([10, 9, 9, 0, 1, 2, 3, 4, 5, 6, 7, 8, 9], [9, 10])])
def spec_l3Copy.B5 : List Nat := [0, 1, 0, 4, 0, 28, 60, 124, 252, 511, 1023, 2047]
theorem spec_l3Copy.tab5 : rtab .any (opsOf Tryd.f91 5) = spec_l3Copy.T5 := by kernel_rfl
theorem spec_l3Copy.bits5 : waitsOk spec_l3Copy.T5.2 spec_l3Copy.B5 = true := by kernel_rfl
set_option maxHeartbeats 8000000 in
set_option maxRecDepth 100000 in
theorem spec_l3Copy.calls (k : Nat) (A0_0 : Option Addr) (c0_0 : Nat) (l0_0 : List (S62)) (r : List (S62)) (w : World) (hr0_0 : Kd.C k62 w A0_0 l0_0.length l0_0) (hc0_0 : l0_0.length ≤ c0_0) (h : spec_l3Copy.f k l0_0 = some r) :
  Calls Tryd.prog 91 #[.agg #[.slice A0_0 l0_0.length c0_0]] w fun e w' => ∃ v0_ : Value, e = .returned (.agg #[v0_]) ∧ Kd.R k62 62 w' w.heap.size (fun _ => True) v0_ r ∧ Below w.heap.size w w' := by
 have hu47 := Tryd.underlying47
 have hu62 := Tryd.underlying62
 have HR0_0 := Aside0.mk hr0_0
 have HC0_0 := Aside0.mk hc0_0
 clear hr0_0 hc0_0
 have HB := Aside0.mk (Below.refl w.heap.size w)
 have H : (spec_l3Copy.l0 k 0 l0_0 ([] : List (S62))) = some r := h
 clear h
 have H' := Aside0.mk H
 clear H
 go_enter Tryd.func91, Tryd.ntmps91
 go_wp2_with (first | ((with_reducible refine gate_dst (N := 1) rfl ?_); refine box_event ?hg (N := 1) ?hd (cs := #[.slice A0_0 l0_0.length c0_0]) (t := 47) ?hr ?_; (case hd => rfl); (case hg => rfl); (case hr => first | (go_simp; done) | (go_simp; rfl)); intro gb599 hg w2 hbox hb; have n0_ := Aside0.mk (below_step (stB HB.out) hb); have n1_ := Aside0.mk (hbox); have n2_ := Aside0.mk ((by rw [hg]; exact (below_size (stB HB.out)) : w.heap.size ≤ gb599)); have n3_ := Aside0.mk ((by rw [hg]; exact (below_size (stB HB.out)) : w.heap.size ≤ gb599)); clear HB; have HB := n0_; have BK599 := n1_; have GW599 := n2_; have GE599 := n3_; clear n0_ n1_ n2_ n3_; clear hb hbox hg) | ((with_reducible refine gate_dst (N := 2) rfl ?_); refine box_event ?hg (N := 2) ?hd (cs := #[.slice none 0 0]) (t := 47) ?hr ?_; (case hd => rfl); (case hg => rfl); (case hr => first | (go_simp; done) | (go_simp; rfl)); intro gb600 hg w3 hbox hb; have n0_ := Aside0.mk (blk_below (g := gb599) (o := .cells #[.slice A0_0 l0_0.length c0_0] 47 (0, 0)) (by (with_reducible repeat (first | refine blk_drewN ?_ _ | refine blk_drew ?_ | refine blk_alloc ?_ _)); exact BK599.out) hb); have n1_ := Aside0.mk (below_step (by repeat (first | (with_reducible first | exact HB.out | apply below_alloc | apply pw_below_drewN | apply below_drew1 | refine below_set ?_ GE599.out) | exact HB.out)) hb); have n2_ := Aside0.mk (hbox); have n3_ := Aside0.mk ((by rw [hg]; exact (below_size (by repeat (first | (with_reducible first | exact HB.out | apply below_alloc | apply pw_below_drewN | apply below_drew1 | refine below_set ?_ GE599.out) | exact HB.out))) : w.heap.size ≤ gb600)); have n4_ := Aside0.mk ((by rw [hg]; exact (below_size (by repeat (first | (with_reducible first | exact HB.out | apply below_alloc | apply pw_below_drewN | apply below_drew1 | refine below_set ?_ GE599.out) | exact HB.out))) : w.heap.size ≤ gb600)); have n5_ := Aside0.mk ((by rw [hg]; exact Nat.ne_of_lt (blk_lt (g := gb599) (o := .cells #[.slice A0_0 l0_0.length c0_0] 47 (0, 0)) (by (with_reducible repeat (first | refine blk_drewN ?_ _ | refine blk_drew ?_ | refine blk_alloc ?_ _)); exact BK599.out)) : gb599 ≠ gb600)); have n6_ := Aside0.mk ((by rw [hg]; exact Nat.ne_of_gt (blk_lt (g := gb599) (o := .cells #[.slice A0_0 l0_0.length c0_0] 47 (0, 0)) (by (with_reducible repeat (first | refine blk_drewN ?_ _ | refine blk_drew ?_ | refine blk_alloc ?_ _)); exact BK599.out)) : gb600 ≠ gb599)); clear BK599; clear HB; have BK599 := n0_; have HB := n1_; have BK600 := n2_; have GW600 := n3_; have GE600 := n4_; have NB599_600 := n5_; have NB600_599 := n6_; clear n0_ n1_ n2_ n3_ n4_ n5_ n6_; clear hb hbox hg) | ((with_reducible refine gate_dst (N := 3) rfl ?_); refine box_event ?hg (N := 3) ?hd (cs := #[.slice none 0 0]) (t := 47) ?hr ?_; (case hd => rfl); (case hg => rfl); (case hr => first | (go_simp; done) | (go_simp; rfl)); intro gb601 hg w4 hbox hb; have n0_ := Aside0.mk (blk_below (g := gb599) (o := .cells #[.slice A0_0 l0_0.length c0_0] 47 (0, 0)) (by (with_reducible repeat (first | refine blk_drewN ?_ _ | refine blk_drew ?_ | refine blk_alloc ?_ _)); exact BK599.out) hb); have n1_ := Aside0.mk (blk_below (g := gb600) (o := .cells #[.slice none 0 0] 47 (0, 0)) (by (with_reducible repeat (first | refine blk_drewN ?_ _ | refine blk_drew ?_ | refine blk_alloc ?_ _)); exact BK600.out) hb); have n2_ := Aside0.mk (below_step (by repeat (first | (with_reducible first | exact HB.out | apply below_alloc | apply pw_below_drewN | apply below_drew1 | refine below_set ?_ GE599.out | refine below_set ?_ GE600.out) | exact HB.out)) hb); have n3_ := Aside0.mk (hbox); have n4_ := Aside0.mk ((by rw [hg]; exact (below_size (by repeat (first | (with_reducible first | exact HB.out | apply below_alloc | apply pw_below_drewN | apply below_drew1 | refine below_set ?_ GE599.out | refine below_set ?_ GE600.out) | exact HB.out))) : w.heap.size ≤ gb601)); have n5_ := Aside0.mk ((by rw [hg]; exact (below_size (by repeat (first | (with_reducible first | exact HB.out | apply below_alloc | apply pw_below_drewN | apply below_drew1 | refine below_set ?_ GE599.out | refine below_set ?_ GE600.out) | exact HB.out))) : w.heap.size ≤ gb601)); have n6_ := Aside0.mk ((by rw [hg]; exact Nat.ne_of_lt (blk_lt (g := gb599) (o := .cells #[.slice A0_0 l0_0.length c0_0] 47 (0, 0)) (by (with_reducible repeat (first | refine blk_drewN ?_ _ | refine blk_drew ?_ | refine blk_alloc ?_ _)); exact BK599.out)) : gb599 ≠ gb601)); have n7_ := Aside0.mk ((by rw [hg]; exact Nat.ne_of_gt (blk_lt (g := gb599) (o := .cells #[.slice A0_0 l0_0.length c0_0] 47 (0, 0)) (by (with_reducible repeat (first | refine blk_drewN ?_ _ | refine blk_drew ?_ | refine blk_alloc ?_ _)); exact BK599.out)) : gb601 ≠ gb599)); have n8_ := Aside0.mk ((by rw [hg]; exact Nat.ne_of_lt (blk_lt (g := gb600) (o := .cells #[.slice none 0 0] 47 (0, 0)) (by (with_reducible repeat (first | refine blk_drewN ?_ _ | refine blk_drew ?_ | refine blk_alloc ?_ _)); exact BK600.out)) : gb600 ≠ gb601)); have n9_ := Aside0.mk ((by rw [hg]; exact Nat.ne_of_gt (blk_lt (g := gb600) (o := .cells #[.slice none 0 0] 47 (0, 0)) (by (with_reducible repeat (first | refine blk_drewN ?_ _ | refine blk_drew ?_ | refine blk_alloc ?_ _)); exact BK600.out)) : gb601 ≠ gb600)); clear BK599; clear BK600; clear HB; have BK599 := n0_; have BK600 := n1_; have HB := n2_; have BK601 := n3_; have GW601 := n4_; have GE601 := n5_; have NB599_601 := n6_; have NB601_599 := n7_; have NB600_601 := n8_; have NB601_600 := n9_; clear n0_ n1_ n2_ n3_ n4_ n5_ n6_ n7_ n8_ n9_; clear hb hbox hg; have hnb5 := NB601_599.out; have hnc5 := NB599_601.out; have hnb6 := NB601_600.out; have hnc6 := NB600_601.out; have hcz7_0 : w4.cell? ⟨gb601, 0, none⟩ = some (.slice none 0 0) := (blk_cell BK601.out 0).trans rfl; have hfz7_0 := blk_frozen BK601.out 0))
 go_loopg [4] k (fun kq v4 w' => ∃ (x4_1 : Int) (x602000_1 : List (S62)) (u602000 : Value), v4 = .int .i64 x4_1 ∧ Aside0 (spec_l3Copy.l0 kq x4_1 l0_0 x602000_1 = some r) ∧ Aside0 (kq ≤ k) ∧ Aside0 (Kd.R k62 62 w' w.heap.size (fun _ => True) u602000 x602000_1) ∧ Aside0 (w'.heap[gb599]? = some (.cells #[(.slice A0_0 l0_0.length c0_0)] 47 (0, 0))) ∧ Aside0 (w'.heap[gb600]? = some (.cells #[(.slice none 0 0)] 47 (0, 0))) ∧ Aside0 (w'.heap[gb601]? = some (.cells #[u602000] 47 (0, 0))) ∧ Aside0 (Below w.heap.size w w'))
 case atStart => exact ⟨(0), (([] : List (S62))), (.slice none 0 0), (by first | rfl | (simp; done) | (simp [*]; done)), H', ⟨Nat.le_refl _⟩, ⟨by first | exact Kd.R_nil _ _ _ _ _ | exact Kd.N_nil _ _ _ _ _ | exact Kd.V_nil _ _ _ _ _ | exact Kd.Q_nil _ _ _ _ _ | exact Kd.S_nil _ _ _ _ _⟩, ⟨by (with_reducible repeat (first | refine blk_drewN ?_ _ | refine blk_drew ?_ | refine blk_alloc ?_ _)); refine blk_far ?_ NB599_601.out _; (with_reducible repeat (first | refine blk_drewN ?_ _ | refine blk_drew ?_ | refine blk_alloc ?_ _)); exact BK599.out⟩, ⟨by (with_reducible repeat (first | refine blk_drewN ?_ _ | refine blk_drew ?_ | refine blk_alloc ?_ _)); refine blk_far ?_ NB600_601.out _; (with_reducible repeat (first | refine blk_drewN ?_ _ | refine blk_drew ?_ | refine blk_alloc ?_ _)); exact BK600.out⟩, ⟨by (with_reducible repeat (first | refine blk_drewN ?_ _ | refine blk_drew ?_ | refine blk_alloc ?_ _)); refine blk_put (cs := #[.slice none 0 0]) ?_ 0 _ rfl; (with_reducible repeat (first | refine blk_drewN ?_ _ | refine blk_drew ?_ | refine blk_alloc ?_ _)); exact BK601.out⟩, ⟨by repeat (first | (with_reducible first | exact HB.out | apply below_alloc | apply pw_below_drewN | apply below_drew1 | refine below_set ?_ GE599.out | refine below_set ?_ GE600.out | refine below_set ?_ GE601.out) | exact HB.out)⟩⟩
 case round =>
  clear H'
  try clear p2
  try clear c5
  try clear c6
  try clear hcz7_0
  try clear hfz7_0
  obtain ⟨x4_1, x602000_1, u602000, rfl, HA, HK1, HO_602000, BK599, BK600, BK601, HB⟩ := hrel
  cases gk with
  | zero => exact absurd HA.out (by simp [spec_l3Copy.l0])
  | succ k1 =>
   have H := HA.out
   clear HA
   simp only [spec_l3Copy.l0] at H
   by_cases c8 : x4_1 < (l0_0.length : Int)
   ·rw [if_pos c8] at H
    have c8b0 : decide (x4_1 < (l0_0.length : Int)) = true := decide_eq_true c8
    clear c8
    by_cases c9 : 0 ≤ x4_1
    ·rw [if_pos c9] at H
     have c9b0 : decide (0 ≤ x4_1) = true := decide_eq_true c9
     clear c9
     replace H := Option.bind_eq_some_iff.mp H
     obtain ⟨⟨t603, t604, t605⟩, A100, H⟩ := H
     replace H : (if x602000_1.length < 2513169434916 then (spec_l3Copy.l0 k1 (wrap64 (x4_1 + 1)) l0_0 (x602000_1 ++ [(⟨t603, t604, t605⟩ : S62)])) else (none)) = some r := H
     have A10 := Aside0.mk A100
     clear A100
     by_cases c11 : x602000_1.length < 2513169434916
     ·rw [if_pos c11] at H
      have LMc11 := Aside0.mk c11
      clear c11
      obtain ⟨y608, hy608⟩ : ∃ y_ : List (S62), y_ = (x602000_1 ++ [(⟨t603, t604, t605⟩ : S62)]) := ⟨_, rfl⟩
      replace H : (spec_l3Copy.l0 k1 (wrap64 (x4_1 + 1)) l0_0 y608) = some r := by first | (rw [hy608]; with_reducible exact H) | (have H2_ := (Option.bind_some _ _).symm.trans H; rw [hy608]; with_reducible exact H2_) | (have H2_ := (Option.bind_some _ _).symm.trans H; with_reducible exact H2_) | with_reducible exact H | (rw [hy608]; exact H) | exact H
      have Ny608 := Aside0.mk hy608
      clear hy608
      have H' := Aside0.mk H
      clear H
      have hnb12 := NB599_600.out
      have hnc12 := NB600_599.out
      have hnb13 := NB599_601.out
      have hnc13 := NB601_599.out
      have hcz14_0 : wr.cell? ⟨gb599, 0, none⟩ = some (.slice A0_0 l0_0.length c0_0) := (blk_cell BK599.out 0).trans rfl
      have hfz14_0 := blk_frozen BK599.out 0
      try go_wp2
      have n0_ := Aside0.mk (Kd.R_drew HO_602000.out)
      have n1_ := Aside0.mk (blk_drew BK599.out)
      have n2_ := Aside0.mk (blk_drew BK600.out)
      have n3_ := Aside0.mk (blk_drew BK601.out)
      have n4_ := Aside0.mk (below_drew1 HB.out)
      clear HO_602000
      clear BK599
      clear BK600
      clear BK601
      clear HB
      have HO_602000 := n0_
      have BK599 := n1_
      have BK600 := n2_
      have BK601 := n3_
      have HB := n4_
      clear n0_ n1_ n2_ n3_ n4_
      have p602 : 0 ≤ (x4_1 : Int) := of_decide_eq_true (by first | (with_reducible assumption) | assumption)
      have q602 : x4_1 < (l0_0.length : Int) := of_decide_eq_true (by first | (with_reducible assumption) | assumption)
      obtain ⟨ad602, A602_2, c602_2, e602, hx602_0, hx602_1, hx602_2, hl602_2, hi602_2⟩ := at_T62 HR0_0.out x4_1 p602 q602
      have hw602_2 := hx602_2
      have hw602_1 := hx602_1
      have hw602_0 := hx602_0
      cases e602
      (try replace hx602_0 := (HB.out.cell (World.block_lt_of_cell? w _ hx602_0)).trans hx602_0)
      (try replace hx602_1 := (HB.out.cell (World.block_lt_of_cell? w _ hx602_1)).trans hx602_1)
      (try replace hx602_2 := (HB.out.cell (World.block_lt_of_cell? w _ hx602_2)).trans hx602_2)
      have HR602_2 := Aside0.mk hi602_2
      have HC602_2 := Aside0.mk hl602_2
      clear hi602_2 hl602_2
      replace p602 := eq_true p602
      replace q602 := eq_true q602
      refine start_ (n := 12) (S := fun w' => w'.cell? ⟨gb601, 0, none⟩ = some (u602000) ∧ w'.cell? ⟨gb599, 0, none⟩ = some (.slice (some ad602) l0_0.length c0_0) ∧ w'.cell? (ad602.add ((x4_1).toNat * 3)) = some (.string ((rd_T62 l0_0 x4_1).f0)) ∧ w'.cell? ⟨(ad602.add ((x4_1).toNat * 3)).block, (ad602.add ((x4_1).toNat * 3)).off + 1, none⟩ = some (.string ((rd_T62 l0_0 x4_1).f1)) ∧ w'.cell? ⟨(ad602.add ((x4_1).toNat * 3)).block, (ad602.add ((x4_1).toNat * 3)).off + 2, none⟩ = some (.slice A602_2 ((rd_T62 l0_0 x4_1).f2).length c602_2)) (ds := [11]) (bz 12 0) (by kernel_rfl) rfl rfl ⟨(blk_cell BK601.out 0).trans rfl, (blk_cell BK599.out 0).trans rfl, (by first | exact (HB.out.cell (World.block_lt_of_cell? w _ hw602_0)).trans hw602_0 | exact hw602_0), (by first | exact (HB.out.cell (World.block_lt_of_cell? w _ hw602_1)).trans hw602_1 | exact hw602_1), (by first | exact (HB.out.cell (World.block_lt_of_cell? w _ hw602_2)).trans hw602_2 | exact hw602_2)⟩ (fun hHeld => ?_); refine with_tabW spec_l3Copy.tab5 spec_l3Copy.bits5 (fun HT_ HW_ => ?_)
      generalize wr.drew = w15 at HO_602000 BK599 BK600 BK601 HB HR602_2 hx602_0 hx602_1 hx602_2 hHeld ⊢
      refine pure_ (i := 0) (N := some 13) (v := ?_) (a' := ?_) (bz 12 1) rfl rfl (any_of HT_.out (by kernel_rfl)) (fun _ _ _ h => h) (Or.inl ⟨by rfl, ?_⟩) ?_ ?_
      rotate_left
      ·intro w'
       go_simp
       with_reducible rfl
      rotate_left
      ·simp only [Act.put, List.setIfInBounds_toArray, List.set_cons_zero, List.set_cons_succ, i64_w, i32_w]
       rfl
      refine pure_ (i := 2) (N := some 15) (v := ?_) (a' := ?_) (bz 12 5) rfl rfl (any_of HT_.out (by kernel_rfl)) (fun _ _ _ h => h) (Or.inl ⟨by rfl, ?_⟩) ?_ ?_
      rotate_left
      ·intro w'
       go_simp
       with_reducible rfl
      rotate_left
      ·simp only [Act.put, List.setIfInBounds_toArray, List.set_cons_zero, List.set_cons_succ, i64_w, i32_w]
       rfl
      refine pure_ (i := 4) (N := some 17) (v := ?_) (a' := ?_) (bz 12 21) rfl rfl (any_of HT_.out (by kernel_rfl)) (fun _ _ _ h => h) (Or.inl ⟨by rfl, ?_⟩) ?_ ?_
      rotate_left
      ·intro w'
       go_simp
       with_reducible rfl
      rotate_left
      ·simp only [Act.put, List.setIfInBounds_toArray, List.set_cons_zero, List.set_cons_succ, i64_w, i32_w]
       rfl
      refine take_ (i := 1) (N := some 14) (v := ?_) (a' := ?_) (bz 12 23) rfl rfl (take_ofW HT_.out HW_.out (by kernel_rfl)) (fun _ _ _ h => h) (Or.inl ⟨by rfl, ?_⟩) hHeld ?_ ?_
      rotate_left
      ·rintro w' ⟨s0, s1, s2, s3, s4⟩
       go_simp
       with_reducible rfl
      rotate_left
      ·simp only [Act.put, List.setIfInBounds_toArray, List.set_cons_zero, List.set_cons_succ, i64_w, i32_w]
       rfl
      refine take_ (i := 3) (N := some 16) (v := ?_) (a' := ?_) (bz 12 31) rfl rfl (take_ofW HT_.out HW_.out (by kernel_rfl)) (fun _ _ _ h => h) (Or.inl ⟨by rfl, ?_⟩) hHeld ?_ ?_
      rotate_left
      ·rintro w' ⟨s0, s1, s2, s3, s4⟩
       go_simp
       with_reducible rfl
      rotate_left
      ·simp only [Act.put, List.setIfInBounds_toArray, List.set_cons_zero, List.set_cons_succ, i64_w, i32_w]
       rfl
      refine pure_ (i := 5) (N := some 18) (v := ?_) (a' := ?_) (bz 12 63) rfl rfl (any_of HT_.out (by kernel_rfl)) (fun _ _ _ h => h) (Or.inl ⟨by rfl, ?_⟩) ?_ ?_
      rotate_left
      ·intro w'
       go_simp
       with_reducible rfl
      rotate_left
      ·simp only [Act.put, List.setIfInBounds_toArray, List.set_cons_zero, List.set_cons_succ, i64_w, i32_w]
       rfl
      refine take_ (i := 6) (N := some 19) (v := ?_) (a' := ?_) (bz 12 127) rfl rfl (take_ofW HT_.out HW_.out (by kernel_rfl)) (fun _ _ _ h => h) (Or.inl ⟨by rfl, ?_⟩) hHeld ?_ ?_
      rotate_left
      ·rintro w' ⟨s0, s1, s2, s3, s4⟩
       go_simp
       with_reducible rfl
      rotate_left
      ·simp only [Act.put, List.setIfInBounds_toArray, List.set_cons_zero, List.set_cons_succ, i64_w, i32_w]
       rfl
      refine one_ (i := 7) (N := some 20) (bz 12 255) rfl rfl (one_of HT_.out (by kernel_rfl)) (by decide) (fun K hK => ?_)
      refine goes_ Tryd.func125 (by kernel_rfl) rfl #[.agg #[.string ((rd_T62 l0_0 x4_1).f0), .string ((rd_T62 l0_0 x4_1).f1), .slice A602_2 ((rd_T62 l0_0 x4_1).f2).length c602_2]] (by rfl) rfl rfl (by (try simp only [List.map_toArray, List.map_cons, List.map_nil]); first | done | rfl | (simp only [List.length_drop, List.length_take]; rfl)) ?_
      with_reducible refine (spec_l3Block.calls k1 ((rd_T62 l0_0 x4_1).f0) ((rd_T62 l0_0 x4_1).f1) _ _ ((rd_T62 l0_0 x4_1).f2) t603 t604 t605 _ ?side1 ?side2 A10.out).mono ?_
      (case side1 => repeat (first | exact (Kd.C_below HR602_2.out HB.out) | (with_reducible refine Kd.C_alloc ?_ _) | (with_reducible refine Kd.C_drewN ?_ _) | (with_reducible refine Kd.C_drew ?_)))
      (case side2 => exact HC602_2.out)
      rintro e w16 ⟨v606, rfl, ho0, hb⟩
      refine ⟨_, rfl, ?_⟩
      have n0_ := Aside0.mk (Kd.R_elder' (stR HO_602000.out) (Kd.R_base ho0) hb)
      have n1_ := Aside0.mk (Kd.R_lower ho0 (below_size (by repeat (first | (with_reducible first | exact HB.out | apply below_alloc | apply pw_below_drewN | apply below_drew1 | refine below_set ?_ GE599.out | refine below_set ?_ GE600.out | refine below_set ?_ GE601.out) | exact HB.out))))
      have n2_ := Aside0.mk (blk_below (g := gb599) (o := .cells #[.slice (some ad602) l0_0.length c0_0] 47 (0, 0)) (by (with_reducible repeat (first | refine blk_drewN ?_ _ | refine blk_drew ?_ | refine blk_alloc ?_ _)); exact BK599.out) hb)
      have n3_ := Aside0.mk (blk_below (g := gb600) (o := .cells #[.slice none 0 0] 47 (0, 0)) (by (with_reducible repeat (first | refine blk_drewN ?_ _ | refine blk_drew ?_ | refine blk_alloc ?_ _)); exact BK600.out) hb)
      have n4_ := Aside0.mk (blk_below (g := gb601) (o := .cells #[u602000] 47 (0, 0)) (by (with_reducible repeat (first | refine blk_drewN ?_ _ | refine blk_drew ?_ | refine blk_alloc ?_ _)); exact BK601.out) hb)
      have n5_ := Aside0.mk (below_step (by repeat (first | (with_reducible first | exact HB.out | apply below_alloc | apply pw_below_drewN | apply below_drew1 | refine below_set ?_ GE599.out | refine below_set ?_ GE600.out | refine below_set ?_ GE601.out) | exact HB.out)) hb)
      clear HO_602000
      clear BK599
      clear BK600
      clear BK601
      clear HB
      have HO_602000 := n0_
      have HO607 := n1_
      have BK599 := n2_
      have BK600 := n3_
      have BK601 := n4_
      have HB := n5_
      clear n0_ n1_ n2_ n3_ n4_ n5_
      (try clear hb)
      (try clear hb2)
      (try clear hk)
      (try clear hi)
      (try clear ho0)
      obtain ⟨Ao18, co18, eo18⟩ := Kd.R_slice HO607.out
      (first | subst eo18 | (injection eo18 with f1_ f2_ f3_; have f4_ := f1_.symm; have f5_ := f3_.symm; clear f1_ f2_ f3_; subst f4_; subst f5_))
      refine hK.out _ _ ⟨(blk_cell BK601.out 0).trans rfl, (blk_cell BK599.out 0).trans rfl, (by first | exact (HB.out.cell (World.block_lt_of_cell? w _ hw602_0)).trans hw602_0 | exact hw602_0), (by first | exact (HB.out.cell (World.block_lt_of_cell? w _ hw602_1)).trans hw602_1 | exact hw602_1), (by first | exact (HB.out.cell (World.block_lt_of_cell? w _ hw602_2)).trans hw602_2 | exact hw602_2)⟩ (fun hHeld => ?_)
      clear hK K
      refine norm_ (a' := ?_) ?_ ?_
      rotate_left
      ·show Act.put _ (some 20) _ = _
       simp only [Act.put, List.setIfInBounds_toArray, List.set_cons_zero, List.set_cons_succ, i64_w, i32_w]
       rfl
      refine one_ (i := 8) (N := some 21) (bz 12 511) rfl rfl (one_of HT_.out (by kernel_rfl)) (by decide) (fun K hK => ?_)
      refine value_ (w1 := ?_) (v := ?_) (by rfl) rfl ?_ ?_
      rotate_left 2
      ·go_simp
       constructor
       ·rfl
       ·rfl
      refine hK.out _ _ ⟨(blk_cell (blk_alloc BK601.out _) 0).trans rfl, (blk_cell (blk_alloc BK599.out _) 0).trans rfl, (World.cell?_alloc_lt _ _ _ (World.block_lt_of_cell? _ _ ((by first | exact (HB.out.cell (World.block_lt_of_cell? w _ hw602_0)).trans hw602_0 | exact hw602_0)))).trans ((by first | exact (HB.out.cell (World.block_lt_of_cell? w _ hw602_0)).trans hw602_0 | exact hw602_0)), (World.cell?_alloc_lt _ _ _ (World.block_lt_of_cell? _ _ ((by first | exact (HB.out.cell (World.block_lt_of_cell? w _ hw602_1)).trans hw602_1 | exact hw602_1)))).trans ((by first | exact (HB.out.cell (World.block_lt_of_cell? w _ hw602_1)).trans hw602_1 | exact hw602_1)), (World.cell?_alloc_lt _ _ _ (World.block_lt_of_cell? _ _ ((by first | exact (HB.out.cell (World.block_lt_of_cell? w _ hw602_2)).trans hw602_2 | exact hw602_2)))).trans ((by first | exact (HB.out.cell (World.block_lt_of_cell? w _ hw602_2)).trans hw602_2 | exact hw602_2))⟩ (fun hHeld => ?_)
      clear hK K
      refine norm_ (a' := ?_) ?_ ?_
      rotate_left
      ·show Act.put _ (some 21) _ = _
       simp only [Act.put, List.setIfInBounds_toArray, List.set_cons_zero, List.set_cons_succ, i64_w, i32_w]
       rfl
      refine one_ (i := 9) (N := some 22) (bz 12 1023) rfl rfl (one_of HT_.out (by kernel_rfl)) (by decide) (fun K hK => ?_)
      refine Kd.R_append_step k62 (w0 := w) w.heap.size (by rfl) (.tmp 14) (.tmp 21) 45 62 (.agg #[(.string ⟨#[]⟩), (.string ⟨#[]⟩), (.slice none 0 0)]) 56 rfl Tryd.underlying45 info62 rfl (by decide) (by omega) u602000 x602000_1 (⟨t603, t604, t605⟩ : S62) [.string t603, .string t604, .slice Ao18 t605.length co18] (fun _ => True) (fun k_ => ((fun _ => True)) k_ ∧ some k_ ≠ (u602000 : Value).ownBlock) rfl rfl ?aP (fun _ hk => hk) ?aF ?aO ?aB ?aS ?aL ?_
      (case aP => exact k62_mkM _ _ _ (⟨t603, t604, t605⟩ : S62) (Kd.R_mono (Kd.R_apart' (HO607.out) (Kd.R_typed HO_602000.out) (by decide)) (fun k_ hk => ⟨trivial, hk.2⟩)))
      (case aB => exact (by repeat (first | (with_reducible first | exact HB.out | apply below_alloc | apply pw_below_drewN | apply below_drew1 | refine below_set ?_ GE599.out | refine below_set ?_ GE600.out | refine below_set ?_ GE601.out) | exact HB.out)))
      (case aF => exact (fun _ _ => trivial))
      (case aO => exact (by (with_reducible repeat (first | apply Kd.R_alloc | apply Kd.R_drewN | apply Kd.R_drew)); exact Kd.R_mono HO_602000.out (fun _ hk => trivial)))
      (case aS => exact (below_size (by repeat (first | (with_reducible first | exact HB.out | apply below_alloc | apply pw_below_drewN | apply below_drew1 | refine below_set ?_ GE599.out | refine below_set ?_ GE600.out | refine below_set ?_ GE601.out) | exact HB.out))))
      (case aL => have := LMc11.out; omega)
      intro v609 w17 ho hb hg hat
      rw [← Ny608.out] at ho
      have n0_ := Aside0.mk (blk_grown (g := gb599) (o := .cells #[.slice (some ad602) l0_0.length c0_0] 47 (0, 0)) (by (with_reducible repeat (first | refine blk_drewN ?_ _ | refine blk_drew ?_ | refine blk_alloc ?_ _)); exact BK599.out) hg (Kd.R_ne HO_602000.out BK599.out (by decide)))
      have n1_ := Aside0.mk (blk_grown (g := gb600) (o := .cells #[.slice none 0 0] 47 (0, 0)) (by (with_reducible repeat (first | refine blk_drewN ?_ _ | refine blk_drew ?_ | refine blk_alloc ?_ _)); exact BK600.out) hg (Kd.R_ne HO_602000.out BK600.out (by decide)))
      have n2_ := Aside0.mk (blk_grown (g := gb601) (o := .cells #[u602000] 47 (0, 0)) (by (with_reducible repeat (first | refine blk_drewN ?_ _ | refine blk_drew ?_ | refine blk_alloc ?_ _)); exact BK601.out) hg (Kd.R_ne HO_602000.out BK601.out (by decide)))
      have n3_ := Aside0.mk (hb)
      have n4_ := Aside0.mk (ho)
      clear BK599
      clear BK600
      clear BK601
      clear HB
      clear HO_602000
      clear HO607
      have BK599 := n0_
      have BK600 := n1_
      have BK601 := n2_
      have HB := n3_
      have HO610 := n4_
      clear n0_ n1_ n2_ n3_ n4_
      clear ho hb hg hat
      obtain ⟨Ao19, co19, eo19⟩ := Kd.R_slice HO610.out
      (first | subst eo19 | (injection eo19 with f1_ f2_ f3_; have f4_ := f1_.symm; have f5_ := f3_.symm; clear f1_ f2_ f3_; subst f4_; subst f5_))
      refine hK.out _ _ ⟨(blk_cell BK601.out 0).trans rfl, (blk_cell BK599.out 0).trans rfl, (by first | exact (HB.out.cell (World.block_lt_of_cell? w _ hw602_0)).trans hw602_0 | exact hw602_0), (by first | exact (HB.out.cell (World.block_lt_of_cell? w _ hw602_1)).trans hw602_1 | exact hw602_1), (by first | exact (HB.out.cell (World.block_lt_of_cell? w _ hw602_2)).trans hw602_2 | exact hw602_2)⟩ (fun hHeld => ?_)
      clear hK K
      refine norm_ (a' := ?_) ?_ ?_
      rotate_left
      ·show Act.put _ (some 22) _ = _
       simp only [Act.put, List.setIfInBounds_toArray, List.set_cons_zero, List.set_cons_succ, i64_w, i32_w]
       rfl
      refine pure_ (i := 10) (N := some 23) (v := ?_) (a' := ?_) (bz 12 2047) rfl rfl (any_of HT_.out (by kernel_rfl)) (fun _ _ _ h => h) (Or.inl ⟨by rfl, ?_⟩) ?_ ?_
      rotate_left
      ·intro w'
       go_simp
       with_reducible rfl
      rotate_left
      ·simp only [Act.put, List.setIfInBounds_toArray, List.set_cons_zero, List.set_cons_succ, i64_w, i32_w]
       rfl
      refine last_ (i := 11) (N := none) (bz 12 4095) rfl rfl (one_of HT_.out (by kernel_rfl)) (by decide) (fun K hK => ?_)
      have hs20 : w17.cell? ⟨gb601, 0, none⟩ = some (u602000) := (blk_cell BK601.out 0).trans rfl
      have hfs20 := blk_frozen BK601.out 0
      have hns20_0 := NB599_601.out
      have hns20_1 := NB600_601.out
      have hms20_0 := NB601_599.out
      have hms20_1 := NB601_600.out
      refine skip_ (w1 := ?_) (by rfl) rfl ?_ ?_
      rotate_left
      ·go_simp
       rfl
      refine hK.out _ _ ?_
      clear hK K
      refine done_ (done_of HT_.out (by kernel_rfl)) ?_
      try go_wp2
      go_roundg k1
      case measure => have := HK1.out; omega
      case rel => exact ⟨(wrap64 (x4_1 + 1)), (y608), (.slice Ao19 y608.length co19), (by first | rfl | (simp; done) | (simp [*]; done)), H', ⟨by have := HK1.out; omega⟩, ⟨by (with_reducible repeat (first | apply Kd.R_alloc | apply Kd.R_drewN | apply Kd.R_drew)); exact Kd.R_mono (Kd.R_far (p := ⟨gb601, 0, none⟩) (Kd.R_types HO610.out BK601.out (by decide)) (fun _ hk => hk.2) (.slice Ao19 y608.length co19)) (fun _ hk => trivial)⟩, ⟨by (with_reducible repeat (first | refine blk_drewN ?_ _ | refine blk_drew ?_ | refine blk_alloc ?_ _)); refine blk_far ?_ NB599_601.out _; (with_reducible repeat (first | refine blk_drewN ?_ _ | refine blk_drew ?_ | refine blk_alloc ?_ _)); exact BK599.out⟩, ⟨by (with_reducible repeat (first | refine blk_drewN ?_ _ | refine blk_drew ?_ | refine blk_alloc ?_ _)); refine blk_far ?_ NB600_601.out _; (with_reducible repeat (first | refine blk_drewN ?_ _ | refine blk_drew ?_ | refine blk_alloc ?_ _)); exact BK600.out⟩, ⟨by (with_reducible repeat (first | refine blk_drewN ?_ _ | refine blk_drew ?_ | refine blk_alloc ?_ _)); refine blk_put (cs := #[u602000]) ?_ 0 _ rfl; (with_reducible repeat (first | refine blk_drewN ?_ _ | refine blk_drew ?_ | refine blk_alloc ?_ _)); exact BK601.out⟩, ⟨by repeat (first | (with_reducible first | exact HB.out | apply below_alloc | apply pw_below_drewN | apply below_drew1 | refine below_set ?_ GE599.out | refine below_set ?_ GE600.out | refine below_set ?_ GE601.out) | exact HB.out)⟩⟩
     ·rw [if_neg c11] at H
      exact absurd H (by simp)
    ·rw [if_neg c9] at H
     exact absurd H (by simp)
   ·rw [if_neg c8] at H
    have c8b0 : decide (x4_1 < (l0_0.length : Int)) = false := decide_eq_false c8
    clear c8
    obtain rfl := Option.some.inj H
    have hnb21 := NB599_600.out
    have hnc21 := NB600_599.out
    have hnb22 := NB599_601.out
    have hnc22 := NB601_599.out
    have hcz23_0 : wr.cell? ⟨gb599, 0, none⟩ = some (.slice A0_0 l0_0.length c0_0) := (blk_cell BK599.out 0).trans rfl
    have hfz23_0 := blk_frozen BK599.out 0
    have hnb24 := NB601_600.out
    have hnc24 := NB600_601.out
    have hcz25_0 : wr.cell? ⟨gb601, 0, none⟩ = some (u602000) := (blk_cell BK601.out 0).trans rfl
    have hfz25_0 := blk_frozen BK601.out 0
    obtain ⟨Ao26, co26, eo26⟩ := Kd.R_slice HO_602000.out
    subst eo26
    have hcz27_0 : wr.cell? ⟨gb600, 0, none⟩ = some (.slice none 0 0) := (blk_cell BK600.out 0).trans rfl
    have hfz27_0 := blk_frozen BK600.out 0
    go_wp2
    refine bodyPost_ret (results_cell_row rfl _ _ gb600 47 #[.slice Ao26 x602000_1.length co26] (0, 0) _ rfl (by (with_reducible repeat (first | refine blk_drewN ?_ _ | refine blk_drew ?_ | refine blk_alloc ?_ _)); refine blk_put (cs := #[.slice none 0 0]) ?_ 0 _ rfl; (with_reducible repeat (first | refine blk_drewN ?_ _ | refine blk_drew ?_ | refine blk_alloc ?_ _)); exact BK600.out) Tryd.underlying47 rfl (by kernel_rfl)) rfl ?_
    exact ⟨_, by first | rfl | (simp [errW_none, errW_some] <;> rfl) | (simp [*, errW_none, errW_some] <;> rfl), by (with_reducible repeat (first | apply Kd.R_alloc | apply Kd.R_drewN | apply Kd.R_drew)); exact Kd.R_mono (Kd.R_far (p := ⟨gb600, 0, none⟩) (Kd.R_types HO_602000.out BK600.out (by decide)) (fun _ hk => hk.2) (.slice Ao26 x602000_1.length co26)) (fun _ hk => trivial), by repeat (first | (with_reducible first | exact HB.out | apply below_alloc | apply pw_below_drewN | apply below_drew1 | refine below_set ?_ GE599.out | refine below_set ?_ GE600.out | refine below_set ?_ GE601.out) | exact HB.out)⟩
end Go.Proofs.YtmcdnpooclelgaaDoor.PAll

namespace Go.Proofs.YtmcdnpooclelgaaDoor.PAll
open Go.RowKit Go.Proofs.YtmcdnpooclelgaaDoorW.PrintWords
theorem ev_l3Block (b : S62) (h : smallB b) : Ev (fun k => spec_l3Block.f k b.f0 b.f1 b.f2) (b.f0, b.f1, b.f2) := by
  unfold spec_l3Block.f
  exact Ev.bind (ev_l3Lines b.f2 h.2.2) (Ev.now _)
theorem specCopy_l0 (xs : List S62) (h : smallBs xs) : ∀ (d i : Nat) (acc : List S62), i + d = xs.length → acc.length ≤ i → Ev (fun k => spec_l3Copy.l0 k i xs acc) (acc ++ xs.drop i)
  | 0, i, acc, hd, ha => Ev.unf (fun _ => some acc) (fun k => by simp only [spec_l3Copy.l0]; rw [if_neg (by omega)]) (by rw [List.drop_eq_nil_of_le (by omega), List.append_nil]; exact Ev.now _)
  | d + 1, i, acc, hd, ha => by
    have hi : i < xs.length := by omega
    have hl := h.1
    have hs := h.2 _ (List.getElem_mem hi)
    have ih := specCopy_l0 xs h d (i + 1) (acc ++ [xs[i]]) (by omega) (by simp; omega)
    rw [List.drop_eq_getElem_cons hi, show acc ++ xs[i] :: xs.drop (i + 1) = (acc ++ [xs[i]]) ++ xs.drop (i + 1) by simp]
    refine Ev.unf (fun k => (spec_l3Block.f k xs[i].f0 xs[i].f1 xs[i].f2).bind fun t => spec_l3Copy.l0 k ((i + 1 : Nat) : Int) xs (acc ++ [⟨t.1, t.2.1, t.2.2⟩])) (fun k => ?_) (Ev.bind (ev_l3Block xs[i] hs) ih)
    simp only [spec_l3Copy.l0]
    rw [if_pos (by omega), if_pos (by omega), rdBlock hi, inc (by omega)]
    simp only [if_pos (show acc.length < 2513169434916 by omega)]
theorem ev_l3Copy (xs : List S62) (h : smallBs xs) : Ev (fun k => spec_l3Copy.f k xs) xs := specCopy_l0 xs h xs.length 0 [] (by omega) (by simp)
end Go.Proofs.YtmcdnpooclelgaaDoor.PAll

namespace Go.Proofs.YtmcdnpooclelgaaDoor.PAll
open Go.RowKit Go.Proofs.YtmcdnpooclelgaaDoorW.PrintWords
theorem trimP_small (bs : List S62) (h : smallBs bs) : smallBs (trimP bs) := by
  unfold trimP
  split
  · refine ⟨by rw [List.length_map]; exact h.1, fun b hb => ?_⟩
    obtain ⟨x, hx, rfl⟩ := List.mem_map.1 hb
    obtain ⟨h1, h2, h3⟩ := h.2 x hx
    exact ⟨h1, h2, Nat.le_trans (List.length_filter_le _ _) h3.1, fun l hl => h3.2 l (List.mem_filter.1 hl).1⟩
  · exact ⟨Nat.zero_le _, fun b hb => by cases hb⟩
theorem cnt_filter {α : Type} (cnt : α → Nat) (p : α → Bool) : ∀ xs : List α, cntAll cnt (xs.filter p) ≤ cntAll cnt xs
  | [] => Nat.le_refl _
  | x :: xs => by
    have ih := cnt_filter cnt p xs
    by_cases q : p x = true
    · rw [List.filter_cons_of_pos q]; simp only [cntAll]; omega
    · rw [List.filter_cons_of_neg q]; simp only [cntAll]; omega
theorem cnt_map {α : Type} (cnt : α → Nat) (f : α → α) (K B : Nat) : ∀ l : List α, (∀ x ∈ l, cnt (f x) ≤ K * cnt x + B) → cntAll cnt (l.map f) ≤ K * cntAll cnt l + l.length * B
  | [], _ => by simp [cntAll]
  | x :: l, h => by
    rw [List.map_cons, List.length_cons, Nat.add_mul]
    simp only [cntAll]
    have h1 := h x List.mem_cons_self
    have h2 := cnt_map cnt f K B l (fun y hy => h y (List.mem_cons_of_mem _ hy))
    rw [Nat.mul_add]
    omega
theorem trimP_cnt (bs : List S62) (h : bs.length ≤ 1048576) (hc : cntAll cntBlock bs ≤ 2097152) : cntAll cntBlock (trimP bs) ≤ 1073741824 := by
  unfold trimP
  split
  · have := cnt_map cntBlock trimB 1 0 bs (fun b _ => by
      have := cnt_filter cntLine (keepT b.f0) b.f2
      unfold cntBlock trimB
      simp only
      omega)
    omega
  · simp [cntAll]
end Go.Proofs.YtmcdnpooclelgaaDoor.PAll

namespace Go.Proofs.YtmcdnpooclelgaaDoor.PAll
open Go.RowKit Go.Proofs.YtmcdnpooclelgaaDoorW.PrintWords Go.Proofs.YtmcdnpooclelgaaDoorW.PrintLast Go.Proofs.YtmcdnpooclelgaaDoorW.PrintMore
def BlocksV (w : World) (v : Value) (xs : List S62) : Prop := ∃ R d, v = .slice R xs.length d ∧ xs.length ≤ d ∧ Kd.C k62 w R xs.length xs
theorem BlocksV.of_R {w : World} {b : Nat} {ok : Nat → Prop} {v : Value} {xs : List S62} (h : Kd.R k62 62 w b ok v xs) : BlocksV w v xs := by
 obtain ⟨A, c, rfl, hl, hC⟩ := Kd.R_reads h
 exact ⟨A, c, rfl, hl, hC⟩
theorem half_upd (bs : List S62) (f : S62 → S62) (j : Nat) (hj : j < bs.length) (y : S62) : ((bs.take j).map f ++ bs.drop j).length = bs.length ∧ ((bs.take j).map f ++ bs.drop j)[j]? = some bs[j] ∧ ((bs.take j).map f ++ bs.drop j).set j y = (bs.take j).map f ++ y :: bs.drop (j + 1) := by
 have hl : ((bs.take j).map f).length = j := by simp; omega
 refine ⟨by simp; omega, ?_, ?_⟩
 ·rw [List.getElem?_append_right (by omega), hl, Nat.sub_self, List.getElem?_drop, Nat.add_zero, List.getElem?_eq_getElem hj]
 ·rw [List.set_append_right _ _ (by omega), hl, Nat.sub_self, List.drop_eq_getElem_cons hj]
  rfl
theorem half_nxt (bs : List S62) (f : S62 → S62) (j : Nat) (hj : j < bs.length) : (bs.take j).map f ++ f bs[j] :: bs.drop (j + 1) = (bs.take (j + 1)).map f ++ bs.drop (j + 1) := by
 rw [List.take_add_one, List.getElem?_eq_getElem hj, List.map_append]
 simp
theorem R_some {α : Type} {d : Kd α} {e n c base : Nat} {ok : Nat → Prop} {w : World} {A : Option Addr} {xs : List α} (h : d.R e w base ok (.slice A n c) xs) (hn : 0 < n) : ∃ g, A = some ⟨g, 0, none⟩ ∧ base ≤ g ∧ g < w.heap.size ∧ ∃ cells, w.heap[g]? = some (.cells cells e (0, 0)) := by
 obtain ⟨inner, ho⟩ := Kd.R_own h
 rcases ownSl ho with ⟨hv, h0⟩ | ⟨g, c', hv⟩
 ·injection hv with _ hv _
  omega
 ·injection hv with h1 h2 h3
  subst h1
  exact ⟨g, rfl, own_base ho g rfl, own_lt ho g rfl, own_typed ho g rfl⟩
set_option linter.unusedSimpArgs false
set_option linter.unusedVariables false
end Go.Proofs.YtmcdnpooclelgaaDoor.PAll

namespace Go.Proofs.YtmcdnpooclelgaaDoor.PAll
open Go.RowKit Go.Proofs.YtmcdnpooclelgaaDoorW.PrintWords Go.Proofs.YtmcdnpooclelgaaDoorW.PrintLast Go.Proofs.YtmcdnpooclelgaaDoorW.PrintMore
attribute [local go_sem] max2_int min2_int max_two min_two max_three min_three max_four min_four   -- for this text's walks alone
set_option linter.unusedVariables false
set_option linter.unusedSimpArgs false
def spec_l3Words.f (k : Nat) (l0 : List ByteArray) (l1 : List ByteArray) : Option (Bool) := (spec_l3Less.f k l0 l1).bind fun t665 => (if t665 = true then (some false) else ((spec_l3Less.f k l1 l0).bind fun t666 => (some (!t666))))
set_option maxHeartbeats 8000000 in
set_option maxRecDepth 100000 in
theorem spec_l3Words.calls (k : Nat) (A0 : Option Addr) (c0 : Nat) (l0 : List ByteArray) (A1 : Option Addr) (c1 : Nat) (l1 : List ByteArray) (r : Bool) (w : World) (hr0 : Kd.C Kd.string w A0 l0.length l0) (hc0 : l0.length ≤ c0) (hr1 : Kd.C Kd.string w A1 l1.length l1) (hc1 : l1.length ≤ c1) (h : spec_l3Words.f k l0 l1 = some r) :
  Calls Tryd.prog 95 #[.slice A0 l0.length c0, .slice A1 l1.length c1] w fun e w' => e = .returned (.bool r) ∧ Drawn0 w w' := by
 have HR0 := Aside0.mk hr0
 have HC0 := Aside0.mk hc0
 clear hr0 hc0
 have HR1 := Aside0.mk hr1
 have HC1 := Aside0.mk hc1
 clear hr1 hc1
 have H : ((spec_l3Less.f k l0 l1).bind fun t665 => (if t665 = true then (some false) else ((spec_l3Less.f k l1 l0).bind fun t666 => (some (!t666))))) = some r := h
 clear h
 replace H := Option.bind_eq_some_iff.mp H
 obtain ⟨t665, A30, H⟩ := H
 replace H : (if t665 = true then (some false) else ((spec_l3Less.f k l1 l0).bind fun t666 => (some (!t666)))) = some r := H
 have A3 := Aside0.mk A30
 clear A30
 by_cases c4 : t665 = true
 ·subst c4
  have H1 : (some false) = some r := by rw [if_pos rfl] at H; exact H
  clear H
  have H := H1
  clear H1
  obtain rfl := Option.some.inj H
  go_enter Tryd.func95, Tryd.ntmps95
  go_wp2_with (first | ((with_reducible refine gate_callee (f := 126) rfl ?_); refine goesL_ (some 7) rfl rfl Tryd.func126 (by kernel_rfl) rfl #[.slice A0 l0.length c0, .slice A1 l1.length c1] rfl (by (try simp only [List.map_toArray, List.map_cons, List.map_nil]); first | done | rfl | (simp only [List.length_drop, List.length_take]; rfl)) ?_; (with_reducible refine (spec_l3Less.calls k _ _ l0 _ _ l1 true _ ?side1 ?side2 ?side3 ?side4 A3.out).mono ?_); (case side1 => repeat (first | exact HR0.out | (with_reducible refine Kd.C_alloc ?_ _) | (with_reducible refine Kd.C_drewN ?_ _) | (with_reducible refine Kd.C_drew ?_))); (case side2 => exact HC0.out); (case side3 => repeat (first | exact HR1.out | (with_reducible refine Kd.C_alloc ?_ _) | (with_reducible refine Kd.C_drewN ?_ _) | (with_reducible refine Kd.C_drew ?_))); (case side4 => exact HC1.out); rintro e w' ⟨rfl, ⟨nd, rfl⟩⟩; refine ⟨_, rfl, ?_⟩))
  go_ret
  exact ⟨by first | rfl | (simp; done) | (simp [*]; done), by repeat (first | exact Drawn0.refl _ | apply Drawn0.step)⟩
 ·replace c4 := Bool.eq_false_iff.mpr c4
  subst c4
  have H1 : ((spec_l3Less.f k l1 l0).bind fun t666 => (some (!t666))) = some r := by rw [if_neg (show ¬ (false = true) by decide)] at H; exact H
  clear H
  have H := H1
  clear H1
  replace H := Option.bind_eq_some_iff.mp H
  obtain ⟨t666, A50, H⟩ := H
  replace H : (some (!t666)) = some r := H
  have A5 := Aside0.mk A50
  clear A50
  obtain rfl := Option.some.inj H
  go_enter Tryd.func95, Tryd.ntmps95
  go_wp2_with (first | ((with_reducible refine gate_callee (f := 126) rfl ?_); refine goesL_ (some 7) rfl rfl Tryd.func126 (by kernel_rfl) rfl #[.slice A0 l0.length c0, .slice A1 l1.length c1] rfl (by (try simp only [List.map_toArray, List.map_cons, List.map_nil]); first | done | rfl | (simp only [List.length_drop, List.length_take]; rfl)) ?_; (with_reducible refine (spec_l3Less.calls k _ _ l0 _ _ l1 false _ ?side1 ?side2 ?side3 ?side4 A3.out).mono ?_); (case side1 => repeat (first | exact HR0.out | (with_reducible refine Kd.C_alloc ?_ _) | (with_reducible refine Kd.C_drewN ?_ _) | (with_reducible refine Kd.C_drew ?_))); (case side2 => exact HC0.out); (case side3 => repeat (first | exact HR1.out | (with_reducible refine Kd.C_alloc ?_ _) | (with_reducible refine Kd.C_drewN ?_ _) | (with_reducible refine Kd.C_drew ?_))); (case side4 => exact HC1.out); rintro e w' ⟨rfl, ⟨nd, rfl⟩⟩; refine ⟨_, rfl, ?_⟩) | (go_at_call 126; (with_reducible refine (spec_l3Less.calls k _ _ l1 _ _ l0 t666 _ ?side1 ?side2 ?side3 ?side4 A5.out).mono ?_); (case side1 => repeat (first | exact HR1.out | (with_reducible refine Kd.C_alloc ?_ _) | (with_reducible refine Kd.C_drewN ?_ _) | (with_reducible refine Kd.C_drew ?_))); (case side2 => exact HC1.out); (case side3 => repeat (first | exact HR0.out | (with_reducible refine Kd.C_alloc ?_ _) | (with_reducible refine Kd.C_drewN ?_ _) | (with_reducible refine Kd.C_drew ?_))); (case side4 => exact HC0.out); rintro e w' ⟨rfl, ⟨nd, rfl⟩⟩))
  go_ret
  exact ⟨by first | rfl | (simp; done) | (simp [*]; done), by repeat (first | exact Drawn0.refl _ | apply Drawn0.step)⟩
end Go.Proofs.YtmcdnpooclelgaaDoor.PAll

namespace Go.Proofs.YtmcdnpooclelgaaDoor.PAll
open Go.RowKit Go.Proofs.YtmcdnpooclelgaaDoorW.PrintWords
theorem bytes_tri : ∀ x y : List UInt8, x ≠ y → Op.bytesLess x y = true ∨ Op.bytesLess y x = true
  | [], [], h => absurd rfl h
  | [], _ :: _, _ => .inl (by simp [Op.bytesLess])
  | _ :: _, [], _ => .inr (by simp [Op.bytesLess])
  | a :: xs, b :: ys, h => by
    rw [Op.bytesLess, Op.bytesLess]
    by_cases h1 : a < b
    · exact .inl (by simp [h1])
    · by_cases h2 : b < a
      · exact .inr (by simp [h2])
      · have e : a = b := UInt8.le_antisymm (UInt8.not_lt.1 h2) (UInt8.not_lt.1 h1)
        subst e
        have := bytes_tri xs ys (fun e => h (by rw [e]))
        simpa [h1] using this
theorem lessW_self : ∀ a : List ByteArray, lessW a a = false
  | [] => by simp [lessW]
  | x :: xs => by rw [lessW, if_pos rfl]; exact lessW_self xs
theorem lessW_tri : ∀ a b : List ByteArray, a ≠ b → lessW a b = true ∨ lessW b a = true
  | [], [], h => absurd rfl h
  | [], _ :: _, _ => .inl (by simp [lessW])
  | _ :: _, [], _ => .inr (by simp [lessW])
  | x :: xs, y :: ys, h => by
    by_cases q : x = y
    · subst q
      rw [lessW, if_pos rfl, lessW, if_pos rfl]
      exact lessW_tri xs ys (fun e => h (by rw [e]))
    · rw [lessW, if_neg q, lessW, if_neg (Ne.symm q)]
      unfold ltB
      exact bytes_tri _ _ (fun e => q (toList_iff.1 e))
theorem ev_l3Words (a b : List ByteArray) (ha : a.length ≤ 1099511627776) (hb : b.length ≤ 1099511627776) : Ev (fun k => spec_l3Words.f k a b) (decide (a = b)) := by
  unfold spec_l3Words.f
  refine Ev.bind (ev_l3Less a b ha hb) ?_
  by_cases q : a = b
  · subst q
    rw [lessW_self, decide_eq_true rfl]
    simp only [Bool.false_eq_true, if_false]
    refine Ev.bind (ev_l3Less a a ha ha) ?_
    rw [lessW_self]
    exact Ev.now _
  · rw [decide_eq_false q]
    cases h1 : lessW a b with
    | true => simp only [if_true]; exact Ev.now _
    | false =>
      have h2 : lessW b a = true := by
        rcases lessW_tri a b q with h | h
        · rw [h1] at h; cases h
        · exact h
      simp only [Bool.false_eq_true, if_false]
      refine Ev.bind (ev_l3Less b a hb ha) ?_
      rw [h2]
      exact Ev.now _
theorem words_c (a b : List ByteArray) (ha : a.length ≤ 1099511627776) (hb : b.length ≤ 1099511627776) (A B : Option Addr) (c d : Nat) (w : World) (hA : Kd.C Kd.string w A a.length a) (hc : a.length ≤ c) (hB : Kd.C Kd.string w B b.length b) (hd : b.length ≤ d) :
    Calls Tryd.prog 95 #[.slice A a.length c, .slice B b.length d] w fun e w' => e = .returned (.bool (decide (a = b))) ∧ Below w.heap.size w w' := by
  obtain ⟨K, hk⟩ := (ev_l3Words a b ha hb).rounds
  refine (spec_l3Words.calls K A c a B d b _ w hA hc hB hd hk).mono ?_
  rintro e w' ⟨rfl, n, rfl⟩
  exact ⟨rfl, pw_below_drewN (Below.refl _ _) n⟩
end Go.Proofs.YtmcdnpooclelgaaDoor.PAll

namespace Go.Proofs.YtmcdnpooclelgaaDoor.PAll
open Go.RowKit Go.Proofs.YtmcdnpooclelgaaDoorW.PrintWords
set_option maxRecDepth 100000 in
set_option maxHeartbeats 2000000 in
theorem heldLines_any (A : Option Addr) (c : Nat) (xs : List S83) (k : Int) (w : World) (hr : Kd.C k83 w A (markAll mkLine cntLine xs k).length (markAll mkLine cntLine xs k)) (hk : 0 ≤ k) (hk2 : k + cntAll cntLine xs ≤ 1099511627776) :
    Calls Tryd.prog 38 #[.slice A xs.length c, .int .i64 k] w fun e w' => e = .returned (.int .i64 (k + (cntAll cntLine xs : Int))) ∧ Below w.heap.size w w' := by
  have HR := Aside0.mk hr
  clear hr
  have hlen : xs.length ≤ 1099511627776 := by have := len_cnt cntLine cntLine_pos xs; omega
  go_enter Tryd.func38, Tryd.ntmps38
  go_wp2
  go_loopw [1, 5] (fun kv i wr => ∃ j : Nat, kv = .int .i64 (k + (cntAll cntLine (xs.take j) : Int)) ∧ i = .int .i64 j ∧ j ≤ xs.length ∧ Below w.heap.size w wr) (fun _ i _ => xs.length - (intOf i).toNat)
  case atStart => exact ⟨0, by simp [cntAll], rfl, Nat.zero_le _, Below.refl _ _⟩
  case round =>
    obtain ⟨j, rfl, rfl, hj, hB⟩ := hrel
    by_cases hlt : j < xs.length
    · have hct := cntAll_take cntLine xs j hlt
      have hle := cntAll_le cntLine xs (j + 1)
      have hget := markAll_get mkLine cntLine xs j k hlt
      obtain ⟨ad, A3, c3, rfl, hx0, hx1, hl3, hC3⟩ := line_at (Kd.C_below HR.out hB) j _ hget
      clear hget
      generalize xs[j] = x at *
      obtain ⟨s0, d0⟩ := x
      have HCT := Aside0.mk hct
      have hkk0 : 0 ≤ k + (cntAll cntLine (xs.take j) : Int) := by omega
      have hkk1 : k + (cntAll cntLine (xs.take j) : Int) + 1 + d0.length ≤ 1099511627776 := by
        have : cntLine ⟨s0, d0⟩ = 1 + d0.length := rfl
        omega
      clear hct hle
      generalize hkk : k + (cntAll cntLine (xs.take j) : Int) = kk at *
      have HKK := Aside0.mk hkk
      clear hkk
      simp only [mkLine] at hx0 hx1 hl3 hC3
      rw [marks_len] at hx1
      have N3 := Aside0.mk hl3
      have HC3 := Aside0.mk hC3
      clear hl3 hC3
      obtain ⟨t, ht⟩ : ∃ t, t = mtP kk := ⟨_, rfl⟩
      have Ht := Aside0.mk ht
      rw [← ht] at hx0
      clear ht
      go_wp2_with fail
      go_region_held3 (fun w' => w'.cell? (ad.add (j * 2)) = some (.string t)) (first | go_keep | exact (pw_cell_below hbl (by simpa using hx0))) (first | (go_at_call 57; refine (markText_any _ _ (by omega)).mono ?_; rw [← Ht.out]; rintro e w1 ⟨rfl, hbl⟩))
      all_goals
        have hbl0 := Aside0.mk ((below_drew (Below.refl wr.heap.size wr)).trans (hbl.mono (Nat.le_refl _)))
        have hB1 : Below w.heap.size w w1 := hB.trans (hbl0.out.mono hB.size)
        have hy1 := pw_cell_below hbl0.out hx1
        clear hx0 hx1 hbl hB
        go_wp2_with fail
        refine (heldStr_any A3 c3 d0.length (kk + 1) _ (Kd.C_below HC3.out hbl0.out) N3.out (by omega) (by omega)).mono ?_
        rintro e w3 ⟨rfl, hb3⟩
        have hB3 : Below w.heap.size w w3 := hB1.trans (hb3.mono hB1.size)
        have hkn : Aside0 (kk + 1 + (d0.length : Int) = k + (cntAll cntLine (xs.take (j + 1)) : Int)) := ⟨by rw [HCT.out, ← HKK.out]; show _ = k + ((_ + (1 + d0.length) : Nat) : Int); omega⟩
        go_wp2
        go_roundw
        case rel => exact ⟨j + 1, by rw [hkn.out], by go_num, hlt, hB3⟩
        case measure => simp [intOf]; omega
    · obtain rfl : j = xs.length := by omega
      have he : xs.take xs.length = xs := List.take_length
      rw [he]
      go_wp2
      go_ret
      exact ⟨rfl, hB⟩
set_option maxRecDepth 100000 in
set_option maxHeartbeats 2000000 in
theorem markSheet_any (A : Option Addr) (c : Nat) (xs : List S62) (F : List Nat) (b : Nat) (k : Int) (w : World) (ho : blocksS.ow w b [.slice A xs.length c] xs F) (hk : 0 ≤ k) (hk2 : k + cntAll cntBlock xs ≤ 1099511627776) :
    Calls Tryd.prog 36 #[.agg #[.slice A xs.length c], .int .i64 k] w fun e w' => e = .returned (.int .i64 (k + (cntAll cntBlock xs : Int))) ∧ Upd F w w' := by
  have HO := Aside0.mk ho
  clear ho
  go_enter Tryd.func36, Tryd.ntmps36
  go_wp2_with fail
  have a1 : Below w.heap.size w (w.alloc (.cells #[.slice A xs.length c] 47)) := (Below.refl _ _).alloc (Nat.le_refl _) _
  refine (markBlocks_any _ xs F b k _ (blocksS.obelow HO.out a1) hk hk2).mono ?_
  rintro e w1 ⟨rfl, _, hu⟩
  have U1 := Aside0.mk (upd_in (Upd.of_below a1 F) hu (fun _ hx => hx))
  clear hu a1
  go_wp2
  go_ret
  exact ⟨rfl, U1.out⟩
end Go.Proofs.YtmcdnpooclelgaaDoor.PAll

namespace Go.Proofs.YtmcdnpooclelgaaDoor.PAll
open Go.RowKit Go.Proofs.YtmcdnpooclelgaaDoorW.PrintWords
set_option maxRecDepth 100000 in
set_option maxHeartbeats 2000000 in
theorem heldBlocks_any (A : Option Addr) (c : Nat) (xs : List S62) (k : Int) (w : World) (hr : Kd.C k62 w A (markAll mkBlock cntBlock xs k).length (markAll mkBlock cntBlock xs k)) (hk : 0 ≤ k) (hk2 : k + cntAll cntBlock xs ≤ 1099511627776) :
    Calls Tryd.prog 94 #[.slice A xs.length c, .int .i64 k] w fun e w' => e = .returned (.int .i64 (k + (cntAll cntBlock xs : Int))) ∧ Below w.heap.size w w' := by
  have HR := Aside0.mk hr
  clear hr
  have hlen : xs.length ≤ 1099511627776 := by have := len_cnt cntBlock cntBlock_pos xs; omega
  go_enter Tryd.func94, Tryd.ntmps94
  go_wp2
  go_loopw [1, 5] (fun kv i wr => ∃ j : Nat, kv = .int .i64 (k + (cntAll cntBlock (xs.take j) : Int)) ∧ i = .int .i64 j ∧ j ≤ xs.length ∧ Below w.heap.size w wr) (fun _ i _ => xs.length - (intOf i).toNat)
  case atStart => exact ⟨0, by simp [cntAll], rfl, Nat.zero_le _, Below.refl _ _⟩
  case round =>
    obtain ⟨j, rfl, rfl, hj, hB⟩ := hrel
    by_cases hlt : j < xs.length
    · have hct := cntAll_take cntBlock xs j hlt
      have hle := cntAll_le cntBlock xs (j + 1)
      have hget := markAll_get mkBlock cntBlock xs j k hlt
      obtain ⟨ad, A3, c3, rfl, hx0, hx1, hx2, hl3, hC3⟩ := block_at (Kd.C_below HR.out hB) j _ hget
      clear hget
      generalize xs[j] = x at *
      obtain ⟨s0, n0, d0⟩ := x
      have HCT := Aside0.mk hct
      have hkk0 : 0 ≤ k + (cntAll cntBlock (xs.take j) : Int) := by omega
      have hkk1 : k + (cntAll cntBlock (xs.take j) : Int) + 2 + cntAll cntLine d0 ≤ 1099511627776 := by
        have : cntBlock ⟨s0, n0, d0⟩ = 2 + cntAll cntLine d0 := rfl
        omega
      clear hct hle
      generalize hkk : k + (cntAll cntBlock (xs.take j) : Int) = kk at *
      have HKK := Aside0.mk hkk
      clear hkk
      simp only [mkBlock] at hx0 hx1 hx2 hl3 hC3
      rw [markAll_len] at hx2
      rw [show kk + 2 = kk + 1 + 1 by omega] at hC3
      have HH := Aside0.mk (fun w' hb => heldLines_any A3 c3 d0 (kk + 1 + 1) w' (Kd.C_below hC3 hb) (by omega) (by omega))
      clear hl3 hC3
      obtain ⟨t, ht⟩ : ∃ t, t = mtP kk := ⟨_, rfl⟩
      have Ht := Aside0.mk ht
      rw [← ht] at hx0
      obtain ⟨t2, ht2⟩ : ∃ t2, t2 = mtP (kk + 1) := ⟨_, rfl⟩
      have Ht2 := Aside0.mk ht2
      rw [← ht2] at hx1
      clear ht ht2
      have HCN : Aside0 (kk + 1 + 1 + (cntAll cntLine d0 : Int) = k + (cntAll cntBlock (xs.take (j + 1)) : Int)) := ⟨by rw [HCT.out, ← HKK.out]; show _ = k + ((_ + (2 + cntAll cntLine d0) : Nat) : Int); omega⟩
      have hm0 : 0 ≤ kk + 1 + 1 + (cntAll cntLine d0 : Int) := by omega
      have hkb : kk + 2 ≤ 1099511627776 := by omega
      have hw1 : wrap64 (kk + 1) = kk + 1 := w64 (by omega) (by omega)
      generalize kk + 1 + 1 + (cntAll cntLine d0 : Int) = mm at *
      clear HCT HKK
      go_wp2_with fail
      go_region_held3 (fun w' => w'.cell? (ad.add (j * 3)) = some (.string t)) (first | go_keep | exact (pw_cell_below hbl (by simpa using hx0))) (first | (go_at_call 57; refine (markText_any _ _ (by omega)).mono ?_; rw [← Ht.out]; rintro e w1 ⟨rfl, hbl⟩))
      all_goals
        have hbl0 := Aside0.mk ((below_drew (Below.refl wr.heap.size wr)).trans (hbl.mono (Nat.le_refl _)))
        have hB1 : Below w.heap.size w w1 := hB.trans (hbl0.out.mono hB.size)
        have hy1 := pw_cell_below hbl0.out hx1
        have hy2 := pw_cell_below hbl0.out hx2
        clear hx0 hx1 hx2 hbl hB
        go_wp2_with fail
        go_region_held3 (fun w' => w'.cell? ⟨(ad.add (j * 3)).block, (ad.add (j * 3)).off + 1, none⟩ = some (.string t2)) (first | go_keep | exact (pw_cell_below hbl2 (by simpa using hy1))) (first | (go_at_call 57; refine (markText_any _ _ (by omega)).mono ?_; (try rw [hw1]); rw [← Ht2.out]; rintro e w2 ⟨rfl, hbl2⟩))
        all_goals
          have hbl3 := Aside0.mk (hbl0.out.trans (((below_drew (Below.refl w1.heap.size w1)).trans (hbl2.mono (Nat.le_refl _))).mono hbl0.out.size))
          have hB2 : Below w.heap.size w w2 := hB1.trans (((below_drew (Below.refl w1.heap.size w1)).trans (hbl2.mono (Nat.le_refl _))).mono hB1.size)
          have hz2 := pw_cell_below ((below_drew (Below.refl w1.heap.size w1)).trans (hbl2.mono (Nat.le_refl _))) hy2
          clear hy1 hy2 hbl2 hB1 hbl0
          go_wp2_with fail
          refine (HH.out w2 hbl3.out).mono ?_
          rintro e w3 ⟨rfl, hb3⟩
          have hB3 : Below w.heap.size w w3 := hB2.trans (hb3.mono hB2.size)
          go_wp2
          go_roundw
          case rel => exact ⟨j + 1, by rw [HCN.out], by go_num, hlt, hB3⟩
          case measure => simp [intOf]; omega
    · obtain rfl : j = xs.length := by omega
      have he : xs.take xs.length = xs := List.take_length
      rw [he]
      go_wp2
      go_ret
      exact ⟨rfl, hB⟩
set_option maxRecDepth 100000 in
set_option maxHeartbeats 2000000 in
theorem heldSheet_any (A : Option Addr) (c : Nat) (xs : List S62) (k : Int) (w : World) (hr : Kd.C k62 w A (markAll mkBlock cntBlock xs k).length (markAll mkBlock cntBlock xs k)) (hk : 0 ≤ k) (hk2 : k + cntAll cntBlock xs ≤ 1099511627776) :
    Calls Tryd.prog 41 #[.agg #[.slice A xs.length c], .int .i64 k] w fun e w' => e = .returned (.int .i64 (k + (cntAll cntBlock xs : Int))) ∧ Below w.heap.size w w' := by
  have HH := Aside0.mk (fun w' hb => heldBlocks_any A c xs k w' (Kd.C_below hr hb) hk hk2)
  have hm0 : 0 ≤ k + (cntAll cntBlock xs : Int) := by omega
  clear hr
  generalize k + (cntAll cntBlock xs : Int) = mm at *
  go_enter Tryd.func41, Tryd.ntmps41
  go_wp2_with fail
  have a1 : Below w.heap.size w (w.alloc (.cells #[.slice A xs.length c] 47)) := (Below.refl _ _).alloc (Nat.le_refl _) _
  refine (HH.out _ a1).mono ?_
  rintro e w1 ⟨rfl, hb⟩
  have B1 := Aside0.mk (a1.trans (hb.mono a1.size))
  clear hb a1
  go_wp2
  go_ret
  exact ⟨rfl, B1.out⟩
end Go.Proofs.YtmcdnpooclelgaaDoor.PAll

namespace Go.Proofs.YtmcdnpooclelgaaDoor.PAll
open Go.RowKit Go.Proofs.YtmcdnpooclelgaaDoorW.PrintWords
theorem szL_tot (xs : List ByteArray) (left : Int) (h : 0 ≤ szL xs left) : szL xs left + (xs.length : Int) ≤ left ∧ ∀ s ∈ xs, (s.size : Int) ≤ left := by
  unfold szL at h ⊢
  split at h
  · omega
  · rename_i q
    rw [if_neg q]
    obtain ⟨h1, h2⟩ := szS_le _ _ h
    exact ⟨by omega, fun s hs => by have := h2 s hs; omega⟩
theorem szLine_t (l : S155) (left : Int) (hb : LB l) (h0 : 0 ≤ left) (h9 : left ≤ 1048576) :
    ∃ r : Int, Ev (fun k => laws_szSheetLine.f k l.f0 l.f1 left) r ∧ (0 ≤ r → r + (l.f1.length : Int) ≤ left ∧ LF l) := by
  have e : wrap64 (left - (l.f0.size : Int)) = left - l.f0.size := by have := hb.1; exact w64 (by omega) (by omega)
  unfold laws_szSheetLine.f
  simp only [e]
  by_cases q : left - (l.f0.size : Int) < 0
  · simp only [if_pos q]
    exact ⟨-1, Ev.now _, fun h => by omega⟩
  · simp only [if_neg q]
    have hr := ev_szStringS l.f1 (left - l.f0.size) hb.2.1 hb.2.2 (by omega) (by omega)
    have hle := szL_tot l.f1 (left - l.f0.size)
    generalize szL l.f1 (left - (l.f0.size : Int)) = r at *
    by_cases q2 : r < 0
    · exact ⟨-1, Ev.bind hr (by simp only [if_pos q2]; exact Ev.now _), fun h => by omega⟩
    · obtain ⟨a1, a3⟩ := hle (by omega)
      exact ⟨r, Ev.bind hr (by simp only [if_neg q2]; exact Ev.now _), fun _ => ⟨by omega, by omega, by omega, fun s hs => by have := a3 s hs; omega⟩⟩
def lenL (l : S155) : Nat := l.f1.length
def lenB (b : S128) : Nat := b.f2.length + cntAll lenL b.f2
theorem szLines_l0t (ls : List S155) (hb : LBs ls) : ∀ (d i : Nat) (left : Int), i + d = ls.length → 0 ≤ left → left ≤ 1048576 →
    ∃ r : Int, Ev (fun k => laws_szSheetLineS.l0 k ls left i) r ∧ (0 ≤ r → r + (cntAll lenL (ls.drop i) : Int) ≤ left ∧ ∀ l ∈ ls.drop i, LF l)
  | 0, i, left, h, h0, h9 => ⟨left, Ev.unf (fun _ => some left) (fun k => by simp only [laws_szSheetLineS.l0]; rw [if_neg (by omega)]) (Ev.now _), fun _ => by rw [List.drop_eq_nil_of_le (by omega)]; simp [cntAll]⟩
  | d + 1, i, left, h, h0, h9 => by
    have hi : i < ls.length := by omega
    have hn := hb.1
    obtain ⟨r, hr, hle⟩ := szLine_t ls[i] left (hb.2 _ (List.getElem_mem hi)) h0 h9
    have st : ∀ R : Int, Ev (fun k => if r < 0 then some (-1) else laws_szSheetLineS.l0 k ls r ((i + 1 : Nat) : Int)) R → Ev (fun k => laws_szSheetLineS.l0 k ls left i) R := fun R hR => by
      refine Ev.unf (fun k => (laws_szSheetLine.f k ls[i].f0 ls[i].f1 left).bind fun t => if t < 0 then some (-1) else laws_szSheetLineS.l0 k ls t ((i + 1 : Nat) : Int)) (fun k => ?_) (Ev.bind hr hR)
      simp only [laws_szSheetLineS.l0]
      rw [if_pos (by omega), if_pos (by omega), rdLl hi, inc (by omega)]
    by_cases q : r < 0
    · exact ⟨-1, st _ (by simp only [if_pos q]; exact Ev.now _), fun h => by omega⟩
    · obtain ⟨a1, a2⟩ := hle (by omega)
      obtain ⟨R, hR, hRle⟩ := szLines_l0t ls hb d (i + 1) r (by omega) (by omega) (by omega)
      refine ⟨R, st _ (by simp only [if_neg q]; exact hR), fun h => ?_⟩
      obtain ⟨b1, b2⟩ := hRle h
      rw [List.drop_eq_getElem_cons hi]
      refine ⟨by simp only [cntAll, lenL] at *; omega, fun l hl => ?_⟩
      rcases List.mem_cons.1 hl with rfl | hl
      · exact a2
      · exact b2 l hl
theorem szBlock_t (b : S128) (left : Int) (hb : KB b) (h0 : 0 ≤ left) (h9 : left ≤ 1048576) :
    ∃ r : Int, Ev (fun k => laws_szSheetBlock.f k b.f0 b.f1 b.f2 left) r ∧ (0 ≤ r → r + (lenB b : Int) ≤ left ∧ KF b) := by
  have e1 : wrap64 (left - (b.f0.size : Int)) = left - b.f0.size := by have := hb.1; exact w64 (by omega) (by omega)
  have lines : ∀ left : Int, 0 ≤ left → left ≤ 1048576 → ∃ r : Int, Ev (fun k => laws_szSheetLineS.f k b.f2 left) r ∧ (0 ≤ r → r + (lenB b : Int) ≤ left ∧ LFs b.f2) := fun left h0 h9 => by
    have hn := hb.2.2.1
    have e : wrap64 (left - (b.f2.length : Int)) = left - b.f2.length := w64 (by omega) (by omega)
    unfold laws_szSheetLineS.f
    simp only [e]
    by_cases q : left - (b.f2.length : Int) < 0
    · simp only [if_pos q]; exact ⟨-1, Ev.now _, fun h => by omega⟩
    · simp only [if_neg q]
      obtain ⟨R, hR, hle⟩ := szLines_l0t b.f2 hb.2.2 b.f2.length 0 (left - b.f2.length) (by omega) (by omega) (by omega)
      refine ⟨R, hR, fun h => ?_⟩
      obtain ⟨h1, h2⟩ := hle h
      rw [List.drop_zero] at h1 h2
      exact ⟨by unfold lenB; omega, by omega, h2⟩
  unfold laws_szSheetBlock.f
  simp only [e1]
  by_cases q : left - (b.f0.size : Int) < 0
  · simp only [if_pos q]
    exact ⟨-1, Ev.now _, fun h => by omega⟩
  · simp only [if_neg q]
    have e2 : wrap64 (left - (b.f0.size : Int) - (b.f1.size : Int)) = left - b.f0.size - b.f1.size := by have := hb.2.1; exact w64 (by omega) (by omega)
    simp only [e2]
    by_cases q1 : left - (b.f0.size : Int) - (b.f1.size : Int) < 0
    · simp only [if_pos q1]
      exact ⟨-1, Ev.now _, fun h => by omega⟩
    · simp only [if_neg q1]
      obtain ⟨r, hr, hle⟩ := lines (left - b.f0.size - b.f1.size) (by omega) (by omega)
      by_cases q2 : r < 0
      · exact ⟨-1, Ev.bind hr (by simp only [if_pos q2]; exact Ev.now _), fun h => by omega⟩
      · obtain ⟨a1, a2⟩ := hle (by omega)
        exact ⟨r, Ev.bind hr (by simp only [if_neg q2]; exact Ev.now _), fun _ => ⟨by omega, by omega, by omega, a2⟩⟩
theorem szBlocks_l0t (bs : List S128) (hb : KBs bs) : ∀ (d i : Nat) (left : Int), i + d = bs.length → 0 ≤ left → left ≤ 1048576 →
    ∃ r : Int, Ev (fun k => laws_szSheetBlockS.l0 k bs left i) r ∧ (0 ≤ r → r + (cntAll lenB (bs.drop i) : Int) ≤ left ∧ ∀ b ∈ bs.drop i, KF b)
  | 0, i, left, h, h0, h9 => ⟨left, Ev.unf (fun _ => some left) (fun k => by simp only [laws_szSheetBlockS.l0]; rw [if_neg (by omega)]) (Ev.now _), fun _ => by rw [List.drop_eq_nil_of_le (by omega)]; simp [cntAll]⟩
  | d + 1, i, left, h, h0, h9 => by
    have hi : i < bs.length := by omega
    have hn := hb.1
    obtain ⟨r, hr, hle⟩ := szBlock_t bs[i] left (hb.2 _ (List.getElem_mem hi)) h0 h9
    have st : ∀ R : Int, Ev (fun k => if r < 0 then some (-1) else laws_szSheetBlockS.l0 k bs r ((i + 1 : Nat) : Int)) R → Ev (fun k => laws_szSheetBlockS.l0 k bs left i) R := fun R hR => by
      refine Ev.unf (fun k => (laws_szSheetBlock.f k bs[i].f0 bs[i].f1 bs[i].f2 left).bind fun t => if t < 0 then some (-1) else laws_szSheetBlockS.l0 k bs t ((i + 1 : Nat) : Int)) (fun k => ?_) (Ev.bind hr hR)
      simp only [laws_szSheetBlockS.l0]
      rw [if_pos (by omega), if_pos (by omega), rdBl hi, inc (by omega)]
    by_cases q : r < 0
    · exact ⟨-1, st _ (by simp only [if_pos q]; exact Ev.now _), fun h => by omega⟩
    · obtain ⟨a1, a2⟩ := hle (by omega)
      obtain ⟨R, hR, hRle⟩ := szBlocks_l0t bs hb d (i + 1) r (by omega) (by omega) (by omega)
      refine ⟨R, st _ (by simp only [if_neg q]; exact hR), fun h => ?_⟩
      obtain ⟨b1, b2⟩ := hRle h
      rw [List.drop_eq_getElem_cons hi]
      refine ⟨by simp only [cntAll]; omega, fun l hl => ?_⟩
      rcases List.mem_cons.1 hl with rfl | hl
      · exact a2
      · exact b2 l hl
theorem cnt_cvL : ∀ ls : List S155, cntAll cntLine (ls.map cvL) = ls.length + cntAll lenL ls
  | [] => rfl
  | l :: ls => by
    simp only [List.map_cons, cntAll, cnt_cvL ls, cntLine, cvL, lenL, List.length_cons]
    omega
theorem cnt_cvB : ∀ bs : List S128, cntAll cntBlock (cvBs bs) = 2 * bs.length + cntAll lenB bs
  | [] => rfl
  | b :: bs => by
    have ih := cnt_cvB bs
    unfold cvBs at ih ⊢
    simp only [List.map_cons, cntAll, ih, cntBlock, cvB, cnt_cvL, lenB, List.length_cons]
    omega
theorem szSheet_t (bs : List S128) (left : Int) (hb : KBs bs) (h0 : 0 ≤ left) (h9 : left ≤ 1048576) : ∃ r : Int, Ev (fun k => laws_szSheet.f k bs left) r ∧ (0 ≤ r → KFs bs ∧ cntAll cntBlock (cvBs bs) ≤ 2097152) := by
  have hn := hb.1
  have e : wrap64 (left - (bs.length : Int)) = left - bs.length := w64 (by omega) (by omega)
  have inner : ∃ r : Int, Ev (fun k => laws_szSheetBlockS.f k bs left) r ∧ (0 ≤ r → KFs bs ∧ cntAll cntBlock (cvBs bs) ≤ 2097152) := by
    unfold laws_szSheetBlockS.f
    simp only [e]
    by_cases q : left - (bs.length : Int) < 0
    · simp only [if_pos q]; exact ⟨-1, Ev.now _, fun h => by omega⟩
    · simp only [if_neg q]
      obtain ⟨R, hR, hle⟩ := szBlocks_l0t bs hb bs.length 0 (left - bs.length) (by omega) (by omega) (by omega)
      refine ⟨R, hR, fun h => ?_⟩
      obtain ⟨h1, h2⟩ := hle h
      rw [List.drop_zero] at h1 h2
      exact ⟨⟨by omega, h2⟩, by rw [cnt_cvB]; omega⟩
  obtain ⟨r, hr, hle⟩ := inner
  unfold laws_szSheet.f
  by_cases q2 : r < 0
  · exact ⟨-1, Ev.bind hr (by simp only [if_pos q2]; exact Ev.now _), fun h => by omega⟩
  · exact ⟨r, Ev.bind hr (by simp only [if_neg q2]; exact Ev.now _), fun h => hle h⟩
end Go.Proofs.YtmcdnpooclelgaaDoor.PAll

namespace Go.Proofs.YtmcdnpooclelgaaDoor.PAll
open Go.RowKit Go.Proofs.YtmcdnpooclelgaaDoorW.PrintWords
set_option maxRecDepth 100000 in
set_option maxHeartbeats 2000000 in
theorem markSheet_own (A : Option Addr) (c : Nat) (xs : List S62) (F : List Nat) (b : Nat) (k : Int) (w : World) (ho : blocksS.ow w b [.slice A xs.length c] xs F) (hk : 0 ≤ k) (hk2 : k + cntAll cntBlock xs ≤ 1099511627776) :
    Calls Tryd.prog 36 #[.agg #[.slice A xs.length c], .int .i64 k] w fun e w' => e = .returned (.int .i64 (k + (cntAll cntBlock xs : Int))) ∧ blocksS.ow w' b [.slice A xs.length c] (markAll mkBlock cntBlock xs k) F ∧ Upd F w w' := by
  have HO := Aside0.mk ho
  clear ho
  go_enter Tryd.func36, Tryd.ntmps36
  go_wp2_with fail
  have a1 : Below w.heap.size w (w.alloc (.cells #[.slice A xs.length c] 47)) := (Below.refl _ _).alloc (Nat.le_refl _) _
  refine (markBlocks_any _ xs F b k _ (blocksS.obelow HO.out a1) hk hk2).mono ?_
  rintro e w1 ⟨rfl, hw, hu⟩
  have U1 := Aside0.mk (And.intro hw (upd_in (Upd.of_below a1 F) hu (fun _ hx => hx)))
  clear hu hw a1
  go_wp2
  go_ret
  exact ⟨rfl, U1.out⟩
theorem blocks_reads {w : World} {b : Nat} {A : Option Addr} {n c : Nat} {xs : List S62} {F : List Nat} (h : blocksS.ow w b [.slice A n c] xs F) : n = xs.length ∧ xs.length ≤ c ∧ Kd.C k62 w A xs.length xs := by
  obtain ⟨A', c', hv, hl, hC⟩ := blocksS.ord h
  injection hv with hv _
  injection hv with h1 h2 h3
  subst h1 h3
  exact ⟨h2, hl, hC⟩
theorem blk_upd {w w' : World} {F : List Nat} {g : Nat} {o : Obj} (h : w.heap[g]? = some o) (hu : Upd F w w') (hn : g ∉ F) : w'.heap[g]? = some o := (hu.block g (blk_lt h) hn).trans h
theorem blk_up {w w' : World} {N g : Nat} {o : Obj} (h : w.heap[g]? = some o) (hb : Below N w w') (hn : g < N) : w'.heap[g]? = some o := (hb.block g hn).trans h
end Go.Proofs.YtmcdnpooclelgaaDoor.PAll

namespace Go.Proofs.YtmcdnpooclelgaaDoor.PAll
open Go.RowKit Go.Proofs.YtmcdnpooclelgaaDoorW.PrintWords Go.Proofs.YtmcdnpooclelgaaDoorW.PrintLast Go.Proofs.YtmcdnpooclelgaaDoorW.PrintMore
theorem row_R {xs : List S83} {cs : List Value} {N base d : Nat} {A : Option Addr} {ok : Nat → Prop} {W w : World} (hP : Reps (Kd.M k83 W base ok) 2 xs cs) (ho : w.ownsRow N 83 2 (.slice A xs.length d) xs.length cs) (hB : Below W.heap.size W w) (hN : W.heap.size ≤ N) (hbase : base ≤ N) (hf : ∀ k, N ≤ k → ok k) : Kd.R k83 83 w base ok (.slice A xs.length d) xs := by
  have hge : ∀ k, (Value.slice A xs.length d).ownBlock = some k → N ≤ k := fun k hk => own_base ho k hk
  exact ⟨fun k hk => hf k (hge k hk), cs, own_weaken ho hbase, hP.imp_ fun p c' hp => Kd.M_mono _ (fun k hk => ⟨hk.1, fun e => by have := hge k e.symm; have := hk.2.2.1; omega⟩) (Kd.M_below (Kd.M_bound _ hp) hB)⟩
set_option linter.unusedSimpArgs false
set_option linter.unusedVariables false
set_option maxRecDepth 100000 in
set_option maxHeartbeats 8000000 in
theorem specTrim_any (A : Option Addr) (c : Nat) (bs : List S62) (w : World) (hr : Kd.C k62 w A bs.length bs) (hc : bs.length ≤ c) (hs : smallBs bs) :
    Calls Tryd.prog 42 #[.agg #[.slice A bs.length c]] w fun e w' => ∃ v, e = .returned (.agg #[v]) ∧ BlocksV w' v (trimP bs) ∧ Below w.heap.size w w' := by
  obtain ⟨K3, hk3⟩ := (ev_specValid bs (fits_small bs hs)).rounds
  obtain ⟨K4, hk4⟩ := (ev_l3Copy bs hs).rounds
  obtain ⟨K5, hk5⟩ := (ev_l3Copy (trimP bs) (trimP_small bs hs)).rounds
  have HV := Aside0.mk (fun w hC => spec_SheetValid.calls K3 A c bs (sheetOk bs) w hC hc hk3)
  have HC4 := Aside0.mk (fun w hC => spec_l3Copy.calls K4 A c bs bs w hC hc hk4)
  have HC5 := Aside0.mk (fun w B d hC hd => spec_l3Copy.calls K5 B d (trimP bs) (trimP bs) w hC hd hk5)
  have HR := Aside0.mk hr
  have HS := Aside0.mk hs
  have hn : bs.length ≤ 1048576 := hs.1
  clear hk3 hk4 hk5 hr hs
  have b2 := blk_new (w.alloc (.cells #[.slice A bs.length c] 47)) (.cells #[.slice none 0 0] 47)
  have s1 : (w.alloc (.cells #[.slice A bs.length c] 47)).heap.size = w.heap.size + 1 := by simp
  rw [s1] at b2
  have a2 : Below w.heap.size w ((w.alloc (.cells #[.slice A bs.length c] 47)).alloc (.cells #[.slice none 0 0] 47)) := ((Below.refl _ _).alloc (Nat.le_refl _) _).alloc (by simp) _
  cases hv : sheetOk bs with
  | false =>
    have hP : trimP bs = [] := by unfold trimP; rw [hv]; rfl
    rw [hP]
    rw [hv] at HV
    go_enter Tryd.func42, Tryd.ntmps42
    go_wp2_with fail
    refine (HV.out _ (Kd.C_below HR.out a2)).mono ?_
    rintro e w1 ⟨rfl, hb1⟩
    have k2 := Aside0.mk (blk_below b2 hb1)
    have B1 := Aside0.mk (a2.trans (hb1.mono a2.size))
    have z1 : w1.cell? ⟨w.heap.size + 1, 0, none⟩ = some (.slice none 0 0) := (blk_cell k2.out 0).trans rfl
    have f1 := blk_frozen k2.out 0
    clear hb1 a2 b2
    go_wp2
    refine bodyPost_ret (results_cell_row rfl _ _ (w.heap.size + 1) 47 #[.slice none 0 0] (0, 0) _ rfl ?blk Tryd.underlying47 rfl (by kernel_rfl)) rfl ⟨.slice none 0 0, rfl, ?ow, ?bel⟩
    case blk => exact blk_put k2.out 0 _ rfl
    case ow => exact ⟨none, 0, rfl, Nat.le_refl _, C_nil _ _ _⟩
    case bel => exact B1.out.setCell (p := ⟨w.heap.size + 1, 0, none⟩) (show w.heap.size ≤ w.heap.size + 1 by omega) _
  | true =>
    have hP : trimP bs = bs.map trimB := by unfold trimP; rw [if_pos hv]
    have HL := Aside0.mk (sheetOk_lines hv)
    rw [hP] at HC5
    rw [hP]
    rw [hv] at HV
    go_enter Tryd.func42, Tryd.ntmps42
    go_wp2_with fail
    refine (HV.out _ (Kd.C_below HR.out a2)).mono ?_
    rintro e w1 ⟨rfl, hb1⟩
    have k2 := Aside0.mk (blk_below b2 hb1)
    have B1 := Aside0.mk (a2.trans (hb1.mono a2.size))
    have x1 : w1.cell? ⟨w.heap.size, 0, none⟩ = some (.slice A bs.length c) := pw_cell_below hb1 (by go_simp)
    have n1 : w.heap.size + 2 ≤ w1.heap.size := by have := hb1.size; simp at this; omega
    clear hb1 a2 b2 HV
    go_wp2_with fail
    refine (HC4.out w1 (Kd.C_below HR.out B1.out)).mono ?_
    rintro e w2 ⟨v, rfl, ho, hb2⟩
    obtain ⟨D, d, rfl⟩ := Kd.R_slice ho
    have k3 := Aside0.mk (blk_alloc (blk_below k2.out hb2) (.cells #[.slice D bs.length d] 47))
    have b3 := Aside0.mk (blk_new w2 (.cells #[.slice D bs.length d] 47))
    have a3 : Below w2.heap.size w2 (w2.alloc (.cells #[.slice D bs.length d] 47)) := (Below.refl _ _).alloc (Nat.le_refl _) _
    have B3 := Aside0.mk ((B1.out.trans (hb2.mono B1.out.size)).trans (a3.mono (by have := B1.out.size; have := hb2.size; omega)))
    have HO := Aside0.mk (Kd.R_below ho a3)
    have n2 : w1.heap.size ≤ w2.heap.size := hb2.size
    clear hb2 x1 ho k2 B1 a3 HC4
    go_wp2
    go_loopw [4] (fun i wr => ∃ (j : Nat), i = .int .i64 j ∧ j ≤ bs.length ∧ Aside0 (Below w.heap.size w wr) ∧ Aside0 (wr.heap[w.heap.size + 1]? = some (.cells #[.slice none 0 0] 47 (0, 0))) ∧ Aside0 (wr.heap[w2.heap.size]? = some (.cells #[.slice D bs.length d] 47 (0, 0))) ∧ Aside0 (Kd.R k62 62 wr w1.heap.size (fun _ => True) (.slice D bs.length d) ((bs.take j).map trimB ++ bs.drop j))) (fun i _ => bs.length - (intOf i).toNat)
    case atStart => exact ⟨0, rfl, Nat.zero_le _, B3, k3, b3, by simpa using HO⟩
    case round =>
      obtain ⟨j, rfl, hj, HB, K1, K3, HF⟩ := hrel
      have x3 : wr.cell? ⟨w2.heap.size, 0, none⟩ = some (.slice D bs.length d) := (blk_cell K3.out 0).trans rfl
      by_cases hlt : j < bs.length
      · obtain ⟨q1, q2, q3⟩ := half_upd bs trimB j hlt bs[j]
        obtain ⟨g, rfl, hg1, hg2, gc, hgc⟩ := R_some HF.out (by omega)
        have hgk1 := blk_ne K1.out hgc (by decide)
        have hgk3 := blk_ne K3.out hgc (by decide)
        obtain ⟨cs, hcl, hM, hcc, hfz⟩ := Kd.R_elem HF.out bs[j] (j : Int) (by omega) (by omega)
        rw [Int.toNat_natCast, List.getD_eq_getElem?_getD, q2] at hM
        simp only [Option.getD_some] at hM
        rw [Int.toNat_natCast] at hcc hfz
        have hok := HL.out _ (List.getElem_mem hlt)
        have hsm := (HS.out.2 _ (List.getElem_mem hlt)).2.2
        have Q3 := Aside0.mk (fun y => (half_upd bs trimB j hlt y).2.2)
        have Q4 := Aside0.mk (half_nxt bs trimB j hlt)
        have hq1 := Aside0.mk q2
        clear q1 q2 q3
        generalize bs[j] = bb at *
        obtain ⟨f0, f1, f2⟩ := bb
        obtain ⟨lv, rfl, hlo⟩ := k62_openM hM
        simp only at *
        obtain ⟨L, cl, rfl⟩ := Kd.R_slice hlo
        have c0 : wr.cell? ⟨g, j * 3, none⟩ = some (.string f0) := hcc 0 _ rfl
        have c1 : wr.cell? ⟨g, j * 3 + 1, none⟩ = some (.string f1) := hcc 1 _ rfl
        have c2 : wr.cell? ⟨g, j * 3 + 2, none⟩ = some (.slice L f2.length cl) := hcc 2 _ rfl
        have i1 : (j : Int) < (bs.length : Int) := by omega
        have HOK := Aside0.mk hok
        have HSM := Aside0.mk hsm
        have HLO := Aside0.mk (Kd.R_mono hlo (fun k (hk : True ∧ k ≠ g) => hk.2))
        clear hok hsm hM hcc hfz hlo hcl hgc
        go_upto_region 8 with (fail)
        have a7 : Below wr.heap.size wr (wr.alloc (.cells #[.string f0, .string f1, .slice L f2.length cl] 62)) := (Below.refl _ _).alloc (Nat.le_refl _) _
        have K57 := Aside0.mk (blk_new wr (.cells #[.string f0, .string f1, .slice L f2.length cl] 62))
        have HB7 := Aside0.mk (HB.out.trans (a7.mono HB.out.size))
        have K17 := Aside0.mk (blk_below K1.out a7)
        have K37 := Aside0.mk (blk_below K3.out a7)
        have HF7 := Aside0.mk (Kd.R_below HF.out a7)
        have HL7 := Aside0.mk (Kd.R_below HLO.out a7)
        have hs7 : wr.heap.size < (wr.alloc (.cells #[.string f0, .string f1, .slice L f2.length cl] 62)).heap.size := by simp
        clear HLO HF HB K1 K3 x3 c0 c1 c2 a7
        generalize hN5 : wr.heap.size = N5 at *
        generalize wr.alloc (.cells #[.string f0, .string f1, .slice L f2.length cl] 62) = W7 at *
        clear hN5
        have O6 := Aside0.mk (own_empty (base := W7.heap.size) (size := 2) (blk_new W7 (.cells #[] 83)) (Nat.le_refl _))
        have hn2 : f2.length ≤ 1048576 := HSM.out.1
        have hbW : w1.heap.size ≤ W7.heap.size := by omega
        go_wp2
        go_loopw [6, 7] (fun v6 i wi => ∃ (k : Nat) (cs : List Value), i = .int .i64 k ∧ k ≤ f2.length ∧ Aside0 (Below W7.heap.size W7 wi) ∧ Aside0 (wi.ownsRow W7.heap.size 83 2 v6 ((f2.take k).filter (keepT f0)).length cs) ∧ Aside0 (Reps (Kd.M k83 W7 w1.heap.size (fun k => k ≠ g)) 2 ((f2.take k).filter (keepT f0)) cs)) (fun _ i _ => f2.length - (intOf i).toNat)
        case atStart => exact ⟨0, [], rfl, Nat.zero_le _, ⟨(Below.refl _ _).alloc (Nat.le_refl _) _⟩, O6, ⟨Reps.none _ _⟩⟩
        case round =>
          obtain ⟨k, cs, rfl, hk, HBi, HOi, HPi⟩ := hrel
          obtain ⟨A6, d6, rfl⟩ := own_shapeN HOi.out
          have z2 : wr.cell? ⟨N5, 2, none⟩ = some (.slice L f2.length cl) := (blk_cell (blk_up K57.out HBi.out hs7) 2).trans rfl
          by_cases hkl : k < f2.length
          · obtain ⟨gL, rfl, _, hgL, _⟩ := R_some HL7.out (by omega)
            obtain ⟨csl, _, hMl, hcl, _⟩ := Kd.R_elem HL7.out f2[k] (k : Int) (by omega) (by omega)
            rw [Int.toNat_natCast, List.getD_eq_getElem?_getD, List.getElem?_eq_getElem hkl] at hMl
            simp only [Option.getD_some] at hMl
            have hMl' := Kd.M_mono k83 (fun k (hk : k ≠ g ∧ k ≠ gL) => hk.1) hMl
            rw [Int.toNat_natCast] at hcl
            have hfit := (linesFrom_ok f0 f2 [] HOK.out.1).1 _ (List.getElem_mem hkl)
            have hsl := HSM.out.2 _ (List.getElem_mem hkl)
            have hnx : (f2.take (k + 1)).filter (keepT f0) = (f2.take k).filter (keepT f0) ++ (if keepT f0 f2[k] = true then [f2[k]] else []) := by
              rw [List.take_add_one, List.getElem?_eq_getElem hkl, List.filter_append]
              congr 1
              simp only [Option.toList_some]
              cases hp : keepT f0 f2[k] <;> simp [hp]
            generalize f2[k] = l at *
            obtain ⟨l0, l1⟩ := l
            obtain ⟨v1, rfl, hr1⟩ := k83_openM hMl
            simp only at *
            obtain ⟨A1, d1, rfl⟩ := Kd.R_slice hr1
            have hC1 := Kd.R_reads' hr1
            have e0 : wr.cell? ⟨gL, k * 2, none⟩ = some (.string l0) := pw_cell_below HBi.out (hcl 0 _ rfl)
            have e1 : wr.cell? ⟨gL, k * 2 + 1, none⟩ = some (.slice A1 l1.length d1) := pw_cell_below HBi.out (hcl 1 _ rfl)
            have z0 : wr.cell? ⟨N5, 0, none⟩ = some (.string f0) := (blk_cell (blk_up K57.out HBi.out hs7) 0).trans rfl
            obtain ⟨p1, p2, _⟩ := many_at f0 l0 l1 hfit
            obtain ⟨r, q, hlk, hrq, hrk, hpq⟩ := look_some f0 l0 p1
            clear hrk
            have hmm : manyL f0 l0 = r.f2 := by unfold manyL; rw [hlk]
            have hdd : defL f0 l0 = r.f3 := by unfold defL; rw [hlk]
            have hkeep : keepT f0 ⟨l0, l1⟩ = (r.f2 || !decide (r.f3 = l1)) := by
              unfold keepT
              simp only [hmm, hdd]
              rw [show decide (l1 = r.f3) = decide (r.f3 = l1) from decide_eq_decide.2 ⟨Eq.symm, Eq.symm⟩]
            have hq := (List.getElem?_eq_some_iff.1 hrq).1
            have hrd := rdRuleAt hrq
            have hrs := rules_small f0 r (List.mem_of_getElem? hrq)
            obtain ⟨r0, r1, r2, r3⟩ := r
            simp only at *
            have i5 : (q : Int) < ((rulesL f0).length : Int) := by omega
            have i6 : (0 : Int) ≤ (q : Int) := by omega
            have hrl := rulesL_len f0
            obtain ⟨K2, hk2⟩ := (ev_l2Rule f0 l0).rounds
            have LU := Aside0.mk (fun w => spec_l2Rule.calls K2 f0 l0 (placeL f0 l0) w hk2)
            rw [hpq] at LU
            have RU : Aside0 (∀ w, Calls Tryd.prog 13 #[.string f0] w (fun e w' => ∃ g7 d5 A6 c6 A8 c8, e = .returned (.slice (some ⟨g7, 0, none⟩) (rulesL f0).length d5) ∧ (w'.cell? ⟨g7, q * 4, none⟩ = some (.string r0) ∧ w'.cell? ⟨g7, q * 4 + 1, none⟩ = some (.slice A6 r1.length c6) ∧ w'.cell? ⟨g7, q * 4 + 2, none⟩ = some (.bool r2) ∧ w'.cell? ⟨g7, q * 4 + 3, none⟩ = some (.slice A8 r3.length c8)) ∧ Kd.R Kd.string 9 w' 0 (fun _ => True) (.slice A8 r3.length c8) r3 ∧ Below w.heap.size w w')) := ⟨fun w => by
              refine (specRules_any f0 w).mono ?_
              rintro e w5 ⟨v5, rfl, hR5, hb5⟩
              obtain ⟨A5, d5, rfl⟩ := Kd.R_slice hR5
              obtain ⟨g7, rfl, _⟩ := R_some hR5 (by omega)
              obtain ⟨cs7, _, hM7, hc7, _⟩ := Kd.R_elem hR5 ⟨r0, r1, r2, r3⟩ (q : Int) i6 i5
              rw [Int.toNat_natCast, List.getD_eq_getElem?_getD, hrq] at hM7
              simp only [Option.getD_some] at hM7
              rw [Int.toNat_natCast] at hc7
              obtain ⟨v1, v3, rfl, hr1, hr3⟩ := k36_openM hM7
              obtain ⟨A6, c6, rfl⟩ := Kd.R_slice hr1
              obtain ⟨A8, c8, rfl⟩ := Kd.R_slice hr3
              exact ⟨g7, d5, A6, c6, A8, c8, rfl, ⟨hc7 0 _ rfl, hc7 1 _ rfl, hc7 2 _ rfl, hc7 3 _ rfl⟩, Kd.R_lower (Kd.R_mono hr3 (fun _ _ => trivial)) (Nat.zero_le _), hb5⟩⟩
            have HM1 : Aside0 (Kd.M k83 W7 w1.heap.size (fun k => k ≠ g) ⟨l0, l1⟩ [.string l0, .slice A1 l1.length d1]) := ⟨hMl'⟩
            have HKEEP := Aside0.mk hkeep
            have HNX := Aside0.mk hnx
            have HC1 := Aside0.mk hC1
            have i1k : (k : Int) < (f2.length : Int) := by omega
            have U0 : wr.drew.cell? ⟨N5, 0, none⟩ = some (.string f0) := z0
            have U2 : wr.drew.cell? ⟨N5, 2, none⟩ = some (.slice (some ⟨gL, 0, none⟩) f2.length cl) := z2
            have U4 : wr.drew.cell? ⟨gL, k * 2, none⟩ = some (.string l0) := e0
            have U5 : wr.drew.cell? ⟨gL, k * 2 + 1, none⟩ = some (.slice A1 l1.length d1) := e1
            have HBu : Aside0 (Below W7.heap.size W7 wr.drew) := ⟨below_drew HBi.out⟩
            have HOu : Aside0 (wr.drew.ownsRow W7.heap.size 83 2 (.slice A6 ((f2.take k).filter (keepT f0)).length d6) ((f2.take k).filter (keepT f0)).length cs) := ⟨HOi.out⟩
            clear hMl hMl' hcl hfit hlk hrq hmm hdd hpq hq hrd hk2 hkeep hnx hC1 hr1 HBi HOi e0 e1 z0 p1 p2
            go_wp2_with fail
            refine start_ (n := 16) (S := (fun w' => w'.cell? ⟨N5, 0, none⟩ = some (.string f0) ∧ w'.cell? ⟨N5, 2, none⟩ = some (.slice (some ⟨gL, 0, none⟩) f2.length cl) ∧ w'.cell? ⟨gL, k * 2, none⟩ = some (.string l0))) (ds := [15]) #[false, false, false, false, false, false, false, false, false, false, false, false, false, false, false, false] (by kernel_rfl) rfl rfl ⟨U0, U2, U4⟩ (fun hHeld => ?_)
            generalize wr.drew = u at U0 U2 U4 U5 HBu HOu hHeld ⊢
            refine pure_ (i := 0) (N := some 35) (v := ?_) (a' := ?_) #[true, false, false, false, false, false, false, false, false, false, false, false, false, false, false, false] rfl rfl (by kernel_rfl) (fun _ _ _ h => h) (Or.inl ⟨by rfl, ?_⟩) ?_ ?_
            rotate_left
            · intro w'
              go_simp
              with_reducible rfl
            rotate_left
            · simp only [Act.put, List.setIfInBounds_toArray, List.set_cons_zero, List.set_cons_succ, i64_w, i32_w]
              rfl
            refine take_ (i := 1) (N := some 36) (v := ?_) (a' := ?_) #[true, true, false, false, false, false, false, false, false, false, false, false, false, false, false, false] rfl rfl (by kernel_rfl) (fun _ _ _ h => h) (Or.inl ⟨by rfl, ?_⟩) hHeld ?_ ?_
            rotate_left
            · rintro w' ⟨s0, s1, s2⟩
              go_simp
              with_reducible rfl
            rotate_left
            · simp only [Act.put, List.setIfInBounds_toArray, List.set_cons_zero, List.set_cons_succ, i64_w, i32_w]
              rfl
            refine pure_ (i := 3) (N := some 38) (v := ?_) (a' := ?_) #[true, true, false, true, false, false, false, false, false, false, false, false, false, false, false, false] rfl rfl (by kernel_rfl) (fun _ _ _ h => h) (Or.inl ⟨by rfl, ?_⟩) ?_ ?_
            rotate_left
            · intro w'
              go_simp
              with_reducible rfl
            rotate_left
            · simp only [Act.put, List.setIfInBounds_toArray, List.set_cons_zero, List.set_cons_succ, i64_w, i32_w]
              rfl
            refine take_ (i := 4) (N := some 39) (v := ?_) (a' := ?_) #[true, true, false, true, true, false, false, false, false, false, false, false, false, false, false, false] rfl rfl (by kernel_rfl) (fun _ _ _ h => h) (Or.inl ⟨by rfl, ?_⟩) hHeld ?_ ?_
            rotate_left
            · rintro w' ⟨s0, s1, s2⟩
              go_simp
              with_reducible rfl
            rotate_left
            · simp only [Act.put, List.setIfInBounds_toArray, List.set_cons_zero, List.set_cons_succ, i64_w, i32_w]
              rfl
            refine pure_ (i := 5) (N := some 40) (v := ?_) (a' := ?_) #[true, true, false, true, true, true, false, false, false, false, false, false, false, false, false, false] rfl rfl (by kernel_rfl) (fun _ _ _ h => h) (Or.inl ⟨by rfl, ?_⟩) ?_ ?_
            rotate_left
            · intro w'
              go_simp
              with_reducible rfl
            rotate_left
            · simp only [Act.put, List.setIfInBounds_toArray, List.set_cons_zero, List.set_cons_succ, i64_w, i32_w]
              rfl
            refine take_ (i := 6) (N := some 41) (v := ?_) (a' := ?_) #[true, true, false, true, true, true, true, false, false, false, false, false, false, false, false, false] rfl rfl (by kernel_rfl) (fun _ _ _ h => h) (Or.inl ⟨by rfl, ?_⟩) hHeld ?_ ?_
            rotate_left
            · rintro w' ⟨s0, s1, s2⟩
              go_simp
              with_reducible rfl
            rotate_left
            · simp only [Act.put, List.setIfInBounds_toArray, List.set_cons_zero, List.set_cons_succ, i64_w, i32_w]
              rfl
            refine pure_ (i := 7) (N := some 42) (v := ?_) (a' := ?_) #[true, true, false, true, true, true, true, true, false, false, false, false, false, false, false, false] rfl rfl (by kernel_rfl) (fun _ _ _ h => h) (Or.inl ⟨by rfl, ?_⟩) ?_ ?_
            rotate_left
            · intro w'
              go_simp
              with_reducible rfl
            rotate_left
            · simp only [Act.put, List.setIfInBounds_toArray, List.set_cons_zero, List.set_cons_succ, i64_w, i32_w]
              rfl
            refine pure_ (i := 8) (N := some 43) (v := ?_) (a' := ?_) #[true, true, false, true, true, true, true, true, true, false, false, false, false, false, false, false] rfl rfl (by kernel_rfl) (fun _ _ _ h => h) (Or.inl ⟨by rfl, ?_⟩) ?_ ?_
            rotate_left
            · intro w'
              go_simp
              with_reducible rfl
            rotate_left
            · simp only [Act.put, List.setIfInBounds_toArray, List.set_cons_zero, List.set_cons_succ, i64_w, i32_w]
              rfl
            refine pure_ (i := 9) (N := some 44) (v := ?_) (a' := ?_) #[true, true, false, true, true, true, true, true, true, true, false, false, false, false, false, false] rfl rfl (by kernel_rfl) (fun _ _ _ h => h) (Or.inl ⟨by rfl, ?_⟩) ?_ ?_
            rotate_left
            · intro w'
              go_simp
              with_reducible rfl
            rotate_left
            · simp only [Act.put, List.setIfInBounds_toArray, List.set_cons_zero, List.set_cons_succ, i64_w, i32_w]
              rfl
            refine take_ (i := 10) (N := some 45) (v := ?_) (a' := ?_) #[true, true, false, true, true, true, true, true, true, true, true, false, false, false, false, false] rfl rfl (by kernel_rfl) (fun _ _ _ h => h) (Or.inl ⟨by rfl, ?_⟩) hHeld ?_ ?_
            rotate_left
            · rintro w' ⟨s0, s1, s2⟩
              go_simp
              with_reducible rfl
            rotate_left
            · simp only [Act.put, List.setIfInBounds_toArray, List.set_cons_zero, List.set_cons_succ, i64_w, i32_w]
              rfl
            refine join_ (σ := Value × Value × Value × Value) 1 #[true, true, true, true, true, true, true, true, true, true, true, true, true, true, true, false] (fun s => [(37, s.1), (46, .int .i64 q), (47, s.2.1), (48, s.2.2.1), (8, s.2.2.2)]) (fun s w' => ∃ g7 d5 A6' c6 A8 c8 g8, s.1 = .slice (some ⟨g7, 0, none⟩) (rulesL f0).length d5 ∧ s.2.1 = .pointer (some ⟨g7, q * 4, none⟩) ∧ s.2.2.1 = .agg #[.string r0, .slice A6' r1.length c6, .bool r2, .slice A8 r3.length c8] ∧ s.2.2.2 = .pointer (some ⟨g8, 0, none⟩) ∧ w'.heap[g8]? = some (.cells #[.string ⟨#[]⟩, .slice none 0 0, .bool false, .slice none 0 0] 36 (0, 0)) ∧ u.heap.size ≤ g8 ∧ Kd.R Kd.string 9 w' 0 (fun _ => True) (.slice A8 r3.length c8) r3 ∧ Below u.heap.size u w') ?_ ?_
            rotate_left
            · intro hCont
              have H0 : Below u.heap.size u u := Below.refl _ _
              refine two_ (i := 2) (j := 14) (Ni := some 37) (Nj := some 8) #[true, true, true, true, true, true, true, true, true, true, true, false, false, false, false, false] #[true, true, false, true, true, true, true, true, true, true, true, false, false, false, true, false] rfl rfl rfl rfl (by kernel_rfl) (by decide) (by decide) (fun K hK => ?_) (fun K hK => ?_)
              · skip
                refine goes_ Tryd.func13 (by kernel_rfl) rfl #[.string f0] (by rfl) rfl rfl (by (try simp only [List.map_toArray, List.map_cons, List.map_nil]); first | done | rfl) ?_
                with_reducible refine (RU.out u).mono ?_
                rintro e x1 ⟨g7, d5, A6', c6, A8, c8, rfl, ⟨hy0, hy1, hy2, hy3⟩, hR8, hb1⟩
                refine ⟨_, rfl, ?_⟩
                have H1 := H0.trans (hb1.mono H0.size)
                refine hK.out _ _ ⟨pw_cell_below H1 U0, pw_cell_below H1 U2, pw_cell_below H1 U4⟩ (fun hHeld => ?_)
                clear hK K
                refine norm_ (a' := ?_) ?_ ?_
                rotate_left
                · show Act.put _ (some 37) _ = _
                  simp only [putAll, Act.put, List.setIfInBounds_toArray, List.set_cons_zero, List.set_cons_succ, i64_w, i32_w]
                  rfl
                refine two_ (i := 11) (j := 14) (Ni := some 46) (Nj := some 8) #[true, true, true, true, true, true, true, true, true, true, true, true, false, false, false, false] #[true, true, true, true, true, true, true, true, true, true, true, false, false, false, true, false] rfl rfl rfl rfl (by kernel_rfl) (by decide) (by decide) (fun K hK => ?_) (fun K hK => ?_)
                · skip
                  refine goes_ Tryd.func62 (by kernel_rfl) rfl #[.string f0, .string l0] (by rfl) rfl rfl (by (try simp only [List.map_toArray, List.map_cons, List.map_nil]); first | done | rfl) ?_
                  with_reducible refine (LU.out x1).mono ?_
                  rintro e x2 ⟨rfl, hb2⟩
                  refine ⟨_, rfl, ?_⟩
                  have H2 := H1.trans (hb2.mono H1.size)
                  replace hy0 := pw_cell_below hb2 hy0
                  replace hy1 := pw_cell_below hb2 hy1
                  replace hy2 := pw_cell_below hb2 hy2
                  replace hy3 := pw_cell_below hb2 hy3
                  replace hR8 := Kd.R_below hR8 hb2
                  refine hK.out _ _ ⟨pw_cell_below H2 U0, pw_cell_below H2 U2, pw_cell_below H2 U4⟩ (fun hHeld => ?_)
                  clear hK K
                  refine norm_ (a' := ?_) ?_ ?_
                  rotate_left
                  · show Act.put _ (some 46) _ = _
                    simp only [putAll, Act.put, List.setIfInBounds_toArray, List.set_cons_zero, List.set_cons_succ, i64_w, i32_w]
                    rfl
                  refine pure_ (i := 12) (N := some 47) (v := ?_) (a' := ?_) #[true, true, true, true, true, true, true, true, true, true, true, true, true, false, false, false] rfl rfl (by kernel_rfl) (fun _ _ _ h => h) (Or.inl ⟨by rfl, ?_⟩) ?_ ?_
                  rotate_left
                  · intro w'
                    go_simp
                    with_reducible rfl
                  rotate_left
                  · simp only [Act.put, List.setIfInBounds_toArray, List.set_cons_zero, List.set_cons_succ, i64_w, i32_w]
                    rfl
                  refine two_ (i := 13) (j := 14) (Ni := some 48) (Nj := some 8) #[true, true, true, true, true, true, true, true, true, true, true, true, true, true, false, false] #[true, true, true, true, true, true, true, true, true, true, true, true, true, false, true, false] rfl rfl rfl rfl (by kernel_rfl) (by decide) (by decide) (fun K hK => ?_) (fun K hK => ?_)
                  · skip
                    refine value_ (w1 := ?_) (v := ?_) (by rfl) rfl ?_ ?_
                    rotate_left 2
                    · go_simp
                      constructor
                      · rfl
                      · rfl
                    refine hK.out _ _ ⟨pw_cell_below H2 U0, pw_cell_below H2 U2, pw_cell_below H2 U4⟩ (fun hHeld => ?_)
                    clear hK K
                    refine norm_ (a' := ?_) ?_ ?_
                    rotate_left
                    · show Act.put _ (some 48) _ = _
                      simp only [putAll, Act.put, List.setIfInBounds_toArray, List.set_cons_zero, List.set_cons_succ, i64_w, i32_w]
                      rfl
                    refine one_ (i := 14) (N := some 8) #[true, true, true, true, true, true, true, true, true, true, true, true, true, true, true, false] rfl rfl (by kernel_rfl) (by decide) (fun K hK => ?_)
                    refine value_ (w1 := ?_) (v := ?_) (by rfl) rfl ?_ ?_
                    rotate_left 2
                    · go_simp
                      constructor
                      · rfl
                      · rfl
                    have hb4 : Below x2.heap.size x2 (x2.alloc (.cells #[.string ⟨#[]⟩, .slice none 0 0, .bool false, .slice none 0 0] 36)) := (Below.refl _ _).alloc (Nat.le_refl _) _
                    have H4 := H2.trans (hb4.mono H2.size)
                    have bz4 := blk_new x2 (.cells #[.string ⟨#[]⟩, .slice none 0 0, .bool false, .slice none 0 0] 36)
                    replace hy0 := pw_cell_below hb4 hy0
                    replace hy1 := pw_cell_below hb4 hy1
                    replace hy2 := pw_cell_below hb4 hy2
                    replace hy3 := pw_cell_below hb4 hy3
                    replace hR8 := Kd.R_below hR8 hb4
                    generalize x2.alloc (.cells #[.string ⟨#[]⟩, .slice none 0 0, .bool false, .slice none 0 0] 36) = x4 at *
                    refine hK.out _ _ ⟨pw_cell_below H4 U0, pw_cell_below H4 U2, pw_cell_below H4 U4⟩ (fun hHeld => ?_)
                    clear hK K
                    exact norm_ (by show Act.put _ (some 8) _ = _; first | (simp only [putAll, Act.put, List.setIfInBounds_toArray, List.set_cons_zero, List.set_cons_succ, i64_w, i32_w]; done) | (simp only [putAll, Act.put, List.setIfInBounds_toArray, List.set_cons_zero, List.set_cons_succ, i64_w, i32_w]; rfl)) (hCont (.slice (some ⟨g7, 0, none⟩) (rulesL f0).length d5, .pointer (some ⟨g7, q * 4, none⟩), .agg #[.string r0, .slice A6' r1.length c6, .bool r2, .slice A8 r3.length c8], .pointer (some ⟨x2.heap.size, 0, none⟩)) _ ⟨g7, d5, A6', c6, A8, c8, x2.heap.size, rfl, rfl, rfl, rfl, bz4, H2.size, hR8, H4⟩)
                  · skip
                    refine value_ (w1 := ?_) (v := ?_) (by rfl) rfl ?_ ?_
                    rotate_left 2
                    · go_simp
                      constructor
                      · rfl
                      · rfl
                    have hb5 : Below x2.heap.size x2 (x2.alloc (.cells #[.string ⟨#[]⟩, .slice none 0 0, .bool false, .slice none 0 0] 36)) := (Below.refl _ _).alloc (Nat.le_refl _) _
                    have H5 := H2.trans (hb5.mono H2.size)
                    have bz5 := blk_new x2 (.cells #[.string ⟨#[]⟩, .slice none 0 0, .bool false, .slice none 0 0] 36)
                    replace hy0 := pw_cell_below hb5 hy0
                    replace hy1 := pw_cell_below hb5 hy1
                    replace hy2 := pw_cell_below hb5 hy2
                    replace hy3 := pw_cell_below hb5 hy3
                    replace hR8 := Kd.R_below hR8 hb5
                    generalize x2.alloc (.cells #[.string ⟨#[]⟩, .slice none 0 0, .bool false, .slice none 0 0] 36) = x5 at *
                    refine hK.out _ _ ⟨pw_cell_below H5 U0, pw_cell_below H5 U2, pw_cell_below H5 U4⟩ (fun hHeld => ?_)
                    clear hK K
                    refine norm_ (a' := ?_) ?_ ?_
                    rotate_left
                    · show Act.put _ (some 8) _ = _
                      simp only [putAll, Act.put, List.setIfInBounds_toArray, List.set_cons_zero, List.set_cons_succ, i64_w, i32_w]
                      rfl
                    refine one_ (i := 13) (N := some 48) #[true, true, true, true, true, true, true, true, true, true, true, true, true, true, true, false] rfl rfl (by kernel_rfl) (by decide) (fun K hK => ?_)
                    refine value_ (w1 := ?_) (v := ?_) (by rfl) rfl ?_ ?_
                    rotate_left 2
                    · go_simp
                      constructor
                      · rfl
                      · rfl
                    refine hK.out _ _ ⟨pw_cell_below H5 U0, pw_cell_below H5 U2, pw_cell_below H5 U4⟩ (fun hHeld => ?_)
                    clear hK K
                    exact norm_ (by show Act.put _ (some 48) _ = _; first | (simp only [putAll, Act.put, List.setIfInBounds_toArray, List.set_cons_zero, List.set_cons_succ, i64_w, i32_w]; done) | (simp only [putAll, Act.put, List.setIfInBounds_toArray, List.set_cons_zero, List.set_cons_succ, i64_w, i32_w]; rfl)) (hCont (.slice (some ⟨g7, 0, none⟩) (rulesL f0).length d5, .pointer (some ⟨g7, q * 4, none⟩), .agg #[.string r0, .slice A6' r1.length c6, .bool r2, .slice A8 r3.length c8], .pointer (some ⟨x2.heap.size, 0, none⟩)) _ ⟨g7, d5, A6', c6, A8, c8, x2.heap.size, rfl, rfl, rfl, rfl, bz5, H2.size, hR8, H5⟩)
                · skip
                  refine value_ (w1 := ?_) (v := ?_) (by rfl) rfl ?_ ?_
                  rotate_left 2
                  · go_simp
                    constructor
                    · rfl
                    · rfl
                  have hb7 : Below x1.heap.size x1 (x1.alloc (.cells #[.string ⟨#[]⟩, .slice none 0 0, .bool false, .slice none 0 0] 36)) := (Below.refl _ _).alloc (Nat.le_refl _) _
                  have H7 := H1.trans (hb7.mono H1.size)
                  have bz7 := blk_new x1 (.cells #[.string ⟨#[]⟩, .slice none 0 0, .bool false, .slice none 0 0] 36)
                  replace hy0 := pw_cell_below hb7 hy0
                  replace hy1 := pw_cell_below hb7 hy1
                  replace hy2 := pw_cell_below hb7 hy2
                  replace hy3 := pw_cell_below hb7 hy3
                  replace hR8 := Kd.R_below hR8 hb7
                  generalize x1.alloc (.cells #[.string ⟨#[]⟩, .slice none 0 0, .bool false, .slice none 0 0] 36) = x7 at *
                  refine hK.out _ _ ⟨pw_cell_below H7 U0, pw_cell_below H7 U2, pw_cell_below H7 U4⟩ (fun hHeld => ?_)
                  clear hK K
                  refine norm_ (a' := ?_) ?_ ?_
                  rotate_left
                  · show Act.put _ (some 8) _ = _
                    simp only [putAll, Act.put, List.setIfInBounds_toArray, List.set_cons_zero, List.set_cons_succ, i64_w, i32_w]
                    rfl
                  refine one_ (i := 11) (N := some 46) #[true, true, true, true, true, true, true, true, true, true, true, true, false, false, true, false] rfl rfl (by kernel_rfl) (by decide) (fun K hK => ?_)
                  refine goes_ Tryd.func62 (by kernel_rfl) rfl #[.string f0, .string l0] (by rfl) rfl rfl (by (try simp only [List.map_toArray, List.map_cons, List.map_nil]); first | done | rfl) ?_
                  with_reducible refine (LU.out x7).mono ?_
                  rintro e x8 ⟨rfl, hb8⟩
                  refine ⟨_, rfl, ?_⟩
                  have H8 := H7.trans (hb8.mono H7.size)
                  replace hy0 := pw_cell_below hb8 hy0
                  replace hy1 := pw_cell_below hb8 hy1
                  replace hy2 := pw_cell_below hb8 hy2
                  replace hy3 := pw_cell_below hb8 hy3
                  replace hR8 := Kd.R_below hR8 hb8
                  have bz8 := blk_below bz7 hb8
                  refine hK.out _ _ ⟨pw_cell_below H8 U0, pw_cell_below H8 U2, pw_cell_below H8 U4⟩ (fun hHeld => ?_)
                  clear hK K
                  refine norm_ (a' := ?_) ?_ ?_
                  rotate_left
                  · show Act.put _ (some 46) _ = _
                    simp only [putAll, Act.put, List.setIfInBounds_toArray, List.set_cons_zero, List.set_cons_succ, i64_w, i32_w]
                    rfl
                  refine pure_ (i := 12) (N := some 47) (v := ?_) (a' := ?_) #[true, true, true, true, true, true, true, true, true, true, true, true, true, false, true, false] rfl rfl (by kernel_rfl) (fun _ _ _ h => h) (Or.inl ⟨by rfl, ?_⟩) ?_ ?_
                  rotate_left
                  · intro w'
                    go_simp
                    with_reducible rfl
                  rotate_left
                  · simp only [Act.put, List.setIfInBounds_toArray, List.set_cons_zero, List.set_cons_succ, i64_w, i32_w]
                    rfl
                  refine one_ (i := 13) (N := some 48) #[true, true, true, true, true, true, true, true, true, true, true, true, true, true, true, false] rfl rfl (by kernel_rfl) (by decide) (fun K hK => ?_)
                  refine value_ (w1 := ?_) (v := ?_) (by rfl) rfl ?_ ?_
                  rotate_left 2
                  · go_simp
                    constructor
                    · rfl
                    · rfl
                  refine hK.out _ _ ⟨pw_cell_below H8 U0, pw_cell_below H8 U2, pw_cell_below H8 U4⟩ (fun hHeld => ?_)
                  clear hK K
                  exact norm_ (by show Act.put _ (some 48) _ = _; first | (simp only [putAll, Act.put, List.setIfInBounds_toArray, List.set_cons_zero, List.set_cons_succ, i64_w, i32_w]; done) | (simp only [putAll, Act.put, List.setIfInBounds_toArray, List.set_cons_zero, List.set_cons_succ, i64_w, i32_w]; rfl)) (hCont (.slice (some ⟨g7, 0, none⟩) (rulesL f0).length d5, .pointer (some ⟨g7, q * 4, none⟩), .agg #[.string r0, .slice A6' r1.length c6, .bool r2, .slice A8 r3.length c8], .pointer (some ⟨x1.heap.size, 0, none⟩)) _ ⟨g7, d5, A6', c6, A8, c8, x1.heap.size, rfl, rfl, rfl, rfl, bz8, H1.size, hR8, H8⟩)
              · skip
                refine value_ (w1 := ?_) (v := ?_) (by rfl) rfl ?_ ?_
                rotate_left 2
                · go_simp
                  constructor
                  · rfl
                  · rfl
                have hb10 : Below u.heap.size u (u.alloc (.cells #[.string ⟨#[]⟩, .slice none 0 0, .bool false, .slice none 0 0] 36)) := (Below.refl _ _).alloc (Nat.le_refl _) _
                have H10 := H0.trans (hb10.mono H0.size)
                have bz10 := blk_new u (.cells #[.string ⟨#[]⟩, .slice none 0 0, .bool false, .slice none 0 0] 36)
                generalize u.alloc (.cells #[.string ⟨#[]⟩, .slice none 0 0, .bool false, .slice none 0 0] 36) = x10 at *
                refine hK.out _ _ ⟨pw_cell_below H10 U0, pw_cell_below H10 U2, pw_cell_below H10 U4⟩ (fun hHeld => ?_)
                clear hK K
                refine norm_ (a' := ?_) ?_ ?_
                rotate_left
                · show Act.put _ (some 8) _ = _
                  simp only [putAll, Act.put, List.setIfInBounds_toArray, List.set_cons_zero, List.set_cons_succ, i64_w, i32_w]
                  rfl
                refine one_ (i := 2) (N := some 37) #[true, true, true, true, true, true, true, true, true, true, true, false, false, false, true, false] rfl rfl (by kernel_rfl) (by decide) (fun K hK => ?_)
                refine goes_ Tryd.func13 (by kernel_rfl) rfl #[.string f0] (by rfl) rfl rfl (by (try simp only [List.map_toArray, List.map_cons, List.map_nil]); first | done | rfl) ?_
                with_reducible refine (RU.out x10).mono ?_
                rintro e x11 ⟨g7, d5, A6', c6, A8, c8, rfl, ⟨hy0, hy1, hy2, hy3⟩, hR8, hb11⟩
                refine ⟨_, rfl, ?_⟩
                have H11 := H10.trans (hb11.mono H10.size)
                have bz11 := blk_below bz10 hb11
                refine hK.out _ _ ⟨pw_cell_below H11 U0, pw_cell_below H11 U2, pw_cell_below H11 U4⟩ (fun hHeld => ?_)
                clear hK K
                refine norm_ (a' := ?_) ?_ ?_
                rotate_left
                · show Act.put _ (some 37) _ = _
                  simp only [putAll, Act.put, List.setIfInBounds_toArray, List.set_cons_zero, List.set_cons_succ, i64_w, i32_w]
                  rfl
                refine one_ (i := 11) (N := some 46) #[true, true, true, true, true, true, true, true, true, true, true, true, false, false, true, false] rfl rfl (by kernel_rfl) (by decide) (fun K hK => ?_)
                refine goes_ Tryd.func62 (by kernel_rfl) rfl #[.string f0, .string l0] (by rfl) rfl rfl (by (try simp only [List.map_toArray, List.map_cons, List.map_nil]); first | done | rfl) ?_
                with_reducible refine (LU.out x11).mono ?_
                rintro e x12 ⟨rfl, hb12⟩
                refine ⟨_, rfl, ?_⟩
                have H12 := H11.trans (hb12.mono H11.size)
                replace hy0 := pw_cell_below hb12 hy0
                replace hy1 := pw_cell_below hb12 hy1
                replace hy2 := pw_cell_below hb12 hy2
                replace hy3 := pw_cell_below hb12 hy3
                replace hR8 := Kd.R_below hR8 hb12
                have bz12 := blk_below bz11 hb12
                refine hK.out _ _ ⟨pw_cell_below H12 U0, pw_cell_below H12 U2, pw_cell_below H12 U4⟩ (fun hHeld => ?_)
                clear hK K
                refine norm_ (a' := ?_) ?_ ?_
                rotate_left
                · show Act.put _ (some 46) _ = _
                  simp only [putAll, Act.put, List.setIfInBounds_toArray, List.set_cons_zero, List.set_cons_succ, i64_w, i32_w]
                  rfl
                refine pure_ (i := 12) (N := some 47) (v := ?_) (a' := ?_) #[true, true, true, true, true, true, true, true, true, true, true, true, true, false, true, false] rfl rfl (by kernel_rfl) (fun _ _ _ h => h) (Or.inl ⟨by rfl, ?_⟩) ?_ ?_
                rotate_left
                · intro w'
                  go_simp
                  with_reducible rfl
                rotate_left
                · simp only [Act.put, List.setIfInBounds_toArray, List.set_cons_zero, List.set_cons_succ, i64_w, i32_w]
                  rfl
                refine one_ (i := 13) (N := some 48) #[true, true, true, true, true, true, true, true, true, true, true, true, true, true, true, false] rfl rfl (by kernel_rfl) (by decide) (fun K hK => ?_)
                refine value_ (w1 := ?_) (v := ?_) (by rfl) rfl ?_ ?_
                rotate_left 2
                · go_simp
                  constructor
                  · rfl
                  · rfl
                refine hK.out _ _ ⟨pw_cell_below H12 U0, pw_cell_below H12 U2, pw_cell_below H12 U4⟩ (fun hHeld => ?_)
                clear hK K
                exact norm_ (by show Act.put _ (some 48) _ = _; first | (simp only [putAll, Act.put, List.setIfInBounds_toArray, List.set_cons_zero, List.set_cons_succ, i64_w, i32_w]; done) | (simp only [putAll, Act.put, List.setIfInBounds_toArray, List.set_cons_zero, List.set_cons_succ, i64_w, i32_w]; rfl)) (hCont (.slice (some ⟨g7, 0, none⟩) (rulesL f0).length d5, .pointer (some ⟨g7, q * 4, none⟩), .agg #[.string r0, .slice A6' r1.length c6, .bool r2, .slice A8 r3.length c8], .pointer (some ⟨u.heap.size, 0, none⟩)) _ ⟨g7, d5, A6', c6, A8, c8, u.heap.size, rfl, rfl, rfl, rfl, bz12, H0.size, hR8, H12⟩)
            rintro ⟨v37, v47, v48, v8⟩ w8 ⟨g7, d5, A6', c6, A8, c8, g8, e1', e2', e3', e4', bz, hg8, hR8, hb8⟩
            simp only at e1' e2' e3' e4'
            subst e1' e2' e3' e4'
            refine norm_ (a' := ?_) ?_ ?_
            rotate_left
            · show putAll _ _ = _
              simp only [putAll, Act.put, List.setIfInBounds_toArray, List.set_cons_zero, List.set_cons_succ, i64_w, i32_w]
              rfl
            refine last_ (i := 15) (N := none) #[true, true, true, true, true, true, true, true, true, true, true, true, true, true, true, true] rfl rfl (by kernel_rfl) (by decide) (fun K hK => ?_)
            have zc0 : w8.cell? ⟨g8, 0, none⟩ = some (.string ⟨#[]⟩) := (blk_cell bz 0).trans rfl
            have zc1 : w8.cell? ⟨g8, 1, none⟩ = some (.slice none 0 0) := (blk_cell bz 1).trans rfl
            have zc2 : w8.cell? ⟨g8, 2, none⟩ = some (.bool false) := (blk_cell bz 2).trans rfl
            have zc3 : w8.cell? ⟨g8, 3, none⟩ = some (.slice none 0 0) := (blk_cell bz 3).trans rfl
            have zf0 := blk_frozen bz 0
            have zf1 := blk_frozen bz 1
            have zf2 := blk_frozen bz 2
            have zf3 := blk_frozen bz 3
            refine skip_ (w1 := ?_) (by rfl) rfl ?_ ?_
            rotate_left
            · go_simp
              rfl
            refine hK.out _ _ ?_
            clear hK K
            refine done_ (by kernel_rfl) ?_
            have b1 := blk_put bz 0 (.string r0) rfl
            have b2 := blk_put b1 1 (.slice A6' r1.length c6) rfl
            have b3 := blk_put b2 2 (.bool r2) rfl
            have K8 := Aside0.mk (blk_put b3 3 (.slice A8 r3.length c8) rfl)
            have HR8 := Aside0.mk (Kd.R_reads' (Kd.R_set (Kd.R_set (Kd.R_set (Kd.R_set hR8 bz (by decide) 0 (.string r0)) b1 (by decide) 1 (.slice A6' r1.length c6)) b2 (by decide) 2 (.bool r2)) b3 (by decide) 3 (.slice A8 r3.length c8)))
            have B10 := Aside0.mk ((((hb8.setCell (p := ⟨g8, 0, none⟩) hg8 (.string r0)).setCell (p := ⟨g8, 1, none⟩) hg8 (.slice A6' r1.length c6)).setCell (p := ⟨g8, 2, none⟩) hg8 (.bool r2)).setCell (p := ⟨g8, 3, none⟩) hg8 (.slice A8 r3.length c8))
            clear zc0 zc1 zc2 zc3 zf0 zf1 zf2 zf3 bz b1 b2 b3 hR8 hb8 hg8 hHeld RU LU
            generalize (((w8.setCell ⟨g8, 0, none⟩ (.string r0)).setCell ⟨g8, 1, none⟩ (.slice A6' r1.length c6)).setCell ⟨g8, 2, none⟩ (.bool r2)).setCell ⟨g8, 3, none⟩ (.slice A8 r3.length c8) = w10 at *
            have V0 := pw_cell_below B10.out U0
            have V2 := pw_cell_below B10.out U2
            have V4 := pw_cell_below B10.out U4
            have V5 := pw_cell_below B10.out U5
            have y2 : w10.cell? ⟨g8, 2, none⟩ = some (.bool r2) := (blk_cell K8.out 2).trans rfl
            have y3 : w10.cell? ⟨g8, 3, none⟩ = some (.slice A8 r3.length c8) := (blk_cell K8.out 3).trans rfl
            have HB10 := Aside0.mk (HBu.out.trans (B10.out.mono HBu.out.size))
            have HO10 := Aside0.mk (own_move HOu.out (fun y hy => B10.out.block y (own_lt HOu.out y hy)))
            have WC := fun p : BW w10 => words_c r3 l1 (by omega) (by have := hsl.2.1; simp only at this; omega) A8 A1 c8 d1 p.w' (Kd.C_below HR8.out.2.2 p.h) HR8.out.2.1 (Kd.C_below (Kd.C_below HC1.out.2.2 HB10.out) p.h) HC1.out.2.1
            have HC1W := WC
            have Q2 := fun p : BW w10 => p.cell y2
            have Q3' := fun p : BW w10 => p.cell y3
            have Q4' := fun p : BW w10 => p.cell V2
            have Q5' := fun p : BW w10 => p.cell V5
            have hkp := HKEEP.out
            clear HC1W U0 U2 U4 U5 V0 HBu HOu B10 y2 y3
            cases r2
            case' true =>
              have hke : keepT f0 ⟨l0, l1⟩ = true := by rw [hkp]; rfl
              clear hkp WC
              go_wp2_with fail
              refine wp_region_below (by kernel_rfl) (by kernel_rfl) ?_
              repeat ((with_reducible refine wpQuiet_step ?_); (with_reducible intro K hK); go_simp; first | ((with_reducible refine hK _ ?_); clear hK K) | ((with_reducible refine quiet_off (fun h => ?_) ?_); exact h; (with_reducible refine hK _ ?_); clear hK K))
              with_reducible refine wpQuiet_nil ?_
              intro wn hw'
              obtain ⟨⟨_, hBn⟩, rfl⟩ := hw'
            case' false =>
              cases hdq : decide (r3 = l1)
              case' true =>
                have hke : keepT f0 ⟨l0, l1⟩ = false := by rw [hkp, hdq]; rfl
                rw [hdq] at WC
                have hnx := HNX.out
                rw [hke] at hnx
                simp only [Bool.false_eq_true, if_false, List.append_nil] at hnx
                clear hkp hdq hke
                go_wp2_with fail
                refine wp_region_below (by kernel_rfl) (by kernel_rfl) ?_
                repeat ((with_reducible refine wpQuiet_step ?_); (with_reducible intro K hK); go_simp; first | ((with_reducible refine hK _ ?_); clear hK K) | ((with_reducible refine quiet_off (fun h => ?_) ?_); exact h; (with_reducible refine hK _ ?_); clear hK K) | (apply Exists.intro; refine ⟨fun _ => ?_, hK _ ?_⟩; (first | (go_at_call 95; exact BW.calls (WC _))); clear hK K))
                with_reducible refine wpQuiet_nil ?_
                intro wn hw'
                obtain ⟨⟨_, hBn⟩, rfl⟩ := hw'
                have hBm := Aside0.mk (HB10.out.trans (hBn.mono HB10.out.size))
                have HOm := Aside0.mk (own_move HO10.out (fun y hy => hBn.block y (own_lt HO10.out y hy)))
                have HPm := Aside0.mk HPi.out
                rw [← hnx] at HPm HOm
                clear hBn Q2 Q3' Q4' Q5' WC V2 V4 V5
                go_wp2
                go_roundw
                case rel => exact ⟨k + 1, cs, by go_num, hkl, hBm, by rw [← hnx]; exact HOm, HPm⟩
                case measure => simp [intOf]; omega
              case' false =>
                have hke : keepT f0 ⟨l0, l1⟩ = true := by rw [hkp, hdq]; rfl
                rw [hdq] at WC
                clear hkp hdq
                go_wp2_with fail
                refine wp_region_below (by kernel_rfl) (by kernel_rfl) ?_
                repeat ((with_reducible refine wpQuiet_step ?_); (with_reducible intro K hK); go_simp; first | ((with_reducible refine hK _ ?_); clear hK K) | ((with_reducible refine quiet_off (fun h => ?_) ?_); exact h; (with_reducible refine hK _ ?_); clear hK K) | (apply Exists.intro; refine ⟨fun _ => ?_, hK _ ?_⟩; (first | (go_at_call 95; exact BW.calls (WC _))); clear hK K))
                with_reducible refine wpQuiet_nil ?_
                intro wn hw'
                obtain ⟨⟨_, hBn⟩, rfl⟩ := hw'
                clear WC
            all_goals
              have hnx := HNX.out
              rw [hke] at hnx
              simp only [if_true] at hnx
              have V0n := pw_cell_below hBn V4
              have V2n := pw_cell_below hBn V2
              have V5n := pw_cell_below hBn V5
              have hBm := Aside0.mk (HB10.out.trans (hBn.mono HB10.out.size))
              have HOm := Aside0.mk (own_move HO10.out (fun y hy => hBn.block y (own_lt HO10.out y hy)))
              have HNX2 := Aside0.mk hnx
              have hlf : ((f2.take k).filter (keepT f0)).length ≤ k := by have := List.length_filter_le (keepT f0) (f2.take k); rw [List.length_take] at this; omega
              clear hBn Q2 Q3' Q4' Q5' V2 V4 V5 hke hnx HO10 HB10 HNX
              generalize hFL : (f2.take k).filter (keepT f0) = fl at *
              go_wp2_with (at_builtin; refine ap_lit (w0 := W7) (W := wn) W7.heap.size rfl (.tmp 63) (.tmp 69) 52 83 (.agg #[.string ⟨#[]⟩, .slice none 0 0]) 2 40 rfl Tryd.underlying52 infoLine rfl (by decide) (by decide) (.slice A6 fl.length d6) fl.length 1 cs [.string l0, .slice A1 l1.length d1] rfl ?hy rfl ?h1 HOm.out hBm.out ?hbase ?hl ?_)
              case hy => simp [Act.eval]
              case h1 => intro x hx; simp at hx; rcases hx with rfl | rfl <;> rfl
              case hbase => exact hBm.out.size
              case hl => omega
              intro v3 w3 ho3 hb3 _ _
              have hb4 := Aside0.mk hb3
              have hln : ((f2.take (k + 1)).filter (keepT f0)).length = fl.length + 1 := by rw [HNX2.out]; simp
              have HOn : Aside0 (w3.ownsRow W7.heap.size 83 2 v3 ((f2.take (k + 1)).filter (keepT f0)).length (cs ++ [.string l0, .slice A1 l1.length d1])) := ⟨by rw [hln]; exact ho3⟩
              have HPn : Aside0 (Reps (Kd.M k83 W7 w1.heap.size (fun k => k ≠ g)) 2 ((f2.take (k + 1)).filter (keepT f0)) (cs ++ [.string l0, .slice A1 l1.length d1])) := ⟨by rw [HNX2.out]; exact Reps.snoc HPi.out HM1.out rfl⟩
              clear ho3 hb3 hln V0n V2n V5n
              go_wp2
              go_roundw
              case rel => exact ⟨k + 1, _, by go_num, hkl, hb4, HOn, HPn⟩
              case measure => simp [intOf]; omega
          · obtain rfl : k = f2.length := by omega
            have i7 : ¬ (f2.length : Int) < (f2.length : Int) := by omega
            have HOx := HOi.out
            have HPx := HPi.out
            rw [List.take_length] at HOx HPx
            have HF9 := Kd.R_below HF7.out HBi.out
            obtain ⟨_, hgg, _, _, gc, hgc⟩ := R_some HF9 (by omega)
            injection hgg with hgg
            injection hgg with hgg
            subst hgg
            have fz2 := blk_frozen hgc (j * 3 + 2)
            obtain ⟨csD, hclD, hMD, hccD, _⟩ := Kd.R_elem HF9 ⟨f0, f1, f2⟩ (j : Int) (by omega) (by omega)
            rw [Int.toNat_natCast, List.getD_eq_getElem?_getD, hq1.out] at hMD
            simp only [Option.getD_some] at hMD
            have hccD' := hccD
            obtain ⟨lv', rfl, hloD⟩ := k62_openM hMD
            rw [Int.toNat_natCast] at hccD'
            have U3 : wr.cell? ⟨g, j * 3 + 2, none⟩ = some lv' := hccD' 2 _ rfl
            have x9 : wr.cell? ⟨w2.heap.size, 0, none⟩ = some (.slice (some ⟨g, 0, none⟩) bs.length d) := (blk_cell (blk_below K37.out HBi.out) 0).trans rfl
            have HNL := row_R HPx HOx HBi.out (Nat.le_refl _) hbW (fun k hk => by omega)
            have hel : (f2.filter (keepT f0)).length = (f2.filter (keepT f0)).length := rfl
            rw [List.take_length]
            have hS := Kd.R_seg HF9 (j : Int) (by omega) (by omega) (seg := [.slice A6 (f2.filter (keepT f0)).length d6]) (j := 2) hclD hccD (Nat.le_refl _) (x' := trimB ⟨f0, f1, f2⟩) (okp := fun k => k ≠ g) (k62_mkM _ _ _ (trimB ⟨f0, f1, f2⟩) HNL) (fun k hk => ⟨trivial, hk⟩)
            rw [Int.toNat_natCast, Q3.out, Q4.out] at hS
            have e3 : wr.setCells g (j * 3 + 2) [.slice A6 (f2.filter (keepT f0)).length d6] = wr.setCell ⟨g, j * 3 + 2, none⟩ (.slice A6 (f2.filter (keepT f0)).length d6) := rfl
            have hS2 : Kd.R k62 62 (wr.setCell ⟨g, j * 3 + 2, none⟩ (.slice A6 (f2.filter (keepT f0)).length d6)) w1.heap.size (fun _ => True) (.slice (some ⟨g, 0, none⟩) bs.length d) ((bs.take (j + 1)).map trimB ++ bs.drop (j + 1)) := e3 ▸ hS.1
            have hG2 : wr.grownBy (wr.setCell ⟨g, j * 3 + 2, none⟩ (.slice A6 (f2.filter (keepT f0)).length d6)) (some g) := e3 ▸ hS.2
            have HSn := Aside0.mk hS2
            have HB9 := Aside0.mk (HB7.out.trans (HBi.out.mono HB7.out.size))
            have K1n := Aside0.mk (blk_grown (blk_below K17.out HBi.out) hG2 (fun e => hgk1 (by injection e)))
            have K3n := Aside0.mk (blk_grown (blk_below K37.out HBi.out) hG2 (fun e => hgk3 (by injection e)))
            have HBn := Aside0.mk (below_grown HB9.out hG2 (show w.heap.size ≤ g by omega) (Nat.le_refl _))
            clear hS hS2 hG2 e3 hccD hccD' hclD hMD hloD hgc HF9 HOx HPx HNL hel
            go_wp2
            go_roundw
            case rel => exact ⟨j + 1, by go_num, hlt, HBn, K1n, K3n, HSn⟩
            case measure => simp [intOf]; omega
      · obtain rfl : j = bs.length := by omega
        have i1 : ¬ (bs.length : Int) < (bs.length : Int) := by omega
        rw [List.take_length, List.drop_length, List.append_nil] at HF
        have hC := Kd.R_reads' HF.out
        rw [List.length_map] at hC
        have HCF := Aside0.mk hC
        have hl5 : bs.length = (bs.map trimB).length := by rw [List.length_map]
        have C5 := HC5.out wr D d (by have := HCF.out.2.2; simpa using this) (by simpa using HCF.out.2.1)
        rw [List.length_map] at C5
        have HC6 := Aside0.mk C5
        clear C5 hl5 hC HC5
        go_wp2_with fail
        refine HC6.out.mono ?_
        rintro e w5 ⟨v5, rfl, ho5, hb5⟩
        obtain ⟨A5, d5, rfl⟩ := Kd.R_slice ho5
        rw [List.length_map] at ho5
        have k5 := Aside0.mk (blk_below K1.out hb5)
        have z1 : w5.cell? ⟨w.heap.size + 1, 0, none⟩ = some (.slice none 0 0) := (blk_cell k5.out 0).trans rfl
        have f1 := blk_frozen k5.out 0
        have B5 := Aside0.mk (HB.out.trans (hb5.mono HB.out.size))
        have H5 := Aside0.mk (BlocksV.of_R (Kd.R_set ho5 k5.out (by decide) 0 (.slice A5 bs.length d5)))
        clear ho5 hb5
        go_wp2
        refine bodyPost_ret (results_cell_row rfl _ _ (w.heap.size + 1) 47 #[.slice A5 bs.length d5] (0, 0) _ rfl ?blk Tryd.underlying47 rfl (by kernel_rfl)) rfl ⟨.slice A5 bs.length d5, rfl, H5.out, ?bel⟩
        case blk => exact blk_put k5.out 0 _ rfl
        case bel => exact B5.out.setCell (p := ⟨w.heap.size + 1, 0, none⟩) (show w.heap.size ≤ w.heap.size + 1 by omega) _
end Go.Proofs.YtmcdnpooclelgaaDoor.PAll
