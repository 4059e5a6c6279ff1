/- Texts of this claim, packed: contracts of functions and plain lemmas that the law is proved from. -/
import Derived.Deep.LoopGhost
import Derived.Deep.RegionHeld3
import Derived.Deep.RegionLaw
import Derived.Test.YtmcdnpooclelgaaDoorQDiff1
import Derived.Test.YtmcdnpooclelgaaDoorQDiff2
import Derived.Test.YtmcdnpooclelgaaDoorQDiff3
import Derived.Test.YtmcdnpooclelgaaDoorQDiff4
set_option linter.unusedVariables false
set_option linter.unusedSimpArgs false
namespace Go.Proofs.YtmcdnpooclelgaaDoor.PAll
open Go.RowKit Go.Proofs.YtmcdnpooclelgaaDoorW.PrintWords Go.Proofs.YtmcdnpooclelgaaDoorW.PrintLast Go.Proofs.YtmcdnpooclelgaaDoorW.PrintMore
attribute [local go_sem] max2_int min2_int max_two min_two max_three min_three max_four min_four   -- for this text's walks alone
def laws_heldStringS.l0 : Nat → List ByteArray → Int → Int → Option (Int)
 | 0, _, _, _ => none
 | k + 1, x0, x1, x5 => if x5 < (x0.length : Int) then (if 0 ≤ x5 then ((laws_markText.f k x1).bind fun t217 => (if (rdOf ByteArray.empty x0 x5).toList = t217.toList then (laws_heldStringS.l0 k x0 (wrap64 (x1 + 1)) (wrap64 (x5 + 1))) else (some (-1)))) else (none)) else (some x1)
def laws_heldStringS.f (k : Nat) (l0 : List ByteArray) (a1 : Int) : Option (Int) := laws_heldStringS.l0 k l0 a1 0
set_option maxHeartbeats 8000000 in
set_option maxRecDepth 100000 in
theorem laws_heldStringS.calls (k : Nat) (A0 : Option Addr) (c0 : Nat) (l0 : List ByteArray) (a1 : Int) (r : Int) (w : World) (hr0 : Kd.C Kd.string w A0 l0.length l0) (hc0 : l0.length ≤ c0) (h : laws_heldStringS.f k l0 a1 = some r) :
  Calls Tryd.prog 61 #[.slice A0 l0.length c0, .int .i64 a1] w fun e w' => e = .returned (.int .i64 r) ∧ Below w.heap.size w w' := by
 have HR0 := Aside0.mk hr0
 have HC0 := Aside0.mk hc0
 clear hr0 hc0
 have HB := Aside0.mk (Below.refl w.heap.size w)
 have H : (laws_heldStringS.l0 k l0 a1 0) = some r := h
 clear h
 have H' := Aside0.mk H
 clear H
 go_enter Tryd.func61, Tryd.ntmps61
 go_wp2
 go_loopg [1, 5] k (fun kq v1 v5 w' => ∃ (x1_1 : Int) (x5_1 : Int), v1 = .int .i64 x1_1 ∧ v5 = .int .i64 x5_1 ∧ Aside0 (laws_heldStringS.l0 kq l0 x1_1 x5_1 = some r) ∧ Aside0 (kq ≤ k) ∧ Aside0 (Below w.heap.size w w'))
 case atStart => exact ⟨(a1), (0), (by first | rfl | (simp; done) | (simp [*]; done)), (by first | rfl | (simp; done) | (simp [*]; done)), H', ⟨Nat.le_refl _⟩, ⟨by repeat (first | (with_reducible first | exact HB.out | apply below_alloc | apply pw_below_drewN | apply below_drew1) | exact HB.out)⟩⟩
 case round =>
  clear H'
  try clear p2
  obtain ⟨x1_1, x5_1, rfl, rfl, HA, HK1, HB⟩ := hrel
  cases gk with
  | zero => exact absurd HA.out (by simp [laws_heldStringS.l0])
  | succ k1 =>
   have H := HA.out
   clear HA
   simp only [laws_heldStringS.l0] at H
   by_cases c3 : x5_1 < (l0.length : Int)
   ·rw [if_pos c3] at H
    have c3b0 : decide (x5_1 < (l0.length : Int)) = true := decide_eq_true c3
    clear c3
    by_cases c4 : 0 ≤ x5_1
    ·rw [if_pos c4] at H
     have c4b0 : decide (0 ≤ x5_1) = true := decide_eq_true c4
     clear c4
     replace H := Option.bind_eq_some_iff.mp H
     obtain ⟨t217, A50, H⟩ := H
     replace H : (if (rdOf ByteArray.empty l0 x5_1).toList = t217.toList then (laws_heldStringS.l0 k1 l0 (wrap64 (x1_1 + 1)) (wrap64 (x5_1 + 1))) else (some (-1))) = some r := H
     have A5 := Aside0.mk A50
     clear A50
     by_cases c6 : (rdOf ByteArray.empty l0 x5_1).toList = t217.toList
     ·rw [if_pos c6] at H
      have c6b0 : ((rdOf ByteArray.empty l0 x5_1).toList == t217.toList) = true := beq_iff_eq.mpr c6
      have c6b1 : ((rdOf ByteArray.empty l0 x5_1).toList != t217.toList) = false := bne_eq_false_iff_eq.mpr c6
      clear c6
      have H' := Aside0.mk H
      clear H
      try go_wp2
      have n0_ := Aside0.mk (below_drew1 HB.out)
      clear HB
      have HB := n0_
      clear n0_
      have p216 : 0 ≤ (x5_1 : Int) := of_decide_eq_true (by first | (with_reducible assumption) | assumption)
      have q216 : x5_1 < (l0.length : Int) := of_decide_eq_true (by first | (with_reducible assumption) | assumption)
      obtain ⟨ad216, e216, hx216_0⟩ := Kd.at_string HR0.out x5_1 p216 q216
      have hw216_0 := hx216_0
      cases e216
      (try replace hx216_0 := (HB.out.cell (World.block_lt_of_cell? w _ hx216_0)).trans hx216_0)
      replace p216 := eq_true p216
      replace q216 := eq_true q216
      refine start_ (n := 7) (S := fun w' => w'.cell? (ad216.add (x5_1).toNat) = some (.string (rdOf ByteArray.empty l0 x5_1))) (ds := []) (bz_ 7 0) (by kernel_rfl) rfl rfl ((by first | exact (HB.out.cell (World.block_lt_of_cell? w _ hw216_0)).trans hw216_0 | exact hw216_0)) (fun hHeld => ?_)
      generalize wr.drew = w7 at HB hx216_0 hHeld ⊢
      refine pure_ (i := 0) (N := some 12) (v := ?_) (a' := ?_) (bz_ 7 1) rfl rfl (by kernel_rfl) (fun _ _ _ h => h) (Or.inl ⟨by rfl, ?_⟩) ?_ ?_
      rotate_left
      ·intro w'
       go_simp
       with_reducible rfl
      rotate_left
      ·simp only [Act.put, List.setIfInBounds_toArray, List.set_cons_zero, List.set_cons_succ, i64_w, i32_w]
       rfl
      refine pure_ (i := 1) (N := some 13) (v := ?_) (a' := ?_) (bz_ 7 3) rfl rfl (by kernel_rfl) (fun _ _ _ h => h) (Or.inl ⟨by rfl, ?_⟩) ?_ ?_
      rotate_left
      ·intro w'
       go_simp
       with_reducible rfl
      rotate_left
      ·simp only [Act.put, List.setIfInBounds_toArray, List.set_cons_zero, List.set_cons_succ, i64_w, i32_w]
       rfl
      refine pure_ (i := 2) (N := some 14) (v := ?_) (a' := ?_) (bz_ 7 7) rfl rfl (by kernel_rfl) (fun _ _ _ h => h) (Or.inl ⟨by rfl, ?_⟩) ?_ ?_
      rotate_left
      ·intro w'
       go_simp
       with_reducible rfl
      rotate_left
      ·simp only [Act.put, List.setIfInBounds_toArray, List.set_cons_zero, List.set_cons_succ, i64_w, i32_w]
       rfl
      refine pure_ (i := 4) (N := some 16) (v := ?_) (a' := ?_) (bz_ 7 23) rfl rfl (by kernel_rfl) (fun _ _ _ h => h) (Or.inl ⟨by rfl, ?_⟩) ?_ ?_
      rotate_left
      ·intro w'
       go_simp
       with_reducible rfl
      rotate_left
      ·simp only [Act.put, List.setIfInBounds_toArray, List.set_cons_zero, List.set_cons_succ, i64_w, i32_w]
       rfl
      refine take_ (i := 3) (N := some 15) (v := ?_) (a' := ?_) (bz_ 7 31) rfl rfl (by kernel_rfl) (fun _ _ _ h => h) (Or.inl ⟨by rfl, ?_⟩) hHeld ?_ ?_
      rotate_left
      ·intro w' s0
       go_simp
       with_reducible rfl
      rotate_left
      ·simp only [Act.put, List.setIfInBounds_toArray, List.set_cons_zero, List.set_cons_succ, i64_w, i32_w]
       rfl
      refine one_ (i := 5) (N := some 17) (bz_ 7 63) rfl rfl (by kernel_rfl) (by decide) (fun K hK => ?_)
      refine goes_ Tryd.func57 (by kernel_rfl) rfl #[.int .i64 x1_1] (by rfl) rfl rfl (by (try simp only [List.map_toArray, List.map_cons, List.map_nil]); first | done | rfl | (simp only [List.length_drop, List.length_take]; rfl)) ?_
      with_reducible refine (laws_markText.calls k1 x1_1 t217 _ A5.out).mono ?_
      rintro e w8 ⟨rfl, hb⟩
      refine ⟨_, rfl, ?_⟩
      have n0_ := Aside0.mk (below_step (stB HB.out) hb)
      clear HB
      have HB := n0_
      clear n0_
      (try clear hb)
      (try clear hb2)
      (try clear hk)
      (try clear hi)
      refine hK.out _ _ ((by first | exact (HB.out.cell (World.block_lt_of_cell? w _ hw216_0)).trans hw216_0 | exact hw216_0)) (fun hHeld => ?_)
      clear hK K
      refine norm_ (a' := ?_) ?_ ?_
      rotate_left
      ·show Act.put _ (some 17) _ = _
       simp only [Act.put, List.setIfInBounds_toArray, List.set_cons_zero, List.set_cons_succ, i64_w, i32_w]
       rfl
      refine pure_ (i := 6) (N := some 18) (v := ?_) (a' := ?_) (bz_ 7 127) rfl rfl (by kernel_rfl) (fun _ _ _ h => h) (Or.inl ⟨by rfl, ?_⟩) ?_ ?_
      rotate_left
      ·intro w'
       go_simp
       with_reducible rfl
      rotate_left
      ·simp only [Act.put, List.setIfInBounds_toArray, List.set_cons_zero, List.set_cons_succ, i64_w, i32_w]
       rfl
      refine done_ (by kernel_rfl) ?_
      try go_wp2
      go_roundg k1
      case measure => have := HK1.out; omega
      case rel => exact ⟨(wrap64 (x1_1 + 1)), (wrap64 (x5_1 + 1)), (by first | rfl | (simp; done) | (simp [*]; done)), (by first | rfl | (simp; done) | (simp [*]; done)), H', ⟨by have := HK1.out; omega⟩, ⟨by repeat (first | (with_reducible first | exact HB.out | apply below_alloc | apply pw_below_drewN | apply below_drew1) | exact HB.out)⟩⟩
     ·rw [if_neg c6] at H
      have c6b0 : ((rdOf ByteArray.empty l0 x5_1).toList == t217.toList) = false := beq_eq_false_iff_ne.mpr c6
      have c6b1 : ((rdOf ByteArray.empty l0 x5_1).toList != t217.toList) = true := bne_iff_ne.mpr c6
      obtain rfl := Option.some.inj H
      try go_wp2
      have n0_ := Aside0.mk (below_drew1 HB.out)
      clear HB
      have HB := n0_
      clear n0_
      have p216 : 0 ≤ (x5_1 : Int) := of_decide_eq_true (by first | (with_reducible assumption) | assumption)
      have q216 : x5_1 < (l0.length : Int) := of_decide_eq_true (by first | (with_reducible assumption) | assumption)
      obtain ⟨ad216, e216, hx216_0⟩ := Kd.at_string HR0.out x5_1 p216 q216
      have hw216_0 := hx216_0
      cases e216
      (try replace hx216_0 := (HB.out.cell (World.block_lt_of_cell? w _ hx216_0)).trans hx216_0)
      replace p216 := eq_true p216
      replace q216 := eq_true q216
      refine start_ (n := 7) (S := fun w' => w'.cell? (ad216.add (x5_1).toNat) = some (.string (rdOf ByteArray.empty l0 x5_1))) (ds := []) (bz_ 7 0) (by kernel_rfl) rfl rfl ((by first | exact (HB.out.cell (World.block_lt_of_cell? w _ hw216_0)).trans hw216_0 | exact hw216_0)) (fun hHeld => ?_)
      generalize wr.drew = w9 at HB hx216_0 hHeld ⊢
      refine pure_ (i := 0) (N := some 12) (v := ?_) (a' := ?_) (bz_ 7 1) rfl rfl (by kernel_rfl) (fun _ _ _ h => h) (Or.inl ⟨by rfl, ?_⟩) ?_ ?_
      rotate_left
      ·intro w'
       go_simp
       with_reducible rfl
      rotate_left
      ·simp only [Act.put, List.setIfInBounds_toArray, List.set_cons_zero, List.set_cons_succ, i64_w, i32_w]
       rfl
      refine pure_ (i := 1) (N := some 13) (v := ?_) (a' := ?_) (bz_ 7 3) rfl rfl (by kernel_rfl) (fun _ _ _ h => h) (Or.inl ⟨by rfl, ?_⟩) ?_ ?_
      rotate_left
      ·intro w'
       go_simp
       with_reducible rfl
      rotate_left
      ·simp only [Act.put, List.setIfInBounds_toArray, List.set_cons_zero, List.set_cons_succ, i64_w, i32_w]
       rfl
      refine pure_ (i := 2) (N := some 14) (v := ?_) (a' := ?_) (bz_ 7 7) rfl rfl (by kernel_rfl) (fun _ _ _ h => h) (Or.inl ⟨by rfl, ?_⟩) ?_ ?_
      rotate_left
      ·intro w'
       go_simp
       with_reducible rfl
      rotate_left
      ·simp only [Act.put, List.setIfInBounds_toArray, List.set_cons_zero, List.set_cons_succ, i64_w, i32_w]
       rfl
      refine pure_ (i := 4) (N := some 16) (v := ?_) (a' := ?_) (bz_ 7 23) rfl rfl (by kernel_rfl) (fun _ _ _ h => h) (Or.inl ⟨by rfl, ?_⟩) ?_ ?_
      rotate_left
      ·intro w'
       go_simp
       with_reducible rfl
      rotate_left
      ·simp only [Act.put, List.setIfInBounds_toArray, List.set_cons_zero, List.set_cons_succ, i64_w, i32_w]
       rfl
      refine take_ (i := 3) (N := some 15) (v := ?_) (a' := ?_) (bz_ 7 31) rfl rfl (by kernel_rfl) (fun _ _ _ h => h) (Or.inl ⟨by rfl, ?_⟩) hHeld ?_ ?_
      rotate_left
      ·intro w' s0
       go_simp
       with_reducible rfl
      rotate_left
      ·simp only [Act.put, List.setIfInBounds_toArray, List.set_cons_zero, List.set_cons_succ, i64_w, i32_w]
       rfl
      refine one_ (i := 5) (N := some 17) (bz_ 7 63) rfl rfl (by kernel_rfl) (by decide) (fun K hK => ?_)
      refine goes_ Tryd.func57 (by kernel_rfl) rfl #[.int .i64 x1_1] (by rfl) rfl rfl (by (try simp only [List.map_toArray, List.map_cons, List.map_nil]); first | done | rfl | (simp only [List.length_drop, List.length_take]; rfl)) ?_
      with_reducible refine (laws_markText.calls k1 x1_1 t217 _ A5.out).mono ?_
      rintro e w10 ⟨rfl, hb⟩
      refine ⟨_, rfl, ?_⟩
      have n0_ := Aside0.mk (below_step (stB HB.out) hb)
      clear HB
      have HB := n0_
      clear n0_
      (try clear hb)
      (try clear hb2)
      (try clear hk)
      (try clear hi)
      refine hK.out _ _ ((by first | exact (HB.out.cell (World.block_lt_of_cell? w _ hw216_0)).trans hw216_0 | exact hw216_0)) (fun hHeld => ?_)
      clear hK K
      refine norm_ (a' := ?_) ?_ ?_
      rotate_left
      ·show Act.put _ (some 17) _ = _
       simp only [Act.put, List.setIfInBounds_toArray, List.set_cons_zero, List.set_cons_succ, i64_w, i32_w]
       rfl
      refine pure_ (i := 6) (N := some 18) (v := ?_) (a' := ?_) (bz_ 7 127) rfl rfl (by kernel_rfl) (fun _ _ _ h => h) (Or.inl ⟨by rfl, ?_⟩) ?_ ?_
      rotate_left
      ·intro w'
       go_simp
       with_reducible rfl
      rotate_left
      ·simp only [Act.put, List.setIfInBounds_toArray, List.set_cons_zero, List.set_cons_succ, i64_w, i32_w]
       rfl
      refine done_ (by kernel_rfl) ?_
      try go_wp2
      go_ret
      exact ⟨by first | rfl | (simp [errW_none, errW_some] <;> rfl) | (simp [*, errW_none, errW_some] <;> rfl), by repeat (first | (with_reducible first | exact HB.out | apply below_alloc | apply pw_below_drewN | apply below_drew1) | exact HB.out)⟩
    ·rw [if_neg c4] at H
     exact absurd H (by simp)
   ·rw [if_neg c3] at H
    have c3b0 : decide (x5_1 < (l0.length : Int)) = false := decide_eq_false c3
    clear c3
    obtain rfl := Option.some.inj H
    go_wp2
    go_ret
    exact ⟨by first | rfl | (simp [errW_none, errW_some] <;> rfl) | (simp [*, errW_none, errW_some] <;> rfl), by repeat (first | (with_reducible first | exact HB.out | apply below_alloc | apply pw_below_drewN | apply below_drew1) | exact HB.out)⟩
end Go.Proofs.YtmcdnpooclelgaaDoor.PAll
namespace Go.Proofs.YtmcdnpooclelgaaDoor.PAll
open Go.RowKit Go.Proofs.YtmcdnpooclelgaaDoorW.PrintWords
theorem getD_drop {α : Type} {z : α} {l : List α} {i : Nat} {x : α} {t : List α} (h : l.drop i = x :: t) : l.getD ((i : Nat) : Int).toNat z = x ∧ i < l.length ∧ l.drop (i + 1) = t := by
 have hi : i < l.length := by
  rcases Nat.lt_or_ge i l.length with h' | h'
  ·exact h'
  ·rw [List.drop_eq_nil_of_le h'] at h; cases h
 rw [List.drop_eq_getElem_cons hi] at h
 injection h with h1 h2
 exact ⟨by rw [List.getD_eq_getElem?_getD, Int.toNat_natCast, List.getElem?_eq_getElem hi]; exact h1, hi, h2⟩
theorem drop_nil {α : Type} {l : List α} {i : Nat} (h : l.drop i = []) (hi : i ≤ l.length) : i = l.length := by have := List.drop_eq_nil_iff.1 h; omega
theorem marks_cons (k : Int) (n : Nat) : marks k (n + 1) = mtP k :: marks (k + 1) n := by
 simp only [marks, List.range_succ_eq_map, List.map_cons, List.map_map]
 congr 1
 ·simp
 ·apply List.map_congr_left; intro j _; simp only [Function.comp]; congr 1; omega
theorem heldStr_l0 (ys : List ByteArray) (hn : ys.length ≤ 1099511627776) : ∀ (d i : Nat) (k : Int), ys.drop i = marks k d → i ≤ ys.length → 0 ≤ k → k + d ≤ 1099511627776 → Ev (fun n => laws_heldStringS.l0 n ys k i) (k + d)
 | 0, i, k, h, hi, _, _ => Ev.unf (fun _ => some (k + (0 : Nat))) (fun n => by
   have := drop_nil h hi
   simp only [laws_heldStringS.l0]; rw [if_neg (by omega)]; simp) (Ev.now _)
 | d + 1, i, k, h, hi, h0, h1 => by
  rw [marks_cons] at h
  obtain ⟨e1, e2, e3⟩ := getD_drop (z := ByteArray.empty) h
  have e1 : rdOf ByteArray.empty ys (i : Int) = mtP k := e1
  have ih := heldStr_l0 ys hn d (i + 1) (k + 1) e3 (by omega) (by omega) (by omega)
  rw [show k + 1 + (d : Int) = k + ((d + 1 : Nat) : Int) by omega] at ih
  refine Ev.unf (fun n => (laws_markText.f n k).bind fun t => if (mtP k).toList = t.toList then laws_heldStringS.l0 n ys (k + 1) ((i + 1 : Nat) : Int) else some (-1)) (fun n => ?_) ?_
  ·simp only [laws_heldStringS.l0]
   rw [if_pos (by omega), if_pos (by omega), e1, inc (by omega), w64 (by omega) (by omega)]
  ·refine Ev.bind (ev_markText k (by omega)) ?_
   simp only [if_true]
   exact ih
theorem ev_heldStr (k : Int) (d : Nat) (h0 : 0 ≤ k) (h1 : k + d ≤ 1099511627776) : Ev (fun n => laws_heldStringS.f n (marks k d) k) (k + d) := by
 unfold laws_heldStringS.f
 exact heldStr_l0 (marks k d) (by rw [marks_len]; omega) d 0 k rfl (by omega) h0 h1
theorem heldStr_any (A : Option Addr) (c n : Nat) (k : Int) (w : World) (hr : Kd.C Kd.string w A (marks k n).length (marks k n)) (hc : (marks k n).length ≤ c) (h0 : 0 ≤ k) (h1 : k + n ≤ 1099511627776) :
  Calls Tryd.prog 61 #[.slice A n c, .int .i64 k] w fun e w' => e = .returned (.int .i64 (k + (n : Int))) ∧ Below w.heap.size w w' := by
 obtain ⟨q, hq⟩ := (ev_heldStr k n h0 h1).rounds
 have := laws_heldStringS.calls q A c (marks k n) k _ w hr hc hq
 rw [marks_len] at this
 exact this
theorem markAll_get {α : Type} (mk : α → Int → α) (cnt : α → Nat) : ∀ (xs : List α) (j : Nat) (k : Int) (h : j < xs.length), (markAll mk cnt xs k)[j]? = some (mk xs[j] (k + (cntAll cnt (xs.take j) : Int)))
 | x :: xs, 0, k, _ => by simp [markAll, cntAll]
 | x :: xs, j + 1, k, h => by
  simp only [markAll, List.getElem?_cons_succ, List.take_succ_cons, cntAll, List.getElem_cons_succ]
  rw [markAll_get mk cnt xs j (k + cnt x) (by simpa using h), show k + ((cnt x + cntAll cnt (xs.take j) : Nat) : Int) = k + (cnt x : Int) + (cntAll cnt (xs.take j) : Int) by omega]
def lineS : Sh S83 := .iso (.pair strS strsS) (fun x : S83 => (x.f0, x.f1))
abbrev linesS : Sh (List S83) := .row lineS 83
def blockS : Sh S62 := .iso (.pair strS (.pair strS linesS)) (fun x : S62 => (x.f0, x.f1, x.f2))
abbrev blocksS : Sh (List S62) := .row blockS 62
theorem line_ow {w : World} {b : Nat} {key : ByteArray} {dv : Value} {ds : List ByteArray} {H : List Nat} (h : strsS.ow w b [dv] ds H) : lineS.ow w b [.string key, dv] ⟨key, ds⟩ H :=
 ⟨[.string key], [dv], [], H, rfl, rfl, ⟨rfl, rfl⟩, h, by simp⟩
theorem line_open {w : World} {b : Nat} {us : List Value} {x : S83} {G : List Nat} (h : lineS.ow w b us x G) : ∃ dv, us = [.string x.f0, dv] ∧ strsS.ow w b [dv] x.f1 G := by
 obtain ⟨u0, v0, G0, H0, rfl, rfl, ⟨rfl, rfl⟩, h1, _⟩ := h
 obtain ⟨dv, _, _, rfl, _⟩ := id h1
 exact ⟨dv, rfl, h1⟩
theorem block_ow {w : World} {b : Nat} {kind name : ByteArray} {lv : Value} {ls : List S83} {H : List Nat} (h : linesS.ow w b [lv] ls H) : blockS.ow w b [.string kind, .string name, lv] ⟨kind, name, ls⟩ H :=
 ⟨[.string kind], [.string name, lv], [], H, rfl, rfl, ⟨rfl, rfl⟩, ⟨[.string name], [lv], [], H, rfl, rfl, ⟨rfl, rfl⟩, h, by simp⟩, by simp⟩
theorem block_open {w : World} {b : Nat} {us : List Value} {x : S62} {G : List Nat} (h : blockS.ow w b us x G) : ∃ lv, us = [.string x.f0, .string x.f1, lv] ∧ linesS.ow w b [lv] x.f2 G := by
 obtain ⟨u0, v0, G0, H0, rfl, rfl, ⟨rfl, rfl⟩, ⟨u1, v1, G1, H1, rfl, rfl, ⟨rfl, rfl⟩, h1, _⟩, _⟩ := h
 obtain ⟨lv, _, _, rfl, _⟩ := id h1
 exact ⟨lv, rfl, h1⟩
section
variable {w w' : World} {b : Nat} {v dv lv : Value} {ys : List S83} {bs : List S62} {F : List Nat} {j g c : Nat} {s0 s1 : ByteArray} {d0 : List ByteArray} {l0 : List S83} {G : List Nat}
theorem line_key (h : RowAt lineS 83 w b v ys F j g c [.string s0, dv] ⟨s0, d0⟩ G) (s : ByteArray) : RowAt lineS 83 (w.setCell ⟨g, j * 2, none⟩ (.string s)) b v (ys.set j ⟨s, d0⟩) F j g c [.string s, dv] ⟨s, d0⟩ G := by
 obtain ⟨_, he, hd⟩ := line_open h.ow
 injection he with _ he; injection he with he1 _
 subst he1
 exact h.set 0 (.string s) (by decide) (line_ow hd)
theorem line_strs (h : RowAt lineS 83 w b v ys F j g c [.string s0, dv] ⟨s0, d0⟩ G) : ER Value.string w b 9 dv d0 ∧ (∀ y ∈ dv.ownBlock.toList, y ∈ F) ∧
  ∀ w' ss, ER Value.string w' b 9 dv ss → Upd dv.ownBlock.toList w w' → RowAt lineS 83 w' b v (ys.set j ⟨s0, ss⟩) F j g c [.string s0, dv] ⟨s0, ss⟩ G := by
 obtain ⟨_, he, hd⟩ := line_open h.ow
 injection he with _ he; injection he with he1 _
 subst he1
 obtain ⟨e1, rfl⟩ := strs_ER.1 hd
 exact ⟨e1, fun y hy => h.away.2.2 y hy, fun w' ss hn hu => h.mov hu (line_ow (strs_ER.2 ⟨hn, rfl⟩))⟩
theorem block_kind (h : RowAt blockS 62 w b v bs F j g c [.string s0, .string s1, lv] ⟨s0, s1, l0⟩ G) (s : ByteArray) : RowAt blockS 62 (w.setCell ⟨g, j * 3, none⟩ (.string s)) b v (bs.set j ⟨s, s1, l0⟩) F j g c [.string s, .string s1, lv] ⟨s, s1, l0⟩ G := by
 obtain ⟨_, he, hd⟩ := block_open h.ow
 injection he with _ he; injection he with _ he; injection he with he1 _
 subst he1
 exact h.set 0 (.string s) (by decide) (block_ow hd)
theorem block_name (h : RowAt blockS 62 w b v bs F j g c [.string s0, .string s1, lv] ⟨s0, s1, l0⟩ G) (s : ByteArray) : RowAt blockS 62 (w.setCell ⟨g, j * 3 + 1, none⟩ (.string s)) b v (bs.set j ⟨s0, s, l0⟩) F j g c [.string s0, .string s, lv] ⟨s0, s, l0⟩ G := by
 obtain ⟨_, he, hd⟩ := block_open h.ow
 injection he with _ he; injection he with _ he; injection he with he1 _
 subst he1
 exact h.set 1 (.string s) (by decide) (block_ow hd)
theorem block_lines (h : RowAt blockS 62 w b v bs F j g c [.string s0, .string s1, lv] ⟨s0, s1, l0⟩ G) : linesS.ow w b [lv] l0 G ∧ (∀ y ∈ G, y ∈ F) ∧
  ∀ w' ls, linesS.ow w' b [lv] ls G → Upd G w w' → RowAt blockS 62 w' b v (bs.set j ⟨s0, s1, ls⟩) F j g c [.string s0, .string s1, lv] ⟨s0, s1, ls⟩ G := by
 obtain ⟨_, he, hd⟩ := block_open h.ow
 injection he with _ he; injection he with _ he; injection he with he1 _
 subst he1
 exact ⟨hd, fun y hy => h.away.2.2 y hy, fun w' ls hn hu => h.mov hu (block_ow hn)⟩
end
def mkLine (l : S83) (k : Int) : S83 := ⟨mtP k, marks (k + 1) l.f1.length⟩
def cntLine (l : S83) : Nat := 1 + l.f1.length
def mkBlock (b : S62) (k : Int) : S62 := ⟨mtP k, mtP (k + 1), markAll mkLine cntLine b.f2 (k + 2)⟩
def cntBlock (b : S62) : Nat := 2 + cntAll cntLine b.f2
theorem len_cnt {α : Type} (cnt : α → Nat) (h : ∀ x, 1 ≤ cnt x) : ∀ ys : List α, ys.length ≤ cntAll cnt ys
 | [] => Nat.zero_le _
 | y :: ys => by have := len_cnt cnt h ys; have := h y; simp only [List.length_cons, cntAll]; omega
theorem cntLine_pos (l : S83) : 1 ≤ cntLine l := by unfold cntLine; omega
theorem cntBlock_pos (l : S62) : 1 ≤ cntBlock l := by unfold cntBlock; omega
set_option maxRecDepth 100000 in
set_option maxHeartbeats 2000000 in
theorem markLines_any (v : Value) (xs : List S83) (F : List Nat) (b : Nat) (k : Int) (w : World) (ho : linesS.ow w b [v] xs F) (hk : 0 ≤ k) (hk2 : k + cntAll cntLine xs ≤ 1099511627776) :
  Calls Tryd.prog 37 #[v, .int .i64 k] w fun e w' => e = .returned (.int .i64 (k + (cntAll cntLine xs : Int))) ∧ linesS.ow w' b [v] (markAll mkLine cntLine xs k) F ∧ Upd F w w' := by
 obtain ⟨Ad, c, rfl⟩ := own_form ho
 have HO := Aside0.mk ho
 clear ho
 have hlen : xs.length ≤ 1099511627776 := by have := len_cnt cntLine cntLine_pos xs; omega
 go_enter Tryd.func37, Tryd.ntmps37
 go_wp2
 go_loopw [1, 5] (fun kv i wr => ∃ j : Nat, kv = .int .i64 (k + (cntAll cntLine (xs.take j) : Int)) ∧ i = .int .i64 j ∧ j ≤ xs.length ∧ Aside0 (linesS.ow wr b [.slice Ad xs.length c] (half mkLine cntLine xs k j) F) ∧ Aside0 (Upd F w wr)) (fun _ i _ => xs.length - (intOf i).toNat)
 case atStart => exact ⟨0, by simp [cntAll], rfl, Nat.zero_le _, ⟨HO.out⟩, ⟨Upd.refl _ _⟩⟩
 case round =>
  obtain ⟨j, rfl, rfl, hj, ho, hu⟩ := hrel
  by_cases hlt : j < xs.length
  ·have hct := cntAll_take cntLine xs j hlt
   have hle := cntAll_le cntLine xs (j + 1)
   have hset := half_set mkLine cntLine xs k j hlt
   have hget := half_get mkLine cntLine xs k j hlt
   have hhl := half_len mkLine cntLine xs k j hj
   generalize xs[j] = x at *
   obtain ⟨s0, d0⟩ := x
   generalize hys : half mkLine cntLine xs k j = ys at *
   clear hys
   have HS := Aside0.mk hset
   have HCT := Aside0.mk hct
   have HL := Aside0.mk hhl
   have hkk0 : 0 ≤ k + (cntAll cntLine (xs.take j) : Int) := by omega
   have hkk1 : k + (cntAll cntLine (xs.take j) : Int) + 1 + d0.length ≤ 1099511627776 := by
    have : cntLine ⟨s0, d0⟩ = 1 + d0.length := rfl
    omega
   clear hset hct hhl hle
   generalize hkk : k + (cntAll cntLine (xs.take j) : Int) = kk at *
   have HKK := Aside0.mk hkk
   clear hkk
   obtain ⟨g, c', us, G, hR⟩ := RowAt.of ho.out hget
   have hv := hR.val
   injection hv with hv1 hv2 hv3
   subst hv1 hv3
   obtain ⟨dv, rfl, hd⟩ := line_open hR.ow
   obtain ⟨A3, c3, rfl⟩ := own_form hd
   have R0 := Aside0.mk hR
   clear hd hv2 hR
   go_wp2_with fail
   refine (markText_any _ _ (by omega)).mono ?_
   rintro e w1 ⟨rfl, hbl⟩
   have R1 := Aside0.mk (R0.out.below hbl)
   have hc0 : w1.cell? ⟨g, j * 2, none⟩ = some (.string s0) := R1.out.cell 0 (by decide)
   have hc1 : w1.cell? ⟨g, j * 2 + 1, none⟩ = some (.slice A3 d0.length c3) := R1.out.cell 1 (by decide)
   have hf0 := R1.out.frozen (j * 2)
   have U1 := Aside0.mk (upd_in hu.out (Upd.of_below hbl []) (fun _ hx => by cases hx))
   have R2 := Aside0.mk (line_key R1.out (mtP kk))
   have U2 := Aside0.mk (upd_in U1.out (upd_cell w1 g (j * 2) (.string (mtP kk))) (fun y hy => by simp at hy; subst hy; exact R1.out.away.2.1))
   clear hbl
   go_wp2_with fail
   obtain ⟨E4, Y4, M4⟩ := line_strs R2.out
   refine (markStringS_any A3 c3 b d0 (kk + 1) _ E4 (by omega) (by omega)).mono ?_
   rintro e w5 ⟨rfl, hE5, hu5⟩
   have R5 := Aside0.mk (M4 w5 _ hE5 hu5)
   have U5 := Aside0.mk (upd_in U2.out hu5 Y4)
   have HR5 : Aside0 (linesS.ow w5 b [.slice (some ⟨g, 0, none⟩) xs.length c] (half mkLine cntLine xs k (j + 1)) F) := ⟨by
    have h5 := R5.out.row
    rw [List.set_set] at h5
    rw [← HS.out]
    exact h5⟩
   have hkn : Aside0 (kk + 1 + (d0.length : Int) = k + (cntAll cntLine (xs.take (j + 1)) : Int)) := ⟨by rw [HCT.out, ← HKK.out]; show _ = k + ((_ + (1 + d0.length) : Nat) : Int); omega⟩
   clear E4 Y4 M4 hE5 hu5 hc0 hc1 hf0
   go_wp2_with fail
   go_roundw
   case rel => exact ⟨j + 1, by rw [hkn.out], by go_num, hlt, HR5, U5⟩
   case measure => simp [intOf]; omega
  ·obtain rfl : j = xs.length := by omega
   have hh := half_end mkLine cntLine xs k
   have ho2 := ho.out
   rw [hh] at ho2
   have HO2 := Aside0.mk ho2
   clear hh ho2
   have he : xs.take xs.length = xs := List.take_length
   rw [he]
   go_wp2
   go_ret
   exact ⟨rfl, HO2.out, hu.out⟩
set_option maxRecDepth 100000 in
set_option maxHeartbeats 2000000 in
theorem markBlocks_any (v : Value) (xs : List S62) (F : List Nat) (b : Nat) (k : Int) (w : World) (ho : blocksS.ow w b [v] xs F) (hk : 0 ≤ k) (hk2 : k + cntAll cntBlock xs ≤ 1099511627776) :
  Calls Tryd.prog 90 #[v, .int .i64 k] w fun e w' => e = .returned (.int .i64 (k + (cntAll cntBlock xs : Int))) ∧ blocksS.ow w' b [v] (markAll mkBlock cntBlock xs k) F ∧ Upd F w w' := by
 obtain ⟨Ad, c, rfl⟩ := own_form ho
 have HO := Aside0.mk ho
 clear ho
 have hlen : xs.length ≤ 1099511627776 := by have := len_cnt cntBlock cntBlock_pos xs; omega
 go_enter Tryd.func90, Tryd.ntmps90
 go_wp2
 go_loopw [1, 5] (fun kv i wr => ∃ j : Nat, kv = .int .i64 (k + (cntAll cntBlock (xs.take j) : Int)) ∧ i = .int .i64 j ∧ j ≤ xs.length ∧ Aside0 (blocksS.ow wr b [.slice Ad xs.length c] (half mkBlock cntBlock xs k j) F) ∧ Aside0 (Upd F w wr)) (fun _ i _ => xs.length - (intOf i).toNat)
 case atStart => exact ⟨0, by simp [cntAll], rfl, Nat.zero_le _, ⟨HO.out⟩, ⟨Upd.refl _ _⟩⟩
 case round =>
  obtain ⟨j, rfl, rfl, hj, ho, hu⟩ := hrel
  by_cases hlt : j < xs.length
  ·have hct := cntAll_take cntBlock xs j hlt
   have hle := cntAll_le cntBlock xs (j + 1)
   have hset := half_set mkBlock cntBlock xs k j hlt
   have hget := half_get mkBlock cntBlock xs k j hlt
   have hhl := half_len mkBlock cntBlock xs k j hj
   generalize xs[j] = x at *
   obtain ⟨s0, s1, l0⟩ := x
   generalize hys : half mkBlock cntBlock xs k j = ys at *
   clear hys
   have HS := Aside0.mk hset
   have HCT := Aside0.mk hct
   have HL := Aside0.mk hhl
   have hkk0 : 0 ≤ k + (cntAll cntBlock (xs.take j) : Int) := by omega
   have hkk1 : k + (cntAll cntBlock (xs.take j) : Int) + 2 + cntAll cntLine l0 ≤ 1099511627776 := by
    have : cntBlock ⟨s0, s1, l0⟩ = 2 + cntAll cntLine l0 := rfl
    omega
   clear hset hct hhl hle
   generalize hkk : k + (cntAll cntBlock (xs.take j) : Int) = kk at *
   have HKK := Aside0.mk hkk
   clear hkk
   obtain ⟨g, c', us, G, hR⟩ := RowAt.of ho.out hget
   have hv := hR.val
   injection hv with hv1 hv2 hv3
   subst hv1 hv3
   obtain ⟨lv, rfl, hd⟩ := block_open hR.ow
   obtain ⟨A3, c3, rfl⟩ := own_form hd
   have R0 := Aside0.mk hR
   clear hd hv2 hR
   go_wp2_with fail
   refine (markText_any _ _ (by omega)).mono ?_
   rintro e w1 ⟨rfl, hbl⟩
   have R1 := Aside0.mk (R0.out.below hbl)
   have hc0 : w1.cell? ⟨g, j * 3, none⟩ = some (.string s0) := R1.out.cell 0 (by decide)
   have hc1 : w1.cell? ⟨g, j * 3 + 1, none⟩ = some (.string s1) := R1.out.cell 1 (by decide)
   have hc2 : w1.cell? ⟨g, j * 3 + 2, none⟩ = some (.slice A3 l0.length c3) := R1.out.cell 2 (by decide)
   have hf0 := R1.out.frozen (j * 3)
   have U1 := Aside0.mk (upd_in hu.out (Upd.of_below hbl []) (fun _ hx => by cases hx))
   have R2 := Aside0.mk (block_kind R1.out (mtP kk))
   have U2 := Aside0.mk (upd_in U1.out (upd_cell w1 g (j * 3) (.string (mtP kk))) (fun y hy => by simp at hy; subst hy; exact R1.out.away.2.1))
   clear hbl
   go_wp2_with fail
   refine (markText_any _ _ (by omega)).mono ?_
   rintro e w3 ⟨rfl, hbl3⟩
   have R3 := Aside0.mk (R2.out.below hbl3)
   have hd0 : w3.cell? ⟨g, j * 3, none⟩ = some (.string (mtP kk)) := R3.out.cell 0 (by decide)
   have hd1 : w3.cell? ⟨g, j * 3 + 1, none⟩ = some (.string s1) := R3.out.cell 1 (by decide)
   have hd2 : w3.cell? ⟨g, j * 3 + 2, none⟩ = some (.slice A3 l0.length c3) := R3.out.cell 2 (by decide)
   have hf1 := R3.out.frozen (j * 3 + 1)
   have U3 := Aside0.mk (upd_in U2.out (Upd.of_below hbl3 []) (fun _ hx => by cases hx))
   have R4 := Aside0.mk (block_name R3.out (mtP (kk + 1)))
   have U4 := Aside0.mk (upd_in U3.out (upd_cell w3 g (j * 3 + 1) (.string (mtP (kk + 1)))) (fun y hy => by simp at hy; subst hy; exact R3.out.away.2.1))
   clear hbl3 hc0 hc1 hc2 hf0
   go_wp2_with fail
   obtain ⟨E4, Y4, M4⟩ := block_lines R4.out
   refine (markLines_any (.slice A3 l0.length c3) l0 G b (kk + 1 + 1) _ E4 (by omega) (by omega)).mono ?_
   rintro e w5 ⟨rfl, hE5, hu5⟩
   have R5 := Aside0.mk (M4 w5 _ hE5 hu5)
   have U5 := Aside0.mk (upd_in U4.out hu5 Y4)
   have HR5 : Aside0 (blocksS.ow w5 b [.slice (some ⟨g, 0, none⟩) xs.length c] (half mkBlock cntBlock xs k (j + 1)) F) := ⟨by
    have h5 := R5.out.row
    rw [List.set_set, List.set_set, show kk + 1 + 1 = kk + 2 by omega] at h5
    rw [← HS.out]
    exact h5⟩
   have hkn : Aside0 (kk + 1 + 1 + (cntAll cntLine l0 : Int) = k + (cntAll cntBlock (xs.take (j + 1)) : Int)) := ⟨by rw [HCT.out, ← HKK.out]; show _ = k + ((_ + (2 + cntAll cntLine l0) : Nat) : Int); omega⟩
   clear E4 Y4 M4 hE5 hu5 hd0 hd1 hd2 hf1
   go_wp2_with fail
   go_roundw
   case rel => exact ⟨j + 1, by rw [hkn.out], by go_num, hlt, HR5, U5⟩
   case measure => simp [intOf]; omega
  ·obtain rfl : j = xs.length := by omega
   have hh := half_end mkBlock cntBlock xs k
   have ho2 := ho.out
   rw [hh] at ho2
   have HO2 := Aside0.mk ho2
   clear hh ho2
   have he : xs.take xs.length = xs := List.take_length
   rw [he]
   go_wp2
   go_ret
   exact ⟨rfl, HO2.out, hu.out⟩
end Go.Proofs.YtmcdnpooclelgaaDoor.PAll
namespace Go.Proofs.YtmcdnpooclelgaaDoor
open Go.RowKit Go.Proofs.YtmcdnpooclelgaaDoorW.PrintWords
theorem Els.split {α : Type} {A : Sh α} {w : World} {b : Nat} : ∀ (vss : List (List Value)) (xs : List α) (F : List Nat), Els A w b vss xs F → ∀ (j : Nat) (x : α), xs[j]? = some x → ∃ us F1 G F2, F = F1 ++ (G ++ F2) ∧ Els A w b (vss.take j) (xs.take j) F1 ∧ A.ow w b us x G ∧ Els A w b (vss.drop (j + 1)) (xs.drop (j + 1)) F2 ∧ vss = vss.take j ++ us :: vss.drop (j + 1)
 | [], [], F, h, j, x, hj => by simp at hj
 | vs :: vss, y :: xs, F, h, j, x, hj => by
  obtain ⟨G, H, rfl, h1, h2, h3⟩ := h
  cases j with
  | zero =>
   simp only [List.getElem?_cons_zero, Option.some.injEq] at hj
   subst hj
   exact ⟨vs, [], G, H, rfl, rfl, h1, h2, rfl⟩
  | succ j =>
   rw [List.getElem?_cons_succ] at hj
   obtain ⟨us, F1, G', F2, rfl, e1, e2, e3, e4⟩ := Els.split vss xs H h2 j x hj
   refine ⟨us, G ++ F1, G', F2, by simp, ?_, e2, e3, ?_⟩
   ·exact ⟨G, F1, rfl, h1, e1, fun g hg hg' => h3 g hg (List.mem_append_left _ hg')⟩
   ·rw [List.take_succ_cons, List.drop_succ_cons, List.cons_append, ← e4]
theorem Els.nodup {α : Type} {A : Sh α} {w : World} {b : Nat} {vss : List (List Value)} {xs : List α} {F : List Nat} (h : Els A w b vss xs F) : F.Nodup := (Els.mem _ _ _ h).2.1
theorem Els.lenv {α : Type} {A : Sh α} {w : World} {b : Nat} {vss : List (List Value)} {xs : List α} {F : List Nat} (h : Els A w b vss xs F) : vss.length = xs.length := (Els.mem _ _ _ h).2.2.1
def Foc {α : Type} (A : Sh α) (e : TypeId) (w : World) (b : Nat) (v : Value) (xs1 : List α) (x : α) (xs2 : List α) (g c : Nat) (us : List Value) (F1 G F2 : List Nat) : Prop :=
 ∃ (vs1 vs2 : List (List Value)), v = .slice (some ⟨g, 0, none⟩) (xs1 ++ x :: xs2).length c ∧ w.ownsRow b e A.k v (xs1 ++ x :: xs2).length (vs1 ++ us :: vs2).flatten ∧ Els A w b vs1 xs1 F1 ∧ A.ow w b us x G ∧ Els A w b vs2 xs2 F2 ∧ (g :: (F1 ++ (G ++ F2))).Nodup
section
variable {α : Type} {A : Sh α} {e : TypeId} {w w' : World} {b : Nat} {v : Value} {xs xs1 xs2 : List α} {F F1 F2 : List Nat} {j g c : Nat} {us : List Value} {x x' : α} {G G' : List Nat}
theorem Foc.of (h : (Sh.row A e).ow w b [v] xs F) (hj : xs[j]? = some x) : ∃ g c us F1 G F2, F = g :: (F1 ++ (G ++ F2)) ∧ Foc A e w b v (xs.take j) x (xs.drop (j + 1)) g c us F1 G F2 := by
 have hnd := (Sh.row A e).ond h
 obtain ⟨v', vss, Gs, hv, h1, h2, rfl, h3⟩ := h
 injection hv with hv _
 subst hv
 have hjl := (List.getElem?_eq_some_iff.1 hj).1
 have hx : xs = xs.take j ++ x :: xs.drop (j + 1) := by
  have : xs.drop j = x :: xs.drop (j + 1) := by rw [List.drop_eq_getElem_cons hjl]; congr 1; exact (List.getElem?_eq_some_iff.1 hj).2
  rw [← this, List.take_append_drop]
 rcases ownSl h1 with ⟨rfl, hn⟩ | ⟨g, c, rfl⟩
 ·omega
 ·obtain ⟨us, F1, G, F2, rfl, e1, e2, e3, e4⟩ := Els.split _ _ _ h2 j x hj
  refine ⟨g, c, us, F1, G, F2, by simp [Value.ownBlock], vss.take j, vss.drop (j + 1), by rw [← hx], ?_, e1, e2, e3, by simpa [Value.ownBlock] using hnd⟩
  rw [← hx, ← e4]
  exact h1
theorem Foc.row (h : Foc A e w b v xs1 x xs2 g c us F1 G F2) : (Sh.row A e).ow w b [v] (xs1 ++ x :: xs2) (g :: (F1 ++ (G ++ F2))) := by
 obtain ⟨vs1, vs2, rfl, h1, h2, h3, h4, h5⟩ := h
 have hn := List.nodup_cons.1 h5
 have hn2 := List.nodup_append.1 hn.2
 have hn3 := List.nodup_append.1 hn2.2.1
 refine ⟨_, vs1 ++ us :: vs2, F1 ++ (G ++ F2), rfl, h1, ?_, by simp [Value.ownBlock], fun y hy => by simp [Value.ownBlock] at hy; subst hy; exact hn.1⟩
 exact Els.append _ _ _ h2 ⟨G, F2, rfl, h3, h4, fun y hy hy' => hn3.2.2 y hy y hy' rfl⟩ (fun y hy hy' => hn2.2.2 y hy y hy' rfl)
theorem Foc.ow (h : Foc A e w b v xs1 x xs2 g c us F1 G F2) : A.ow w b us x G := by
 obtain ⟨vs1, vs2, _, _, _, h3, _⟩ := h
 exact h3
theorem Foc.nodup (h : Foc A e w b v xs1 x xs2 g c us F1 G F2) : (g :: (F1 ++ (G ++ F2))).Nodup := by
 obtain ⟨vs1, vs2, _, _, _, _, _, h5⟩ := h
 exact h5
theorem Foc.val (h : Foc A e w b v xs1 x xs2 g c us F1 G F2) : v = .slice (some ⟨g, 0, none⟩) (xs1 ++ x :: xs2).length c := by
 obtain ⟨vs1, vs2, h, _⟩ := h
 exact h
theorem Foc.lt (h : Foc A e w b v xs1 x xs2 g c us F1 G F2) : b ≤ g ∧ g < w.heap.size := by
 obtain ⟨vs1, vs2, rfl, h1, _⟩ := h
 exact ⟨own_base h1 g rfl, own_lt h1 g rfl⟩
theorem Foc.in (h : Foc A e w b v xs1 x xs2 g c us F1 G F2) : ∀ y ∈ g :: (F1 ++ (G ++ F2)), b ≤ y ∧ y < w.heap.size := fun y hy => (Sh.row A e).oin h.row y hy
theorem Foc.frozen (h : Foc A e w b v xs1 x xs2 g c us F1 G F2) (i : Nat) : w.frozen? ⟨g, i, none⟩ = false := by
 obtain ⟨vs1, vs2, rfl, h1, _⟩ := h
 exact World.ownsRow.frozenAt h1 i
theorem Foc.cell (h : Foc A e w b v xs1 x xs2 g c us F1 G F2) (i : Nat) (hi : i < A.k) : w.cell? ⟨g, xs1.length * A.k + i, none⟩ = us[i]? := by
 obtain ⟨vs1, vs2, rfl, h1, h2, h3, h4, _⟩ := h
 have hl1 := h2.lenv
 have hv : (vs1 ++ us :: vs2)[xs1.length]? = some us := by rw [List.getElem?_append_right (by omega), hl1, Nat.sub_self]; rfl
 have hls : ∀ vs ∈ vs1 ++ us :: vs2, vs.length = A.k := by
  intro vs hvs
  rcases List.mem_append.1 hvs with hvs | hvs
  ·exact Els.lens _ _ _ h2 vs hvs
  ·rcases List.mem_cons.1 hvs with rfl | hvs
   ·exact A.olen h3
   ·exact Els.lens _ _ _ h4 vs hvs
 have hb : xs1.length * A.k + i < (xs1 ++ x :: xs2).length * A.k := by
  have : (xs1.length + 1) * A.k ≤ (xs1 ++ x :: xs2).length * A.k := Nat.mul_le_mul_right _ (by simp)
  rw [Nat.add_mul] at this
  omega
 rw [World.ownsRow.cellAt h1 (xs1.length * A.k + i) hb, flat_at _ xs1.length us hls hv i hi]
theorem Foc.below (h : Foc A e w b v xs1 x xs2 g c us F1 G F2) (hb : Below w.heap.size w w') : Foc A e w' b v xs1 x xs2 g c us F1 G F2 := by
 obtain ⟨vs1, vs2, h0, h1, h2, h3, h4, h5⟩ := h
 exact ⟨vs1, vs2, h0, own_move h1 (fun k hk => hb.block k (own_lt h1 k hk)), h2.below hb, A.obelow h3 hb, h4.below hb, h5⟩
theorem Foc.set (h : Foc A e w b v xs1 x xs2 g c us F1 G F2) (i : Nat) (u : Value) (hi : i < A.k) (ho : A.ow w b (us.set i u) x' G') (hn : (g :: (F1 ++ (G' ++ F2))).Nodup) : Foc A e (w.setCell ⟨g, xs1.length * A.k + i, none⟩ u) b v xs1 x' xs2 g c (us.set i u) F1 G' F2 := by
 obtain ⟨vs1, vs2, rfl, h1, h2, h3, h4, _⟩ := h
 have hfar : ∀ y, y ≠ g → (w.setCell ⟨g, xs1.length * A.k + i, none⟩ u).heap[y]? = w.heap[y]? := fun y hy => Below.heap_setCell w ⟨g, xs1.length * A.k + i, none⟩ u y hy
 have hng := (List.nodup_cons.1 hn).1
 have hl1 := h2.lenv
 have hv : (vs1 ++ us :: vs2)[xs1.length]? = some us := by rw [List.getElem?_append_right (by omega), hl1, Nat.sub_self]; rfl
 have hls : ∀ vs ∈ vs1 ++ us :: vs2, vs.length = A.k := by
  intro vs hvs
  rcases List.mem_append.1 hvs with hvs | hvs
  ·exact Els.lens _ _ _ h2 vs hvs
  ·rcases List.mem_cons.1 hvs with rfl | hvs
   ·exact A.olen h3
   ·exact Els.lens _ _ _ h4 vs hvs
 have hset : vs1 ++ (us.set i u) :: vs2 = (vs1 ++ us :: vs2).set xs1.length (us.set i u) := by rw [List.set_append_right _ _ (by omega), hl1, Nat.sub_self, List.set_cons_zero]
 have hlen : (xs1 ++ x' :: xs2).length = (xs1 ++ x :: xs2).length := by simp
 refine ⟨vs1, vs2, by rw [hlen], ?_, h2.frame fun y hy => hfar y (fun e => hng (e ▸ List.mem_append_left _ hy)), A.oframe ho fun y hy => hfar y (fun e => hng (e ▸ List.mem_append_right _ (List.mem_append_left _ hy))), h4.frame fun y hy => hfar y (fun e => hng (e ▸ List.mem_append_right _ (List.mem_append_right _ hy))), hn⟩
 rw [hlen, hset, flat_set _ xs1.length us hls hv i u hi]
 exact (World.ownsRow.stored h1 (xs1.length * A.k + i) u).1
theorem Foc.mov {bs : List Nat} (h : Foc A e w b v xs1 x xs2 g c us F1 G F2) (hu : Upd bs w w') (hbs : ∀ y ∈ bs, y ≠ g ∧ y ∉ F1 ∧ y ∉ F2) (ho : A.ow w' b us x' G') (hn : (g :: (F1 ++ (G' ++ F2))).Nodup) : Foc A e w' b v xs1 x' xs2 g c us F1 G' F2 := by
 obtain ⟨vs1, vs2, rfl, h1, h2, h3, h4, _⟩ := h
 have hlen : (xs1 ++ x' :: xs2).length = (xs1 ++ x :: xs2).length := by simp
 refine ⟨vs1, vs2, by rw [hlen], ?_, h2.frame fun y hy => hu.block y ((Els.mem _ _ _ h2).1 y hy).2 (fun hb => (hbs y hb).2.1 hy), ho, h4.frame fun y hy => hu.block y ((Els.mem _ _ _ h4).1 y hy).2 (fun hb => (hbs y hb).2.2 hy), hn⟩
 rw [hlen]
 exact own_move h1 (fun k hk => hu.block k (own_lt h1 k hk) (fun hb => by simp [Value.ownBlock] at hk; subst hk; exact (hbs _ hb).1 rfl))
end
structure Part (α : Type) where
 us : List Value
 x : α
 G : List Nat
def Parts {α : Type} (A : Sh α) (w : World) (b : Nat) (T : List (Part α)) : Prop := (∀ t ∈ T, A.ow w b t.us t.x t.G) ∧ (T.flatMap Part.G).Nodup
theorem Els.parts {α : Type} {A : Sh α} {w : World} {b : Nat} : ∀ (vss : List (List Value)) (xs : List α) (F : List Nat), Els A w b vss xs F → ∃ T : List (Part α), vss = T.map Part.us ∧ xs = T.map Part.x ∧ F = T.flatMap Part.G ∧ Parts A w b T
 | [], [], F, h => by
  have h : F = [] := h
  subst h
  exact ⟨[], rfl, rfl, rfl, by simp, by simp⟩
 | vs :: vss, x :: xs, F, h => by
  have hnd := h.nodup
  obtain ⟨G, H, rfl, h1, h2, h3⟩ := h
  obtain ⟨T, rfl, rfl, rfl, h4, _⟩ := Els.parts vss xs H h2
  refine ⟨⟨vs, x, G⟩ :: T, rfl, rfl, rfl, fun t ht => ?_, hnd⟩
  rcases List.mem_cons.1 ht with rfl | ht
  ·exact h1
  ·exact h4 t ht
theorem own_at {W : World} {b e k n : Nat} {v v1 : Value} {cs : List Value} (hr : W.ownsRow b e k v n cs) (hb : b ≤ W.heap.size) (hat : v1.ownBlock = v.ownBlock ∨ ∃ k, v1.ownBlock = some k ∧ W.heap.size ≤ k) (g : Nat) (hg : v1.ownBlock = some g) : b ≤ g := by
 rcases hat with hat | ⟨k, hat, hk⟩
 ·exact own_base hr g (by rw [← hat, hg])
 ·rw [hg] at hat
  injection hat with hat
  omega
section
variable {P : Program} {ops : Array Oper} {rest : List Oper} {o : Oper} {a : Act} {Q : Exit → Act → World → Prop} {K : Act → World → Prop} {α : Type} {A : Sh α}
theorem row_grown {e : TypeId} {W w1 : World} {b : Nat} {v v1 : Value} {xs : List α} {F G : List Nat} {us : List Value} {x : α} {vss : List (List Value)} {Gs : List Nat}
  (h2 : Els A W b vss xs Gs) (hF : F = v.ownBlock.toList ++ Gs) (h3 : ∀ g ∈ v.ownBlock.toList, g ∉ Gs) (hx : A.ow W b us x G) (hd : ∀ g ∈ G, g ∉ F)
  (hown : w1.ownsRow b e A.k v1 (xs.length + 1) (vss.flatten ++ us)) (hg : W.grownBy w1 v.ownBlock) (hat : v1.ownBlock = v.ownBlock ∨ ∃ k, v1.ownBlock = some k ∧ W.heap.size ≤ k) :
  ∃ F1, (Sh.row A e).ow w1 b [v1] (xs ++ [x]) F1 ∧ (∀ g ∈ F1, g ∈ F ∨ g ∈ G ∨ W.heap.size ≤ g) ∧ (∀ g ∈ F, g ∉ F1 → v.ownBlock = some g) := by
 subst hF
 have hk : ∀ y, y ∈ Gs ∨ y ∈ G → w1.heap[y]? = W.heap[y]? := by
  intro y hy
  refine hg.block y ?_ ?_
  ·rcases hy with hy | hy
   ·exact ((Els.mem _ _ _ h2).1 y hy).2
   ·exact (A.oin hx y hy).2
  ·intro he
   rcases hy with hy | hy
   ·exact h3 y (by rw [← he]; simp) hy
   ·exact hd y hy (List.mem_append_left _ (by rw [← he]; simp))
 have hE : Els A w1 b (vss ++ [us]) (xs ++ [x]) (Gs ++ G) :=
  Els.append _ _ _ (h2.frame fun y hy => hk y (.inl hy)) ⟨G, [], by simp, A.oframe hx fun y hy => hk y (.inr hy), rfl, by simp⟩ (fun y hy hy' => hd y hy' (List.mem_append_right _ hy))
 refine ⟨v1.ownBlock.toList ++ (Gs ++ G), ⟨v1, vss ++ [us], Gs ++ G, rfl, by simpa using hown, hE, rfl, fun y hy hy' => ?_⟩, fun y hy => ?_, fun y hy hn => ?_⟩
 ·have hy : v1.ownBlock = some y := by simpa using hy
  rcases hat with hat | ⟨k, hat, hk'⟩
  ·have hv : v.ownBlock = some y := by rw [← hat, hy]
   rcases List.mem_append.1 hy' with hy' | hy'
   ·exact h3 y (by rw [hv]; simp) hy'
   ·exact hd y hy' (List.mem_append_left _ (by rw [hv]; simp))
  ·rw [hy] at hat
   injection hat with hat
   subst hat
   rcases List.mem_append.1 hy' with hy' | hy'
   ·have := ((Els.mem _ _ _ h2).1 y hy').2; omega
   ·have := (A.oin hx y hy').2; omega
 ·rcases List.mem_append.1 hy with hy | hy
  ·have hy : v1.ownBlock = some y := by simpa using hy
   rcases hat with hat | ⟨k, hat, hk'⟩
   ·exact .inl (List.mem_append_left _ (by rw [← hat, hy]; simp))
   ·rw [hy] at hat
    injection hat with hat
    subst hat
    exact .inr (.inr hk')
  ·rcases List.mem_append.1 hy with hy | hy
   ·exact .inl (List.mem_append_right _ hy)
   ·exact .inr (.inl hy)
 ·rcases List.mem_append.1 hy with hy | hy
  ·simpa using hy
  ·exact absurd (List.mem_append_right _ (List.mem_append_left _ hy)) hn
theorem Sh.app {w0 W : World} {base b : Nat} {e : TypeId} {v : Value} {xs : List α} {F G : List Nat} {us : List Value} {x : α} (z : Value) (bytes : Nat) (s y : Operand) (t : TypeId)
  (HO : (Sh.row A e).ow W b [v] xs F) (hx : A.ow W b us x G) (hd : ∀ g ∈ G, g ∉ F) (HB : Below base w0 W) (hbb : base ≤ b) (hl : (xs.length + 1) * bytes ≤ 140737488355328)
  (hgd : o.guard = none)
  (ho : o.op = .call { callee := .builtin .append, args := #[s, y], argTypes := #[t, t] })
  (ht : P.underlying t = some (.slice e)) (hinfo : (P.info? e).map (fun i => (i.zero, i.size, i.bytes)) = some (some z, A.k, bytes)) (hz : z.cells.size = A.k) (hk0 : 0 < A.k) (hb0 : 0 < bytes)
  (hbase : b ≤ W.heap.size) (hs : a.eval s = v) (hy : a.eval y = .slice (some ⟨W.heap.size, 0, none⟩) 1 1) (h1 : ∀ u ∈ us, u.oneCell' = true)
  (h : ∀ v1 w1 F1, Aside0 ((Sh.row A e).ow w1 b [v1] (xs ++ [x]) F1) → Aside0 (Below base w0 w1) → Aside0 (∀ g ∈ F1, g ∈ F ∨ g ∈ G ∨ W.heap.size ≤ g) → Aside0 (W.grownBy w1 v.ownBlock) → wpList P ops Q rest (a.put o.dst v1) w1) :
  wpList P ops Q (o :: rest) a (W.alloc (.cells us.toArray e)) := by
 obtain ⟨v', vss, Gs, hv, hr, h2, hF, h3⟩ := HO
 injection hv with hv _
 subst hv
 refine ap_lit (w0 := w0) base hgd s y t e z A.k bytes ho ht hinfo hz hk0 hb0 v xs.length 1 vss.flatten us hs hy (by rw [A.olen hx, Nat.one_mul]) h1 (own_weaken hr hbb) HB (by omega) hl ?_
 intro v1 w1 q1 q2 q3 q4
 obtain ⟨F1, r1, r2, _⟩ := row_grown h2 hF h3 hx hd (own_raise q1 fun g hg => own_at hr hbase q4 g (by simpa using hg)) q3 q4
 exact h v1 w1 F1 ⟨r1⟩ ⟨q2⟩ ⟨r2⟩ ⟨q3⟩
theorem Sh.app_step {w0 W : World} {base b : Nat} {e : TypeId} {v : Value} {xs : List α} {F G : List Nat} {us : List Value} {x : α} (z : Value) (bytes : Nat) (s y : Operand) (t : TypeId)
  (HO : (Sh.row A e).ow W b [v] xs F) (hx : A.ow W b us x G) (hd : ∀ g ∈ G, g ∉ F) (HB : Below base w0 W) (hbb : base ≤ b) (hl : (xs.length + 1) * bytes ≤ 140737488355328)
  (hw : Region.wanted o (yielded ops a.tmps) = true)
  (ho : o.op = .call { callee := .builtin .append, args := #[s, y], argTypes := #[t, t] })
  (ht : P.underlying t = some (.slice e)) (hinfo : (P.info? e).map (fun i => (i.zero, i.size, i.bytes)) = some (some z, A.k, bytes)) (hz : z.cells.size = A.k) (hk0 : 0 < A.k) (hb0 : 0 < bytes)
  (hbase : b ≤ W.heap.size) (hs : a.eval s = v) (hy : a.eval y = .slice (some ⟨W.heap.size, 0, none⟩) 1 1) (h1 : ∀ u ∈ us, u.oneCell' = true)
  (h : ∀ v1 w1 F1, Aside0 ((Sh.row A e).ow w1 b [v1] (xs ++ [x]) F1) → Aside0 (Below base w0 w1) → Aside0 (∀ g ∈ F1, g ∈ F ∨ g ∈ G ∨ W.heap.size ≤ g) → Aside0 (W.grownBy w1 v.ownBlock) → K (a.put o.dst v1) w1) :
  if Region.wanted o (yielded ops a.tmps) = true then Oper.wp P o a (W.alloc (.cells us.toArray e)) K Q else K (a.put o.dst undef) (W.alloc (.cells us.toArray e)) := by
 obtain ⟨v', vss, Gs, hv, hr, h2, hF, h3⟩ := HO
 injection hv with hv _
 subst hv
 refine ap_lit_step (w0 := w0) base hw s y t e z A.k bytes ho ht hinfo hz hk0 hb0 v xs.length 1 vss.flatten us hs hy (by rw [A.olen hx, Nat.one_mul]) h1 (own_weaken hr hbb) HB (by omega) hl ?_
 intro v1 w1 q1 q2 q3 q4
 obtain ⟨F1, r1, r2, _⟩ := row_grown h2 hF h3 hx hd (own_raise q1 fun g hg => own_at hr hbase q4 g (by simpa using hg)) q3 q4
 exact h v1 w1 F1 ⟨r1⟩ ⟨q2⟩ ⟨r2⟩ ⟨q3⟩
end
end Go.Proofs.YtmcdnpooclelgaaDoor
namespace Go.Proofs.YtmcdnpooclelgaaDoor.PAll
open Go.RowKit Go.Proofs.YtmcdnpooclelgaaDoorW.PrintWords
def Half {α : Type} (A : Sh α) (e : TypeId) (z : List Value) (w : World) (b : Nat) (v : Value) (n : Nat) (xs : List α) (Gs : List Nat) : Prop :=
 ∃ vss : List (List Value), xs.length ≤ n ∧ w.ownsRow b e A.k v n (vss.flatten ++ (List.replicate (n - xs.length) z).flatten) ∧ Els A w b vss xs Gs ∧ ∀ g ∈ v.ownBlock.toList, g ∉ Gs
theorem Half.done {α : Type} {A : Sh α} {e : TypeId} {z : List Value} {w : World} {b : Nat} {v : Value} {xs : List α} {Gs : List Nat} (h : Half A e z w b v xs.length xs Gs) : (Sh.row A e).ow w b [v] xs (v.ownBlock.toList ++ Gs) := by
 obtain ⟨vss, _, h1, h2, h3⟩ := h
 rw [Nat.sub_self] at h1
 exact ⟨v, vss, Gs, rfl, by simpa using h1, h2, rfl, h3⟩
theorem Half.below {α : Type} {A : Sh α} {e : TypeId} {z : List Value} {w w' : World} {b n : Nat} {v : Value} {xs : List α} {Gs : List Nat} (h : Half A e z w b v n xs Gs) (hb : Below w.heap.size w w') : Half A e z w' b v n xs Gs := by
 obtain ⟨vss, h0, h1, h2, h3⟩ := h
 exact ⟨vss, h0, own_move h1 (fun k hk => hb.block k (own_lt h1 k hk)), h2.below hb, h3⟩
theorem Half.cell {α : Type} {A : Sh α} {e : TypeId} {z : List Value} {w : World} {b g c n : Nat} {xs : List α} {Gs : List Nat} (h : Half A e z w b (.slice (some ⟨g, 0, none⟩) n c) n xs Gs) (hz : z.length = A.k) (hlt : xs.length < n) (i : Nat) (hi : i < A.k) : w.cell? ⟨g, xs.length * A.k + i, none⟩ = z[i]? ∧ w.frozen? ⟨g, xs.length * A.k + i, none⟩ = false := by
 obtain ⟨vss, h0, h1, h2, h3⟩ := h
 have hf : vss.flatten.length = xs.length * A.k := (Els.mem _ _ _ h2).2.2.2
 have hb : xs.length * A.k + i < n * A.k := by
  have : (xs.length + 1) * A.k ≤ n * A.k := Nat.mul_le_mul_right _ hlt
  rw [Nat.add_mul] at this
  omega
 refine ⟨?_, World.ownsRow.frozenAt h1 _⟩
 rw [World.ownsRow.cellAt h1 (xs.length * A.k + i) hb, List.getElem?_append_right (by omega), hf, Nat.add_sub_cancel_left]
 obtain ⟨m, hm⟩ : ∃ m, n - xs.length = m + 1 := ⟨n - xs.length - 1, by omega⟩
 rw [hm, List.replicate_succ, List.flatten_cons, List.getElem?_append_left (by omega)]
theorem set2 {P R : List Value} {z0 z1 u0 u1 : Value} : ((P ++ (z0 :: z1 :: R)).set P.length u0).set (P.length + 1) u1 = P ++ (u0 :: u1 :: R) := by
 rw [List.set_append_right _ _ (Nat.le_refl _), Nat.sub_self, List.set_cons_zero, List.set_append_right _ _ (by omega), Nat.add_sub_cancel_left, List.set_cons_succ, List.set_cons_zero]
theorem set3 {P R : List Value} {z0 z1 z2 u0 u1 u2 : Value} : (((P ++ (z0 :: z1 :: z2 :: R)).set P.length u0).set (P.length + 1) u1).set (P.length + 2) u2 = P ++ (u0 :: u1 :: u2 :: R) := by
 rw [List.set_append_right _ _ (Nat.le_refl _), Nat.sub_self, List.set_cons_zero, List.set_append_right _ _ (by omega), Nat.add_sub_cancel_left, List.set_cons_succ, List.set_cons_zero, List.set_append_right _ _ (by omega), Nat.add_sub_cancel_left, List.set_cons_succ, List.set_cons_succ, List.set_cons_zero]
section
variable {α : Type} {A : Sh α} {e : TypeId} {w : World} {b g c n : Nat} {xs : List α} {Gs G : List Nat} {x : α} {z0 z1 z2 u0 u1 u2 : Value}
theorem Half.step2 (h : Half A e [z0, z1] w b (.slice (some ⟨g, 0, none⟩) n c) n xs Gs) (hk : A.k = 2) (hlt : xs.length < n) (hx : A.ow w b [u0, u1] x G) (hd : ∀ y ∈ G, y ≠ g ∧ y ∉ Gs) :
  Half A e [z0, z1] ((w.setCell ⟨g, xs.length * 2, none⟩ u0).setCell ⟨g, xs.length * 2 + 1, none⟩ u1) b (.slice (some ⟨g, 0, none⟩) n c) n (xs ++ [x]) (Gs ++ G) := by
 obtain ⟨vss, h0, h1, h2, h3⟩ := h
 have hf : vss.flatten.length = xs.length * 2 := by rw [(Els.mem _ _ _ h2).2.2.2, hk]
 have hfar : ∀ y, y ≠ g → ((w.setCell ⟨g, xs.length * 2, none⟩ u0).setCell ⟨g, xs.length * 2 + 1, none⟩ u1).heap[y]? = w.heap[y]? := fun y hy => (Below.heap_setCell _ ⟨g, xs.length * 2 + 1, none⟩ u1 y hy).trans (Below.heap_setCell w ⟨g, xs.length * 2, none⟩ u0 y hy)
 obtain ⟨m, hm⟩ : ∃ m, n - xs.length = m + 1 := ⟨n - xs.length - 1, by omega⟩
 have hgs : g ∉ Gs := h3 g (by simp [Value.ownBlock])
 refine ⟨vss ++ [[u0, u1]], by simp; omega, ?_, ?_, fun y hy hy' => ?_⟩
 ·have h4 := (World.ownsRow.stored (World.ownsRow.stored h1 (xs.length * 2) u0).1 (xs.length * 2 + 1) u1).1
  rw [hm, List.replicate_succ, List.flatten_cons] at h4
  rw [← hf] at h4 ⊢
  rw [show ([z0, z1] ++ (List.replicate m [z0, z1]).flatten) = z0 :: z1 :: (List.replicate m [z0, z1]).flatten from rfl, set2] at h4
  rw [show n - (xs ++ [x]).length = m by simp; omega]
  simpa using h4
 ·exact Els.append _ _ _ (h2.frame fun y hy => hfar y (fun e => hgs (e ▸ hy))) ⟨G, [], by simp, A.oframe hx (fun y hy => hfar y (hd y hy).1), rfl, by simp⟩ (fun y hy hy' => (hd y hy').2 hy)
 ·rcases List.mem_append.1 hy' with hy' | hy'
  ·exact h3 y hy hy'
  ·simp [Value.ownBlock] at hy; exact (hd y hy').1 hy
theorem Half.step3 (h : Half A e [z0, z1, z2] w b (.slice (some ⟨g, 0, none⟩) n c) n xs Gs) (hk : A.k = 3) (hlt : xs.length < n) (hx : A.ow w b [u0, u1, u2] x G) (hd : ∀ y ∈ G, y ≠ g ∧ y ∉ Gs) :
  Half A e [z0, z1, z2] (((w.setCell ⟨g, xs.length * 3, none⟩ u0).setCell ⟨g, xs.length * 3 + 1, none⟩ u1).setCell ⟨g, xs.length * 3 + 2, none⟩ u2) b (.slice (some ⟨g, 0, none⟩) n c) n (xs ++ [x]) (Gs ++ G) := by
 obtain ⟨vss, h0, h1, h2, h3⟩ := h
 have hf : vss.flatten.length = xs.length * 3 := by rw [(Els.mem _ _ _ h2).2.2.2, hk]
 have hfar : ∀ y, y ≠ g → (((w.setCell ⟨g, xs.length * 3, none⟩ u0).setCell ⟨g, xs.length * 3 + 1, none⟩ u1).setCell ⟨g, xs.length * 3 + 2, none⟩ u2).heap[y]? = w.heap[y]? := fun y hy => (Below.heap_setCell _ ⟨g, xs.length * 3 + 2, none⟩ u2 y hy).trans ((Below.heap_setCell _ ⟨g, xs.length * 3 + 1, none⟩ u1 y hy).trans (Below.heap_setCell w ⟨g, xs.length * 3, none⟩ u0 y hy))
 obtain ⟨m, hm⟩ : ∃ m, n - xs.length = m + 1 := ⟨n - xs.length - 1, by omega⟩
 have hgs : g ∉ Gs := h3 g (by simp [Value.ownBlock])
 refine ⟨vss ++ [[u0, u1, u2]], by simp; omega, ?_, ?_, fun y hy hy' => ?_⟩
 ·have h4 := (World.ownsRow.stored (World.ownsRow.stored (World.ownsRow.stored h1 (xs.length * 3) u0).1 (xs.length * 3 + 1) u1).1 (xs.length * 3 + 2) u2).1
  rw [hm, List.replicate_succ, List.flatten_cons] at h4
  rw [← hf] at h4 ⊢
  rw [show ([z0, z1, z2] ++ (List.replicate m [z0, z1, z2]).flatten) = z0 :: z1 :: z2 :: (List.replicate m [z0, z1, z2]).flatten from rfl, set3] at h4
  rw [show n - (xs ++ [x]).length = m by simp; omega]
  simpa using h4
 ·exact Els.append _ _ _ (h2.frame fun y hy => hfar y (fun e => hgs (e ▸ hy))) ⟨G, [], by simp, A.oframe hx (fun y hy => hfar y (hd y hy).1), rfl, by simp⟩ (fun y hy hy' => (hd y hy').2 hy)
 ·rcases List.mem_append.1 hy' with hy' | hy'
  ·exact h3 y hy hy'
  ·simp [Value.ownBlock] at hy; exact (hd y hy').1 hy
end
theorem made_flat (z : Array Value) (n : Nat) (hk : 0 < z.size) : (madeCells z (n * z.size)).toList = (List.replicate n z.toList).flatten := by
 apply List.ext_getElem?
 intro m
 by_cases hm : m < n * z.size
 ·have e : m = (m / z.size) * z.size + m % z.size := (Nat.div_add_mod' m z.size).symm
  have hd : m / z.size < n := Nat.div_lt_of_lt_mul (by rw [Nat.mul_comm]; exact hm)
  have h2 := flat_at (k := z.size) (List.replicate n z.toList) (m / z.size) z.toList (by intro vs hvs; rw [List.eq_of_mem_replicate hvs]; simp) (by rw [List.getElem?_replicate, if_pos hd]) (m % z.size) (Nat.mod_lt _ hk)
  rw [← e] at h2
  rw [h2]
  have h3 := Nat.mod_lt m hk
  unfold madeCells
  simp [hm, h3]
 ·rw [List.getElem?_eq_none (by rw [Array.length_toList, size_madeCells]; omega), List.getElem?_eq_none (by simp; omega)]
theorem toStrs_any (ss : List ByteArray) (hn : ss.length ≤ 1048576) (A : Option Addr) (c : Nat) (w : World) (hr : Kd.C Kd.string w A ss.length ss) (hc : ss.length ≤ c) :
  Calls Tryd.prog 20 #[.slice A ss.length c] w fun e w' => ∃ v G, e = .returned v ∧ strsS.ow w' w.heap.size [v] ss G ∧ Below w.heap.size w w' := by
 obtain ⟨k, hk⟩ := (ev_toStringS ss (by omega)).rounds
 refine (laws_toStringS.calls k A c ss ss w hr hc hk).mono ?_
 rintro e w' ⟨v, rfl, hR, hb⟩
 exact ⟨v, _, rfl, strs_ER.2 ⟨Kd.own_of_R hR, rfl⟩, hb⟩
theorem far3 {w : World} {a b c : Addr} {u v x : Value} {g : Nat} (h1 : g ≠ a.block) (h2 : g ≠ b.block) (h3 : g ≠ c.block) : (((w.setCell a u).setCell b v).setCell c x).heap[g]? = w.heap[g]? :=
 (Below.heap_setCell _ c x g h3).trans ((Below.heap_setCell _ b v g h2).trans (Below.heap_setCell _ a u g h1))
set_option maxRecDepth 100000 in
set_option maxHeartbeats 2000000 in
theorem toLine_any (l : S155) (h : LF l) (A : Option Addr) (c : Nat) (w : World) (hr : Kd.C Kd.string w A l.f1.length l.f1) (hc : l.f1.length ≤ c) :
  Calls Tryd.prog 152 #[.agg #[.string l.f0, .slice A l.f1.length c]] w fun e w' => ∃ dv G, e = .returned (.agg #[.string l.f0, dv]) ∧ strsS.ow w' w.heap.size [dv] l.f1 G ∧ Below w.heap.size w w' := by
 have HR := Aside0.mk hr
 have HL := Aside0.mk h
 clear hr h
 go_enter Tryd.func152, Tryd.ntmps152
 go_wp2_with fail
 have b1 := blk_alloc (blk_new (w.alloc (.cells #[.string l.f0, .slice A l.f1.length c] 155)) (.cells #[.string ⟨#[]⟩, .slice none 0 0] 83)) (.cells #[.string l.f0, .slice none 0 0] 83)
 have b2 := blk_new ((w.alloc (.cells #[.string l.f0, .slice A l.f1.length c] 155)).alloc (.cells #[.string ⟨#[]⟩, .slice none 0 0] 83)) (.cells #[.string l.f0, .slice none 0 0] 83)
 have hB : Below w.heap.size w (((w.alloc (.cells #[.string l.f0, .slice A l.f1.length c] 155)).alloc (.cells #[.string ⟨#[]⟩, .slice none 0 0] 83)).alloc (.cells #[.string l.f0, .slice none 0 0] 83)) := (((Below.refl _ _).alloc (Nat.le_refl _) _).alloc (by simp) _).alloc (by simp; omega) _
 have hs : (((w.alloc (.cells #[.string l.f0, .slice A l.f1.length c] 155)).alloc (.cells #[.string ⟨#[]⟩, .slice none 0 0] 83)).alloc (.cells #[.string l.f0, .slice none 0 0] 83)).heap.size = w.heap.size + 1 + 1 + 1 := by simp
 rw [show (w.alloc (.cells #[.string l.f0, .slice A l.f1.length c] 155)).heap.size = w.heap.size + 1 by simp] at b1
 rw [show ((w.alloc (.cells #[.string l.f0, .slice A l.f1.length c] 155)).alloc (.cells #[.string ⟨#[]⟩, .slice none 0 0] 83)).heap.size = w.heap.size + 1 + 1 by simp] at b2
 generalize ((w.alloc (.cells #[.string l.f0, .slice A l.f1.length c] 155)).alloc (.cells #[.string ⟨#[]⟩, .slice none 0 0] 83)).alloc (.cells #[.string l.f0, .slice none 0 0] 83) = W3 at *
 refine (toStrs_any l.f1 HL.out.2.1 A c W3 (Kd.C_below HR.out hB) hc).mono ?_
 rintro e w4 ⟨dv, G, rfl, ho, hb⟩
 obtain ⟨D, d, rfl⟩ := own_form ho
 have HO := Aside0.mk ho
 have k1 := blk_below b1 hb
 have k2 := blk_below b2 hb
 have K1 := Aside0.mk k1
 have c10 := (blk_cell k1 0).trans rfl
 have c11 := (blk_cell k1 1).trans rfl
 have c20 := (blk_cell k2 0).trans rfl
 have c21 := (blk_cell k2 1).trans rfl
 have f10 := blk_frozen k1 0
 have f11 := blk_frozen k1 1
 have f21 := blk_frozen k2 1
 have hB4 : Aside0 (Below w.heap.size w w4) := ⟨hB.trans (hb.mono (by omega))⟩
 clear b1 b2 hB hb ho k1 k2
 go_wp2_with fail
 refine bodyPost_ret (results_cell_row rfl _ _ (w.heap.size + 1) 83 #[.string l.f0, .slice D l.f1.length d] (0, 0) _ rfl ?blk Tryd.underlying83 rfl (by kernel_rfl)) rfl ⟨_, G, rfl, ?ow, ?bel⟩
 case blk =>
  refine blk_put (cs := #[.string l.f0, .slice none 0 0]) ?_ 1 _ rfl
  refine blk_put (cs := #[.string ⟨#[]⟩, .slice none 0 0]) ?_ 0 _ rfl
  refine blk_far ?_ (show w.heap.size + 1 ≠ w.heap.size + 1 + 1 by omega) _
  exact K1.out
 case ow =>
  refine strsS.olow (strsS.oframe HO.out fun g hg => ?_) (show w.heap.size ≤ W3.heap.size by omega)
  have hgb := (strsS.oin HO.out g hg).1
  exact far3 (show g ≠ w.heap.size + 1 + 1 by omega) (show g ≠ w.heap.size + 1 by omega) (show g ≠ w.heap.size + 1 by omega)
 case bel => exact ((hB4.out.setCell (p := ⟨w.heap.size + 1 + 1, 1, none⟩) (show w.heap.size ≤ w.heap.size + 1 + 1 by omega) _).setCell (p := ⟨w.heap.size + 1, 0, none⟩) (show w.heap.size ≤ w.heap.size + 1 by omega) _).setCell (p := ⟨w.heap.size + 1, 1, none⟩) (show w.heap.size ≤ w.heap.size + 1 by omega) _
set_option maxRecDepth 100000 in
set_option maxHeartbeats 2000000 in
theorem toLines_any (ls : List S155) (h : LFs ls) (A : Option Addr) (c : Nat) (w : World) (hr : Kd.C k155 w A ls.length ls) :
  Calls Tryd.prog 138 #[.slice A ls.length c] w fun e w' => ∃ v G, e = .returned v ∧ linesS.ow w' w.heap.size [v] (ls.map cvL) G ∧ Below w.heap.size w w' := by
 have HR := Aside0.mk hr
 have HL := Aside0.mk h
 have hlen : ls.length ≤ 1048576 := h.1
 clear hr h
 obtain ⟨i0, hi, hz0, hz1, hz2⟩ := info_parts (show (Tryd.prog.info? 83).map (fun i => (i.zero, i.size, i.bytes)) = some (some (.agg #[.string ⟨#[]⟩, .slice none 0 0]), 2, 40) by kernel_rfl)
 go_enter Tryd.func138, Tryd.ntmps138
 go_wp2_with (at_make; refine wpList_make_full _ rfl _ _ 52 rfl w.heap.size 83 i0 _ 2 Tryd.underlying52 hi hz0 hz1 .i64 .i64 ls.length ls.length ls.length rfl rfl rfl rfl ?b2 ?b3 (Nat.le_refl _) ?_)
 case b2 => rw [hz2]; omega
 case b3 => unfold maxLen; omega
 intro w1 hown hg
 have hz := made_flat #[.string ⟨#[]⟩, .slice none 0 0] ls.length (by decide)
 have hH : Aside0 (∃ Gs, Half lineS 83 [.string ⟨#[]⟩, .slice none 0 0] w1 w.heap.size (.slice (some ⟨w.heap.size, 0, none⟩) ls.length ls.length) ls.length ((ls.take 0).map cvL) Gs) :=
  ⟨[], [], by simp, by have h2 := hown; rw [show ls.length * 2 = ls.length * (#[Value.string ⟨#[]⟩, .slice none 0 0] : Array Value).size from rfl] at h2; change w1.ownsRow _ _ _ _ _ (madeCells #[.string ⟨#[]⟩, .slice none 0 0] _).toList at h2; rw [hz] at h2; have h3 : w1.ownsRow w.heap.size 83 lineS.k (.slice (some ⟨w.heap.size, 0, none⟩) ls.length ls.length) ls.length (List.replicate ls.length [Value.string ⟨#[]⟩, .slice none 0 0]).flatten := h2; simpa using h3, rfl, by simp⟩
 have hB1 : Below w.heap.size w w1 := (Below.refl _ _).grown hg (Nat.le_refl _) (fun k hk => by cases hk)
 have hs1 : w.heap.size < w1.heap.size := own_lt hown _ rfl
 clear hown hg hz hi hz0 hz1 hz2
 go_wp2_with fail
 go_loopw [4] (fun v wr => ∃ j : Nat, v = .int .i64 j ∧ j ≤ ls.length ∧ Below w.heap.size w wr ∧ w.heap.size < wr.heap.size ∧ Aside0 (∃ Gs, Half lineS 83 [.string ⟨#[]⟩, .slice none 0 0] wr w.heap.size (.slice (some ⟨w.heap.size, 0, none⟩) ls.length ls.length) ls.length ((ls.take j).map cvL) Gs)) (fun v _ => ls.length - (intOf v).toNat)
 case atStart => exact ⟨0, rfl, Nat.zero_le _, hB1, hs1, hH⟩
 case round =>
  clear hH hB1 hs1
  obtain ⟨j, rfl, hj, hB, hs, hH⟩ := hrel
  by_cases hlt : j < ls.length
  ·obtain ⟨ad, A1, c1, rfl, hx0, hx1, hl1, hC1⟩ := at_T155 (Kd.C_below HR.out hB) (j : Int) (by omega) (by omega)
   rw [rdLl hlt, Int.toNat_natCast] at hx0 hx1
   rw [rdLl hlt] at hl1 hC1
   have hL := HL.out.2 _ (List.getElem_mem hlt)
   have hnx : (ls.take (j + 1)).map cvL = (ls.take j).map cvL ++ [cvL ls[j]] := by rw [List.take_add_one, List.getElem?_eq_getElem hlt, List.map_append]; rfl
   have hjl : ((ls.take j).map cvL).length = j := by rw [List.length_map, List.length_take]; omega
   generalize ls[j] = l at *
   obtain ⟨f0, f1⟩ := l
   have HNX := Aside0.mk hnx
   have HJL := Aside0.mk hjl
   have HL1 := Aside0.mk hL
   have HC1 := Aside0.mk hC1
   clear hnx hjl hL hC1
   have i1 : (j : Int) < (ls.length : Int) := by omega
   go_wp2_with fail
   refine (toLine_any ⟨f0, f1⟩ HL1.out A1 c1 _ HC1.out hl1).mono ?_
   rintro e w2 ⟨dv, G, rfl, ho, hb⟩
   obtain ⟨D, d, rfl⟩ := own_form ho
   obtain ⟨Gs, hGs⟩ := hH.out
   have hG2 := hGs.below hb
   have q0 := hG2.cell rfl (by rw [HJL.out]; exact hlt) 0 (by decide)
   have q1 := hG2.cell rfl (by rw [HJL.out]; exact hlt) 1 (by decide)
   rw [HJL.out] at q0 q1
   obtain ⟨q00, q01⟩ := q0
   obtain ⟨q10, q11⟩ := q1
   have q00 : w2.cell? ⟨w.heap.size, j * 2, none⟩ = some (.string ⟨#[]⟩) := q00
   have q01 : w2.frozen? ⟨w.heap.size, j * 2, none⟩ = false := q01
   have q10 : w2.cell? ⟨w.heap.size, j * 2 + 1, none⟩ = some (.slice none 0 0) := q10
   have q11 : w2.frozen? ⟨w.heap.size, j * 2 + 1, none⟩ = false := q11
   have hst := Aside0.mk (hG2.step2 (x := cvL ⟨f0, f1⟩) rfl (by rw [HJL.out]; exact hlt) (line_ow (key := f0) (strsS.olow ho hB.size)) (fun y hy => ⟨by have := (strsS.oin ho y hy).1; omega, fun hy' => by
    have h1 := (strsS.oin ho y hy).1
    obtain ⟨vss, _, _, h2, _⟩ := hGs
    have := ((Els.mem _ _ _ h2).1 y hy').2
    omega⟩))
   have hB2 : Below w.heap.size w w2 := hB.trans (hb.mono hB.size)
   have hs2 : w.heap.size < w2.heap.size := by have := hb.size; omega
   clear hb ho hG2 hGs hx0 hx1 hB hs hH
   go_wp2_with fail
   go_roundw
   case rel => exact ⟨j + 1, by go_num, hlt, (hB2.setCell (p := ⟨w.heap.size, j * 2, none⟩) (Nat.le_refl _) _).setCell (p := ⟨w.heap.size, j * 2 + 1, none⟩) (Nat.le_refl _) _, by simpa using hs2, ⟨_, by rw [HNX.out]; have := hst.out; rw [HJL.out] at this; exact this⟩⟩
   case measure => simp [intOf]; omega
  ·obtain rfl : j = ls.length := by omega
   obtain ⟨Gs, hGs⟩ := hH.out
   rw [List.take_length] at hGs
   have hd : Aside0 (linesS.ow wr w.heap.size [.slice (some ⟨w.heap.size, 0, none⟩) ls.length ls.length] (ls.map cvL) ((Value.slice (some ⟨w.heap.size, 0, none⟩) ls.length ls.length).ownBlock.toList ++ Gs)) := ⟨Half.done (by rw [List.length_map]; exact hGs)⟩
   clear hGs hH
   go_wp2
   go_ret
   exact ⟨_, _, rfl, hd.out, hB⟩
theorem far4 {w : World} {a b c d : Addr} {u v x y : Value} {g : Nat} (h1 : g ≠ a.block) (h2 : g ≠ b.block) (h3 : g ≠ c.block) (h4 : g ≠ d.block) : ((((w.setCell a u).setCell b v).setCell c x).setCell d y).heap[g]? = w.heap[g]? :=
 (Below.heap_setCell _ d y g h4).trans (far3 h1 h2 h3)
set_option maxRecDepth 100000 in
set_option maxHeartbeats 2000000 in
theorem toBlock_any (b : S128) (h : KF b) (A : Option Addr) (c : Nat) (w : World) (hr : Kd.C k155 w A b.f2.length b.f2) :
  Calls Tryd.prog 115 #[.agg #[.string b.f0, .string b.f1, .slice A b.f2.length c]] w fun e w' => ∃ lv G, e = .returned (.agg #[.string b.f0, .string b.f1, lv]) ∧ linesS.ow w' w.heap.size [lv] (b.f2.map cvL) G ∧ Below w.heap.size w w' := by
 have HR := Aside0.mk hr
 have HL := Aside0.mk h
 clear hr h
 go_enter Tryd.func115, Tryd.ntmps115
 go_wp2_with fail
 have b1 := blk_alloc (blk_new (w.alloc (.cells #[.string b.f0, .string b.f1, .slice A b.f2.length c] 128)) (.cells #[.string ⟨#[]⟩, .string ⟨#[]⟩, .slice none 0 0] 62)) (.cells #[.string b.f0, .string b.f1, .slice none 0 0] 62)
 have b2 := blk_new ((w.alloc (.cells #[.string b.f0, .string b.f1, .slice A b.f2.length c] 128)).alloc (.cells #[.string ⟨#[]⟩, .string ⟨#[]⟩, .slice none 0 0] 62)) (.cells #[.string b.f0, .string b.f1, .slice none 0 0] 62)
 have hB : Below w.heap.size w (((w.alloc (.cells #[.string b.f0, .string b.f1, .slice A b.f2.length c] 128)).alloc (.cells #[.string ⟨#[]⟩, .string ⟨#[]⟩, .slice none 0 0] 62)).alloc (.cells #[.string b.f0, .string b.f1, .slice none 0 0] 62)) := (((Below.refl _ _).alloc (Nat.le_refl _) _).alloc (by simp) _).alloc (by simp; omega) _
 have hs : (((w.alloc (.cells #[.string b.f0, .string b.f1, .slice A b.f2.length c] 128)).alloc (.cells #[.string ⟨#[]⟩, .string ⟨#[]⟩, .slice none 0 0] 62)).alloc (.cells #[.string b.f0, .string b.f1, .slice none 0 0] 62)).heap.size = w.heap.size + 1 + 1 + 1 := by simp
 rw [show (w.alloc (.cells #[.string b.f0, .string b.f1, .slice A b.f2.length c] 128)).heap.size = w.heap.size + 1 by simp] at b1
 rw [show ((w.alloc (.cells #[.string b.f0, .string b.f1, .slice A b.f2.length c] 128)).alloc (.cells #[.string ⟨#[]⟩, .string ⟨#[]⟩, .slice none 0 0] 62)).heap.size = w.heap.size + 1 + 1 by simp] at b2
 generalize ((w.alloc (.cells #[.string b.f0, .string b.f1, .slice A b.f2.length c] 128)).alloc (.cells #[.string ⟨#[]⟩, .string ⟨#[]⟩, .slice none 0 0] 62)).alloc (.cells #[.string b.f0, .string b.f1, .slice none 0 0] 62) = W3 at *
 refine (toLines_any b.f2 HL.out.2.2 A c W3 (Kd.C_below HR.out hB)).mono ?_
 rintro e w4 ⟨dv, G, rfl, ho, hb⟩
 obtain ⟨D, d, rfl⟩ := own_form ho
 rw [List.length_map] at ho
 have HO := Aside0.mk ho
 have k1 := blk_below b1 hb
 have k2 := blk_below b2 hb
 have K1 := Aside0.mk k1
 have c10 := (blk_cell k1 0).trans rfl
 have c11 := (blk_cell k1 1).trans rfl
 have c12 := (blk_cell k1 2).trans rfl
 have c20 := (blk_cell k2 0).trans rfl
 have c21 := (blk_cell k2 1).trans rfl
 have c22 := (blk_cell k2 2).trans rfl
 have f10 := blk_frozen k1 0
 have f11 := blk_frozen k1 1
 have f12 := blk_frozen k1 2
 have f22 := blk_frozen k2 2
 have hB4 : Aside0 (Below w.heap.size w w4) := ⟨hB.trans (hb.mono (by omega))⟩
 clear b1 b2 hB hb ho k1 k2
 go_wp2_with fail
 refine bodyPost_ret (results_cell_row rfl _ _ (w.heap.size + 1) 62 #[.string b.f0, .string b.f1, .slice D b.f2.length d] (0, 0) _ rfl ?blk Tryd.underlying62 rfl (by kernel_rfl)) rfl ⟨_, G, rfl, ?ow, ?bel⟩
 case blk =>
  refine blk_put (cs := #[.string b.f0, .string b.f1, .slice none 0 0]) ?_ 2 _ rfl
  refine blk_put (cs := #[.string b.f0, .string ⟨#[]⟩, .slice none 0 0]) ?_ 1 _ rfl
  refine blk_put (cs := #[.string ⟨#[]⟩, .string ⟨#[]⟩, .slice none 0 0]) ?_ 0 _ rfl
  refine blk_far ?_ (show w.heap.size + 1 ≠ w.heap.size + 1 + 1 by omega) _
  exact K1.out
 case ow =>
  refine linesS.olow (linesS.oframe HO.out fun g hg => ?_) (show w.heap.size ≤ W3.heap.size by omega)
  have hgb := (linesS.oin HO.out g hg).1
  exact far4 (show g ≠ w.heap.size + 1 + 1 by omega) (show g ≠ w.heap.size + 1 by omega) (show g ≠ w.heap.size + 1 by omega) (show g ≠ w.heap.size + 1 by omega)
 case bel => exact (((hB4.out.setCell (p := ⟨w.heap.size + 1 + 1, 2, none⟩) (show w.heap.size ≤ w.heap.size + 1 + 1 by omega) _).setCell (p := ⟨w.heap.size + 1, 0, none⟩) (show w.heap.size ≤ w.heap.size + 1 by omega) _).setCell (p := ⟨w.heap.size + 1, 1, none⟩) (show w.heap.size ≤ w.heap.size + 1 by omega) _).setCell (p := ⟨w.heap.size + 1, 2, none⟩) (show w.heap.size ≤ w.heap.size + 1 by omega) _
set_option maxRecDepth 100000 in
set_option maxHeartbeats 2000000 in
theorem toBlocks_any (ls : List S128) (h : KFs ls) (A : Option Addr) (c : Nat) (w : World) (hr : Kd.C k128 w A ls.length ls) :
  Calls Tryd.prog 74 #[.slice A ls.length c] w fun e w' => ∃ v G, e = .returned v ∧ blocksS.ow w' w.heap.size [v] (ls.map cvB) G ∧ Below w.heap.size w w' := by
 have HR := Aside0.mk hr
 have HL := Aside0.mk h
 have hlen : ls.length ≤ 1048576 := h.1
 clear hr h
 obtain ⟨i0, hi, hz0, hz1, hz2⟩ := info_parts (show (Tryd.prog.info? 62).map (fun i => (i.zero, i.size, i.bytes)) = some (some (.agg #[.string ⟨#[]⟩, .string ⟨#[]⟩, .slice none 0 0]), 3, 56) by kernel_rfl)
 go_enter Tryd.func74, Tryd.ntmps74
 go_wp2_with (at_make; refine wpList_make_full _ rfl _ _ 45 rfl w.heap.size 62 i0 _ 3 Tryd.underlying45 hi hz0 hz1 .i64 .i64 ls.length ls.length ls.length rfl rfl rfl rfl ?b2 ?b3 (Nat.le_refl _) ?_)
 case b2 => rw [hz2]; omega
 case b3 => unfold maxLen; omega
 intro w1 hown hg
 have hz := made_flat #[.string ⟨#[]⟩, .string ⟨#[]⟩, .slice none 0 0] ls.length (by decide)
 have hH : Aside0 (∃ Gs, Half blockS 62 [.string ⟨#[]⟩, .string ⟨#[]⟩, .slice none 0 0] w1 w.heap.size (.slice (some ⟨w.heap.size, 0, none⟩) ls.length ls.length) ls.length ((ls.take 0).map cvB) Gs) :=
  ⟨[], [], by simp, by have h2 := hown; rw [show ls.length * 3 = ls.length * (#[Value.string ⟨#[]⟩, .string ⟨#[]⟩, .slice none 0 0] : Array Value).size from rfl] at h2; change w1.ownsRow _ _ _ _ _ (madeCells #[.string ⟨#[]⟩, .string ⟨#[]⟩, .slice none 0 0] _).toList at h2; rw [hz] at h2; have h3 : w1.ownsRow w.heap.size 62 blockS.k (.slice (some ⟨w.heap.size, 0, none⟩) ls.length ls.length) ls.length (List.replicate ls.length [Value.string ⟨#[]⟩, .string ⟨#[]⟩, .slice none 0 0]).flatten := h2; simpa using h3, rfl, by simp⟩
 have hB1 : Below w.heap.size w w1 := (Below.refl _ _).grown hg (Nat.le_refl _) (fun k hk => by cases hk)
 have hs1 : w.heap.size < w1.heap.size := own_lt hown _ rfl
 clear hown hg hz hi hz0 hz1 hz2
 go_wp2_with fail
 go_loopw [4] (fun v wr => ∃ j : Nat, v = .int .i64 j ∧ j ≤ ls.length ∧ Below w.heap.size w wr ∧ w.heap.size < wr.heap.size ∧ Aside0 (∃ Gs, Half blockS 62 [.string ⟨#[]⟩, .string ⟨#[]⟩, .slice none 0 0] wr w.heap.size (.slice (some ⟨w.heap.size, 0, none⟩) ls.length ls.length) ls.length ((ls.take j).map cvB) Gs)) (fun v _ => ls.length - (intOf v).toNat)
 case atStart => exact ⟨0, rfl, Nat.zero_le _, hB1, hs1, hH⟩
 case round =>
  clear hH hB1 hs1
  obtain ⟨j, rfl, hj, hB, hs, hH⟩ := hrel
  by_cases hlt : j < ls.length
  ·obtain ⟨ad, A1, c1, rfl, hx0, hx1, hx2, hl1, hC1⟩ := at_T128 (Kd.C_below HR.out hB) (j : Int) (by omega) (by omega)
   rw [rdBl hlt, Int.toNat_natCast] at hx0 hx1 hx2
   rw [rdBl hlt] at hl1 hC1
   have hL := HL.out.2 _ (List.getElem_mem hlt)
   have hnx : (ls.take (j + 1)).map cvB = (ls.take j).map cvB ++ [cvB ls[j]] := by rw [List.take_add_one, List.getElem?_eq_getElem hlt, List.map_append]; rfl
   have hjl : ((ls.take j).map cvB).length = j := by rw [List.length_map, List.length_take]; omega
   generalize ls[j] = l at *
   obtain ⟨f0, f1, f2⟩ := l
   have HNX := Aside0.mk hnx
   have HJL := Aside0.mk hjl
   have HL1 := Aside0.mk hL
   have HC1 := Aside0.mk hC1
   clear hnx hjl hL hC1
   have i1 : (j : Int) < (ls.length : Int) := by omega
   go_wp2_with fail
   refine (toBlock_any ⟨f0, f1, f2⟩ HL1.out A1 c1 _ HC1.out).mono ?_
   rintro e w2 ⟨dv, G, rfl, ho, hb⟩
   obtain ⟨D, d, rfl⟩ := own_form ho
   rw [List.length_map] at ho
   obtain ⟨Gs, hGs⟩ := hH.out
   have hG2 := hGs.below hb
   have q0 := hG2.cell rfl (by rw [HJL.out]; exact hlt) 0 (by decide)
   have q1 := hG2.cell rfl (by rw [HJL.out]; exact hlt) 1 (by decide)
   have q2 := hG2.cell rfl (by rw [HJL.out]; exact hlt) 2 (by decide)
   rw [HJL.out] at q0 q1 q2
   obtain ⟨q00, q01⟩ := q0
   obtain ⟨q10, q11⟩ := q1
   obtain ⟨q20, q21⟩ := q2
   have q00 : w2.cell? ⟨w.heap.size, j * 3, none⟩ = some (.string ⟨#[]⟩) := q00
   have q01 : w2.frozen? ⟨w.heap.size, j * 3, none⟩ = false := q01
   have q10 : w2.cell? ⟨w.heap.size, j * 3 + 1, none⟩ = some (.string ⟨#[]⟩) := q10
   have q20 : w2.cell? ⟨w.heap.size, j * 3 + 2, none⟩ = some (.slice none 0 0) := q20
   have q21 : w2.frozen? ⟨w.heap.size, j * 3 + 2, none⟩ = false := q21
   have q11 : w2.frozen? ⟨w.heap.size, j * 3 + 1, none⟩ = false := q11
   have hst := Aside0.mk (hG2.step3 (x := cvB ⟨f0, f1, f2⟩) rfl (by rw [HJL.out]; exact hlt) (block_ow (kind := f0) (name := f1) (linesS.olow ho hB.size)) (fun y hy => ⟨by have := (linesS.oin ho y hy).1; omega, fun hy' => by
    have h1 := (linesS.oin ho y hy).1
    obtain ⟨vss, _, _, h2, _⟩ := hGs
    have := ((Els.mem _ _ _ h2).1 y hy').2
    omega⟩))
   have hB2 : Below w.heap.size w w2 := hB.trans (hb.mono hB.size)
   have hs2 : w.heap.size < w2.heap.size := by have := hb.size; omega
   clear hb ho hG2 hGs hx0 hx1 hx2 hB hs hH
   go_wp2_with fail
   go_roundw
   case rel => exact ⟨j + 1, by go_num, hlt, ((hB2.setCell (p := ⟨w.heap.size, j * 3, none⟩) (Nat.le_refl _) _).setCell (p := ⟨w.heap.size, j * 3 + 1, none⟩) (Nat.le_refl _) _).setCell (p := ⟨w.heap.size, j * 3 + 2, none⟩) (Nat.le_refl _) _, by simpa using hs2, ⟨_, by rw [HNX.out]; have := hst.out; rw [HJL.out] at this; exact this⟩⟩
   case measure => simp [intOf]; omega
  ·obtain rfl : j = ls.length := by omega
   obtain ⟨Gs, hGs⟩ := hH.out
   rw [List.take_length] at hGs
   have hd : Aside0 (blocksS.ow wr w.heap.size [.slice (some ⟨w.heap.size, 0, none⟩) ls.length ls.length] (ls.map cvB) ((Value.slice (some ⟨w.heap.size, 0, none⟩) ls.length ls.length).ownBlock.toList ++ Gs)) := ⟨Half.done (by rw [List.length_map]; exact hGs)⟩
   clear hGs hH
   go_wp2
   go_ret
   exact ⟨_, _, rfl, hd.out, hB⟩
set_option maxRecDepth 100000 in
set_option maxHeartbeats 2000000 in
theorem toSheet_any (bs : List S128) (h : KFs bs) (A : Option Addr) (c : Nat) (w : World) (hr : Kd.C k128 w A bs.length bs) :
  Calls Tryd.prog 28 #[.agg #[.slice A bs.length c]] w fun e w' => ∃ v G, e = .returned (.agg #[v]) ∧ blocksS.ow w' w.heap.size [v] (cvBs bs) G ∧ Below w.heap.size w w' := by
 have HR := Aside0.mk hr
 have HL := Aside0.mk h
 clear hr h
 go_enter Tryd.func28, Tryd.ntmps28
 go_wp2_with fail
 have b1 := blk_alloc (blk_new (w.alloc (.cells #[.slice A bs.length c] 42)) (.cells #[.slice none 0 0] 47)) (.cells #[.slice none 0 0] 47)
 have b2 := blk_new ((w.alloc (.cells #[.slice A bs.length c] 42)).alloc (.cells #[.slice none 0 0] 47)) (.cells #[.slice none 0 0] 47)
 have hB : Below w.heap.size w (((w.alloc (.cells #[.slice A bs.length c] 42)).alloc (.cells #[.slice none 0 0] 47)).alloc (.cells #[.slice none 0 0] 47)) := (((Below.refl _ _).alloc (Nat.le_refl _) _).alloc (by simp) _).alloc (by simp; omega) _
 have hs : (((w.alloc (.cells #[.slice A bs.length c] 42)).alloc (.cells #[.slice none 0 0] 47)).alloc (.cells #[.slice none 0 0] 47)).heap.size = w.heap.size + 1 + 1 + 1 := by simp
 rw [show (w.alloc (.cells #[.slice A bs.length c] 42)).heap.size = w.heap.size + 1 by simp] at b1
 rw [show ((w.alloc (.cells #[.slice A bs.length c] 42)).alloc (.cells #[.slice none 0 0] 47)).heap.size = w.heap.size + 1 + 1 by simp] at b2
 generalize ((w.alloc (.cells #[.slice A bs.length c] 42)).alloc (.cells #[.slice none 0 0] 47)).alloc (.cells #[.slice none 0 0] 47) = W3 at *
 refine (toBlocks_any bs HL.out A c W3 (Kd.C_below HR.out hB)).mono ?_
 rintro e w4 ⟨dv, G, rfl, ho, hb⟩
 obtain ⟨D, d, rfl⟩ := own_form ho
 rw [List.length_map] at ho
 have HO := Aside0.mk ho
 have k1 := blk_below b1 hb
 have k2 := blk_below b2 hb
 have K1 := Aside0.mk k1
 have c10 := (blk_cell k1 0).trans rfl
 have c20 := (blk_cell k2 0).trans rfl
 have f10 := blk_frozen k1 0
 have f20 := blk_frozen k2 0
 have hB4 : Aside0 (Below w.heap.size w w4) := ⟨hB.trans (hb.mono (by omega))⟩
 clear b1 b2 hB hb ho k1 k2
 go_wp2_with fail
 refine bodyPost_ret (results_cell_row rfl _ _ (w.heap.size + 1) 47 #[.slice D bs.length d] (0, 0) _ rfl ?blk Tryd.underlying47 rfl (by kernel_rfl)) rfl ⟨.slice D bs.length d, G, rfl, ?ow, ?bel⟩
 case blk =>
  refine blk_put (cs := #[.slice none 0 0]) ?_ 0 _ rfl
  refine blk_far ?_ (show w.heap.size + 1 ≠ w.heap.size + 1 + 1 by omega) _
  exact K1.out
 case ow =>
  refine blocksS.olow (blocksS.oframe HO.out fun g hg => ?_) (show w.heap.size ≤ W3.heap.size by omega)
  have hgb := (blocksS.oin HO.out g hg).1
  exact (Below.heap_setCell _ ⟨w.heap.size + 1, 0, none⟩ _ g (show g ≠ w.heap.size + 1 by omega)).trans (Below.heap_setCell _ ⟨w.heap.size + 1 + 1, 0, none⟩ _ g (show g ≠ w.heap.size + 1 + 1 by omega))
 case bel => exact (hB4.out.setCell (p := ⟨w.heap.size + 1 + 1, 0, none⟩) (show w.heap.size ≤ w.heap.size + 1 + 1 by omega) _).setCell (p := ⟨w.heap.size + 1, 0, none⟩) (show w.heap.size ≤ w.heap.size + 1 by omega) _
theorem eqStr_c (ws : List ByteArray) (hn : ws.length ≤ 1048576) (A B : Option Addr) (c d : Nat) (w : World) (ha : Kd.C Kd.string w A ws.length ws) (hc : ws.length ≤ c) (hb : Kd.C Kd.string w B ws.length ws) (hd : ws.length ≤ d) :
  Calls Tryd.prog 22 #[.slice A ws.length c, .slice B ws.length d] w fun e w' => e = .returned (.bool true) ∧ Below w.heap.size w w' := by
 have h := ev_eqStringS ws ws (by omega)
 rw [decide_eq_true rfl] at h
 obtain ⟨k, hk⟩ := h.rounds
 exact (laws_eqStringS.calls k A c ws B d ws true w ha hc hb hd hk).mono fun e w' ⟨he, hd⟩ => ⟨he, hd.below⟩
set_option maxRecDepth 100000 in
set_option maxHeartbeats 1000000 in
theorem eqLine_c (l : S83) (h : smallL l) (A B : Option Addr) (c d : Nat) (w : World) (ha : Kd.C Kd.string w A l.f1.length l.f1) (hc : l.f1.length ≤ c) (hb : Kd.C Kd.string w B l.f1.length l.f1) (hd : l.f1.length ≤ d) :
  Calls Tryd.prog 89 #[.agg #[.string l.f0, .slice A l.f1.length c], .agg #[.string l.f0, .slice B l.f1.length d]] w fun e w' => e = .returned (.bool true) ∧ Below w.heap.size w w' := by
 have HA := Aside0.mk (fun w' hb' => eqStr_c l.f1 h.2.1 A B c d w' (Kd.C_below ha hb') hc (Kd.C_below hb hb') hd)
 clear ha hb h
 go_enter Tryd.func89, Tryd.ntmps89
 go_wp2_with fail
 have hB : ∀ x y, Below w.heap.size w ((w.alloc x).alloc y) := fun x y => ((Below.refl _ _).alloc (Nat.le_refl _) _).alloc (by simp) _
 refine (HA.out _ (hB _ _)).mono ?_
 rintro e w1 ⟨rfl, hb1⟩
 have hB1 := Aside0.mk ((hB _ _).trans (hb1.mono (by simp; omega)))
 clear hb1 hB
 go_wp2_with fail
 go_ret
 exact ⟨rfl, hB1.out⟩
set_option maxRecDepth 100000 in
set_option maxHeartbeats 2000000 in
theorem eqLines_c (ls : List S83) (h : smallLs ls) (A B : Option Addr) (c d : Nat) (w : World) (ha : Kd.C k83 w A ls.length ls) (hb : Kd.C k83 w B ls.length ls) :
  Calls Tryd.prog 35 #[.slice A ls.length c, .slice B ls.length d] w fun e w' => e = .returned (.bool true) ∧ Below w.heap.size w w' := by
 have HA := Aside0.mk ha
 have HB := Aside0.mk hb
 have HS := Aside0.mk h
 have hn : ls.length ≤ 1048576 := h.1
 clear ha hb h
 go_enter Tryd.func35, Tryd.ntmps35
 go_wp2
 go_loopw [5] (fun v wr => ∃ k : Nat, v = .int .i64 k ∧ k ≤ ls.length ∧ Below w.heap.size w wr) (fun v _ => ls.length - (intOf v).toNat)
 case atStart => exact ⟨0, rfl, Nat.zero_le _, Below.refl _ _⟩
 case round =>
  obtain ⟨k, rfl, hk, hBr⟩ := hrel
  by_cases hlt : k < ls.length
  ·obtain ⟨ad, A1, c1, rfl, hx0, hx1, hl1, hC1⟩ := line_at (Kd.C_below HA.out hBr) k ls[k] (List.getElem?_eq_getElem hlt)
   obtain ⟨bd, B1, d1, rfl, hy0, hy1, hm1, hD1⟩ := line_at (Kd.C_below HB.out hBr) k ls[k] (List.getElem?_eq_getElem hlt)
   have hL := HS.out.2 _ (List.getElem_mem hlt)
   generalize ls[k] = l at *
   have i1 : (k : Int) < (ls.length : Int) := by omega
   go_upto_region 6 with (fail)
   have FC := fun p : BW wr => eqLine_c l hL A1 B1 c1 d1 p.w' (Kd.C_below hC1 p.h) hl1 (Kd.C_below hD1 p.h) hm1
   have q0 := fun p : BW wr => p.cell hx0
   have q1 := fun p : BW wr => p.cell hx1
   have r0 := fun p : BW wr => p.cell hy0
   have r1 := fun p : BW wr => p.cell hy1
   clear hx0 hx1 hy0 hy1 hC1 hD1
   refine wp_region_below (by kernel_rfl) (by kernel_rfl) ?_
   repeat ((with_reducible refine wpQuiet_step ?_); (with_reducible intro K hK); go_simp; first | ((with_reducible refine hK _ ?_); clear hK K) | (apply Exists.intro; refine ⟨fun _ => ?_, hK _ ?_⟩; (first | (go_at_call 89; exact BW.calls (FC _))); clear hK K))
   with_reducible refine wpQuiet_nil ?_
   intro wn hw'
   obtain ⟨⟨_, hBn⟩, rfl⟩ := hw'
   clear FC q0 q1 r0 r1
   have hB2 := hBr.trans (hBn.mono hBr.size)
   go_wp2
   go_roundw
   case rel => exact ⟨k + 1, by go_num, hlt, hB2⟩
   case measure => simp [intOf]; omega
  ·obtain rfl : k = ls.length := by omega
   go_wp2
   go_ret
   exact ⟨rfl, hBr⟩
theorem block_at {w : World} {A : Option Addr} {n : Nat} {ls : List S62} (h : Kd.C k62 w A n ls) (j : Nat) (l : S62) (hj : ls[j]? = some l) : ∃ ad A1 c1, A = some ad ∧ w.cell? (ad.add (j * 3)) = some (.string l.f0) ∧ w.cell? ⟨(ad.add (j * 3)).block, (ad.add (j * 3)).off + 1, none⟩ = some (.string l.f1) ∧ w.cell? ⟨(ad.add (j * 3)).block, (ad.add (j * 3)).off + 2, none⟩ = some (.slice A1 l.f2.length c1) ∧ l.f2.length ≤ c1 ∧ Kd.C k83 w A1 l.f2.length l.f2 := by
 have hjl := (List.getElem?_eq_some_iff.1 hj).1
 obtain ⟨ad, A1, c1, h1, h2, h3, h4, h5, h6⟩ := at_T62 h (j : Int) (by omega) (by have := h.1; omega)
 have hg : rd_T62 ls (j : Int) = l := by unfold rd_T62; rw [List.getD_eq_getElem?_getD, Int.toNat_natCast, hj]; rfl
 rw [hg] at h2 h3 h4 h5 h6
 rw [Int.toNat_natCast] at h2 h3 h4
 exact ⟨ad, A1, c1, h1, h2, h3, h4, h5, h6⟩
set_option maxRecDepth 100000 in
set_option maxHeartbeats 1000000 in
theorem eqBlock_c (l : S62) (h : smallB l) (A B : Option Addr) (c d : Nat) (w : World) (ha : Kd.C k83 w A l.f2.length l.f2) (hb : Kd.C k83 w B l.f2.length l.f2) :
  Calls Tryd.prog 118 #[.agg #[.string l.f0, .string l.f1, .slice A l.f2.length c], .agg #[.string l.f0, .string l.f1, .slice B l.f2.length d]] w fun e w' => e = .returned (.bool true) ∧ Below w.heap.size w w' := by
 have HA := Aside0.mk (fun w' hb' => eqLines_c l.f2 h.2.2 A B c d w' (Kd.C_below ha hb') (Kd.C_below hb hb'))
 clear ha hb h
 go_enter Tryd.func118, Tryd.ntmps118
 go_wp2_with fail
 have hB : ∀ x y, Below w.heap.size w ((w.alloc x).alloc y) := fun x y => ((Below.refl _ _).alloc (Nat.le_refl _) _).alloc (by simp) _
 refine (HA.out _ (hB _ _)).mono ?_
 rintro e w1 ⟨rfl, hb1⟩
 have hB1 := Aside0.mk ((hB _ _).trans (hb1.mono (by simp; omega)))
 clear hb1 hB
 go_wp2_with fail
 go_ret
 exact ⟨rfl, hB1.out⟩
set_option maxRecDepth 100000 in
set_option maxHeartbeats 2000000 in
theorem eqBlocks_c (ls : List S62) (h : smallBs ls) (A B : Option Addr) (c d : Nat) (w : World) (ha : Kd.C k62 w A ls.length ls) (hb : Kd.C k62 w B ls.length ls) :
  Calls Tryd.prog 77 #[.slice A ls.length c, .slice B ls.length d] w fun e w' => e = .returned (.bool true) ∧ Below w.heap.size w w' := by
 have HA := Aside0.mk ha
 have HB := Aside0.mk hb
 have HS := Aside0.mk h
 have hn : ls.length ≤ 1048576 := h.1
 clear ha hb h
 go_enter Tryd.func77, Tryd.ntmps77
 go_wp2
 go_loopw [5] (fun v wr => ∃ k : Nat, v = .int .i64 k ∧ k ≤ ls.length ∧ Below w.heap.size w wr) (fun v _ => ls.length - (intOf v).toNat)
 case atStart => exact ⟨0, rfl, Nat.zero_le _, Below.refl _ _⟩
 case round =>
  obtain ⟨k, rfl, hk, hBr⟩ := hrel
  by_cases hlt : k < ls.length
  ·obtain ⟨ad, A1, c1, rfl, hx0, hx1, hx2, hl1, hC1⟩ := block_at (Kd.C_below HA.out hBr) k ls[k] (List.getElem?_eq_getElem hlt)
   obtain ⟨bd, B1, d1, rfl, hy0, hy1, hy2, hm1, hD1⟩ := block_at (Kd.C_below HB.out hBr) k ls[k] (List.getElem?_eq_getElem hlt)
   have hL := HS.out.2 _ (List.getElem_mem hlt)
   generalize ls[k] = l at *
   have i1 : (k : Int) < (ls.length : Int) := by omega
   go_upto_region 6 with (fail)
   have FC := fun p : BW wr => eqBlock_c l hL A1 B1 c1 d1 p.w' (Kd.C_below hC1 p.h) (Kd.C_below hD1 p.h)
   have q0 := fun p : BW wr => p.cell hx0
   have q1 := fun p : BW wr => p.cell hx1
   have q2 := fun p : BW wr => p.cell hx2
   have r2 := fun p : BW wr => p.cell hy2
   have r0 := fun p : BW wr => p.cell hy0
   have r1 := fun p : BW wr => p.cell hy1
   clear hx0 hx1 hx2 hy0 hy1 hy2 hC1 hD1
   refine wp_region_below (by kernel_rfl) (by kernel_rfl) ?_
   repeat ((with_reducible refine wpQuiet_step ?_); (with_reducible intro K hK); go_simp; first | ((with_reducible refine hK _ ?_); clear hK K) | (apply Exists.intro; refine ⟨fun _ => ?_, hK _ ?_⟩; (first | (go_at_call 118; exact BW.calls (FC _))); clear hK K))
   with_reducible refine wpQuiet_nil ?_
   intro wn hw'
   obtain ⟨⟨_, hBn⟩, rfl⟩ := hw'
   clear FC q0 q1 q2 r0 r1 r2
   have hB2 := hBr.trans (hBn.mono hBr.size)
   go_wp2
   go_roundw
   case rel => exact ⟨k + 1, by go_num, hlt, hB2⟩
   case measure => simp [intOf]; omega
  ·obtain rfl : k = ls.length := by omega
   go_wp2
   go_ret
   exact ⟨rfl, hBr⟩
set_option maxRecDepth 100000 in
set_option maxHeartbeats 1000000 in
theorem eqSheet_c (bs : List S62) (h : smallBs bs) (A B : Option Addr) (c d : Nat) (w : World) (ha : Kd.C k62 w A bs.length bs) (hb : Kd.C k62 w B bs.length bs) :
  Calls Tryd.prog 30 #[.agg #[.slice A bs.length c], .agg #[.slice B bs.length d]] w fun e w' => e = .returned (.bool true) ∧ Below w.heap.size w w' := by
 have HA := Aside0.mk (fun w' hb' => eqBlocks_c bs h A B c d w' (Kd.C_below ha hb') (Kd.C_below hb hb'))
 clear ha hb h
 go_enter Tryd.func30, Tryd.ntmps30
 go_wp2_with fail
 have hB : ∀ x y, Below w.heap.size w ((w.alloc x).alloc y) := fun x y => ((Below.refl _ _).alloc (Nat.le_refl _) _).alloc (by simp) _
 refine (HA.out _ (hB _ _)).mono ?_
 rintro e w1 ⟨rfl, hb1⟩
 have hB1 := Aside0.mk ((hB _ _).trans (hb1.mono (by simp; omega)))
 clear hb1 hB
 go_wp2_with fail
 go_ret
 exact ⟨rfl, hB1.out⟩
end Go.Proofs.YtmcdnpooclelgaaDoor.PAll
namespace Go.Proofs.YtmcdnpooclelgaaDoor
open Go.RowKit Go.Proofs.YtmcdnpooclelgaaDoorW.PrintWords
section
variable {P : Program} {ops : Array Oper} {rest : List Oper} {o : Oper} {a : Act} {Q : Exit → Act → World → Prop} {K : Act → World → Prop}
theorem ap_run {W : World} (base : Nat) (ty t e : TypeId) (z : Value) (size bytes : Nat)
  (ht : P.underlying t = some (.slice e)) (hinfo : (P.info? e).map (fun i => (i.zero, i.size, i.bytes)) = some (some z, size, bytes)) (hz : z.cells.size = size) (hs0 : 0 < size) (hb0 : 0 < bytes)
  (v : Value) (n : Nat) (xs : List Value) (A : Option Addr) (m c : Nat) (news : List Value) (hA : A = none → m = 0) (hn : news.length = m * size) (hnews : ∀ ad, A = some ad → ∀ j u, news[j]? = some u → W.cell? (ad.add j) = some u) (h1 : ∀ u ∈ news, u.oneCell' = true)
  (HO : W.ownsRow base e size v n xs) (hbase : base ≤ W.heap.size) (hl : (n + m) * bytes ≤ 140737488355328) :
  ∃ v1 w1, (Builtin.append_ #[t, t] ty #[v, .slice A m c]).run P W = .ok v1 w1 ∧ w1.ownsRow base e size v1 (n + m) (xs ++ news) ∧ W.grownBy w1 v.ownBlock ∧ (v1.ownBlock = v.ownBlock ∨ ∃ b, v1.ownBlock = some b ∧ W.heap.size ≤ b) := by
 obtain ⟨i0, hi, hzz⟩ := Option.map_eq_some_iff.1 hinfo
 simp only [Prod.mk.injEq] at hzz
 obtain ⟨hz0, hz1, hz2⟩ := hzz
 have hlen : n + m ≤ 140737488355328 := Nat.le_trans (Nat.le_mul_of_pos_right _ hb0) hl
 rcases A with _ | ad
 ·have h0 := hA rfl
  subst h0
  have hnn : news = [] := List.eq_nil_of_length_eq_zero (by omega)
  subst hnn
  refine ⟨v, W, ?_, by simpa using HO, World.grownBy.refl W _, .inl rfl⟩
  rcases HO.2 with ⟨rfl, hn⟩ | ⟨g, cap, cur, rfl, _, _, hnc, _⟩
  ·simp [Builtin.append_, run_underlying ht, sizeOf, typeInfo, hi, Builtin.lenOf, Builtin.firstCells]
  ·simp [Builtin.append_, run_underlying ht, sizeOf, typeInfo, hi, Builtin.lenOf, Builtin.firstCells, hnc, storeCells]
 ·obtain ⟨v1, w1, hr, hown, hg, _, hat⟩ := run_append_own_at (P := P) W base t ty e i0 z size bytes ht hi hz0 hz1 hz2 hz hs0 v n xs HO ad m c news hn (hnews ad rfl) h1 (by simp only [maxLen]; omega) hl hbase
  refine ⟨v1, w1, hr, hown, hg, ?_⟩
  rcases hat with hat | hat
  ·exact .inl hat
  ·exact .inr ⟨_, hat, Nat.le_refl _⟩
theorem ap_src {w0 W : World} (base : Nat) (hgd : o.guard = none) (s x : Operand) (t e : TypeId) (z : Value) (size bytes : Nat)
  (ho : o.op = .call { callee := .builtin .append, args := #[s, x], argTypes := #[t, t] })
  (ht : P.underlying t = some (.slice e)) (hinfo : (P.info? e).map (fun i => (i.zero, i.size, i.bytes)) = some (some z, size, bytes)) (hz : z.cells.size = size) (hs0 : 0 < size) (hb0 : 0 < bytes)
  (v : Value) (n : Nat) (xs : List Value) (A : Option Addr) (m c : Nat) (news : List Value) (hs : a.eval s = v) (hx : a.eval x = .slice A m c) (hA : A = none → m = 0) (hn : news.length = m * size) (hnews : ∀ ad, A = some ad → ∀ j u, news[j]? = some u → W.cell? (ad.add j) = some u) (h1 : ∀ u ∈ news, u.oneCell' = true)
  (HO : W.ownsRow base e size v n xs) (HB : Below base w0 W) (hbase : base ≤ W.heap.size) (hl : (n + m) * bytes ≤ 140737488355328)
  (h : ∀ v1 w1, w1.ownsRow base e size v1 (n + m) (xs ++ news) → Below base w0 w1 → W.grownBy w1 v.ownBlock → (v1.ownBlock = v.ownBlock ∨ ∃ b, v1.ownBlock = some b ∧ W.heap.size ≤ b) → wpList P ops Q rest (a.put o.dst v1) w1) :
  wpList P ops Q (o :: rest) a W := by
 obtain ⟨v1, w1, hr, hown, hg, hat⟩ := ap_run (P := P) base o.type t e z size bytes ht hinfo hz hs0 hb0 v n xs A m c news hA hn hnews h1 HO hbase hl
 refine wpList_plain hgd fun K hK => ?_
 unfold Oper.wp execOp
 simp only [ho, resolve, invoke, builtin, Sem.run_bind, Sem.run_pure, Result.andThen_ok, List.map_toArray, List.map_cons, List.map_nil, hs, hx, hr]
 exact hK _ _ (h v1 w1 hown (HB.grown hg hbase (own_base HO)) hg hat)
end
theorem strs_src {w : World} {A : Option Addr} {n : Nat} {ss : List ByteArray} (h : Kd.C Kd.string w A n ss) : n = ss.length ∧ (A = none → n = 0) ∧ (ss.map Value.string).length = n * 1 ∧ (∀ ad, A = some ad → ∀ j u, (ss.map Value.string)[j]? = some u → w.cell? (ad.add j) = some u) ∧ ∀ u ∈ ss.map Value.string, u.oneCell' = true := by
 have hn : ss.length = n := h.1
 refine ⟨hn.symm, fun hA => ?_, by simp [hn], fun ad hA j u hj => ?_, fun u hu => by obtain ⟨s, _, rfl⟩ := List.mem_map.1 hu; rfl⟩
 ·rcases Nat.eq_zero_or_pos n with h0 | h0
  ·exact h0
  ·obtain ⟨ad, h', _⟩ := Kd.at_string h 0 (Int.le_refl _) (by omega)
   rw [hA] at h'; cases h'
 ·have hjl : j < ss.length := by have := (List.getElem?_eq_some_iff.1 hj).1; simpa using this
  obtain ⟨ad', h', hc⟩ := Kd.at_string h (j : Int) (by omega) (by omega)
  rw [hA] at h'
  injection h' with h'
  subst h'
  rw [Int.toNat_natCast] at hc
  rw [hc]
  rw [List.getElem?_map, List.getElem?_eq_getElem hjl] at hj
  unfold rdOf
  rw [Int.toNat_natCast, List.getD_eq_getElem?_getD, List.getElem?_eq_getElem hjl]
  exact hj
end Go.Proofs.YtmcdnpooclelgaaDoor
namespace Go.Proofs.YtmcdnpooclelgaaDoor.PAll
open Go.RowKit Go.Proofs.YtmcdnpooclelgaaDoorW.PrintWords
theorem infoStr : (Tryd.prog.info? 9).map (fun i => (i.zero, i.size, i.bytes)) = some (some (.string ⟨#[]⟩), 1, 16) := by kernel_rfl
theorem infoLine : (Tryd.prog.info? 83).map (fun i => (i.zero, i.size, i.bytes)) = some (some (.agg #[.string ⟨#[]⟩, .slice none 0 0]), 2, 40) := by kernel_rfl
set_option maxRecDepth 100000 in
set_option maxHeartbeats 2000000 in
theorem cloneLines_any (ls : List S83) (h : smallLs ls) (A : Option Addr) (c : Nat) (w : World) (hr : Kd.C k83 w A ls.length ls) :
  Calls Tryd.prog 86 #[.slice A ls.length c] w fun e w' => ∃ v G, e = .returned v ∧ linesS.ow w' w.heap.size [v] ls G ∧ Below w.heap.size w w' := by
 have HR := Aside0.mk hr
 have HS := Aside0.mk h
 have hn : ls.length ≤ 1048576 := h.1
 clear hr h
 go_enter Tryd.func86, Tryd.ntmps86
 go_wp2
 go_loopw [3, 8] (fun v i wr => ∃ (j : Nat), i = .int .i64 j ∧ j ≤ ls.length ∧ Below w.heap.size w wr ∧ Aside0 (∃ F, linesS.ow wr w.heap.size [v] (ls.take j) F)) (fun _ i _ => ls.length - (intOf i).toNat)
 case atStart => exact ⟨0, rfl, Nat.zero_le _, Below.refl _ _, ⟨[], Sh.row_nil _ _ _ _⟩⟩
 case round =>
  obtain ⟨j, rfl, hj, hB, hO⟩ := hrel
  obtain ⟨F, hF⟩ := hO.out
  obtain ⟨Ad, d, rfl⟩ := own_form hF
  have HF := Aside0.mk hF
  clear hF hO
  by_cases hlt : j < ls.length
  ·have hjl : (ls.take j).length = j := by rw [List.length_take]; omega
   have hnx : ls.take (j + 1) = ls.take j ++ [ls[j]] := by rw [List.take_add_one, List.getElem?_eq_getElem hlt]; rfl
   obtain ⟨ad, A1, c1, rfl, hx0, hx1, hl1, hC1⟩ := line_at (Kd.C_below HR.out hB) j ls[j] (List.getElem?_eq_getElem hlt)
   have hl := HS.out.2 _ (List.getElem_mem hlt)
   generalize ls[j] = l at *
   obtain ⟨f0, f1⟩ := l
   have HNX := Aside0.mk hnx
   have HL := Aside0.mk hl
   have HC1 := Aside0.mk hC1
   have i1 : (j : Int) < (ls.length : Int) := by omega
   clear hnx hl hC1
   obtain ⟨_, hA0, hnl, hcells, hone⟩ := strs_src (Kd.C_below HC1.out ((Below.refl _ _).alloc (Nat.le_refl wr.heap.size) (.cells #[.string f0, .slice A1 f1.length c1] 83)))
   have hsz : f1.length ≤ 1048576 := HL.out.2.1
   have b5 := blk_new wr (.cells #[.string f0, .slice A1 f1.length c1] 83)
   go_wp2_with (at_builtin; refine ap_src (w0 := wr) wr.heap.size rfl (.const (.slice none 0 0)) (.tmp 13) 27 9 (.string ⟨#[]⟩) 1 16 rfl Tryd.underlying27 infoStr rfl (by decide) (by decide) (.slice none 0 0) 0 [] A1 f1.length c1 _ rfl rfl hA0 hnl hcells hone (World.ownsRow_nil _ _ _ _) ((Below.refl _ _).alloc (Nat.le_refl _) _) (by simp) (by omega) ?_)
   intro v1 w2 ho1 hb1 hg1 hat1
   obtain ⟨B1, d1, rfl⟩ : ∃ B d, v1 = .slice B f1.length d := by
    rcases ownSl ho1 with ⟨rfl, h0⟩ | ⟨g, c, rfl⟩
    ·exact ⟨_, _, by rw [h0]⟩
    ·exact ⟨_, _, rfl⟩
   have hG : ∀ y ∈ (Value.slice B1 f1.length d1).ownBlock.toList, wr.heap.size < y := by
    intro y hy
    have hy : (Value.slice B1 f1.length d1).ownBlock = some y := by simpa using hy
    rcases hat1 with hat | ⟨b, hat, hb⟩
    ·rw [hy] at hat; cases hat
    ·rw [hy] at hat; injection hat with hat; omega
   have k5 : w2.heap[wr.heap.size]? = some (.cells #[.string f0, .slice A1 f1.length c1] 83 (0, 0)) := (hg1.block _ (by simp) (by simp [Value.ownBlock])).trans b5
   have hS := Aside0.mk (strs_ER.2 ⟨ho1, rfl⟩ : strsS.ow w2 wr.heap.size [.slice B1 f1.length d1] f1 (Value.slice B1 f1.length d1).ownBlock.toList)
   have hF2 := Aside0.mk (linesS.obelow HF.out hb1)
   have hBw := Aside0.mk (hB.trans (hb1.mono hB.size))
   have hFl := Aside0.mk (fun y hy => (linesS.oin HF.out y hy).2)
   have hs2 : wr.heap.size < w2.heap.size := by have := hg1.size; simp at this; omega
   have hs3 : w.heap.size ≤ wr.heap.size := hB.size
   have y0 := (blk_cell k5 0).trans rfl
   have y1 := (blk_cell k5 1).trans rfl
   have yf := blk_frozen k5 1
   clear hA0 hnl hcells hone b5 ho1 hb1 hg1 hat1 k5 hx0 hx1 HF hB
   go_wp2_with (at_builtin; (refine Sh.app (A := lineS) (w0 := w) (base := w.heap.size) (b := w.heap.size) (xs := ls.take j) (F := F) (G := (Value.slice B1 f1.length d1).ownBlock.toList) (x := ⟨f0, f1⟩) (us := [.string f0, .slice B1 f1.length d1]) (W := w2.setCell ⟨wr.heap.size, 1, none⟩ (.slice B1 f1.length d1)) (v := .slice Ad j d) (.agg #[.string ⟨#[]⟩, .slice none 0 0]) 40 (.tmp 16) (.tmp 18) 52 ?HO ?hx ?hd ?HB (Nat.le_refl _) ?hl rfl rfl Tryd.underlying52 infoLine rfl (by decide) (by decide) ?hbase rfl ?hy ?h1 ?_))
   case HO => rw [hjl] at hF2; exact linesS.oframe hF2.out fun g hg => Below.heap_setCell w2 ⟨wr.heap.size, 1, none⟩ _ g (fun e => by have := hFl.out g hg; have e : g = wr.heap.size := e; omega)
   case hx => exact line_ow (strsS.olow (strsS.oframe hS.out fun g hg => Below.heap_setCell w2 ⟨wr.heap.size, 1, none⟩ _ g (fun e => by have := hG g hg; have e : g = wr.heap.size := e; omega)) hs3)
   case hd => exact fun y hy hy' => by have := hG y hy; have := hFl.out y hy'; omega
   case HB => exact hBw.out.setCell (p := ⟨wr.heap.size, 1, none⟩) hs3 _
   case hl => omega
   case hbase => simp; omega
   case hy => simp [Act.eval]
   case h1 => intro u hu; simp at hu; rcases hu with rfl | rfl <;> rfl
   intro v3 w3 F3 ho3 hb3 _ _
   rw [← HNX.out] at ho3
   have hO3 : Aside0 (∃ F, linesS.ow w3 w.heap.size [v3] (ls.take (j + 1)) F) := ⟨_, ho3.out⟩
   have hB3 := hb3.out
   clear ho3 hb3 y0 y1 yf hG
   go_wp2
   go_roundw
   case rel => exact ⟨j + 1, by go_num, hlt, hB3, hO3⟩
   case measure => simp [intOf]; omega
  ·obtain rfl : j = ls.length := by omega
   have HF2 := HF.out
   rw [List.take_length] at HF2
   have HF3 := Aside0.mk HF2
   clear HF HF2
   rw [List.take_length]
   go_wp2
   go_ret
   exact ⟨_, _, rfl, HF3.out, hB⟩
theorem rules_keys (kind : ByteArray) : ((rulesL kind).map fun r => r.f0).Nodup := by
  unfold rulesL; split; · unfold rules_team; decide +kernel
  split; · unfold rules_berth; decide +kernel
  split; · unfold rules_service; decide +kernel
  exact List.nodup_nil
theorem lookFrom_at (rs : List S36) : ∀ (i k : Nat) (r : S36), (rs.map fun r => r.f0).Nodup → rs[k]? = some r → lookFrom r.f0 rs i = some (r, i + k) := by
 induction rs with
 | nil => intro i k r _ h; simp at h
 | cons q rs ih =>
  intro i k r hn h
  rw [List.map_cons, List.nodup_cons] at hn
  cases k with
  | zero =>
   simp only [List.getElem?_cons_zero, Option.some.injEq] at h
   subst h
   simp [lookFrom]
  | succ k =>
   rw [List.getElem?_cons_succ] at h
   have hne : ¬ q.f0 = r.f0 := fun e => hn.1 (e ▸ List.mem_map_of_mem (List.mem_of_getElem? h))
   rw [lookFrom, if_neg hne, ih (i + 1) k r hn.2 h, show i + 1 + k = i + (k + 1) by omega]
theorem look_at (kind : ByteArray) (k : Nat) (r : S36) (h : (rulesL kind)[k]? = some r) : lookL kind r.f0 = some (r, k) := by
 unfold lookL
 rw [lookFrom_at _ 0 k r (rules_keys kind) h, Nat.zero_add]
theorem place_at (kind : ByteArray) (k : Nat) (r : S36) (h : (rulesL kind)[k]? = some r) : placeL kind r.f0 = k := by
 unfold placeL; rw [look_at kind k r h]
theorem look_some (kind key : ByteArray) (h : 0 ≤ placeL kind key) : ∃ r k, lookL kind key = some (r, k) ∧ (rulesL kind)[k]? = some r ∧ r.f0 = key ∧ placeL kind key = (k : Int) := by
 have hp := h
 unfold placeL at h
 cases hl : lookL kind key with
 | none => rw [hl] at h; simp at h
 | some q =>
  obtain ⟨r, k⟩ := q
  obtain ⟨_, h2, _, h4⟩ := lookFrom_mem key _ _ _ _ hl
  exact ⟨r, k, rfl, by simpa using h4, h2, by unfold placeL; rw [hl]⟩
theorem key_place (kind key : ByteArray) (k : Nat) (r : S36) (h : (rulesL kind)[k]? = some r) (hp : 0 ≤ placeL kind key) : key = r.f0 ↔ placeL kind key = k := by
 constructor
 ·rintro rfl; exact place_at kind k r h
 ·intro e
  obtain ⟨r', k', _, h2, h3, h4⟩ := look_some kind key hp
  have : k' = k := by omega
  subst this
  rw [h] at h2
  injection h2 with h2
  rw [← h3, ← h2]
def ofKey (key : ByteArray) (ls : List S83) : List S83 := ls.filter fun l => decide (l.f0 = key)
def stdLine (r : S36) : S83 := ⟨r.f0, r.f3⟩
def fillR (ls : List S83) (r : S36) : List S83 := if (!r.f2 && (ofKey r.f0 ls).isEmpty) = true then [stdLine r] else ofKey r.f0 ls
abbrev Cut2 := List Value × S83
def SrcL (w : World) (A : Option Addr) (T : List Cut2) : Prop := ∀ (j : Nat) (t : Cut2), T[j]? = some t → ∃ ad B n d, A = some ad ∧ t.1 = [.string t.2.f0, .slice B n d] ∧ w.cell? (ad.add (j * 2)) = some (.string t.2.f0) ∧ w.cell? ⟨(ad.add (j * 2)).block, (ad.add (j * 2)).off + 1, none⟩ = some (.slice B n d)
theorem SrcL.below {w w' : World} {A : Option Addr} {T : List Cut2} (h : SrcL w A T) (hb : Below w.heap.size w w') : SrcL w' A T := fun j t hj => by
 obtain ⟨ad, B, n, d, h1, h2, h3, h4⟩ := h j t hj
 exact ⟨ad, B, n, d, h1, h2, pw_cell_below hb h3, pw_cell_below hb h4⟩
theorem own_shape {w : World} {b e k n : Nat} {v : Value} {cs : List Value} (h : w.ownsRow b e k v n cs) : ∃ A m d, v = .slice A m d := by
 rcases ownSl h with ⟨rfl, _⟩ | ⟨g, c, rfl⟩
 ·exact ⟨_, _, _, rfl⟩
 ·exact ⟨_, _, _, rfl⟩
theorem own_shapeN {w : World} {b e k n : Nat} {v : Value} {cs : List Value} (h : w.ownsRow b e k v n cs) : ∃ A d, v = .slice A n d := by
 rcases ownSl h with ⟨rfl, rfl⟩ | ⟨g, c, rfl⟩
 ·exact ⟨_, _, rfl⟩
 ·exact ⟨_, _, rfl⟩
def isKey (key : ByteArray) (t : Cut2) : Bool := decide (t.2.f0 = key)
theorem take_filter (p : Cut2 → Bool) (T : List Cut2) (j : Nat) (t : Cut2) (h : T[j]? = some t) : (T.take (j + 1)).filter p = (T.take j).filter p ++ (if p t = true then [t] else []) := by
 rw [List.take_add_one, h, List.filter_append]
 congr 1
 simp only [Option.toList_some]
 cases hp : p t <;> simp [hp]
set_option maxRecDepth 100000 in
set_option maxHeartbeats 2000000 in
theorem of_c (k0 n0 key : ByteArray) (T : List Cut2) (hn : T.length ≤ 1099511627776) (A : Option Addr) (c : Nat) (w : World) (hr : SrcL w A T) :
  Calls Tryd.prog 87 #[.agg #[.string k0, .string n0, .slice A T.length c], .string key] w fun e w' => ∃ v, e = .returned v ∧ w'.ownsRow w.heap.size 83 2 v (T.filter (isKey key)).length ((T.filter (isKey key)).map Prod.fst).flatten ∧ Below w.heap.size w w' := by
 have HR := Aside0.mk hr
 clear hr
 go_enter Tryd.func87, Tryd.ntmps87
 go_wp2
 go_loopw [5, 11] (fun (v i : Value) (wr : World) => ∃ (j : Nat), i = .int .i64 j ∧ j ≤ T.length ∧ Below w.heap.size w wr ∧ Aside0 (wr.ownsRow w.heap.size 83 2 v ((T.take j).filter (isKey key)).length (((T.take j).filter (isKey key)).map Prod.fst).flatten)) (fun _ i _ => T.length - (intOf i).toNat)
 case atStart => exact ⟨0, rfl, Nat.zero_le _, (Below.refl _ _).alloc (Nat.le_refl _) _, ⟨World.ownsRow_nil _ _ _ _⟩⟩
 case round =>
  obtain ⟨j, rfl, hj, hB, hO⟩ := hrel
  obtain ⟨Ad, m, d, rfl⟩ := own_shape hO.out
  by_cases hlt : j < T.length
  ·have hfl : ((T.take j).filter (isKey key)).length ≤ j := by have := List.length_filter_le (isKey key) (T.take j); rw [List.length_take] at this; omega
   obtain ⟨ad, B1, n1, d1, rfl, ht1, hx0, hx1⟩ := HR.out.below hB j T[j] (List.getElem?_eq_getElem hlt)
   have hnx := take_filter (isKey key) T j T[j] (List.getElem?_eq_getElem hlt)
   have hik : isKey key T[j] = decide (T[j].2.f0 = key) := rfl
   generalize T[j] = t at *
   obtain ⟨us, f0, f1⟩ := t
   simp only at ht1 hx0 hik
   subst ht1
   have i1 : (j : Int) < (T.length : Int) := by omega
   generalize hR : (T.take j).filter (isKey key) = R at *
   clear hR
   have hs3 : w.heap.size ≤ wr.heap.size := hB.size
   by_cases q : f0 = key
   ·subst q
    rw [hik, decide_eq_true rfl, if_pos rfl] at hnx
    have HNX := Aside0.mk hnx
    clear hnx hik
    have hO2 := Aside0.mk (own_move hO.out (fun k hk => (Below.block ((Below.refl wr.heap.size wr).alloc (Nat.le_refl _) (.cells #[.string f0, .slice B1 n1 d1] 83)) k (own_lt hO.out k hk))))
    have hB2 := Aside0.mk (hB.alloc hB.size (.cells #[.string f0, .slice B1 n1 d1] 83))
    clear hO hB
    go_wp2_with (at_builtin; refine ap_lit (w0 := w) (W := wr.alloc (.cells #[.string f0, .slice B1 n1 d1] 83)) w.heap.size rfl (.tmp 19) (.tmp 21) 52 83 (.agg #[.string ⟨#[]⟩, .slice none 0 0]) 2 40 rfl Tryd.underlying52 infoLine rfl (by decide) (by decide) (.slice Ad m d) R.length 1 (R.map Prod.fst).flatten [.string f0, .slice B1 n1 d1] rfl ?hy rfl ?h1 hO2.out hB2.out ?hbase ?hl ?_)
    case hy => simp [Act.eval]
    case h1 => intro u hu; simp at hu; rcases hu with rfl | rfl <;> rfl
    case hbase => simp; omega
    case hl => omega
    intro v3 w3 ho3 hb3 _ _
    have hO3 : Aside0 (w3.ownsRow w.heap.size 83 2 v3 ((T.take (j + 1)).filter (isKey f0)).length (((T.take (j + 1)).filter (isKey f0)).map Prod.fst).flatten) := ⟨by rw [HNX.out]; simpa using ho3⟩
    clear ho3 hO2 hB2 hx0 hx1
    go_wp2
    go_roundw
    case rel => exact ⟨j + 1, by go_num, hlt, hb3, hO3⟩
    case measure => simp [intOf]; omega
   ·have nq := str_ne' _ _ q
    rw [hik, decide_eq_false q] at hnx
    simp only [Bool.false_eq_true, if_false, List.append_nil] at hnx
    have hO3 : Aside0 ((wr.alloc (.cells #[.string f0, .slice B1 n1 d1] 83)).ownsRow w.heap.size 83 2 (.slice Ad m d) ((T.take (j + 1)).filter (isKey key)).length (((T.take (j + 1)).filter (isKey key)).map Prod.fst).flatten) := ⟨by
     rw [hnx]
     exact own_move hO.out (fun k hk => (Below.block ((Below.refl wr.heap.size wr).alloc (Nat.le_refl _) _) k (own_lt hO.out k hk)))⟩
    have hB2 : Below w.heap.size w (wr.alloc (.cells #[.string f0, .slice B1 n1 d1] 83)) := hB.alloc hB.size _
    clear hnx hik q hO
    go_wp2
    go_roundw
    case rel => exact ⟨j + 1, by go_num, hlt, hB2, hO3⟩
    case measure => simp [intOf]; omega
  ·obtain rfl : j = T.length := by omega
   have HO2 := hO.out
   rw [List.take_length] at HO2
   have HO3 := Aside0.mk HO2
   clear HO2 hO
   go_wp2
   go_ret
   exact ⟨_, rfl, HO3.out, hB⟩
def findB (kind name : ByteArray) : List S62 → Nat → Int
 | [], _ => -1
 | b :: bs, i => if b.f0 = kind ∧ b.f1 = name then (i : Int) else findB kind name bs (i + 1)
set_option maxRecDepth 100000 in
set_option maxHeartbeats 1000000 in
theorem atClosure_c (f0 f1 kind name : ByteArray) (dv : Value) (B1 B2 : Nat) (w : World) (h1 : w.cell? ⟨B1, 0, none⟩ = some (.string kind)) (h2 : w.cell? ⟨B2, 0, none⟩ = some (.string name)) (hl1 : B1 < w.heap.size) (hl2 : B2 < w.heap.size) (_hd : dv.oneCell' = true) :
  Calls Tryd.prog 124 #[.agg #[.string f0, .string f1, dv], .pointer (some ⟨B1, 0, none⟩), .pointer (some ⟨B2, 0, none⟩)] w fun e w' => e = .returned (.bool (decide (f0 = kind ∧ f1 = name))) ∧ Below w.heap.size w w' := by
 by_cases q1 : f0 = kind
 ·subst q1
  by_cases q2 : f1 = name
  ·subst q2
   go_enter Tryd.func124, Tryd.ntmps124
   go_wp2
   go_ret
   exact ⟨by simp, (Below.refl _ _).alloc (Nat.le_refl _) _⟩
  ·have n2 := str_ne' _ _ q2
   have HQ := Aside0.mk q2
   clear q2
   go_enter Tryd.func124, Tryd.ntmps124
   go_wp2
   go_ret
   exact ⟨by simp [HQ.out], (Below.refl _ _).alloc (Nat.le_refl _) _⟩
 ·have n1 := str_ne' _ _ q1
  have HQ := Aside0.mk q1
  clear q1
  go_enter Tryd.func124, Tryd.ntmps124
  go_wp2
  go_ret
  exact ⟨by simp [HQ.out], (Below.refl _ _).alloc (Nat.le_refl _) _⟩
set_option maxRecDepth 100000 in
set_option maxHeartbeats 1000000 in
theorem indexFunc_c (kind name : ByteArray) (bs : List S62) (hn : bs.length ≤ 1099511627776) (A : Option Addr) (c B1 B2 : Nat) (w : World) (hr : Kd.C k62 w A bs.length bs) (h1 : w.cell? ⟨B1, 0, none⟩ = some (.string kind)) (h2 : w.cell? ⟨B2, 0, none⟩ = some (.string name)) (hl1 : B1 < w.heap.size) (hl2 : B2 < w.heap.size) :
  Calls Tryd.prog 123 #[.slice A bs.length c, .func (.func 124) #[] #[.pointer (some ⟨B1, 0, none⟩), .pointer (some ⟨B2, 0, none⟩)]] w fun e w' => e = .returned (.int .i64 (findB kind name bs 0)) ∧ Below w.heap.size w w' := by
 have eg : ∀ args w, (callFunc 124 args).run Tryd.prog w = .ok (.enter 124 args) w := enters_of Tryd.func124 (by kernel_rfl) rfl
 have HR := Aside0.mk hr
 have H1 := Aside0.mk h1
 have H2 := Aside0.mk h2
 clear hr h1 h2
 go_enter Tryd.func123, Tryd.ntmps123
 go_wp2
 go_loopw [8] (fun v wr => ∃ k : Nat, v = .int .i64 k ∧ k ≤ bs.length ∧ Below w.heap.size w wr ∧ Aside0 (findB kind name bs 0 = findB kind name (bs.drop k) k)) (fun v _ => bs.length - (intOf v).toNat)
 case atStart => exact ⟨0, rfl, Nat.zero_le _, Below.refl _ _, ⟨rfl⟩⟩
 case round =>
  obtain ⟨k, rfl, hk, hB, hf⟩ := hrel
  by_cases hlt : k < bs.length
  ·obtain ⟨ad, A1, c1, rfl, hx0, hx1, hx2, hl, hC⟩ := block_at (Kd.C_below HR.out hB) k bs[k] (List.getElem?_eq_getElem hlt)
   have hst := hf.out
   rw [List.drop_eq_getElem_cons hlt, findB] at hst
   have c1 := pw_cell_below hB H1.out
   have c2 := pw_cell_below hB H2.out
   have d1 : B1 < wr.heap.size := Nat.lt_of_lt_of_le hl1 hB.size
   have d2 : B2 < wr.heap.size := Nat.lt_of_lt_of_le hl2 hB.size
   generalize bs[k] = b at *
   obtain ⟨f0, f1, ls⟩ := b
   have i1 : (k : Int) < (bs.length : Int) := by omega
   clear hf hC
   by_cases q : f0 = kind ∧ f1 = name
   ·rw [if_pos q] at hst
    have HST := Aside0.mk hst
    have HQ := Aside0.mk (decide_eq_true q)
    clear hst q
    go_wp2_with fail
    refine (atClosure_c f0 f1 kind name _ B1 B2 _ c1 c2 d1 d2 rfl).mono ?_
    rw [HQ.out]
    rintro e w2 ⟨rfl, hb2⟩
    go_wp2
    go_ret
    exact ⟨retI HST.out.symm, hB.trans (hb2.mono hB.size)⟩
   ·rw [if_neg q] at hst
    have HST := Aside0.mk hst
    have HQ := Aside0.mk (decide_eq_false q)
    clear hst q
    go_wp2_with fail
    refine (atClosure_c f0 f1 kind name _ B1 B2 _ c1 c2 d1 d2 rfl).mono ?_
    rw [HQ.out]
    rintro e w2 ⟨rfl, hb2⟩
    have hB2 := hB.trans (hb2.mono hB.size)
    clear hb2 c1 c2 hx0 hx1 hx2
    go_wp2
    go_roundw
    case rel => exact ⟨k + 1, by go_num, hlt, hB2, HST⟩
    case measure => simp [intOf]; omega
  ·obtain rfl : k = bs.length := by omega
   have hst := hf.out
   rw [List.drop_length, findB] at hst
   have HST := Aside0.mk hst
   clear hst hf
   go_wp2
   go_ret
   exact ⟨retI HST.out.symm, hB⟩
set_option maxRecDepth 100000 in
set_option maxHeartbeats 1000000 in
theorem at_c (kind name : ByteArray) (bs : List S62) (hn : bs.length ≤ 1099511627776) (A : Option Addr) (c : Nat) (w : World) (hr : Kd.C k62 w A bs.length bs) :
  Calls Tryd.prog 85 #[.agg #[.slice A bs.length c], .string kind, .string name] w fun e w' => e = .returned (.int .i64 (findB kind name bs 0)) ∧ Below w.heap.size w w' := by
 have HR := Aside0.mk hr
 clear hr
 go_enter Tryd.func85, Tryd.ntmps85
 go_wp2_with fail
 have hB : ∀ x y z, Below w.heap.size w (((w.alloc x).alloc y).alloc z) := fun x y z => (((Below.refl _ _).alloc (Nat.le_refl _) _).alloc (by simp) _).alloc (by simp; omega) _
 refine (indexFunc_c kind name bs hn A c _ _ _ (Kd.C_below HR.out (hB _ _ _)) (by go_simp) (by go_simp) (by simp; try omega) (by simp; try omega)).mono ?_
 rintro e w1 ⟨rfl, hb1⟩
 have hB1 := Aside0.mk ((hB _ _ _).trans (hb1.mono (by simp; omega)))
 clear hb1 hB
 go_wp2
 go_ret
 exact ⟨rfl, hB1.out⟩
theorem src_of_C {w : World} {A : Option Addr} {n : Nat} {ls : List S83} (h : Kd.C k83 w A n ls) : ∃ T : List Cut2, T.map Prod.snd = ls ∧ SrcL w A T ∧ ∀ t ∈ T, ∃ B d, t.1 = [.string t.2.f0, .slice B t.2.f1.length d] ∧ t.2.f1.length ≤ d ∧ Kd.C Kd.string w B t.2.f1.length t.2.f1 := by
 have each : ∀ i, i < ls.length → ∃ t : Cut2, (ls[i]? = some t.2) ∧ (∃ ad B d, A = some ad ∧ t.1 = [.string t.2.f0, .slice B t.2.f1.length d] ∧ w.cell? (ad.add (i * 2)) = some (.string t.2.f0) ∧ w.cell? ⟨(ad.add (i * 2)).block, (ad.add (i * 2)).off + 1, none⟩ = some (.slice B t.2.f1.length d) ∧ t.2.f1.length ≤ d ∧ Kd.C Kd.string w B t.2.f1.length t.2.f1) := by
  intro i hi
  obtain ⟨ad, B, d, h1, h2, h3, h4, h5⟩ := line_at h i ls[i] (List.getElem?_eq_getElem hi)
  exact ⟨([.string ls[i].f0, .slice B ls[i].f1.length d], ls[i]), List.getElem?_eq_getElem hi, ad, B, d, h1, rfl, h2, h3, h4, h5⟩
 obtain ⟨T, hl, hT⟩ := list_choose (fun i (t : Cut2) => (ls[i]? = some t.2) ∧ (∃ ad B d, A = some ad ∧ t.1 = [.string t.2.f0, .slice B t.2.f1.length d] ∧ w.cell? (ad.add (i * 2)) = some (.string t.2.f0) ∧ w.cell? ⟨(ad.add (i * 2)).block, (ad.add (i * 2)).off + 1, none⟩ = some (.slice B t.2.f1.length d) ∧ t.2.f1.length ≤ d ∧ Kd.C Kd.string w B t.2.f1.length t.2.f1)) ls.length each
 refine ⟨T, ?_, fun j t hj => ?_, fun t ht => ?_⟩
 ·apply List.ext_getElem?
  intro i
  rw [List.getElem?_map]
  by_cases hi : i < T.length
  ·rw [List.getElem?_eq_getElem hi, Option.map_some]
   exact (hT i _ (List.getElem?_eq_getElem hi)).1.symm
  ·rw [List.getElem?_eq_none (by omega), List.getElem?_eq_none (by omega)]; rfl
 ·obtain ⟨_, ad, B, d, h1, h2, h3, h4, _⟩ := hT j t hj
  exact ⟨ad, B, _, d, h1, h2, h3, h4⟩
 ·obtain ⟨i, hi⟩ := List.getElem?_of_mem ht
  obtain ⟨_, ad, B, d, _, h2, _, _, h5, h6⟩ := hT i t hi
  exact ⟨B, d, h2, h5, h6⟩
theorem C_of_own {w : World} {b c : Nat} {A : Option Addr} {T : List Cut2} (h : w.ownsRow b 83 2 (.slice A T.length c) T.length (T.map Prod.fst).flatten) (hn : T.length ≤ 9223372036854775807) (hT : ∀ t ∈ T, ∃ B d, t.1 = [.string t.2.f0, .slice B t.2.f1.length d] ∧ t.2.f1.length ≤ d ∧ Kd.C Kd.string w B t.2.f1.length t.2.f1) :
  Kd.C k83 w A T.length (T.map Prod.snd) := by
 refine ⟨by simp, hn, fun hp => ?_⟩
 have h' := h
 rcases ownSl h with ⟨hv, h0⟩ | ⟨g, c', hv⟩
 ·omega
 ·injection hv with hv _ _
  subst hv
  refine ⟨_, rfl, fun j p hj => ?_⟩
  rw [List.getElem?_map] at hj
  obtain ⟨t, ht, rfl⟩ := Option.map_eq_some_iff.1 hj
  have hjl := (List.getElem?_eq_some_iff.1 ht).1
  obtain ⟨B, d, e1, e2, e3⟩ := hT t (List.mem_of_getElem? ht)
  have hls : ∀ vs ∈ T.map Prod.fst, vs.length = 2 := by
   intro vs hvs
   obtain ⟨s, hs, rfl⟩ := List.mem_map.1 hvs
   obtain ⟨B', d', e1', _⟩ := hT s hs
   rw [e1']; rfl
  refine ⟨[.string t.2.f0, .slice B t.2.f1.length d], rfl, ⟨[.string t.2.f0], [.slice B t.2.f1.length d], rfl, rfl, B, d, rfl, e2, e3⟩, fun i u hu => ?_⟩
  have hi2 : i < 2 := by have := (List.getElem?_eq_some_iff.1 hu).1; simpa using this
  have h3 := flat_at (T.map Prod.fst) j t.1 hls (by rw [List.getElem?_map, ht]; rfl) i hi2
  have h4 := World.ownsRow.cellAt h (j * 2 + i) (by have : (j + 1) * 2 ≤ T.length * 2 := Nat.mul_le_mul_right _ hjl; omega)
  rw [h3, e1, hu] at h4
  have e : ((⟨g, 0, none⟩ : Addr).add (j * 2 + i)) = ⟨g, j * 2 + i, none⟩ := by simp [Addr.add]; intros; omega
  change w.cell? ((⟨g, 0, none⟩ : Addr).add (j * 2 + i)) = some u
  rw [e]
  exact h4
theorem filter_snd (key : ByteArray) (T : List Cut2) : (T.filter (isKey key)).map Prod.snd = ofKey key (T.map Prod.snd) := by
 unfold ofKey
 rw [List.filter_map]
 rfl
theorem ofKey_small {key : ByteArray} {ls : List S83} (h : smallLs ls) : smallLs (ofKey key ls) :=
 ⟨Nat.le_trans (List.length_filter_le _ _) h.1, fun l hl => h.2 l (List.mem_filter.1 hl).1⟩
end Go.Proofs.YtmcdnpooclelgaaDoor.PAll
namespace Go.Proofs.YtmcdnpooclelgaaDoor.PAll
open Go.RowKit Go.Proofs.YtmcdnpooclelgaaDoorW.PrintWords Go.Proofs.YtmcdnpooclelgaaDoorW.PrintLast Go.Proofs.YtmcdnpooclelgaaDoorW.PrintMore
attribute [local go_sem] max2_int min2_int max_two min_two max_three min_three max_four min_four   -- for this text's walks alone
def spec_l3Find.l0 : Nat → ByteArray → ByteArray → Int → List (S62) → Option (Int)
 | 0, _, _, _, _ => none
 | k + 1, x1, x2, x7, x503000 => if x7 < (x503000.length : Int) then (if 0 ≤ x7 then (if ((rd_T62 x503000 x7).f0).toList = x1.toList then (if ((rd_T62 x503000 x7).f1).toList = x2.toList then (some x7) else (spec_l3Find.l0 k x1 x2 (wrap64 (x7 + 1)) x503000)) else (spec_l3Find.l0 k x1 x2 (wrap64 (x7 + 1)) x503000)) else (none)) else (some (-1))
def spec_l3Find.f (k : Nat) (l0_0 : List (S62)) (a1 : ByteArray) (a2 : ByteArray) : Option (Int) := spec_l3Find.l0 k a1 a2 0 l0_0
set_option maxHeartbeats 8000000 in
set_option maxRecDepth 100000 in
theorem spec_l3Find.calls (k : Nat) (A0_0 : Option Addr) (c0_0 : Nat) (l0_0 : List (S62)) (a1 : ByteArray) (a2 : ByteArray) (r : Int) (w : World) (hr0_0 : Kd.C k62 w A0_0 l0_0.length l0_0) (hc0_0 : l0_0.length ≤ c0_0) (h : spec_l3Find.f k l0_0 a1 a2 = some r) :
  Calls Tryd.prog 83 #[.agg #[.slice A0_0 l0_0.length c0_0], .string a1, .string a2] w fun e w' => e = .returned (.int .i64 r) ∧ Below w.heap.size w w' := by
 have hu47 := Tryd.underlying47
 have HR0_0 := Aside0.mk hr0_0
 have HC0_0 := Aside0.mk hc0_0
 clear hr0_0 hc0_0
 have HB := Aside0.mk (Below.refl w.heap.size w)
 have H : (spec_l3Find.l0 k a1 a2 0 l0_0) = some r := h
 clear h
 have H' := Aside0.mk H
 clear H
 go_enter Tryd.func83, Tryd.ntmps83
 go_wp2_with (first | ((with_reducible refine gate_dst (N := 3) rfl ?_); refine box_event ?hg (N := 3) ?hd (cs := #[.slice A0_0 l0_0.length c0_0]) (t := 47) ?hr ?_; (case hd => rfl); (case hg => rfl); (case hr => first | (go_simp; done) | (go_simp; rfl)); intro gb502 hg w4 hbox hb; have n0_ := Aside0.mk (below_step (stB HB.out) hb); have n1_ := Aside0.mk (hbox); have n2_ := Aside0.mk ((by rw [hg]; exact (below_size (stB HB.out)) : w.heap.size ≤ gb502)); have n3_ := Aside0.mk ((by rw [hg]; exact (below_size (stB HB.out)) : w.heap.size ≤ gb502)); clear HB; have HB := n0_; have BK502 := n1_; have GW502 := n2_; have GE502 := n3_; clear n0_ n1_ n2_ n3_; clear hb hbox hg))
 go_loopg [7] k (fun kq v7 w' => ∃ (x7_1 : Int), v7 = .int .i64 x7_1 ∧ Aside0 (spec_l3Find.l0 kq a1 a2 x7_1 l0_0 = some r) ∧ Aside0 (kq ≤ k) ∧ Aside0 (w'.heap[gb502]? = some (.cells #[(.slice A0_0 l0_0.length c0_0)] 47 (0, 0))) ∧ Aside0 (Below w.heap.size w w'))
 case atStart => exact ⟨(0), (by first | rfl | (simp; done) | (simp [*]; done)), H', ⟨Nat.le_refl _⟩, ⟨by (with_reducible repeat (first | refine blk_drewN ?_ _ | refine blk_drew ?_ | refine blk_alloc ?_ _)); exact BK502.out⟩, ⟨by repeat (first | (with_reducible first | exact HB.out | apply below_alloc | apply pw_below_drewN | apply below_drew1 | refine below_set ?_ GE502.out) | exact HB.out)⟩⟩
 case round =>
  clear H'
  try clear p2
  obtain ⟨x7_1, rfl, HA, HK1, BK502, HB⟩ := hrel
  cases gk with
  | zero => exact absurd HA.out (by simp [spec_l3Find.l0])
  | succ k1 =>
   have H := HA.out
   clear HA
   simp only [spec_l3Find.l0] at H
   by_cases c5 : x7_1 < (l0_0.length : Int)
   ·rw [if_pos c5] at H
    have c5b0 : decide (x7_1 < (l0_0.length : Int)) = true := decide_eq_true c5
    clear c5
    by_cases c6 : 0 ≤ x7_1
    ·rw [if_pos c6] at H
     have c6b0 : decide (0 ≤ x7_1) = true := decide_eq_true c6
     clear c6
     by_cases c7 : ((rd_T62 l0_0 x7_1).f0).toList = a1.toList
     ·rw [if_pos c7] at H
      have c7b0 : (((rd_T62 l0_0 x7_1).f0).toList == a1.toList) = true := beq_iff_eq.mpr c7
      have c7b1 : (((rd_T62 l0_0 x7_1).f0).toList != a1.toList) = false := bne_eq_false_iff_eq.mpr c7
      clear c7
      by_cases c8 : ((rd_T62 l0_0 x7_1).f1).toList = a2.toList
      ·rw [if_pos c8] at H
       have c8b0 : (((rd_T62 l0_0 x7_1).f1).toList == a2.toList) = true := beq_iff_eq.mpr c8
       have c8b1 : (((rd_T62 l0_0 x7_1).f1).toList != a2.toList) = false := bne_eq_false_iff_eq.mpr c8
       clear c8
       obtain rfl := Option.some.inj H
       have hcz9_0 : wr.cell? ⟨gb502, 0, none⟩ = some (.slice A0_0 l0_0.length c0_0) := (blk_cell BK502.out 0).trans rfl
       have hfz9_0 := blk_frozen BK502.out 0
       have p503 : 0 ≤ (x7_1 : Int) := of_decide_eq_true (by first | (with_reducible assumption) | assumption)
       have q503 : x7_1 < (l0_0.length : Int) := of_decide_eq_true (by first | (with_reducible assumption) | assumption)
       obtain ⟨ad503, A503_2, c503_2, e503, hx503_0, hx503_1, hx503_2, hl503_2, hi503_2⟩ := at_T62 HR0_0.out x7_1 p503 q503
       cases e503
       (try replace hx503_0 := (HB.out.cell (World.block_lt_of_cell? w _ hx503_0)).trans hx503_0)
       (try replace hx503_1 := (HB.out.cell (World.block_lt_of_cell? w _ hx503_1)).trans hx503_1)
       (try replace hx503_2 := (HB.out.cell (World.block_lt_of_cell? w _ hx503_2)).trans hx503_2)
       have HR503_2 := Aside0.mk hi503_2
       have HC503_2 := Aside0.mk hl503_2
       clear hi503_2 hl503_2
       replace p503 := eq_true p503
       replace q503 := eq_true q503
       have p504 : 0 ≤ (x7_1 : Int) := of_decide_eq_true (by first | (with_reducible assumption) | assumption)
       have q504 : x7_1 < (l0_0.length : Int) := of_decide_eq_true (by first | (with_reducible assumption) | assumption)
       obtain ⟨ad504, A504_2, c504_2, e504, hx504_0, hx504_1, hx504_2, hl504_2, hi504_2⟩ := at_T62 HR0_0.out x7_1 p504 q504
       obtain rfl : ad503 = ad504 := (by injection e504)
       (try replace hx504_0 := (HB.out.cell (World.block_lt_of_cell? w _ hx504_0)).trans hx504_0)
       (try replace hx504_1 := (HB.out.cell (World.block_lt_of_cell? w _ hx504_1)).trans hx504_1)
       (try replace hx504_2 := (HB.out.cell (World.block_lt_of_cell? w _ hx504_2)).trans hx504_2)
       have HR504_2 := Aside0.mk hi504_2
       have HC504_2 := Aside0.mk hl504_2
       clear hi504_2 hl504_2
       replace p504 := eq_true p504
       replace q504 := eq_true q504
       have ea_ := Option.some.inj (hx503_2.symm.trans hx504_2)
       injection ea_ with ea_ en_ ec_
       subst ea_
       subst ec_
       clear en_
       go_wp2
       go_ret
       exact ⟨by first | rfl | (simp [errW_none, errW_some] <;> rfl) | (simp [*, errW_none, errW_some] <;> rfl), by repeat (first | (with_reducible first | exact HB.out | apply below_alloc | apply pw_below_drewN | apply below_drew1 | refine below_set ?_ GE502.out) | exact HB.out)⟩
      ·rw [if_neg c8] at H
       have c8b0 : (((rd_T62 l0_0 x7_1).f1).toList == a2.toList) = false := beq_eq_false_iff_ne.mpr c8
       have c8b1 : (((rd_T62 l0_0 x7_1).f1).toList != a2.toList) = true := bne_iff_ne.mpr c8
       have H' := Aside0.mk H
       clear H
       have hcz10_0 : wr.cell? ⟨gb502, 0, none⟩ = some (.slice A0_0 l0_0.length c0_0) := (blk_cell BK502.out 0).trans rfl
       have hfz10_0 := blk_frozen BK502.out 0
       have p503 : 0 ≤ (x7_1 : Int) := of_decide_eq_true (by first | (with_reducible assumption) | assumption)
       have q503 : x7_1 < (l0_0.length : Int) := of_decide_eq_true (by first | (with_reducible assumption) | assumption)
       obtain ⟨ad503, A503_2, c503_2, e503, hx503_0, hx503_1, hx503_2, hl503_2, hi503_2⟩ := at_T62 HR0_0.out x7_1 p503 q503
       cases e503
       (try replace hx503_0 := (HB.out.cell (World.block_lt_of_cell? w _ hx503_0)).trans hx503_0)
       (try replace hx503_1 := (HB.out.cell (World.block_lt_of_cell? w _ hx503_1)).trans hx503_1)
       (try replace hx503_2 := (HB.out.cell (World.block_lt_of_cell? w _ hx503_2)).trans hx503_2)
       have HR503_2 := Aside0.mk hi503_2
       have HC503_2 := Aside0.mk hl503_2
       clear hi503_2 hl503_2
       replace p503 := eq_true p503
       replace q503 := eq_true q503
       have p504 : 0 ≤ (x7_1 : Int) := of_decide_eq_true (by first | (with_reducible assumption) | assumption)
       have q504 : x7_1 < (l0_0.length : Int) := of_decide_eq_true (by first | (with_reducible assumption) | assumption)
       obtain ⟨ad504, A504_2, c504_2, e504, hx504_0, hx504_1, hx504_2, hl504_2, hi504_2⟩ := at_T62 HR0_0.out x7_1 p504 q504
       obtain rfl : ad503 = ad504 := (by injection e504)
       (try replace hx504_0 := (HB.out.cell (World.block_lt_of_cell? w _ hx504_0)).trans hx504_0)
       (try replace hx504_1 := (HB.out.cell (World.block_lt_of_cell? w _ hx504_1)).trans hx504_1)
       (try replace hx504_2 := (HB.out.cell (World.block_lt_of_cell? w _ hx504_2)).trans hx504_2)
       have HR504_2 := Aside0.mk hi504_2
       have HC504_2 := Aside0.mk hl504_2
       clear hi504_2 hl504_2
       replace p504 := eq_true p504
       replace q504 := eq_true q504
       have ea_ := Option.some.inj (hx503_2.symm.trans hx504_2)
       injection ea_ with ea_ en_ ec_
       subst ea_
       subst ec_
       clear en_
       go_wp2
       go_roundg k1
       case measure => have := HK1.out; omega
       case rel => exact ⟨(wrap64 (x7_1 + 1)), (by first | rfl | (simp; done) | (simp [*]; done)), H', ⟨by have := HK1.out; omega⟩, ⟨by (with_reducible repeat (first | refine blk_drewN ?_ _ | refine blk_drew ?_ | refine blk_alloc ?_ _)); exact BK502.out⟩, ⟨by repeat (first | (with_reducible first | exact HB.out | apply below_alloc | apply pw_below_drewN | apply below_drew1 | refine below_set ?_ GE502.out) | exact HB.out)⟩⟩
     ·rw [if_neg c7] at H
      have c7b0 : (((rd_T62 l0_0 x7_1).f0).toList == a1.toList) = false := beq_eq_false_iff_ne.mpr c7
      have c7b1 : (((rd_T62 l0_0 x7_1).f0).toList != a1.toList) = true := bne_iff_ne.mpr c7
      have H' := Aside0.mk H
      clear H
      have hcz11_0 : wr.cell? ⟨gb502, 0, none⟩ = some (.slice A0_0 l0_0.length c0_0) := (blk_cell BK502.out 0).trans rfl
      have hfz11_0 := blk_frozen BK502.out 0
      have p503 : 0 ≤ (x7_1 : Int) := of_decide_eq_true (by first | (with_reducible assumption) | assumption)
      have q503 : x7_1 < (l0_0.length : Int) := of_decide_eq_true (by first | (with_reducible assumption) | assumption)
      obtain ⟨ad503, A503_2, c503_2, e503, hx503_0, hx503_1, hx503_2, hl503_2, hi503_2⟩ := at_T62 HR0_0.out x7_1 p503 q503
      cases e503
      (try replace hx503_0 := (HB.out.cell (World.block_lt_of_cell? w _ hx503_0)).trans hx503_0)
      (try replace hx503_1 := (HB.out.cell (World.block_lt_of_cell? w _ hx503_1)).trans hx503_1)
      (try replace hx503_2 := (HB.out.cell (World.block_lt_of_cell? w _ hx503_2)).trans hx503_2)
      have HR503_2 := Aside0.mk hi503_2
      have HC503_2 := Aside0.mk hl503_2
      clear hi503_2 hl503_2
      replace p503 := eq_true p503
      replace q503 := eq_true q503
      go_wp2
      go_roundg k1
      case measure => have := HK1.out; omega
      case rel => exact ⟨(wrap64 (x7_1 + 1)), (by first | rfl | (simp; done) | (simp [*]; done)), H', ⟨by have := HK1.out; omega⟩, ⟨by (with_reducible repeat (first | refine blk_drewN ?_ _ | refine blk_drew ?_ | refine blk_alloc ?_ _)); exact BK502.out⟩, ⟨by repeat (first | (with_reducible first | exact HB.out | apply below_alloc | apply pw_below_drewN | apply below_drew1 | refine below_set ?_ GE502.out) | exact HB.out)⟩⟩
    ·rw [if_neg c6] at H
     exact absurd H (by simp)
   ·rw [if_neg c5] at H
    have c5b0 : decide (x7_1 < (l0_0.length : Int)) = false := decide_eq_false c5
    clear c5
    obtain rfl := Option.some.inj H
    have hcz12_0 : wr.cell? ⟨gb502, 0, none⟩ = some (.slice A0_0 l0_0.length c0_0) := (blk_cell BK502.out 0).trans rfl
    have hfz12_0 := blk_frozen BK502.out 0
    go_wp2
    go_ret
    exact ⟨by first | rfl | (simp [errW_none, errW_some] <;> rfl) | (simp [*, errW_none, errW_some] <;> rfl), by repeat (first | (with_reducible first | exact HB.out | apply below_alloc | apply pw_below_drewN | apply below_drew1 | refine below_set ?_ GE502.out) | exact HB.out)⟩
def spec_l3Lines.l0 : Nat → List (S83) → List (S83) → Int → Option ((List (S83)))
 | 0, _, _, _ => none
 | k + 1, x0, x3, x4 => if x4 < (x0.length : Int) then (if 0 ≤ x4 then ((some (([] : List ByteArray) : List ByteArray)).bind fun y509 => (if y509.length + ((rd_T83 x0 x4).f1).length < 8796093022208 then (if x3.length < 3518437208883 then (spec_l3Lines.l0 k x0 (x3 ++ [(⟨(rd_T83 x0 x4).f0, (y509 ++ ((rd_T83 x0 x4).f1))⟩ : S83)]) (wrap64 (x4 + 1))) else (none)) else (none))) else (none)) else (some x3)
def spec_l3Lines.f (k : Nat) (l0 : List (S83)) : Option ((List (S83))) := spec_l3Lines.l0 k l0 (([] : List (S83))) 0
def spec_l3Lines.T5 : Bool × List (List Nat × List Nat) := (true, [([], []), ([], []), ([], []), ([1, 2], [1, 2]), ([3], [3]), ([4], [4]), ([], []), ([], []), ([], []), ([7, 8], [7, 8]), ([9], [9]), ([10], [10]), ([6, 11], [6, 11]), ([5, 12], [5, 12]), ([13], [13]), ([0, 14, 12], [0, 14]), ([15, 15, 0, 1, 2, 3, 4, 5, 6, 7, 8, 9, 10, 11, 12, 13, 14, 15], [0, 15])])
def spec_l3Lines.B5 : List Nat := [0, 0, 0, 6, 14, 30, 0, 0, 0, 384, 896, 1920, 4032, 8190, 16382, 32767, 65535]
theorem spec_l3Lines.tab5 : rtab .any (opsOf Tryd.f100 5) = spec_l3Lines.T5 := by kernel_rfl
theorem spec_l3Lines.bits5 : waitsOk spec_l3Lines.T5.2 spec_l3Lines.B5 = true := by kernel_rfl
set_option maxHeartbeats 8000000 in
set_option maxRecDepth 100000 in
theorem spec_l3Lines.calls (k : Nat) (A0 : Option Addr) (c0 : Nat) (l0 : List (S83)) (r : List (S83)) (w : World) (hr0 : Kd.C k83 w A0 l0.length l0) (hc0 : l0.length ≤ c0) (h : spec_l3Lines.f k l0 = some r) :
  Calls Tryd.prog 100 #[.slice A0 l0.length c0] w fun e w' => ∃ v0_ : Value, e = .returned (v0_) ∧ Kd.R k83 83 w' w.heap.size (fun _ => True) v0_ r ∧ Below w.heap.size w w' := by
 have hu83 := Tryd.underlying83
 have HR0 := Aside0.mk hr0
 have HC0 := Aside0.mk hc0
 clear hr0 hc0
 have HB := Aside0.mk (Below.refl w.heap.size w)
 have H : (spec_l3Lines.l0 k l0 (([] : List (S83))) 0) = some r := h
 clear h
 obtain ⟨y505, hy505⟩ : ∃ y_ : List (S83), y_ = (([] : List (S83))) := ⟨_, rfl⟩
 replace H : (spec_l3Lines.l0 k l0 y505 0) = some r := by first | (rw [hy505]; with_reducible exact H) | (have H2_ := (Option.bind_some _ _).symm.trans H; rw [hy505]; with_reducible exact H2_) | (have H2_ := (Option.bind_some _ _).symm.trans H; with_reducible exact H2_) | with_reducible exact H | (rw [hy505]; exact H) | exact H
 have Ny505 := Aside0.mk hy505
 clear hy505
 have H' := Aside0.mk H
 clear H
 go_enter Tryd.func100, Tryd.ntmps100
 go_wp2_with (first | ((with_reducible refine gate_dst (N := 5) rfl ?_); refine Kd.R_lit k83 _ 83 ?hg (N := 5) ?hd (xs := ([] : List (S83))) (inner := []) (ok := fun _ => True) (okp := fun _ => True) ?hr ?hp (fun _ hk => hk) trivial (Below.refl _ _) (Nat.le_refl _) (by simp) ?_; (case hd => rfl); (case hg => rfl); (case hr => first | (go_simp; done) | (go_simp; rfl)); (case hp => exact (Reps.none _ _)); intro v506 w2 ho3 hb hg_ hnew_; clear hg_ hnew_; (first | rw [← Ny505.out] at ho3 | (simp only [Int.reduceToNat] at ho3; rw [← Ny505.out] at ho3)); have n0_ := Aside0.mk (Kd.R_lower ho3 (below_size (stB HB.out))); have n1_ := Aside0.mk (below_step (stB HB.out) hb); clear HB; have HO507 := n0_; have HB := n1_; clear n0_ n1_; clear hb ho3))
 go_loopg [3, 4] k (fun kq v3 v4 w' => ∃ (x3_1 : List (S83)) (x4_1 : Int), v4 = .int .i64 x4_1 ∧ Aside0 (spec_l3Lines.l0 kq l0 x3_1 x4_1 = some r) ∧ Aside0 (kq ≤ k) ∧ Aside0 (Kd.R k83 83 w' w.heap.size (fun _ => True) v3 x3_1) ∧ Aside0 (Below w.heap.size w w'))
 case atStart => exact ⟨(y505), (0), (by first | rfl | (simp; done) | (simp [*]; done)), H', ⟨Nat.le_refl _⟩, ⟨by (with_reducible repeat (first | apply Kd.R_alloc | apply Kd.R_drewN | apply Kd.R_drew)); exact HO507.out⟩, ⟨by repeat (first | (with_reducible first | exact HB.out | apply below_alloc | apply pw_below_drewN | apply below_drew1) | exact HB.out)⟩⟩
 case round =>
  clear H'
  try clear c1
  try clear p2
  obtain ⟨x3_1, x4_1, rfl, HA, HK1, HO_3, HB⟩ := hrel
  cases gk with
  | zero => exact absurd HA.out (by simp [spec_l3Lines.l0])
  | succ k1 =>
   have H := HA.out
   clear HA
   simp only [spec_l3Lines.l0] at H
   by_cases c4 : x4_1 < (l0.length : Int)
   ·rw [if_pos c4] at H
    have c4b0 : decide (x4_1 < (l0.length : Int)) = true := decide_eq_true c4
    clear c4
    by_cases c5 : 0 ≤ x4_1
    ·rw [if_pos c5] at H
     have c5b0 : decide (0 ≤ x4_1) = true := decide_eq_true c5
     clear c5
     obtain ⟨y509, hy509⟩ : ∃ y_ : List ByteArray, y_ = (([] : List ByteArray)) := ⟨_, rfl⟩
     replace H : (if y509.length + ((rd_T83 l0 x4_1).f1).length < 8796093022208 then (if x3_1.length < 3518437208883 then (spec_l3Lines.l0 k1 l0 (x3_1 ++ [(⟨(rd_T83 l0 x4_1).f0, (y509 ++ ((rd_T83 l0 x4_1).f1))⟩ : S83)]) (wrap64 (x4_1 + 1))) else (none)) else (none)) = some r := by first | (rw [hy509]; with_reducible exact H) | (have H2_ := (Option.bind_some _ _).symm.trans H; rw [hy509]; with_reducible exact H2_) | (have H2_ := (Option.bind_some _ _).symm.trans H; with_reducible exact H2_) | with_reducible exact H | (rw [hy509]; exact H) | exact H
     have Ny509 := Aside0.mk hy509
     clear hy509
     by_cases c6 : y509.length + ((rd_T83 l0 x4_1).f1).length < 8796093022208
     ·rw [if_pos c6] at H
      have LMc6 := Aside0.mk c6
      clear c6
      obtain ⟨y513, hy513⟩ : ∃ y_ : List ByteArray, y_ = (y509 ++ ((rd_T83 l0 x4_1).f1)) := ⟨_, rfl⟩
      replace H : (if x3_1.length < 3518437208883 then (spec_l3Lines.l0 k1 l0 (x3_1 ++ [(⟨(rd_T83 l0 x4_1).f0, y513⟩ : S83)]) (wrap64 (x4_1 + 1))) else (none)) = some r := by first | (rw [hy513]; with_reducible exact H) | (have H2_ := (Option.bind_some _ _).symm.trans H; rw [hy513]; with_reducible exact H2_) | (have H2_ := (Option.bind_some _ _).symm.trans H; with_reducible exact H2_) | with_reducible exact H | (rw [hy513]; exact H) | exact H
      have Ny513 := Aside0.mk hy513
      clear hy513
      by_cases c7 : x3_1.length < 3518437208883
      ·rw [if_pos c7] at H
       have LMc7 := Aside0.mk c7
       clear c7
       obtain ⟨y516, hy516⟩ : ∃ y_ : List (S83), y_ = (x3_1 ++ [(⟨(rd_T83 l0 x4_1).f0, y513⟩ : S83)]) := ⟨_, rfl⟩
       replace H : (spec_l3Lines.l0 k1 l0 y516 (wrap64 (x4_1 + 1))) = some r := by first | (rw [hy516]; with_reducible exact H) | (have H2_ := (Option.bind_some _ _).symm.trans H; rw [hy516]; with_reducible exact H2_) | (have H2_ := (Option.bind_some _ _).symm.trans H; with_reducible exact H2_) | with_reducible exact H | (rw [hy516]; exact H) | exact H
       have Ny516 := Aside0.mk hy516
       clear hy516
       have H' := Aside0.mk H
       clear H
       try go_wp2
       have n0_ := Aside0.mk (Kd.R_drew HO_3.out)
       have n1_ := Aside0.mk (below_drew1 HB.out)
       clear HO_3
       clear HB
       have HO_3 := n0_
       have HB := n1_
       clear n0_ n1_
       have p508 : 0 ≤ (x4_1 : Int) := of_decide_eq_true (by first | (with_reducible assumption) | assumption)
       have q508 : x4_1 < (l0.length : Int) := of_decide_eq_true (by first | (with_reducible assumption) | assumption)
       obtain ⟨ad508, A508_1, c508_1, e508, hx508_0, hx508_1, hl508_1, hi508_1⟩ := at_T83 HR0.out x4_1 p508 q508
       have hw508_1 := hx508_1
       have hw508_0 := hx508_0
       cases e508
       (try replace hx508_0 := (HB.out.cell (World.block_lt_of_cell? w _ hx508_0)).trans hx508_0)
       (try replace hx508_1 := (HB.out.cell (World.block_lt_of_cell? w _ hx508_1)).trans hx508_1)
       have HR508_1 := Aside0.mk hi508_1
       have HC508_1 := Aside0.mk hl508_1
       clear hi508_1 hl508_1
       replace p508 := eq_true p508
       replace q508 := eq_true q508
       have p512 : 0 ≤ (x4_1 : Int) := of_decide_eq_true (by first | (with_reducible assumption) | assumption)
       have q512 : x4_1 < (l0.length : Int) := of_decide_eq_true (by first | (with_reducible assumption) | assumption)
       obtain ⟨ad512, A512_1, c512_1, e512, hx512_0, hx512_1, hl512_1, hi512_1⟩ := at_T83 HR0.out x4_1 p512 q512
       have hw512_1 := hx512_1
       have hw512_0 := hx512_0
       obtain rfl : ad508 = ad512 := (by injection e512)
       (try replace hx512_0 := (HB.out.cell (World.block_lt_of_cell? w _ hx512_0)).trans hx512_0)
       (try replace hx512_1 := (HB.out.cell (World.block_lt_of_cell? w _ hx512_1)).trans hx512_1)
       have HR512_1 := Aside0.mk hi512_1
       have HC512_1 := Aside0.mk hl512_1
       clear hi512_1 hl512_1
       replace p512 := eq_true p512
       replace q512 := eq_true q512
       have ea_ := Option.some.inj (hx508_1.symm.trans hx512_1)
       injection ea_ with ea_ en_ ec_
       subst ea_
       subst ec_
       clear en_
       refine start_ (n := 17) (S := fun w' => w'.cell? (ad508.add ((x4_1).toNat * 2)) = some (.string ((rd_T83 l0 x4_1).f0)) ∧ w'.cell? ⟨(ad508.add ((x4_1).toNat * 2)).block, (ad508.add ((x4_1).toNat * 2)).off + 1, none⟩ = some (.slice A508_1 ((rd_T83 l0 x4_1).f1).length c508_1) ∧ w'.cell? (ad508.add ((x4_1).toNat * 2)) = some (.string ((rd_T83 l0 x4_1).f0)) ∧ w'.cell? ⟨(ad508.add ((x4_1).toNat * 2)).block, (ad508.add ((x4_1).toNat * 2)).off + 1, none⟩ = some (.slice A508_1 ((rd_T83 l0 x4_1).f1).length c508_1)) (ds := []) (bz_ 17 0) (by kernel_rfl) rfl rfl ⟨(by first | exact (HB.out.cell (World.block_lt_of_cell? w _ hw508_0)).trans hw508_0 | exact hw508_0), (by first | exact (HB.out.cell (World.block_lt_of_cell? w _ hw508_1)).trans hw508_1 | exact hw508_1), (by first | exact (HB.out.cell (World.block_lt_of_cell? w _ hw512_0)).trans hw512_0 | exact hw512_0), (by first | exact (HB.out.cell (World.block_lt_of_cell? w _ hw512_1)).trans hw512_1 | exact hw512_1)⟩ (fun hHeld => ?_); refine with_tabW spec_l3Lines.tab5 spec_l3Lines.bits5 (fun HT_ HW_ => ?_)
       generalize wr.drew = w8 at HO_3 HB HR508_1 HR512_1 hx508_0 hx508_1 hx512_0 hx512_1 hHeld ⊢
       refine pure_ (i := 0) (N := some 12) (v := ?_) (a' := ?_) (bz_ 17 1) rfl rfl (any_of HT_.out (by kernel_rfl)) (fun _ _ _ h => h) (Or.inl ⟨by rfl, ?_⟩) ?_ ?_
       rotate_left
       ·intro w'
        go_simp
        with_reducible rfl
       rotate_left
       ·simp only [Act.put, List.setIfInBounds_toArray, List.set_cons_zero, List.set_cons_succ, i64_w, i32_w]
        rfl
       refine pure_ (i := 1) (N := some 13) (v := ?_) (a' := ?_) (bz_ 17 3) rfl rfl (any_of HT_.out (by kernel_rfl)) (fun _ _ _ h => h) (Or.inl ⟨by rfl, ?_⟩) ?_ ?_
       rotate_left
       ·intro w'
        go_simp
        with_reducible rfl
       rotate_left
       ·simp only [Act.put, List.setIfInBounds_toArray, List.set_cons_zero, List.set_cons_succ, i64_w, i32_w]
        rfl
       refine pure_ (i := 2) (N := some 14) (v := ?_) (a' := ?_) (bz_ 17 7) rfl rfl (any_of HT_.out (by kernel_rfl)) (fun _ _ _ h => h) (Or.inl ⟨by rfl, ?_⟩) ?_ ?_
       rotate_left
       ·intro w'
        go_simp
        with_reducible rfl
       rotate_left
       ·simp only [Act.put, List.setIfInBounds_toArray, List.set_cons_zero, List.set_cons_succ, i64_w, i32_w]
        rfl
       refine pure_ (i := 3) (N := some 15) (v := ?_) (a' := ?_) (bz_ 17 15) rfl rfl (any_of HT_.out (by kernel_rfl)) (fun _ _ _ h => h) (Or.inl ⟨by rfl, ?_⟩) ?_ ?_
       rotate_left
       ·intro w'
        go_simp
        with_reducible rfl
       rotate_left
       ·simp only [Act.put, List.setIfInBounds_toArray, List.set_cons_zero, List.set_cons_succ, i64_w, i32_w]
        rfl
       refine pure_ (i := 4) (N := some 16) (v := ?_) (a' := ?_) (bz_ 17 31) rfl rfl (any_of HT_.out (by kernel_rfl)) (fun _ _ _ h => h) (Or.inl ⟨by rfl, ?_⟩) ?_ ?_
       rotate_left
       ·intro w'
        go_simp
        with_reducible rfl
       rotate_left
       ·simp only [Act.put, List.setIfInBounds_toArray, List.set_cons_zero, List.set_cons_succ, i64_w, i32_w]
        rfl
       refine pure_ (i := 7) (N := some 19) (v := ?_) (a' := ?_) (bz_ 17 159) rfl rfl (any_of HT_.out (by kernel_rfl)) (fun _ _ _ h => h) (Or.inl ⟨by rfl, ?_⟩) ?_ ?_
       rotate_left
       ·intro w'
        go_simp
        with_reducible rfl
       rotate_left
       ·simp only [Act.put, List.setIfInBounds_toArray, List.set_cons_zero, List.set_cons_succ, i64_w, i32_w]
        rfl
       refine pure_ (i := 8) (N := some 20) (v := ?_) (a' := ?_) (bz_ 17 415) rfl rfl (any_of HT_.out (by kernel_rfl)) (fun _ _ _ h => h) (Or.inl ⟨by rfl, ?_⟩) ?_ ?_
       rotate_left
       ·intro w'
        go_simp
        with_reducible rfl
       rotate_left
       ·simp only [Act.put, List.setIfInBounds_toArray, List.set_cons_zero, List.set_cons_succ, i64_w, i32_w]
        rfl
       refine pure_ (i := 9) (N := some 21) (v := ?_) (a' := ?_) (bz_ 17 927) rfl rfl (any_of HT_.out (by kernel_rfl)) (fun _ _ _ h => h) (Or.inl ⟨by rfl, ?_⟩) ?_ ?_
       rotate_left
       ·intro w'
        go_simp
        with_reducible rfl
       rotate_left
       ·simp only [Act.put, List.setIfInBounds_toArray, List.set_cons_zero, List.set_cons_succ, i64_w, i32_w]
        rfl
       refine pure_ (i := 10) (N := some 22) (v := ?_) (a' := ?_) (bz_ 17 1951) rfl rfl (any_of HT_.out (by kernel_rfl)) (fun _ _ _ h => h) (Or.inl ⟨by rfl, ?_⟩) ?_ ?_
       rotate_left
       ·intro w'
        go_simp
        with_reducible rfl
       rotate_left
       ·simp only [Act.put, List.setIfInBounds_toArray, List.set_cons_zero, List.set_cons_succ, i64_w, i32_w]
        rfl
       refine take_ (i := 5) (N := some 17) (v := ?_) (a' := ?_) (bz_ 17 1983) rfl rfl (take_ofW HT_.out HW_.out (by kernel_rfl)) (fun _ _ _ h => h) (Or.inl ⟨by rfl, ?_⟩) hHeld ?_ ?_
       rotate_left
       ·rintro w' ⟨s0, s1, s2, s3⟩
        go_simp
        with_reducible rfl
       rotate_left
       ·simp only [Act.put, List.setIfInBounds_toArray, List.set_cons_zero, List.set_cons_succ, i64_w, i32_w]
        rfl
       refine take_ (i := 11) (N := some 23) (v := ?_) (a' := ?_) (bz_ 17 4031) rfl rfl (take_ofW HT_.out HW_.out (by kernel_rfl)) (fun _ _ _ h => h) (Or.inl ⟨by rfl, ?_⟩) hHeld ?_ ?_
       rotate_left
       ·rintro w' ⟨s0, s1, s2, s3⟩
        go_simp
        with_reducible rfl
       rotate_left
       ·simp only [Act.put, List.setIfInBounds_toArray, List.set_cons_zero, List.set_cons_succ, i64_w, i32_w]
        rfl
       refine one_ (i := 6) (N := some 18) (bz_ 17 4095) rfl rfl (one_of HT_.out (by kernel_rfl)) (by decide) (fun K hK => ?_)
       refine Kd.R_lit_step Kd.string _ 9 ?hg (N := 18) ?hd (xs := ([] : List ByteArray)) (inner := []) (ok := fun _ => True) (okp := fun _ => True) ?hr ?hp (fun _ hk => hk) trivial (Below.refl _ _) (Nat.le_refl _) (by simp) ?_; (case hd => rfl); (case hg => rfl); (case hr => first | (go_simp; done) | (go_simp; rfl)); (case hp => exact (Reps.none _ _))
       intro v510 w9 ho10 hb hg_ hnew_
       clear hg_ hnew_
       (first | rw [← Ny509.out] at ho10 | (simp only [Int.reduceToNat] at ho10; rw [← Ny509.out] at ho10))
       have n0_ := Aside0.mk (Kd.R_elder' (stR HO_3.out) (Kd.R_base ho10) hb)
       have n1_ := Aside0.mk (Kd.R_lower ho10 (below_size (stB HB.out)))
       have n2_ := Aside0.mk (below_step (stB HB.out) hb)
       clear HO_3
       clear HB
       have HO_3 := n0_
       have HO511 := n1_
       have HB := n2_
       clear n0_ n1_ n2_
       clear hb ho10
       refine hK.out _ _ ⟨(by first | exact (HB.out.cell (World.block_lt_of_cell? w _ hw508_0)).trans hw508_0 | exact hw508_0), (by first | exact (HB.out.cell (World.block_lt_of_cell? w _ hw508_1)).trans hw508_1 | exact hw508_1), (by first | exact (HB.out.cell (World.block_lt_of_cell? w _ hw512_0)).trans hw512_0 | exact hw512_0), (by first | exact (HB.out.cell (World.block_lt_of_cell? w _ hw512_1)).trans hw512_1 | exact hw512_1)⟩ (fun hHeld => ?_)
       clear hK K
       refine norm_ (a' := ?_) ?_ ?_
       rotate_left
       ·show Act.put _ (some 18) _ = _
        simp only [Act.put, List.setIfInBounds_toArray, List.set_cons_zero, List.set_cons_succ, i64_w, i32_w]
        rfl
       refine one_ (i := 12) (N := some 24) (bz_ 17 8191) rfl rfl (one_of HT_.out (by kernel_rfl)) (by decide) (fun K hK => ?_)
       refine Kd.R_append_rows_step Kd.string (w0 := w) w.heap.size (by rfl) (.tmp 18) (.tmp 23) 27 9 (.string ⟨#[]⟩) 16 rfl Tryd.underlying27 info9 rfl (by decide) (by omega) v510 y509 ((rd_T83 l0 x4_1).f1) _ _ _ (fun _ => True) (fun _ => False) rfl rfl ?aO ?aR (fun _ _ h => h) (fun _ h => h.elim) ?aF ?aB ?aS ?aL ?_
       (case aR => repeat (first | exact (Kd.C_below HR512_1.out HB.out) | (with_reducible refine Kd.C_alloc ?_ _) | (with_reducible refine Kd.C_drewN ?_ _) | (with_reducible refine Kd.C_drew ?_)))
       (case aB => exact (stB HB.out))
       (case aF => exact (fun _ _ => trivial))
       (case aO => exact (stR HO511.out))
       (case aS => exact (below_size (stB HB.out)))
       (case aL => have := LMc6.out; omega)
       intro v514 w11 ho hb hg hat
       rw [← Ny513.out] at ho
       have n0_ := Aside0.mk (Kd.R_after (ok := (fun _ => True)) (stR HO_3.out) hg hat)
       have n1_ := Aside0.mk (hb)
       have n2_ := Aside0.mk (ho)
       clear HO_3
       clear HB
       clear HO511
       have HO_3 := n0_
       have HB := n1_
       have HO515 := n2_
       clear n0_ n1_ n2_
       clear ho hb hg hat
       obtain ⟨Ao12, co12, eo12⟩ := Kd.R_slice HO515.out
       (first | subst eo12 | (injection eo12 with f1_ f2_ f3_; have f4_ := f1_.symm; have f5_ := f3_.symm; clear f1_ f2_ f3_; subst f4_; subst f5_))
       refine hK.out _ _ ⟨(by first | exact (HB.out.cell (World.block_lt_of_cell? w _ hw508_0)).trans hw508_0 | exact hw508_0), (by first | exact (HB.out.cell (World.block_lt_of_cell? w _ hw508_1)).trans hw508_1 | exact hw508_1), (by first | exact (HB.out.cell (World.block_lt_of_cell? w _ hw512_0)).trans hw512_0 | exact hw512_0), (by first | exact (HB.out.cell (World.block_lt_of_cell? w _ hw512_1)).trans hw512_1 | exact hw512_1)⟩ (fun hHeld => ?_)
       clear hK K
       refine norm_ (a' := ?_) ?_ ?_
       rotate_left
       ·show Act.put _ (some 24) _ = _
        simp only [Act.put, List.setIfInBounds_toArray, List.set_cons_zero, List.set_cons_succ, i64_w, i32_w]
        rfl
       refine pure_ (i := 13) (N := some 25) (v := ?_) (a' := ?_) (bz_ 17 16383) rfl rfl (any_of HT_.out (by kernel_rfl)) (fun _ _ _ h => h) (Or.inl ⟨by rfl, ?_⟩) ?_ ?_
       rotate_left
       ·intro w'
        go_simp
        with_reducible rfl
       rotate_left
       ·simp only [Act.put, List.setIfInBounds_toArray, List.set_cons_zero, List.set_cons_succ, i64_w, i32_w]
        rfl
       refine one_ (i := 14) (N := some 26) (bz_ 17 32767) rfl rfl (one_of HT_.out (by kernel_rfl)) (by decide) (fun K hK => ?_)
       refine value_ (w1 := ?_) (v := ?_) (by rfl) rfl ?_ ?_
       rotate_left 2
       ·go_simp
        constructor
        ·rfl
        ·rfl
       refine hK.out _ _ ⟨(World.cell?_alloc_lt _ _ _ (World.block_lt_of_cell? _ _ ((by first | exact (HB.out.cell (World.block_lt_of_cell? w _ hw508_0)).trans hw508_0 | exact hw508_0)))).trans ((by first | exact (HB.out.cell (World.block_lt_of_cell? w _ hw508_0)).trans hw508_0 | exact hw508_0)), (World.cell?_alloc_lt _ _ _ (World.block_lt_of_cell? _ _ ((by first | exact (HB.out.cell (World.block_lt_of_cell? w _ hw508_1)).trans hw508_1 | exact hw508_1)))).trans ((by first | exact (HB.out.cell (World.block_lt_of_cell? w _ hw508_1)).trans hw508_1 | exact hw508_1)), (World.cell?_alloc_lt _ _ _ (World.block_lt_of_cell? _ _ ((by first | exact (HB.out.cell (World.block_lt_of_cell? w _ hw512_0)).trans hw512_0 | exact hw512_0)))).trans ((by first | exact (HB.out.cell (World.block_lt_of_cell? w _ hw512_0)).trans hw512_0 | exact hw512_0)), (World.cell?_alloc_lt _ _ _ (World.block_lt_of_cell? _ _ ((by first | exact (HB.out.cell (World.block_lt_of_cell? w _ hw512_1)).trans hw512_1 | exact hw512_1)))).trans ((by first | exact (HB.out.cell (World.block_lt_of_cell? w _ hw512_1)).trans hw512_1 | exact hw512_1))⟩ (fun hHeld => ?_)
       clear hK K
       refine norm_ (a' := ?_) ?_ ?_
       rotate_left
       ·show Act.put _ (some 26) _ = _
        simp only [Act.put, List.setIfInBounds_toArray, List.set_cons_zero, List.set_cons_succ, i64_w, i32_w]
        rfl
       refine one_ (i := 15) (N := some 27) (bz_ 17 65535) rfl rfl (one_of HT_.out (by kernel_rfl)) (by decide) (fun K hK => ?_)
       refine Kd.R_append_step k83 (w0 := w) w.heap.size (by rfl) (.tmp 12) (.tmp 26) 52 83 (.agg #[(.string ⟨#[]⟩), (.slice none 0 0)]) 40 rfl Tryd.underlying52 info83 rfl (by decide) (by omega) u3 x3_1 (⟨(rd_T83 l0 x4_1).f0, y513⟩ : S83) [.string ((rd_T83 l0 x4_1).f0), .slice Ao12 y513.length co12] (fun _ => True) (fun k_ => ((fun _ => True)) k_ ∧ some k_ ≠ (u3 : Value).ownBlock) rfl rfl ?aP (fun _ hk => hk) ?aF ?aO ?aB ?aS ?aL ?_
       (case aP => exact k83_mkM _ _ _ (⟨(rd_T83 l0 x4_1).f0, y513⟩ : S83) (Kd.R_mono (Kd.R_apart' (HO515.out) (Kd.R_typed HO_3.out) (by decide)) (fun k_ hk => ⟨trivial, hk.2⟩)))
       (case aB => exact (stB HB.out))
       (case aF => exact (fun _ _ => trivial))
       (case aO => exact (by (with_reducible repeat (first | apply Kd.R_alloc | apply Kd.R_drewN | apply Kd.R_drew)); exact Kd.R_mono HO_3.out (fun _ hk => trivial)))
       (case aS => exact (below_size (stB HB.out)))
       (case aL => have := LMc7.out; omega)
       intro v517 w13 ho hb hg hat
       rw [← Ny516.out] at ho
       have n0_ := Aside0.mk (hb)
       have n1_ := Aside0.mk (ho)
       clear HB
       clear HO_3
       clear HO515
       have HB := n0_
       have HO518 := n1_
       clear n0_ n1_
       clear ho hb hg hat
       refine hK.out _ _ ⟨(by first | exact (HB.out.cell (World.block_lt_of_cell? w _ hw508_0)).trans hw508_0 | exact hw508_0), (by first | exact (HB.out.cell (World.block_lt_of_cell? w _ hw508_1)).trans hw508_1 | exact hw508_1), (by first | exact (HB.out.cell (World.block_lt_of_cell? w _ hw512_0)).trans hw512_0 | exact hw512_0), (by first | exact (HB.out.cell (World.block_lt_of_cell? w _ hw512_1)).trans hw512_1 | exact hw512_1)⟩ (fun hHeld => ?_)
       clear hK K
       refine norm_ (a' := ?_) ?_ ?_
       rotate_left
       ·show Act.put _ (some 27) _ = _
        simp only [Act.put, List.setIfInBounds_toArray, List.set_cons_zero, List.set_cons_succ, i64_w, i32_w]
        rfl
       refine pure_ (i := 16) (N := some 3) (v := ?_) (a' := ?_) (bz_ 17 131071) rfl rfl (any_of HT_.out (by kernel_rfl)) (fun _ _ _ h => h) (Or.inl ⟨by rfl, ?_⟩) ?_ ?_
       rotate_left
       ·intro w'
        go_simp
        with_reducible rfl
       rotate_left
       ·simp only [Act.put, List.setIfInBounds_toArray, List.set_cons_zero, List.set_cons_succ, i64_w, i32_w]
        rfl
       refine done_ (done_of HT_.out (by kernel_rfl)) ?_
       try go_wp2
       go_roundg k1
       case measure => have := HK1.out; omega
       case rel => exact ⟨(y516), (wrap64 (x4_1 + 1)), (by first | rfl | (simp; done) | (simp [*]; done)), H', ⟨by have := HK1.out; omega⟩, ⟨by (with_reducible repeat (first | apply Kd.R_alloc | apply Kd.R_drewN | apply Kd.R_drew)); exact HO518.out⟩, ⟨by repeat (first | (with_reducible first | exact HB.out | apply below_alloc | apply pw_below_drewN | apply below_drew1) | exact HB.out)⟩⟩
      ·rw [if_neg c7] at H
       exact absurd H (by simp)
     ·rw [if_neg c6] at H
      exact absurd H (by simp)
    ·rw [if_neg c5] at H
     exact absurd H (by simp)
   ·rw [if_neg c4] at H
    have c4b0 : decide (x4_1 < (l0.length : Int)) = false := decide_eq_false c4
    clear c4
    obtain rfl := Option.some.inj H
    go_wp2
    go_ret
    exact ⟨_, by first | rfl | (simp [errW_none, errW_some] <;> rfl) | (simp [*, errW_none, errW_some] <;> rfl), by (with_reducible repeat (first | apply Kd.R_alloc | apply Kd.R_drewN | apply Kd.R_drew)); exact HO_3.out, by repeat (first | (with_reducible first | exact HB.out | apply below_alloc | apply pw_below_drewN | apply below_drew1) | exact HB.out)⟩
def spec_l5Of.l0 : Nat → ByteArray → List (S83) → Int → ByteArray → ByteArray → List (S83) → Option ((List (S83)))
 | 0, _, _, _, _, _, _ => none
 | k + 1, x1, x5, x6, x534000, x534001, x534002 => if x6 < (x534002.length : Int) then (if 0 ≤ x6 then (if ((rd_T83 x534002 x6).f0).toList = x1.toList then (if x5.length < 3518437208883 then (spec_l5Of.l0 k x1 (x5 ++ [(⟨(rd_T83 x534002 x6).f0, (rd_T83 x534002 x6).f1⟩ : S83)]) (wrap64 (x6 + 1)) x534000 x534001 x534002) else (none)) else (spec_l5Of.l0 k x1 x5 (wrap64 (x6 + 1)) x534000 x534001 x534002)) else (none)) else ((spec_l3Lines.f k x5).bind fun t542 => (some t542))
def spec_l5Of.f (k : Nat) (a0_0 : ByteArray) (a0_1 : ByteArray) (l0_2 : List (S83)) (a1 : ByteArray) : Option ((List (S83))) := spec_l5Of.l0 k a1 (([] : List (S83))) 0 a0_0 a0_1 l0_2
set_option maxHeartbeats 8000000 in
set_option maxRecDepth 100000 in
theorem spec_l5Of.calls (k : Nat) (a0_0 : ByteArray) (a0_1 : ByteArray) (P0_2_ : Nat → Prop) (A0_2 : Option Addr) (c0_2 : Nat) (l0_2 : List (S83)) (a1 : ByteArray) (r : List (S83)) (w : World) (hs0_2 : Kd.V k83 83 w w.heap.size (fun k_ => P0_2_ k_) (.slice A0_2 l0_2.length c0_2) l0_2) (h : spec_l5Of.f k a0_0 a0_1 l0_2 a1 = some r) :
  Calls Tryd.prog 84 #[.agg #[.string a0_0, .string a0_1, .slice A0_2 l0_2.length c0_2], .string a1] w fun e w' => ∃ v0_ : Value, e = .returned (v0_) ∧ Kd.N k83 83 w' w.heap.size (fun k_ => (P0_2_ k_ ∨ w.heap.size ≤ k_)) v0_ r ∧ Below w.heap.size w w' := by
 have hu62 := Tryd.underlying62
 have hu83 := Tryd.underlying83
 have HO0_2 := Aside0.mk (show Kd.V k83 83 w w.heap.size (fun k_ => (P0_2_ k_ ∨ w.heap.size ≤ k_)) (.slice A0_2 l0_2.length c0_2) l0_2 from Kd.V_mono hs0_2 (fun k_ hk => .inl hk))
 have HB := Aside0.mk (Below.refl w.heap.size w)
 have H : (spec_l5Of.l0 k a1 (([] : List (S83))) 0 a0_0 a0_1 l0_2) = some r := h
 clear h
 obtain ⟨y534, hy534⟩ : ∃ y_ : List (S83), y_ = (([] : List (S83))) := ⟨_, rfl⟩
 replace H : (spec_l5Of.l0 k a1 y534 0 a0_0 a0_1 l0_2) = some r := by first | (rw [hy534]; with_reducible exact H) | (have H2_ := (Option.bind_some _ _).symm.trans H; rw [hy534]; with_reducible exact H2_) | (have H2_ := (Option.bind_some _ _).symm.trans H; with_reducible exact H2_) | with_reducible exact H | (rw [hy534]; exact H) | exact H
 have Ny534 := Aside0.mk hy534
 clear hy534
 have H' := Aside0.mk H
 clear H
 go_enter Tryd.func84, Tryd.ntmps84
 go_wp2_with (first | ((with_reducible refine gate_dst (N := 2) rfl ?_); refine box_event ?hg (N := 2) ?hd (cs := #[.string a0_0, .string a0_1, .slice A0_2 l0_2.length c0_2]) (t := 62) ?hr ?_; (case hd => rfl); (case hg => rfl); (case hr => first | (go_simp; done) | (go_simp; rfl)); intro gb533 hg w3 hbox hb; have n0_ := Aside0.mk (Kd.V_below (Kd.V_elderB (by (with_reducible repeat (first | apply Kd.V_alloc | apply Kd.V_drewN | apply Kd.V_drew)); exact HO0_2.out) gb533 (Nat.le_of_eq hg.symm)) hb); have n1_ := Aside0.mk (below_step (stB HB.out) hb); have n2_ := Aside0.mk (hbox); have n3_ := Aside0.mk ((by rw [hg]; exact (below_size (stB HB.out)) : w.heap.size ≤ gb533)); have n4_ := Aside0.mk ((by rw [hg]; exact (below_size (stB HB.out)) : w.heap.size ≤ gb533)); clear HO0_2; clear HB; have HO0_2 := n0_; have HB := n1_; have BK533 := n2_; have GW533 := n3_; have GE533 := n4_; clear n0_ n1_ n2_ n3_ n4_; clear hb hbox hg) | ((with_reducible refine gate_dst (N := 7) rfl ?_); refine Kd.N_lit k83 _ 83 ?hg (N' := 7) ?hd (xs := ([] : List (S83))) (inner := []) (ok := (fun k_ => (P0_2_ k_ ∨ w.heap.size ≤ k_) ∧ k_ ≠ gb533)) (okp := (fun k_ => (P0_2_ k_ ∨ w.heap.size ≤ k_) ∧ k_ ≠ gb533)) ?hr ?hp (fun _ hk => hk) ((show ∀ k_, w3.heap.size ≤ k_ → (fun k_ => (P0_2_ k_ ∨ w.heap.size ≤ k_) ∧ k_ ≠ gb533) k_ from fun k_ hk => ⟨(.inr (Nat.le_trans (below_size (by repeat (first | (with_reducible first | exact HB.out | apply below_alloc | apply pw_below_drewN | apply below_drew1 | refine below_set ?_ GE533.out) | exact HB.out))) hk)), Kd.freshB (g := gb533) (o := .cells #[.string a0_0, .string a0_1, .slice A0_2 l0_2.length c0_2] 62 (0, 0)) (by (with_reducible repeat (first | refine blk_drewN ?_ _ | refine blk_drew ?_ | refine blk_alloc ?_ _)); exact BK533.out) k_ hk⟩) _ (Nat.le_refl _)) (Below.refl _ _) (Nat.le_refl _) (by simp) ?_; (case hd => rfl); (case hg => rfl); (case hr => first | (go_simp; done) | (go_simp; rfl)); (case hp => exact (Reps.none _ _)); intro v535 w4 ho5 hb hg_ hnew_; clear hg_ hnew_; (first | rw [← Ny534.out] at ho5 | (simp only [Int.reduceToNat] at ho5; rw [← Ny534.out] at ho5)); have n0_ := Aside0.mk (Kd.V_elder' (by (with_reducible repeat (first | apply Kd.V_alloc | apply Kd.V_drewN | apply Kd.V_drew)); exact HO0_2.out) (Kd.N_base ho5) hb); have n1_ := Aside0.mk (Kd.N_lower ho5 (below_size (by repeat (first | (with_reducible first | exact HB.out | apply below_alloc | apply pw_below_drewN | apply below_drew1 | refine below_set ?_ GE533.out) | exact HB.out)))); have n2_ := Aside0.mk (blk_below (g := gb533) (o := .cells #[.string a0_0, .string a0_1, .slice A0_2 l0_2.length c0_2] 62 (0, 0)) (by (with_reducible repeat (first | refine blk_drewN ?_ _ | refine blk_drew ?_ | refine blk_alloc ?_ _)); exact BK533.out) hb); have n3_ := Aside0.mk (below_step (by repeat (first | (with_reducible first | exact HB.out | apply below_alloc | apply pw_below_drewN | apply below_drew1 | refine below_set ?_ GE533.out) | exact HB.out)) hb); clear HO0_2; clear BK533; clear HB; have HO0_2 := n0_; have HO536 := n1_; have BK533 := n2_; have HB := n3_; clear n0_ n1_ n2_ n3_; clear hb ho5))
 go_loopg [5, 6] k (fun kq v5 v6 w' => ∃ (x5_1 : List (S83)) (x6_1 : Int), v6 = .int .i64 x6_1 ∧ Aside0 (spec_l5Of.l0 kq a1 x5_1 x6_1 a0_0 a0_1 l0_2 = some r) ∧ Aside0 (kq ≤ k) ∧ Aside0 (Kd.N k83 83 w' w.heap.size (fun k_ => (P0_2_ k_ ∨ w.heap.size ≤ k_) ∧ k_ ≠ gb533) v5 x5_1) ∧ Aside0 (Kd.V k83 83 w' w.heap.size (fun k_ => (P0_2_ k_ ∨ w.heap.size ≤ k_) ∧ some k_ ≠ (v5 : Value).ownBlock ∧ k_ ≠ gb533) (.slice A0_2 l0_2.length c0_2) l0_2) ∧ Aside0 (w'.heap[gb533]? = some (.cells #[.string a0_0, .string a0_1, (.slice A0_2 l0_2.length c0_2)] 62 (0, 0))) ∧ Aside0 (Below w.heap.size w w'))
 case atStart => exact ⟨(y534), (0), (by first | rfl | (simp; done) | (simp [*]; done)), H', ⟨Nat.le_refl _⟩, ⟨by (with_reducible repeat (first | apply Kd.N_alloc | apply Kd.N_drewN | apply Kd.N_drew)); exact HO536.out⟩, ⟨by (with_reducible repeat (first | apply Kd.V_alloc | apply Kd.V_drewN | apply Kd.V_drew)); exact Kd.V_mono HO0_2.out (fun _ hk => ⟨hk.1.1, ⟨hk.2, hk.1.2⟩⟩)⟩, ⟨by (with_reducible repeat (first | refine blk_drewN ?_ _ | refine blk_drew ?_ | refine blk_alloc ?_ _)); exact BK533.out⟩, ⟨by repeat (first | (with_reducible first | exact HB.out | apply below_alloc | apply pw_below_drewN | apply below_drew1 | refine below_set ?_ GE533.out) | exact HB.out)⟩⟩
 case round =>
  clear H'
  try clear p2
  obtain ⟨x5_1, x6_1, rfl, HA, HK1, HO_5, HO_534002, BK533, HB⟩ := hrel
  cases gk with
  | zero => exact absurd HA.out (by simp [spec_l5Of.l0])
  | succ k1 =>
   have H := HA.out
   clear HA
   simp only [spec_l5Of.l0] at H
   by_cases c6 : x6_1 < (l0_2.length : Int)
   ·rw [if_pos c6] at H
    have c6b0 : decide (x6_1 < (l0_2.length : Int)) = true := decide_eq_true c6
    clear c6
    by_cases c7 : 0 ≤ x6_1
    ·rw [if_pos c7] at H
     have c7b0 : decide (0 ≤ x6_1) = true := decide_eq_true c7
     clear c7
     by_cases c8 : ((rd_T83 l0_2 x6_1).f0).toList = a1.toList
     ·rw [if_pos c8] at H
      have c8b0 : (((rd_T83 l0_2 x6_1).f0).toList == a1.toList) = true := beq_iff_eq.mpr c8
      have c8b1 : (((rd_T83 l0_2 x6_1).f0).toList != a1.toList) = false := bne_eq_false_iff_eq.mpr c8
      clear c8
      by_cases c9 : x5_1.length < 3518437208883
      ·rw [if_pos c9] at H
       have LMc9 := Aside0.mk c9
       clear c9
       obtain ⟨y539, hy539⟩ : ∃ y_ : List (S83), y_ = (x5_1 ++ [(⟨(rd_T83 l0_2 x6_1).f0, (rd_T83 l0_2 x6_1).f1⟩ : S83)]) := ⟨_, rfl⟩
       replace H : (spec_l5Of.l0 k1 a1 y539 (wrap64 (x6_1 + 1)) a0_0 a0_1 l0_2) = some r := by first | (rw [hy539]; with_reducible exact H) | (have H2_ := (Option.bind_some _ _).symm.trans H; rw [hy539]; with_reducible exact H2_) | (have H2_ := (Option.bind_some _ _).symm.trans H; with_reducible exact H2_) | with_reducible exact H | (rw [hy539]; exact H) | exact H
       have Ny539 := Aside0.mk hy539
       clear hy539
       have H' := Aside0.mk H
       clear H
       have hcz10_0 : wr.cell? ⟨gb533, 0, none⟩ = some (.string a0_0) := (blk_cell BK533.out 0).trans rfl
       have hcz10_1 : wr.cell? ⟨gb533, 1, none⟩ = some (.string a0_1) := (blk_cell BK533.out 1).trans rfl
       have hcz10_2 : wr.cell? ⟨gb533, 2, none⟩ = some (.slice A0_2 l0_2.length c0_2) := (blk_cell BK533.out 2).trans rfl
       have hfz10_0 := blk_frozen BK533.out 0
       have hfz10_1 := blk_frozen BK533.out 1
       have hfz10_2 := blk_frozen BK533.out 2
       have p537 : 0 ≤ (x6_1 : Int) := of_decide_eq_true (by first | (with_reducible assumption) | assumption)
       have q537 : x6_1 < (l0_2.length : Int) := of_decide_eq_true (by first | (with_reducible assumption) | assumption)
       obtain ⟨ad537, A537_1, c537_1, e537, hx537_0, hx537_1, hl537_1, hi537_1⟩ := at_T83 (Kd.V_reads' HO_534002.out).2.2 x6_1 p537 q537
       cases e537
       obtain ⟨ce537, hce537, hMe537, hcc537⟩ := Kd.V_get HO_534002.out z83 x6_1 p537 (by first | exact q537 | exact of_decide_eq_true (by first | (with_reducible assumption) | assumption) | (have e_ := (Kd.V_reads' HO_534002.out).1; omega))
       obtain ⟨ua537_1, uc537_1, rfl, ul537_1, ge537_1⟩ := k83_openF hMe537
       have hv537_1 := hcc537 1 _ rfl
       rw [add_field _ _ 1 (by omega)] at hv537_1
       replace hv537_1 := Option.some.inj (hv537_1.symm.trans hx537_1)
       injection hv537_1 with hva_ hvn_ hvc_
       rw [hva_] at ge537_1
       rw [hvc_] at ul537_1
       have HL537_1 := Aside0.mk (show Kd.V Kd.string 9 _ w.heap.size _ _ ((rd_T83 l0_2 x6_1).f1) from Kd.V_mk ul537_1 ge537_1)
       clear hva_ hvn_ hvc_ ge537_1 ul537_1
       clear hcc537 hce537
       have HR537_1 := Aside0.mk hi537_1
       have HC537_1 := Aside0.mk hl537_1
       clear hi537_1 hl537_1
       replace p537 := eq_true p537
       replace q537 := eq_true q537
       have p538 : 0 ≤ (x6_1 : Int) := of_decide_eq_true (by first | (with_reducible assumption) | assumption)
       have q538 : x6_1 < (l0_2.length : Int) := of_decide_eq_true (by first | (with_reducible assumption) | assumption)
       obtain ⟨ad538, A538_1, c538_1, e538, hx538_0, hx538_1, hl538_1, hi538_1⟩ := at_T83 (Kd.V_reads' HO_534002.out).2.2 x6_1 p538 q538
       obtain rfl : ad537 = ad538 := (by injection e538)
       obtain ⟨ce538, hce538, hMe538, hcc538⟩ := Kd.V_get HO_534002.out z83 x6_1 p538 (by first | exact q538 | exact of_decide_eq_true (by first | (with_reducible assumption) | assumption) | (have e_ := (Kd.V_reads' HO_534002.out).1; omega))
       obtain ⟨ua538_1, uc538_1, rfl, ul538_1, ge538_1⟩ := k83_openF hMe538
       have hv538_1 := hcc538 1 _ rfl
       rw [add_field _ _ 1 (by omega)] at hv538_1
       replace hv538_1 := Option.some.inj (hv538_1.symm.trans hx538_1)
       injection hv538_1 with hva_ hvn_ hvc_
       rw [hva_] at ge538_1
       rw [hvc_] at ul538_1
       have HL538_1 := Aside0.mk (show Kd.V Kd.string 9 _ w.heap.size _ _ ((rd_T83 l0_2 x6_1).f1) from Kd.V_mk ul538_1 ge538_1)
       clear hva_ hvn_ hvc_ ge538_1 ul538_1
       clear hcc538 hce538
       have HR538_1 := Aside0.mk hi538_1
       have HC538_1 := Aside0.mk hl538_1
       clear hi538_1 hl538_1
       replace p538 := eq_true p538
       replace q538 := eq_true q538
       have ea_ := Option.some.inj (hx537_1.symm.trans hx538_1)
       injection ea_ with ea_ en_ ec_
       subst ea_
       subst ec_
       clear en_
       go_wp2_with (first | ((with_reducible refine gate_builtin (b := .append) (xs := #[.tmp 23, .tmp 29]) rfl ?_); at_builtin; refine Kd.N_append k83 (w0 := w) w.heap.size rfl (.tmp 23) (.tmp 29) 52 83 (.agg #[(.string ⟨#[]⟩), (.slice none 0 0)]) 40 rfl Tryd.underlying52 info83 rfl (by decide) (by omega) u5 x5_1 (⟨(rd_T83 l0_2 x6_1).f0, (rd_T83 l0_2 x6_1).f1⟩ : S83) [.string ((rd_T83 l0_2 x6_1).f0), .slice A537_1 ((rd_T83 l0_2 x6_1).f1).length c537_1] (fun k_ => (P0_2_ k_ ∨ w.heap.size ≤ k_) ∧ k_ ≠ gb533) (fun k_ => ((fun k_ => (P0_2_ k_ ∨ w.heap.size ≤ k_) ∧ k_ ≠ gb533)) k_ ∧ some k_ ≠ (u5 : Value).ownBlock) rfl rfl ?aP (fun _ hk => hk) ?aF ?aO ?aB ?aS ?aL ?_; (case aP => exact (k83_mkF _ _ (⟨(rd_T83 l0_2 x6_1).f0, (rd_T83 l0_2 x6_1).f1⟩ : S83) (Kd.V_reads' (Kd.V_mono (ok' := (fun k_ => ((fun k_ => (P0_2_ k_ ∨ w.heap.size ≤ k_) ∧ k_ ≠ gb533)) k_ ∧ some k_ ≠ (u5 : Value).ownBlock)) (HL538_1.out) (fun k_ hk => ⟨⟨hk.1, hk.2.2⟩, hk.2.1⟩))).2.1 (Kd.V_F (Kd.V_mono (ok' := (fun k_ => ((fun k_ => (P0_2_ k_ ∨ w.heap.size ≤ k_) ∧ k_ ≠ gb533)) k_ ∧ some k_ ≠ (u5 : Value).ownBlock)) (HL538_1.out) (fun k_ hk => ⟨⟨hk.1, hk.2.2⟩, hk.2.1⟩))))); (case aB => exact (by repeat (first | (with_reducible first | exact HB.out | apply below_alloc | apply pw_below_drewN | apply below_drew1 | refine below_set ?_ GE533.out) | exact HB.out))); (case aF => exact (fun k_ hk => ⟨(.inr (Nat.le_trans (below_size (by repeat (first | (with_reducible first | exact HB.out | apply below_alloc | apply pw_below_drewN | apply below_drew1 | refine below_set ?_ GE533.out) | exact HB.out))) hk)), Kd.freshB (g := gb533) (o := .cells #[.string a0_0, .string a0_1, .slice (some ad537) l0_2.length c0_2] 62 (0, 0)) (by (with_reducible repeat (first | refine blk_drewN ?_ _ | refine blk_drew ?_ | refine blk_alloc ?_ _)); exact BK533.out) k_ hk⟩)); (case aO => exact (by (with_reducible repeat (first | apply Kd.N_alloc | apply Kd.N_drewN | apply Kd.N_drew)); exact HO_5.out)); (case aS => exact (below_size (by repeat (first | (with_reducible first | exact HB.out | apply below_alloc | apply pw_below_drewN | apply below_drew1 | refine below_set ?_ GE533.out) | exact HB.out)))); (case aL => have := LMc9.out; omega); intro v540 w11 ho hb hg hat; rw [← Ny539.out] at ho; have n0_ := Aside0.mk (Kd.V_afterv (ok := (fun k_ => (P0_2_ k_ ∨ w.heap.size ≤ k_) ∧ k_ ≠ gb533)) (by (with_reducible repeat (first | apply Kd.V_alloc | apply Kd.V_drewN | apply Kd.V_drew)); exact Kd.V_mono HO_534002.out (fun _ hk => ⟨⟨hk.1, hk.2.2⟩, hk.2.1⟩)) hg hat); have n1_ := Aside0.mk (blk_grown (g := gb533) (o := .cells #[.string a0_0, .string a0_1, .slice (some ad537) l0_2.length c0_2] 62 (0, 0)) (by (with_reducible repeat (first | refine blk_drewN ?_ _ | refine blk_drew ?_ | refine blk_alloc ?_ _)); exact BK533.out) hg (Kd.N_ne HO_5.out BK533.out (by decide))); have n2_ := Aside0.mk (Kd.V_afterv (ok := (fun k_ => (P0_2_ k_ ∨ w.heap.size ≤ k_) ∧ k_ ≠ gb533)) (by (with_reducible repeat (first | apply Kd.V_alloc | apply Kd.V_drewN | apply Kd.V_drew)); exact Kd.V_mono HL537_1.out (fun _ hk => ⟨⟨hk.1, hk.2.2⟩, hk.2.1⟩)) hg hat); have n3_ := Aside0.mk (Kd.V_afterv (ok := (fun k_ => (P0_2_ k_ ∨ w.heap.size ≤ k_) ∧ k_ ≠ gb533)) (by (with_reducible repeat (first | apply Kd.V_alloc | apply Kd.V_drewN | apply Kd.V_drew)); exact Kd.V_mono HL538_1.out (fun _ hk => ⟨⟨hk.1, hk.2.2⟩, hk.2.1⟩)) hg hat); have n4_ := Aside0.mk (hb); have n5_ := Aside0.mk (ho); clear HO_534002; clear BK533; clear HL537_1; clear HL538_1; clear HB; clear HO_5; have HO_534002 := n0_; have BK533 := n1_; have HL537_1 := n2_; have HL538_1 := n3_; have HB := n4_; have HO541 := n5_; clear n0_ n1_ n2_ n3_ n4_ n5_; clear ho hb hg hat))
       go_roundg k1
       case measure => have := HK1.out; omega
       case rel => exact ⟨(y539), (wrap64 (x6_1 + 1)), (by first | rfl | (simp; done) | (simp [*]; done)), H', ⟨by have := HK1.out; omega⟩, ⟨by (with_reducible repeat (first | apply Kd.N_alloc | apply Kd.N_drewN | apply Kd.N_drew)); exact HO541.out⟩, ⟨by (with_reducible repeat (first | apply Kd.V_alloc | apply Kd.V_drewN | apply Kd.V_drew)); exact Kd.V_mono HO_534002.out (fun _ hk => ⟨hk.1.1, ⟨hk.2, hk.1.2⟩⟩)⟩, ⟨by (with_reducible repeat (first | refine blk_drewN ?_ _ | refine blk_drew ?_ | refine blk_alloc ?_ _)); exact BK533.out⟩, ⟨by repeat (first | (with_reducible first | exact HB.out | apply below_alloc | apply pw_below_drewN | apply below_drew1 | refine below_set ?_ GE533.out) | exact HB.out)⟩⟩
      ·rw [if_neg c9] at H
       exact absurd H (by simp)
     ·rw [if_neg c8] at H
      have c8b0 : (((rd_T83 l0_2 x6_1).f0).toList == a1.toList) = false := beq_eq_false_iff_ne.mpr c8
      have c8b1 : (((rd_T83 l0_2 x6_1).f0).toList != a1.toList) = true := bne_iff_ne.mpr c8
      have H' := Aside0.mk H
      clear H
      have hcz12_0 : wr.cell? ⟨gb533, 0, none⟩ = some (.string a0_0) := (blk_cell BK533.out 0).trans rfl
      have hcz12_1 : wr.cell? ⟨gb533, 1, none⟩ = some (.string a0_1) := (blk_cell BK533.out 1).trans rfl
      have hcz12_2 : wr.cell? ⟨gb533, 2, none⟩ = some (.slice A0_2 l0_2.length c0_2) := (blk_cell BK533.out 2).trans rfl
      have hfz12_0 := blk_frozen BK533.out 0
      have hfz12_1 := blk_frozen BK533.out 1
      have hfz12_2 := blk_frozen BK533.out 2
      have p537 : 0 ≤ (x6_1 : Int) := of_decide_eq_true (by first | (with_reducible assumption) | assumption)
      have q537 : x6_1 < (l0_2.length : Int) := of_decide_eq_true (by first | (with_reducible assumption) | assumption)
      obtain ⟨ad537, A537_1, c537_1, e537, hx537_0, hx537_1, hl537_1, hi537_1⟩ := at_T83 (Kd.V_reads' HO_534002.out).2.2 x6_1 p537 q537
      cases e537
      obtain ⟨ce537, hce537, hMe537, hcc537⟩ := Kd.V_get HO_534002.out z83 x6_1 p537 (by first | exact q537 | exact of_decide_eq_true (by first | (with_reducible assumption) | assumption) | (have e_ := (Kd.V_reads' HO_534002.out).1; omega))
      obtain ⟨ua537_1, uc537_1, rfl, ul537_1, ge537_1⟩ := k83_openF hMe537
      have hv537_1 := hcc537 1 _ rfl
      rw [add_field _ _ 1 (by omega)] at hv537_1
      replace hv537_1 := Option.some.inj (hv537_1.symm.trans hx537_1)
      injection hv537_1 with hva_ hvn_ hvc_
      rw [hva_] at ge537_1
      rw [hvc_] at ul537_1
      have HL537_1 := Aside0.mk (show Kd.V Kd.string 9 _ w.heap.size _ _ ((rd_T83 l0_2 x6_1).f1) from Kd.V_mk ul537_1 ge537_1)
      clear hva_ hvn_ hvc_ ge537_1 ul537_1
      clear hcc537 hce537
      have HR537_1 := Aside0.mk hi537_1
      have HC537_1 := Aside0.mk hl537_1
      clear hi537_1 hl537_1
      replace p537 := eq_true p537
      replace q537 := eq_true q537
      go_wp2
      go_roundg k1
      case measure => have := HK1.out; omega
      case rel => exact ⟨(x5_1), (wrap64 (x6_1 + 1)), (by first | rfl | (simp; done) | (simp [*]; done)), H', ⟨by have := HK1.out; omega⟩, ⟨by (with_reducible repeat (first | apply Kd.N_alloc | apply Kd.N_drewN | apply Kd.N_drew)); exact HO_5.out⟩, ⟨by (with_reducible repeat (first | apply Kd.V_alloc | apply Kd.V_drewN | apply Kd.V_drew)); exact HO_534002.out⟩, ⟨by (with_reducible repeat (first | refine blk_drewN ?_ _ | refine blk_drew ?_ | refine blk_alloc ?_ _)); exact BK533.out⟩, ⟨by repeat (first | (with_reducible first | exact HB.out | apply below_alloc | apply pw_below_drewN | apply below_drew1 | refine below_set ?_ GE533.out) | exact HB.out)⟩⟩
    ·rw [if_neg c7] at H
     exact absurd H (by simp)
   ·rw [if_neg c6] at H
    have c6b0 : decide (x6_1 < (l0_2.length : Int)) = false := decide_eq_false c6
    clear c6
    replace H := Option.bind_eq_some_iff.mp H
    obtain ⟨t542, A130, H⟩ := H
    replace H : (some t542) = some r := H
    have A13 := Aside0.mk A130
    clear A130
    obtain rfl := Option.some.inj H
    have hcz14_0 : wr.cell? ⟨gb533, 0, none⟩ = some (.string a0_0) := (blk_cell BK533.out 0).trans rfl
    have hcz14_1 : wr.cell? ⟨gb533, 1, none⟩ = some (.string a0_1) := (blk_cell BK533.out 1).trans rfl
    have hcz14_2 : wr.cell? ⟨gb533, 2, none⟩ = some (.slice A0_2 l0_2.length c0_2) := (blk_cell BK533.out 2).trans rfl
    have hfz14_0 := blk_frozen BK533.out 0
    have hfz14_1 := blk_frozen BK533.out 1
    have hfz14_2 := blk_frozen BK533.out 2
    obtain ⟨Ao15, co15, eo15⟩ := Kd.N_slice HO_5.out
    subst eo15
    go_wp2_with (first | ((with_reducible refine gate_callee (f := 100) rfl ?_); refine goesL_ (some 32) rfl rfl Tryd.func100 (by kernel_rfl) rfl #[.slice Ao15 x5_1.length co15] rfl (by (try simp only [List.map_toArray, List.map_cons, List.map_nil]); first | done | rfl | (simp only [List.length_drop, List.length_take]; rfl)) ?_; (with_reducible refine (spec_l3Lines.calls k1 _ _ x5_1 t542 _ ?side1 ?side2 A13.out).mono ?_); (case side1 => repeat (first | exact (Kd.N_reads' HO_5.out).2.2 | (with_reducible refine Kd.C_alloc ?_ _) | (with_reducible refine Kd.C_drewN ?_ _) | (with_reducible refine Kd.C_drew ?_))); (case side2 => exact (Kd.N_reads' HO_5.out).2.1); rintro e w16 ⟨v543, rfl, ho0, hb⟩; refine ⟨_, rfl, ?_⟩; have n0_ := Aside0.mk (Kd.N_elder' (by (with_reducible repeat (first | apply Kd.N_alloc | apply Kd.N_drewN | apply Kd.N_drew)); exact HO_5.out) (Kd.N_base (Kd.R_N (Kd.R_bound ho0))) hb); have n1_ := Aside0.mk (Kd.V_elder' (by (with_reducible repeat (first | apply Kd.V_alloc | apply Kd.V_drewN | apply Kd.V_drew)); exact HO_534002.out) (Kd.N_base (Kd.R_N (Kd.R_bound ho0))) hb); have n2_ := Aside0.mk (Kd.N_lower (Kd.N_mono (ok' := fun k_ => (P0_2_ k_ ∨ w.heap.size ≤ k_) ∧ some k_ ≠ (.slice Ao15 x5_1.length co15 : Value).ownBlock ∧ k_ ≠ gb533) (Kd.R_N (Kd.R_bound ho0)) (fun k_ hk_ => ⟨(.inr (Nat.le_trans (below_size (by repeat (first | (with_reducible first | exact HB.out | apply below_alloc | apply pw_below_drewN | apply below_drew1 | refine below_set ?_ GE533.out) | exact HB.out))) hk_.2.1)), (Kd.fresh' (Kd.N_lt (by (with_reducible repeat (first | apply Kd.N_alloc | apply Kd.N_drewN | apply Kd.N_drew)); exact HO_5.out)) k_ hk_.2.1), (Kd.freshB (g := gb533) (o := .cells #[.string a0_0, .string a0_1, .slice A0_2 l0_2.length c0_2] 62 (0, 0)) (by (with_reducible repeat (first | refine blk_drewN ?_ _ | refine blk_drew ?_ | refine blk_alloc ?_ _)); exact BK533.out) k_ hk_.2.1)⟩)) (below_size (by repeat (first | (with_reducible first | exact HB.out | apply below_alloc | apply pw_below_drewN | apply below_drew1 | refine below_set ?_ GE533.out) | exact HB.out)))); have n3_ := Aside0.mk (blk_below (g := gb533) (o := .cells #[.string a0_0, .string a0_1, .slice A0_2 l0_2.length c0_2] 62 (0, 0)) (by (with_reducible repeat (first | refine blk_drewN ?_ _ | refine blk_drew ?_ | refine blk_alloc ?_ _)); exact BK533.out) hb); have n4_ := Aside0.mk (below_step (by repeat (first | (with_reducible first | exact HB.out | apply below_alloc | apply pw_below_drewN | apply below_drew1 | refine below_set ?_ GE533.out) | exact HB.out)) hb); clear HO_5; clear HO_534002; clear BK533; clear HB; have HO_5 := n0_; have HO_534002 := n1_; have HO544 := n2_; have BK533 := n3_; have HB := n4_; clear n0_ n1_ n2_ n3_ n4_; (try clear hb); (try clear hb2); (try clear hk); (try clear hi); (try clear ho0)))
    go_ret
    exact ⟨_, by first | rfl | (simp [errW_none, errW_some] <;> rfl) | (simp [*, errW_none, errW_some] <;> rfl), by (with_reducible repeat (first | apply Kd.N_alloc | apply Kd.N_drewN | apply Kd.N_drew)); exact Kd.N_mono HO544.out (fun _ hk => hk.1), by repeat (first | (with_reducible first | exact HB.out | apply below_alloc | apply pw_below_drewN | apply below_drew1 | refine below_set ?_ GE533.out) | exact HB.out)⟩
end Go.Proofs.YtmcdnpooclelgaaDoor.PAll
namespace Go.Proofs.YtmcdnpooclelgaaDoor.PAll
open Go.RowKit Go.Proofs.YtmcdnpooclelgaaDoorW.PrintWords
theorem specFind_l0 (kind name : ByteArray) (ys : List S62) (hn : ys.length ≤ 1048576) : ∀ (d i : Nat), i + d = ys.length → Ev (fun k => spec_l3Find.l0 k kind name i ys) (findB kind name (ys.drop i) i)
 | 0, i, h => Ev.unf (fun _ => some (-1)) (fun k => by simp only [spec_l3Find.l0]; rw [if_neg (by omega)]) (by rw [List.drop_eq_nil_of_le (by omega), findB]; exact Ev.now _)
 | d + 1, i, h => by
  have hi : i < ys.length := by omega
  have ih := specFind_l0 kind name ys hn d (i + 1) (by omega)
  rw [List.drop_eq_getElem_cons hi, findB]
  by_cases q : ys[i].f0 = kind
  ·by_cases q2 : ys[i].f1 = name
   ·rw [if_pos ⟨q, q2⟩]
    refine Ev.unf (fun _ => some (i : Int)) (fun k => ?_) (Ev.now _)
    simp only [spec_l3Find.l0]
    rw [if_pos (by omega), if_pos (by omega), rdBlock hi, if_pos (by rw [q]), if_pos (by rw [q2])]
   ·rw [if_neg (fun e => q2 e.2)]
    refine Ev.unf (fun k => spec_l3Find.l0 k kind name ((i + 1 : Nat) : Int) ys) (fun k => ?_) ih
    simp only [spec_l3Find.l0]
    rw [if_pos (by omega), if_pos (by omega), rdBlock hi, if_pos (by rw [q]), if_neg (fun e => q2 (bytes_inj e)), inc (by omega)]
  ·rw [if_neg (fun e => q e.1)]
   refine Ev.unf (fun k => spec_l3Find.l0 k kind name ((i + 1 : Nat) : Int) ys) (fun k => ?_) ih
   simp only [spec_l3Find.l0]
   rw [if_pos (by omega), if_pos (by omega), rdBlock hi, if_neg (fun e => q (bytes_inj e)), inc (by omega)]
theorem ev_l3Find (kind name : ByteArray) (ys : List S62) (hn : ys.length ≤ 1048576) : Ev (fun k => spec_l3Find.f k ys kind name) (findB kind name ys 0) := specFind_l0 kind name ys hn ys.length 0 (by omega)
theorem specLines_l0 (xs : List S83) (h : smallLs xs) : ∀ (d i : Nat) (acc : List S83), i + d = xs.length → acc.length ≤ i → Ev (fun k => spec_l3Lines.l0 k xs acc i) (acc ++ xs.drop i)
 | 0, i, acc, hd, ha => Ev.unf (fun _ => some acc) (fun k => by simp only [spec_l3Lines.l0]; rw [if_neg (by omega)]) (by rw [List.drop_eq_nil_of_le (by omega), List.append_nil]; exact Ev.now _)
 | d + 1, i, acc, hd, ha => by
  have hi : i < xs.length := by omega
  have hl := h.1
  have hs := h.2 _ (List.getElem_mem hi)
  have ih := specLines_l0 xs h d (i + 1) (acc ++ [xs[i]]) (by omega) (by simp; omega)
  rw [List.drop_eq_getElem_cons hi, show acc ++ xs[i] :: xs.drop (i + 1) = (acc ++ [xs[i]]) ++ xs.drop (i + 1) by simp]
  refine Ev.unf (fun k => spec_l3Lines.l0 k xs (acc ++ [xs[i]]) ((i + 1 : Nat) : Int)) (fun k => ?_) ih
  simp only [spec_l3Lines.l0, Option.bind_some, List.nil_append, List.length_nil]
  rw [if_pos (by omega), if_pos (by omega), rdLine hi, if_pos (by have := hs.2.1; omega), if_pos (by omega), inc (by omega)]
theorem ev_l3Lines (xs : List S83) (h : smallLs xs) : Ev (fun k => spec_l3Lines.f k xs) xs := specLines_l0 xs h xs.length 0 [] (by omega) (by simp)
theorem specOf_l0 (k0 n0 key : ByteArray) (xs : List S83) (h : smallLs xs) : ∀ (d i : Nat) (acc : List S83), i + d = xs.length → acc.length ≤ i → smallLs (acc ++ ofKey key (xs.drop i)) → Ev (fun k => spec_l5Of.l0 k key acc i k0 n0 xs) (acc ++ ofKey key (xs.drop i))
 | 0, i, acc, hd, ha, hs => by
  rw [List.drop_eq_nil_of_le (by omega), show ofKey key [] = [] from rfl, List.append_nil] at hs ⊢
  refine Ev.unf (fun k => (spec_l3Lines.f k acc).bind fun t => some t) (fun k => by simp only [spec_l5Of.l0]; rw [if_neg (by omega)]) ?_
  exact Ev.bind (ev_l3Lines acc hs) (Ev.now _)
 | d + 1, i, acc, hd, ha, hs => by
  have hi : i < xs.length := by omega
  have hl := h.1
  rw [List.drop_eq_getElem_cons hi] at hs ⊢
  by_cases q : xs[i].f0 = key
  ·have e : acc ++ ofKey key (xs[i] :: xs.drop (i + 1)) = (acc ++ [xs[i]]) ++ ofKey key (xs.drop (i + 1)) := by unfold ofKey; rw [List.filter_cons_of_pos (by simpa using q)]; simp
   rw [e] at hs ⊢
   have ih := specOf_l0 k0 n0 key xs h d (i + 1) (acc ++ [xs[i]]) (by omega) (by simp; omega) hs
   refine Ev.unf (fun k => spec_l5Of.l0 k key (acc ++ [xs[i]]) ((i + 1 : Nat) : Int) k0 n0 xs) (fun k => ?_) ih
   simp only [spec_l5Of.l0]
   rw [if_pos (by omega), if_pos (by omega), rdLine hi, if_pos (by rw [q]), if_pos (by omega), inc (by omega)]
  ·have e : acc ++ ofKey key (xs[i] :: xs.drop (i + 1)) = acc ++ ofKey key (xs.drop (i + 1)) := by unfold ofKey; rw [List.filter_cons_of_neg (by simpa using q)]
   rw [e] at hs ⊢
   have ih := specOf_l0 k0 n0 key xs h d (i + 1) acc (by omega) (by omega) hs
   refine Ev.unf (fun k => spec_l5Of.l0 k key acc ((i + 1 : Nat) : Int) k0 n0 xs) (fun k => ?_) ih
   simp only [spec_l5Of.l0]
   rw [if_pos (by omega), if_pos (by omega), rdLine hi, if_neg (fun e => q (bytes_inj e)), inc (by omega)]
theorem ev_l5Of (k0 n0 key : ByteArray) (xs : List S83) (h : smallLs xs) : Ev (fun k => spec_l5Of.f k k0 n0 xs key) (ofKey key xs) :=
 specOf_l0 k0 n0 key xs h xs.length 0 [] (by omega) (by simp) (ofKey_small h)
theorem rdRuleAt {ls : List S36} {i : Nat} {r : S36} (h : ls[i]? = some r) : rd_T36 ls (i : Int) = r := by unfold rd_T36; rw [List.getD_eq_getElem?_getD, Int.toNat_natCast, h]; rfl
theorem flat_len {α β : Type} (f : α → List β) (B : Nat) : ∀ l : List α, (∀ x ∈ l, (f x).length ≤ B) → (l.flatMap f).length ≤ l.length * B
 | [], _ => by simp
 | x :: l, h => by
  rw [List.flatMap_cons, List.length_append, List.length_cons, Nat.add_mul]
  have := h x List.mem_cons_self
  have := flat_len f B l (fun y hy => h y (List.mem_cons_of_mem _ hy))
  omega
theorem cnt_filter {α : Type} (cnt : α → Nat) (p : α → Bool) : ∀ xs : List α, cntAll cnt (xs.filter p) ≤ cntAll cnt xs
 | [] => Nat.le_refl _
 | x :: xs => by
  have ih := cnt_filter cnt p xs
  by_cases q : p x = true
  ·rw [List.filter_cons_of_pos q]; simp only [cntAll]; omega
  ·rw [List.filter_cons_of_neg q]; simp only [cntAll]; omega
theorem cnt_app {α : Type} (cnt : α → Nat) : ∀ xs ys : List α, cntAll cnt (xs ++ ys) = cntAll cnt xs + cntAll cnt ys
 | [], ys => by simp [cntAll]
 | x :: xs, ys => by rw [List.cons_append]; simp only [cntAll]; have := cnt_app cnt xs ys; omega
theorem cnt_flat {α β : Type} (cnt : β → Nat) (f : α → List β) (B : Nat) : ∀ l : List α, (∀ x ∈ l, cntAll cnt (f x) ≤ B) → cntAll cnt (l.flatMap f) ≤ l.length * B
 | [], _ => by simp [cntAll]
 | x :: l, h => by
  rw [List.flatMap_cons, cnt_app, List.length_cons, Nat.add_mul]
  have := h x List.mem_cons_self
  have := cnt_flat cnt f B l (fun y hy => h y (List.mem_cons_of_mem _ hy))
  omega
theorem heapLine : Kd.Heap k83 := Kd.heap_iso _ (Kd.heap_pair Kd.heap_string (Kd.heap_slice _ Kd.heap_string))
theorem C_nil {α : Type} (d : Kd α) (w : World) (A : Option Addr) : d.C w A 0 [] := ⟨rfl, by omega, fun hp => absurd hp (by omega)⟩
theorem parts_perm {α : Type} {A : Sh α} {w : World} {b : Nat} {T T' : List (Part α)} (h : Parts A w b T) (hp : T.Perm T') : Parts A w b T' :=
 ⟨fun t ht => h.1 t (hp.mem_iff.2 ht), ((List.Perm.flatMap_right Part.G hp).nodup_iff).1 h.2⟩
theorem filter_perm {α : Type} (p q s : α → Bool) : ∀ (T : List α), (∀ t ∈ T, p t = (q t || s t)) → (∀ t ∈ T, q t = true → s t = false) → (T.filter p).Perm (T.filter q ++ T.filter s)
 | [], _, _ => List.Perm.refl _
 | t :: T, h, hx => by
  have ih := filter_perm p q s T (fun u hu => h u (List.mem_cons_of_mem _ hu)) (fun u hu => hx u (List.mem_cons_of_mem _ hu))
  have ht := h t List.mem_cons_self
  have hxt := hx t List.mem_cons_self
  cases hq : q t with
  | true =>
   have hs := hxt hq
   rw [hq, Bool.true_or] at ht
   rw [List.filter_cons_of_pos ht, List.filter_cons_of_pos hq, List.filter_cons_of_neg (by rw [hs]; simp), List.cons_append]
   exact ih.cons t
  | false =>
   rw [hq, Bool.false_or] at ht
   cases hs : s t with
   | true =>
    rw [hs] at ht
    rw [List.filter_cons_of_pos ht, List.filter_cons_of_neg (by rw [hq]; simp), List.filter_cons_of_pos hs]
    exact (ih.cons t).trans List.perm_middle.symm
   | false =>
    rw [hs] at ht
    rw [List.filter_cons_of_neg (by rw [ht]; simp), List.filter_cons_of_neg (by rw [hq]; simp), List.filter_cons_of_neg (by rw [hs]; simp)]
    exact ih
abbrev PartL := Part S83
def restL (kind : ByteArray) (T : List PartL) (k : Nat) : List PartL := T.filter fun t => decide ((k : Int) ≤ placeL kind t.x.f0)
def keyL (key : ByteArray) (T : List PartL) : List PartL := T.filter fun t => decide (t.x.f0 = key)
structure FillAt (w : World) (b : Nat) (kind : ByteArray) (ls : List S83) (T : List PartL) (k : Nat) (v : Value) (N : List PartL) : Prop where
 row : w.ownsRow b 83 2 v N.length (N.map Part.us).flatten
 xs : N.map Part.x = ((rulesL kind).take k).flatMap (fillR ls)
 parts : Parts lineS w b (N ++ restL kind T k)
 away : ∀ g, v.ownBlock = some g → g ∉ (N ++ restL kind T k).flatMap Part.G
theorem rest_perm {kind : ByteArray} {T : List PartL} {k : Nat} {r : S36} (hr : (rulesL kind)[k]? = some r) (hpos : ∀ t ∈ T, 0 ≤ placeL kind t.x.f0) : (restL kind T k).Perm (keyL r.f0 T ++ restL kind T (k + 1)) := by
 refine filter_perm _ _ _ T (fun t ht => ?_) (fun t ht hq => ?_)
 ·have := key_place kind t.x.f0 k r hr (hpos t ht)
  rw [Bool.eq_iff_iff]
  simp only [Bool.or_eq_true, decide_eq_true_eq]
  rw [this]
  omega
 ·have := key_place kind t.x.f0 k r hr (hpos t ht)
  simp only [decide_eq_true_eq] at hq
  rw [this] at hq
  exact decide_eq_false (by omega)
theorem parts_move {α : Type} {A : Sh α} {w w' : World} {b : Nat} {T : List (Part α)} (h : Parts A w b T) (hf : ∀ g ∈ T.flatMap Part.G, w'.heap[g]? = w.heap[g]?) : Parts A w' b T :=
 ⟨fun t ht => A.oframe (h.1 t ht) fun g hg => hf g (List.mem_flatMap.2 ⟨t, ht, hg⟩), h.2⟩
theorem parts_lt {α : Type} {A : Sh α} {w : World} {b : Nat} {T : List (Part α)} (h : Parts A w b T) : ∀ g ∈ T.flatMap Part.G, b ≤ g ∧ g < w.heap.size := fun g hg => by
 obtain ⟨t, ht, hg⟩ := List.mem_flatMap.1 hg
 exact A.oin (h.1 t ht) g hg
theorem FillAt.below {w w' : World} {b : Nat} {kind : ByteArray} {ls : List S83} {T : List PartL} {k : Nat} {v : Value} {N : List PartL} (h : FillAt w b kind ls T k v N) (hb : Below w.heap.size w w') : FillAt w' b kind ls T k v N :=
 ⟨own_move h.row (fun g hg => hb.block g (own_lt h.row g hg)), h.xs, parts_move h.parts (fun g hg => hb.block g (parts_lt h.parts g hg).2), h.away⟩
theorem FillAt.step {w w1 : World} {b : Nat} {kind : ByteArray} {ls : List S83} {T : List PartL} {k : Nat} {v v1 : Value} {N : List PartL} (h : FillAt w b kind ls T k v N) {r : S36} (hr : (rulesL kind)[k]? = some r) (Pc : List PartL) (hx : Pc.map Part.x = fillR ls r) (hp : Parts lineS w b (N ++ Pc ++ restL kind T (k + 1))) (haw : ∀ g, v.ownBlock = some g → g ∉ (N ++ Pc ++ restL kind T (k + 1)).flatMap Part.G)
  (ho : w1.ownsRow b 83 2 v1 (N.length + Pc.length) ((N.map Part.us).flatten ++ (Pc.map Part.us).flatten)) (hg : w.grownBy w1 v.ownBlock) (hat : v1.ownBlock = v.ownBlock ∨ ∃ g, v1.ownBlock = some g ∧ w.heap.size ≤ g) : FillAt w1 b kind ls T (k + 1) v1 (N ++ Pc) := by
 refine ⟨by simpa using ho, ?_, parts_move hp (fun g hgm => hg.block g (parts_lt hp g hgm).2 (fun e => haw g e.symm hgm)), fun g hg1 hgm => ?_⟩
 ·rw [List.map_append, h.xs, hx, List.take_add_one, hr, List.flatMap_append]
  simp
 ·rcases hat with hat | ⟨g', hat, hge⟩
  ·exact haw g (by rw [← hat, hg1]) hgm
  ·rw [hg1] at hat
   injection hat with hat
   have := (parts_lt hp g hgm).2
   omega
theorem FillAt.old {w w1 : World} {b : Nat} {kind : ByteArray} {ls : List S83} {T : List PartL} {k : Nat} {v v1 : Value} {N : List PartL} (h : FillAt w b kind ls T k v N) {r : S36} (hr : (rulesL kind)[k]? = some r) (hpos : ∀ t ∈ T, 0 ≤ placeL kind t.x.f0) (hx : (keyL r.f0 T).map Part.x = fillR ls r)
  (ho : w1.ownsRow b 83 2 v1 (N.length + (keyL r.f0 T).length) ((N.map Part.us).flatten ++ ((keyL r.f0 T).map Part.us).flatten)) (hg : w.grownBy w1 v.ownBlock) (hat : v1.ownBlock = v.ownBlock ∨ ∃ g, v1.ownBlock = some g ∧ w.heap.size ≤ g) : FillAt w1 b kind ls T (k + 1) v1 (N ++ keyL r.f0 T) := by
 have hpm : (N ++ restL kind T k).Perm (N ++ keyL r.f0 T ++ restL kind T (k + 1)) := by
  rw [List.append_assoc]
  exact (rest_perm hr hpos).append_left N
 exact h.step hr _ hx (parts_perm h.parts hpm) (fun g hg1 hgm => h.away g hg1 ((List.Perm.flatMap_right Part.G hpm).mem_iff.2 hgm)) ho hg hat
theorem FillAt.start {w : World} {b : Nat} {kind : ByteArray} {T : List PartL} {ls : List S83} (h : Parts lineS w b T) (hpos : ∀ t ∈ T, 0 ≤ placeL kind t.x.f0) : FillAt w b kind ls T 0 (.slice none 0 0) [] := by
 have e : restL kind T 0 = T := List.filter_eq_self.2 fun t ht => decide_eq_true (by have := hpos t ht; omega)
 exact ⟨World.ownsRow_nil _ _ _ _, rfl, by rw [e]; exact h, fun g hg => by cases hg⟩
theorem rules_reads {w : World} {b : Nat} {A : Option Addr} {n c : Nat} {xs : List S36} {F : List Nat} (h : rulesS.ow w b [.slice A n c] xs F) : n = xs.length ∧ xs.length ≤ c ∧ Kd.C k36 w A xs.length xs := by
 obtain ⟨A', c', hv, hl, hC⟩ := rulesS.ord h
 injection hv with hv _
 injection hv with h1 h2 h3
 subst h1 h3
 exact ⟨h2, hl, hC⟩
theorem own_empty {w : World} {e : TypeId} {base size g : Nat} (h : w.heap[g]? = some (.cells #[] e (0, 0))) (hb : base ≤ g) : w.ownsRow base e size (.slice (some ⟨g, 0, none⟩) 0 0) 0 [] := by
 exact ⟨by simp, .inr ⟨g, 0, #[], rfl, hb, h, by simp, by simp [maxLen], by simp, by simp⟩⟩
end Go.Proofs.YtmcdnpooclelgaaDoor.PAll
namespace Go.Proofs.YtmcdnpooclelgaaDoor.PAll
open Go.RowKit Go.Proofs.YtmcdnpooclelgaaDoorW.PrintWords Go.Proofs.YtmcdnpooclelgaaDoorW.PrintLast Go.Proofs.YtmcdnpooclelgaaDoorW.PrintMore
attribute [local go_sem] max2_int min2_int max_two min_two max_three min_three max_four min_four   -- for this text's walks alone
def spec_l3Words.f (k : Nat) (l0 : List ByteArray) (l1 : List ByteArray) : Option (Bool) := (spec_l3Less.f k l0 l1).bind fun t670 => (if t670 = true then (some false) else ((spec_l3Less.f k l1 l0).bind fun t671 => (some (!t671))))
set_option maxHeartbeats 8000000 in
set_option maxRecDepth 100000 in
theorem spec_l3Words.calls (k : Nat) (A0 : Option Addr) (c0 : Nat) (l0 : List ByteArray) (A1 : Option Addr) (c1 : Nat) (l1 : List ByteArray) (r : Bool) (w : World) (hr0 : Kd.C Kd.string w A0 l0.length l0) (hc0 : l0.length ≤ c0) (hr1 : Kd.C Kd.string w A1 l1.length l1) (hc1 : l1.length ≤ c1) (h : spec_l3Words.f k l0 l1 = some r) :
  Calls Tryd.prog 95 #[.slice A0 l0.length c0, .slice A1 l1.length c1] w fun e w' => e = .returned (.bool r) ∧ Drawn0 w w' := by
 have HR0 := Aside0.mk hr0
 have HC0 := Aside0.mk hc0
 clear hr0 hc0
 have HR1 := Aside0.mk hr1
 have HC1 := Aside0.mk hc1
 clear hr1 hc1
 have H : ((spec_l3Less.f k l0 l1).bind fun t670 => (if t670 = true then (some false) else ((spec_l3Less.f k l1 l0).bind fun t671 => (some (!t671))))) = some r := h
 clear h
 replace H := Option.bind_eq_some_iff.mp H
 obtain ⟨t670, A30, H⟩ := H
 replace H : (if t670 = true then (some false) else ((spec_l3Less.f k l1 l0).bind fun t671 => (some (!t671)))) = some r := H
 have A3 := Aside0.mk A30
 clear A30
 by_cases c4 : t670 = true
 ·subst c4
  have H1 : (some false) = some r := by rw [if_pos rfl] at H; exact H
  clear H
  have H := H1
  clear H1
  obtain rfl := Option.some.inj H
  go_enter Tryd.func95, Tryd.ntmps95
  go_wp2_with (first | ((with_reducible refine gate_callee (f := 126) rfl ?_); refine goesL_ (some 7) rfl rfl Tryd.func126 (by kernel_rfl) rfl #[.slice A0 l0.length c0, .slice A1 l1.length c1] rfl (by (try simp only [List.map_toArray, List.map_cons, List.map_nil]); first | done | rfl | (simp only [List.length_drop, List.length_take]; rfl)) ?_; (with_reducible refine (spec_l3Less.calls k _ _ l0 _ _ l1 true _ ?side1 ?side2 ?side3 ?side4 A3.out).mono ?_); (case side1 => repeat (first | exact HR0.out | (with_reducible refine Kd.C_alloc ?_ _) | (with_reducible refine Kd.C_drewN ?_ _) | (with_reducible refine Kd.C_drew ?_))); (case side2 => exact HC0.out); (case side3 => repeat (first | exact HR1.out | (with_reducible refine Kd.C_alloc ?_ _) | (with_reducible refine Kd.C_drewN ?_ _) | (with_reducible refine Kd.C_drew ?_))); (case side4 => exact HC1.out); rintro e w' ⟨rfl, ⟨nd, rfl⟩⟩; refine ⟨_, rfl, ?_⟩))
  go_ret
  exact ⟨by first | rfl | (simp; done) | (simp [*]; done), by repeat (first | exact Drawn0.refl _ | apply Drawn0.step)⟩
 ·replace c4 := Bool.eq_false_iff.mpr c4
  subst c4
  have H1 : ((spec_l3Less.f k l1 l0).bind fun t671 => (some (!t671))) = some r := by rw [if_neg (show ¬ (false = true) by decide)] at H; exact H
  clear H
  have H := H1
  clear H1
  replace H := Option.bind_eq_some_iff.mp H
  obtain ⟨t671, A50, H⟩ := H
  replace H : (some (!t671)) = some r := H
  have A5 := Aside0.mk A50
  clear A50
  obtain rfl := Option.some.inj H
  go_enter Tryd.func95, Tryd.ntmps95
  go_wp2_with (first | ((with_reducible refine gate_callee (f := 126) rfl ?_); refine goesL_ (some 7) rfl rfl Tryd.func126 (by kernel_rfl) rfl #[.slice A0 l0.length c0, .slice A1 l1.length c1] rfl (by (try simp only [List.map_toArray, List.map_cons, List.map_nil]); first | done | rfl | (simp only [List.length_drop, List.length_take]; rfl)) ?_; (with_reducible refine (spec_l3Less.calls k _ _ l0 _ _ l1 false _ ?side1 ?side2 ?side3 ?side4 A3.out).mono ?_); (case side1 => repeat (first | exact HR0.out | (with_reducible refine Kd.C_alloc ?_ _) | (with_reducible refine Kd.C_drewN ?_ _) | (with_reducible refine Kd.C_drew ?_))); (case side2 => exact HC0.out); (case side3 => repeat (first | exact HR1.out | (with_reducible refine Kd.C_alloc ?_ _) | (with_reducible refine Kd.C_drewN ?_ _) | (with_reducible refine Kd.C_drew ?_))); (case side4 => exact HC1.out); rintro e w' ⟨rfl, ⟨nd, rfl⟩⟩; refine ⟨_, rfl, ?_⟩) | (go_at_call 126; (with_reducible refine (spec_l3Less.calls k _ _ l1 _ _ l0 t671 _ ?side1 ?side2 ?side3 ?side4 A5.out).mono ?_); (case side1 => repeat (first | exact HR1.out | (with_reducible refine Kd.C_alloc ?_ _) | (with_reducible refine Kd.C_drewN ?_ _) | (with_reducible refine Kd.C_drew ?_))); (case side2 => exact HC1.out); (case side3 => repeat (first | exact HR0.out | (with_reducible refine Kd.C_alloc ?_ _) | (with_reducible refine Kd.C_drewN ?_ _) | (with_reducible refine Kd.C_drew ?_))); (case side4 => exact HC0.out); rintro e w' ⟨rfl, ⟨nd, rfl⟩⟩))
  go_ret
  exact ⟨by first | rfl | (simp; done) | (simp [*]; done), by repeat (first | exact Drawn0.refl _ | apply Drawn0.step)⟩
end Go.Proofs.YtmcdnpooclelgaaDoor.PAll
namespace Go.Proofs.YtmcdnpooclelgaaDoor.PAll
open Go.RowKit Go.Proofs.YtmcdnpooclelgaaDoorW.PrintWords
theorem bytes_tri : ∀ x y : List UInt8, x ≠ y → Op.bytesLess x y = true ∨ Op.bytesLess y x = true
 | [], [], h => absurd rfl h
 | [], _ :: _, _ => .inl (by simp [Op.bytesLess])
 | _ :: _, [], _ => .inr (by simp [Op.bytesLess])
 | a :: xs, b :: ys, h => by
  rw [Op.bytesLess, Op.bytesLess]
  by_cases h1 : a < b
  ·exact .inl (by simp [h1])
  ·by_cases h2 : b < a
   ·exact .inr (by simp [h2])
   ·have e : a = b := UInt8.le_antisymm (UInt8.not_lt.1 h2) (UInt8.not_lt.1 h1)
    subst e
    have := bytes_tri xs ys (fun e => h (by rw [e]))
    simpa [h1] using this
theorem lessW_self : ∀ a : List ByteArray, lessW a a = false
 | [] => by simp [lessW]
 | x :: xs => by rw [lessW, if_pos rfl]; exact lessW_self xs
theorem lessW_tri : ∀ a b : List ByteArray, a ≠ b → lessW a b = true ∨ lessW b a = true
 | [], [], h => absurd rfl h
 | [], _ :: _, _ => .inl (by simp [lessW])
 | _ :: _, [], _ => .inr (by simp [lessW])
 | x :: xs, y :: ys, h => by
  by_cases q : x = y
  ·subst q
   rw [lessW, if_pos rfl, lessW, if_pos rfl]
   exact lessW_tri xs ys (fun e => h (by rw [e]))
  ·rw [lessW, if_neg q, lessW, if_neg (Ne.symm q)]
   unfold ltB
   exact bytes_tri _ _ (fun e => q (toList_iff.1 e))
theorem ev_l3Words (a b : List ByteArray) (ha : a.length ≤ 1099511627776) (hb : b.length ≤ 1099511627776) : Ev (fun k => spec_l3Words.f k a b) (decide (a = b)) := by
 unfold spec_l3Words.f
 refine Ev.bind (ev_l3Less a b ha hb) ?_
 by_cases q : a = b
 ·subst q
  rw [lessW_self, decide_eq_true rfl]
  simp only [Bool.false_eq_true, if_false]
  refine Ev.bind (ev_l3Less a a ha ha) ?_
  rw [lessW_self]
  exact Ev.now _
 ·rw [decide_eq_false q]
  cases h1 : lessW a b with
  | true => simp only [if_true]; exact Ev.now _
  | false =>
   have h2 : lessW b a = true := by
    rcases lessW_tri a b q with h | h
    ·rw [h1] at h; cases h
    ·exact h
   simp only [Bool.false_eq_true, if_false]
   refine Ev.bind (ev_l3Less b a hb ha) ?_
   rw [h2]
   exact Ev.now _
set_option maxRecDepth 100000 in
set_option maxHeartbeats 2000000 in
theorem heldLines_any (A : Option Addr) (c : Nat) (xs : List S83) (k : Int) (w : World) (hr : Kd.C k83 w A (markAll mkLine cntLine xs k).length (markAll mkLine cntLine xs k)) (hk : 0 ≤ k) (hk2 : k + cntAll cntLine xs ≤ 1099511627776) :
  Calls Tryd.prog 38 #[.slice A xs.length c, .int .i64 k] w fun e w' => e = .returned (.int .i64 (k + (cntAll cntLine xs : Int))) ∧ Below w.heap.size w w' := by
 have HR := Aside0.mk hr
 clear hr
 have hlen : xs.length ≤ 1099511627776 := by have := len_cnt cntLine cntLine_pos xs; omega
 go_enter Tryd.func38, Tryd.ntmps38
 go_wp2
 go_loopw [1, 5] (fun kv i wr => ∃ j : Nat, kv = .int .i64 (k + (cntAll cntLine (xs.take j) : Int)) ∧ i = .int .i64 j ∧ j ≤ xs.length ∧ Below w.heap.size w wr) (fun _ i _ => xs.length - (intOf i).toNat)
 case atStart => exact ⟨0, by simp [cntAll], rfl, Nat.zero_le _, Below.refl _ _⟩
 case round =>
  obtain ⟨j, rfl, rfl, hj, hB⟩ := hrel
  by_cases hlt : j < xs.length
  ·have hct := cntAll_take cntLine xs j hlt
   have hle := cntAll_le cntLine xs (j + 1)
   have hget := markAll_get mkLine cntLine xs j k hlt
   obtain ⟨ad, A3, c3, rfl, hx0, hx1, hl3, hC3⟩ := line_at (Kd.C_below HR.out hB) j _ hget
   clear hget
   generalize xs[j] = x at *
   obtain ⟨s0, d0⟩ := x
   have HCT := Aside0.mk hct
   have hkk0 : 0 ≤ k + (cntAll cntLine (xs.take j) : Int) := by omega
   have hkk1 : k + (cntAll cntLine (xs.take j) : Int) + 1 + d0.length ≤ 1099511627776 := by
    have : cntLine ⟨s0, d0⟩ = 1 + d0.length := rfl
    omega
   clear hct hle
   generalize hkk : k + (cntAll cntLine (xs.take j) : Int) = kk at *
   have HKK := Aside0.mk hkk
   clear hkk
   simp only [mkLine] at hx0 hx1 hl3 hC3
   rw [marks_len] at hx1
   have N3 := Aside0.mk hl3
   have HC3 := Aside0.mk hC3
   clear hl3 hC3
   obtain ⟨t, ht⟩ : ∃ t, t = mtP kk := ⟨_, rfl⟩
   have Ht := Aside0.mk ht
   rw [← ht] at hx0
   clear ht
   go_wp2_with fail
   go_region_held3 (fun w' => w'.cell? (ad.add (j * 2)) = some (.string t)) (first | go_keep | exact (pw_cell_below hbl (by simpa using hx0))) (first | (go_at_call 57; refine (markText_any _ _ (by omega)).mono ?_; rw [← Ht.out]; rintro e w1 ⟨rfl, hbl⟩))
   all_goals
    have hbl0 := Aside0.mk ((below_drew (Below.refl wr.heap.size wr)).trans (hbl.mono (Nat.le_refl _)))
    have hB1 : Below w.heap.size w w1 := hB.trans (hbl0.out.mono hB.size)
    have hy1 := pw_cell_below hbl0.out hx1
    clear hx0 hx1 hbl hB
    go_wp2_with fail
    refine (heldStr_any A3 c3 d0.length (kk + 1) _ (Kd.C_below HC3.out hbl0.out) N3.out (by omega) (by omega)).mono ?_
    rintro e w3 ⟨rfl, hb3⟩
    have hB3 : Below w.heap.size w w3 := hB1.trans (hb3.mono hB1.size)
    have hkn : Aside0 (kk + 1 + (d0.length : Int) = k + (cntAll cntLine (xs.take (j + 1)) : Int)) := ⟨by rw [HCT.out, ← HKK.out]; show _ = k + ((_ + (1 + d0.length) : Nat) : Int); omega⟩
    go_wp2
    go_roundw
    case rel => exact ⟨j + 1, by rw [hkn.out], by go_num, hlt, hB3⟩
    case measure => simp [intOf]; omega
  ·obtain rfl : j = xs.length := by omega
   have he : xs.take xs.length = xs := List.take_length
   rw [he]
   go_wp2
   go_ret
   exact ⟨rfl, hB⟩
set_option maxRecDepth 100000 in
set_option maxHeartbeats 2000000 in
theorem markSheet_any (A : Option Addr) (c : Nat) (xs : List S62) (F : List Nat) (b : Nat) (k : Int) (w : World) (ho : blocksS.ow w b [.slice A xs.length c] xs F) (hk : 0 ≤ k) (hk2 : k + cntAll cntBlock xs ≤ 1099511627776) :
  Calls Tryd.prog 36 #[.agg #[.slice A xs.length c], .int .i64 k] w fun e w' => e = .returned (.int .i64 (k + (cntAll cntBlock xs : Int))) ∧ Upd F w w' := by
 have HO := Aside0.mk ho
 clear ho
 go_enter Tryd.func36, Tryd.ntmps36
 go_wp2_with fail
 have a1 : Below w.heap.size w (w.alloc (.cells #[.slice A xs.length c] 47)) := (Below.refl _ _).alloc (Nat.le_refl _) _
 refine (markBlocks_any _ xs F b k _ (blocksS.obelow HO.out a1) hk hk2).mono ?_
 rintro e w1 ⟨rfl, _, hu⟩
 have U1 := Aside0.mk (upd_in (Upd.of_below a1 F) hu (fun _ hx => hx))
 clear hu a1
 go_wp2
 go_ret
 exact ⟨rfl, U1.out⟩
theorem szL_tot (xs : List ByteArray) (left : Int) (h : 0 ≤ szL xs left) : szL xs left + (xs.length : Int) ≤ left ∧ ∀ s ∈ xs, (s.size : Int) ≤ left := by
 unfold szL at h ⊢
 split at h
 ·omega
 ·rename_i q
  rw [if_neg q]
  obtain ⟨h1, h2⟩ := szS_le _ _ h
  exact ⟨by omega, fun s hs => by have := h2 s hs; omega⟩
theorem szLine_t (l : S155) (left : Int) (hb : LB l) (h0 : 0 ≤ left) (h9 : left ≤ 1048576) :
  ∃ r : Int, Ev (fun k => laws_szSheetLine.f k l.f0 l.f1 left) r ∧ (0 ≤ r → r + (l.f1.length : Int) ≤ left ∧ LF l) := by
 have e : wrap64 (left - (l.f0.size : Int)) = left - l.f0.size := by have := hb.1; exact w64 (by omega) (by omega)
 unfold laws_szSheetLine.f
 simp only [e]
 by_cases q : left - (l.f0.size : Int) < 0
 ·simp only [if_pos q]
  exact ⟨-1, Ev.now _, fun h => by omega⟩
 ·simp only [if_neg q]
  have hr := ev_szStringS l.f1 (left - l.f0.size) hb.2.1 hb.2.2 (by omega) (by omega)
  have hle := szL_tot l.f1 (left - l.f0.size)
  generalize szL l.f1 (left - (l.f0.size : Int)) = r at *
  by_cases q2 : r < 0
  ·exact ⟨-1, Ev.bind hr (by simp only [if_pos q2]; exact Ev.now _), fun h => by omega⟩
  ·obtain ⟨a1, a3⟩ := hle (by omega)
   exact ⟨r, Ev.bind hr (by simp only [if_neg q2]; exact Ev.now _), fun _ => ⟨by omega, by omega, by omega, fun s hs => by have := a3 s hs; omega⟩⟩
def lenL (l : S155) : Nat := l.f1.length
def lenB (b : S128) : Nat := b.f2.length + cntAll lenL b.f2
theorem szLines_l0t (ls : List S155) (hb : LBs ls) : ∀ (d i : Nat) (left : Int), i + d = ls.length → 0 ≤ left → left ≤ 1048576 →
  ∃ r : Int, Ev (fun k => laws_szSheetLineS.l0 k ls left i) r ∧ (0 ≤ r → r + (cntAll lenL (ls.drop i) : Int) ≤ left ∧ ∀ l ∈ ls.drop i, LF l)
 | 0, i, left, h, h0, h9 => ⟨left, Ev.unf (fun _ => some left) (fun k => by simp only [laws_szSheetLineS.l0]; rw [if_neg (by omega)]) (Ev.now _), fun _ => by rw [List.drop_eq_nil_of_le (by omega)]; simp [cntAll]⟩
 | d + 1, i, left, h, h0, h9 => by
  have hi : i < ls.length := by omega
  have hn := hb.1
  obtain ⟨r, hr, hle⟩ := szLine_t ls[i] left (hb.2 _ (List.getElem_mem hi)) h0 h9
  have st : ∀ R : Int, Ev (fun k => if r < 0 then some (-1) else laws_szSheetLineS.l0 k ls r ((i + 1 : Nat) : Int)) R → Ev (fun k => laws_szSheetLineS.l0 k ls left i) R := fun R hR => by
   refine Ev.unf (fun k => (laws_szSheetLine.f k ls[i].f0 ls[i].f1 left).bind fun t => if t < 0 then some (-1) else laws_szSheetLineS.l0 k ls t ((i + 1 : Nat) : Int)) (fun k => ?_) (Ev.bind hr hR)
   simp only [laws_szSheetLineS.l0]
   rw [if_pos (by omega), if_pos (by omega), rdLl hi, inc (by omega)]
  by_cases q : r < 0
  ·exact ⟨-1, st _ (by simp only [if_pos q]; exact Ev.now _), fun h => by omega⟩
  ·obtain ⟨a1, a2⟩ := hle (by omega)
   obtain ⟨R, hR, hRle⟩ := szLines_l0t ls hb d (i + 1) r (by omega) (by omega) (by omega)
   refine ⟨R, st _ (by simp only [if_neg q]; exact hR), fun h => ?_⟩
   obtain ⟨b1, b2⟩ := hRle h
   rw [List.drop_eq_getElem_cons hi]
   refine ⟨by simp only [cntAll, lenL] at *; omega, fun l hl => ?_⟩
   rcases List.mem_cons.1 hl with rfl | hl
   ·exact a2
   ·exact b2 l hl
theorem szBlock_t (b : S128) (left : Int) (hb : KB b) (h0 : 0 ≤ left) (h9 : left ≤ 1048576) :
  ∃ r : Int, Ev (fun k => laws_szSheetBlock.f k b.f0 b.f1 b.f2 left) r ∧ (0 ≤ r → r + (lenB b : Int) ≤ left ∧ KF b) := by
 have e1 : wrap64 (left - (b.f0.size : Int)) = left - b.f0.size := by have := hb.1; exact w64 (by omega) (by omega)
 have lines : ∀ left : Int, 0 ≤ left → left ≤ 1048576 → ∃ r : Int, Ev (fun k => laws_szSheetLineS.f k b.f2 left) r ∧ (0 ≤ r → r + (lenB b : Int) ≤ left ∧ LFs b.f2) := fun left h0 h9 => by
  have hn := hb.2.2.1
  have e : wrap64 (left - (b.f2.length : Int)) = left - b.f2.length := w64 (by omega) (by omega)
  unfold laws_szSheetLineS.f
  simp only [e]
  by_cases q : left - (b.f2.length : Int) < 0
  ·simp only [if_pos q]; exact ⟨-1, Ev.now _, fun h => by omega⟩
  ·simp only [if_neg q]
   obtain ⟨R, hR, hle⟩ := szLines_l0t b.f2 hb.2.2 b.f2.length 0 (left - b.f2.length) (by omega) (by omega) (by omega)
   refine ⟨R, hR, fun h => ?_⟩
   obtain ⟨h1, h2⟩ := hle h
   rw [List.drop_zero] at h1 h2
   exact ⟨by unfold lenB; omega, by omega, h2⟩
 unfold laws_szSheetBlock.f
 simp only [e1]
 by_cases q : left - (b.f0.size : Int) < 0
 ·simp only [if_pos q]
  exact ⟨-1, Ev.now _, fun h => by omega⟩
 ·simp only [if_neg q]
  have e2 : wrap64 (left - (b.f0.size : Int) - (b.f1.size : Int)) = left - b.f0.size - b.f1.size := by have := hb.2.1; exact w64 (by omega) (by omega)
  simp only [e2]
  by_cases q1 : left - (b.f0.size : Int) - (b.f1.size : Int) < 0
  ·simp only [if_pos q1]
   exact ⟨-1, Ev.now _, fun h => by omega⟩
  ·simp only [if_neg q1]
   obtain ⟨r, hr, hle⟩ := lines (left - b.f0.size - b.f1.size) (by omega) (by omega)
   by_cases q2 : r < 0
   ·exact ⟨-1, Ev.bind hr (by simp only [if_pos q2]; exact Ev.now _), fun h => by omega⟩
   ·obtain ⟨a1, a2⟩ := hle (by omega)
    exact ⟨r, Ev.bind hr (by simp only [if_neg q2]; exact Ev.now _), fun _ => ⟨by omega, by omega, by omega, a2⟩⟩
theorem szBlocks_l0t (bs : List S128) (hb : KBs bs) : ∀ (d i : Nat) (left : Int), i + d = bs.length → 0 ≤ left → left ≤ 1048576 →
  ∃ r : Int, Ev (fun k => laws_szSheetBlockS.l0 k bs left i) r ∧ (0 ≤ r → r + (cntAll lenB (bs.drop i) : Int) ≤ left ∧ ∀ b ∈ bs.drop i, KF b)
 | 0, i, left, h, h0, h9 => ⟨left, Ev.unf (fun _ => some left) (fun k => by simp only [laws_szSheetBlockS.l0]; rw [if_neg (by omega)]) (Ev.now _), fun _ => by rw [List.drop_eq_nil_of_le (by omega)]; simp [cntAll]⟩
 | d + 1, i, left, h, h0, h9 => by
  have hi : i < bs.length := by omega
  have hn := hb.1
  obtain ⟨r, hr, hle⟩ := szBlock_t bs[i] left (hb.2 _ (List.getElem_mem hi)) h0 h9
  have st : ∀ R : Int, Ev (fun k => if r < 0 then some (-1) else laws_szSheetBlockS.l0 k bs r ((i + 1 : Nat) : Int)) R → Ev (fun k => laws_szSheetBlockS.l0 k bs left i) R := fun R hR => by
   refine Ev.unf (fun k => (laws_szSheetBlock.f k bs[i].f0 bs[i].f1 bs[i].f2 left).bind fun t => if t < 0 then some (-1) else laws_szSheetBlockS.l0 k bs t ((i + 1 : Nat) : Int)) (fun k => ?_) (Ev.bind hr hR)
   simp only [laws_szSheetBlockS.l0]
   rw [if_pos (by omega), if_pos (by omega), rdBl hi, inc (by omega)]
  by_cases q : r < 0
  ·exact ⟨-1, st _ (by simp only [if_pos q]; exact Ev.now _), fun h => by omega⟩
  ·obtain ⟨a1, a2⟩ := hle (by omega)
   obtain ⟨R, hR, hRle⟩ := szBlocks_l0t bs hb d (i + 1) r (by omega) (by omega) (by omega)
   refine ⟨R, st _ (by simp only [if_neg q]; exact hR), fun h => ?_⟩
   obtain ⟨b1, b2⟩ := hRle h
   rw [List.drop_eq_getElem_cons hi]
   refine ⟨by simp only [cntAll]; omega, fun l hl => ?_⟩
   rcases List.mem_cons.1 hl with rfl | hl
   ·exact a2
   ·exact b2 l hl
theorem cnt_cvL : ∀ ls : List S155, cntAll cntLine (ls.map cvL) = ls.length + cntAll lenL ls
 | [] => rfl
 | l :: ls => by
  simp only [List.map_cons, cntAll, cnt_cvL ls, cntLine, cvL, lenL, List.length_cons]
  omega
theorem cnt_cvB : ∀ bs : List S128, cntAll cntBlock (cvBs bs) = 2 * bs.length + cntAll lenB bs
 | [] => rfl
 | b :: bs => by
  have ih := cnt_cvB bs
  unfold cvBs at ih ⊢
  simp only [List.map_cons, cntAll, ih, cntBlock, cvB, cnt_cvL, lenB, List.length_cons]
  omega
theorem blocks_reads {w : World} {b : Nat} {A : Option Addr} {n c : Nat} {xs : List S62} {F : List Nat} (h : blocksS.ow w b [.slice A n c] xs F) : n = xs.length ∧ xs.length ≤ c ∧ Kd.C k62 w A xs.length xs := by
 obtain ⟨A', c', hv, hl, hC⟩ := blocksS.ord h
 injection hv with hv _
 injection hv with h1 h2 h3
 subst h1 h3
 exact ⟨h2, hl, hC⟩
theorem blk_upd {w w' : World} {F : List Nat} {g : Nat} {o : Obj} (h : w.heap[g]? = some o) (hu : Upd F w w') (hn : g ∉ F) : w'.heap[g]? = some o := (hu.block g (blk_lt h) hn).trans h
theorem blk_up {w w' : World} {N g : Nat} {o : Obj} (h : w.heap[g]? = some o) (hb : Below N w w') (hn : g < N) : w'.heap[g]? = some o := (hb.block g hn).trans h
end Go.Proofs.YtmcdnpooclelgaaDoor.PAll
namespace Go.Proofs.YtmcdnpooclelgaaDoor.PAll
open Go.RowKit Go.Proofs.YtmcdnpooclelgaaDoorW.PrintWords Go.Proofs.YtmcdnpooclelgaaDoorW.PrintLast Go.Proofs.YtmcdnpooclelgaaDoorW.PrintMore
theorem row_R {xs : List S83} {cs : List Value} {N base d : Nat} {A : Option Addr} {ok : Nat → Prop} {W w : World} (hP : Reps (Kd.M k83 W base ok) 2 xs cs) (ho : w.ownsRow N 83 2 (.slice A xs.length d) xs.length cs) (hB : Below W.heap.size W w) (hN : W.heap.size ≤ N) (hbase : base ≤ N) (hf : ∀ k, N ≤ k → ok k) : Kd.R k83 83 w base ok (.slice A xs.length d) xs := by
 have hge : ∀ k, (Value.slice A xs.length d).ownBlock = some k → N ≤ k := fun k hk => own_base ho k hk
 exact ⟨fun k hk => hf k (hge k hk), cs, own_weaken ho hbase, hP.imp_ fun p c' hp => Kd.M_mono _ (fun k hk => ⟨hk.1, fun e => by have := hge k e.symm; have := hk.2.2.1; omega⟩) (Kd.M_below (Kd.M_bound _ hp) hB)⟩
end Go.Proofs.YtmcdnpooclelgaaDoor.PAll
namespace Go.Proofs.YtmcdnpooclelgaaDoor.PAll
open Go.RowKit Go.Proofs.YtmcdnpooclelgaaDoorW.PrintWords Go.Proofs.YtmcdnpooclelgaaDoorW.PrintLast Go.Proofs.YtmcdnpooclelgaaDoorW.PrintMore
attribute [local go_sem] max2_int min2_int max_two min_two max_three min_three max_four min_four   -- for this text's walks alone
def slices_Equal_string_string.l0 : Nat → List ByteArray → List ByteArray → Int → Int → Option (Bool)
 | 0, _, _, _, _ => none
 | k + 1, x0, x1, x12, x13 => if x13 < x12 then (if 0 ≤ x13 then (if x13 < (x0.length : Int) then (if x13 < (x1.length : Int) then (if (rdOf ByteArray.empty x0 x13).toList = (rdOf ByteArray.empty x1 x13).toList then (slices_Equal_string_string.l0 k x0 x1 x12 (wrap64 (x13 + 1))) else (some false)) else (none)) else (none)) else (none)) else (some true)
def slices_Equal_string_string.f (k : Nat) (l0 : List ByteArray) (l1 : List ByteArray) : Option (Bool) := if (l0.length : Int) = (l1.length : Int) then (slices_Equal_string_string.l0 k l0 l1 (l0.length : Int) 0) else (some false)
set_option maxHeartbeats 8000000 in
set_option maxRecDepth 100000 in
theorem slices_Equal_string_string.calls (k : Nat) (A0 : Option Addr) (c0 : Nat) (l0 : List ByteArray) (A1 : Option Addr) (c1 : Nat) (l1 : List ByteArray) (r : Bool) (w : World) (hr0 : Kd.C Kd.string w A0 l0.length l0) (hc0 : l0.length ≤ c0) (hr1 : Kd.C Kd.string w A1 l1.length l1) (hc1 : l1.length ≤ c1) (h : slices_Equal_string_string.f k l0 l1 = some r) :
  Calls Tryd.prog 98 #[.slice A0 l0.length c0, .slice A1 l1.length c1] w fun e w' => e = .returned (.bool r) ∧ Drawn0 w w' := by
 have HR0 := Aside0.mk hr0
 have HC0 := Aside0.mk hc0
 clear hr0 hc0
 have HR1 := Aside0.mk hr1
 have HC1 := Aside0.mk hc1
 clear hr1 hc1
 have H : (if (l0.length : Int) = (l1.length : Int) then (slices_Equal_string_string.l0 k l0 l1 (l0.length : Int) 0) else (some false)) = some r := h
 clear h
 by_cases c3 : (l0.length : Int) = (l1.length : Int)
 ·rw [if_pos c3] at H
  have c3b0 : ((l0.length : Int) == (l1.length : Int)) = true := beq_iff_eq.mpr c3
  have c3b1 : ((l0.length : Int) != (l1.length : Int)) = false := bne_eq_false_iff_eq.mpr c3
  have c3b2 : (l0.length == l1.length) = true := by first | simpa using c3 | (simp at c3 ⊢; omega)
  clear c3
  have H' := Aside0.mk H
  clear H
  go_enter Tryd.func98, Tryd.ntmps98
  go_wp2
  repeat (go_quiet (fail); try go_wp2)
  go_loopg [13] k (fun kq v13 w' => ∃ (x13_1 : Int), v13 = .int .i64 x13_1 ∧ Aside0 (slices_Equal_string_string.l0 kq l0 l1 (l0.length : Int) x13_1 = some r) ∧ Aside0 (kq ≤ k) ∧ Drawn0 w w')
  case atStart => exact ⟨(0), (by first | rfl | (simp; done) | (simp [*]; done)), H', ⟨Nat.le_refl _⟩, by repeat (first | exact Drawn0.refl _ | apply Drawn0.step)⟩
  case round =>
   clear H'
   try clear c1
   try clear p2
   try clear c3
   try clear c3b0
   try clear c3b1
   try clear c3b2
   obtain ⟨x13_1, rfl, HA, HK1, ⟨m1, rfl⟩⟩ := hrel
   cases gk with
   | zero => exact absurd HA.out (by simp [slices_Equal_string_string.l0])
   | succ k1 =>
    have H := HA.out
    clear HA
    simp only [slices_Equal_string_string.l0] at H
    by_cases c4 : x13_1 < (l0.length : Int)
    ·rw [if_pos c4] at H
     have c4b0 : decide (x13_1 < (l0.length : Int)) = true := decide_eq_true c4
     clear c4
     by_cases c5 : 0 ≤ x13_1
     ·rw [if_pos c5] at H
      have c5b0 : decide (0 ≤ x13_1) = true := decide_eq_true c5
      clear c5
      by_cases c6 : x13_1 < (l0.length : Int)
      ·rw [if_pos c6] at H
       have c6b0 : decide (x13_1 < (l0.length : Int)) = true := decide_eq_true c6
       clear c6
       by_cases c7 : x13_1 < (l1.length : Int)
       ·rw [if_pos c7] at H
        have c7b0 : decide (x13_1 < (l1.length : Int)) = true := decide_eq_true c7
        clear c7
        by_cases c8 : (rdOf ByteArray.empty l0 x13_1).toList = (rdOf ByteArray.empty l1 x13_1).toList
        ·rw [if_pos c8] at H
         have c8b0 : ((rdOf ByteArray.empty l0 x13_1).toList == (rdOf ByteArray.empty l1 x13_1).toList) = true := beq_iff_eq.mpr c8
         have c8b1 : ((rdOf ByteArray.empty l0 x13_1).toList != (rdOf ByteArray.empty l1 x13_1).toList) = false := bne_eq_false_iff_eq.mpr c8
         clear c8
         have H' := Aside0.mk H
         clear H
         have p195 : 0 ≤ (x13_1 : Int) := of_decide_eq_true (by first | (with_reducible assumption) | assumption)
         have q195 : x13_1 < (l0.length : Int) := of_decide_eq_true (by first | (with_reducible assumption) | assumption)
         obtain ⟨ad195, e195, hx195_0⟩ := Kd.at_string HR0.out x13_1 p195 q195
         cases e195
         replace p195 := eq_true p195
         replace q195 := eq_true q195
         have p196 : 0 ≤ (x13_1 : Int) := of_decide_eq_true (by first | (with_reducible assumption) | assumption)
         have q196 : x13_1 < (l1.length : Int) := of_decide_eq_true (by first | (with_reducible assumption) | assumption)
         obtain ⟨ad196, e196, hx196_0⟩ := Kd.at_string HR1.out x13_1 p196 q196
         cases e196
         replace p196 := eq_true p196
         replace q196 := eq_true q196
         go_wp2
         repeat (go_quiet (fail); try go_wp2)
         go_roundg k1
         case measure => have := HK1.out; omega
         case rel => exact ⟨(wrap64 (x13_1 + 1)), (by first | rfl | (simp; done) | (simp [*]; done)), H', ⟨by have := HK1.out; omega⟩, by repeat (first | exact Drawn0.refl _ | apply Drawn0.step)⟩
        ·rw [if_neg c8] at H
         have c8b0 : ((rdOf ByteArray.empty l0 x13_1).toList == (rdOf ByteArray.empty l1 x13_1).toList) = false := beq_eq_false_iff_ne.mpr c8
         have c8b1 : ((rdOf ByteArray.empty l0 x13_1).toList != (rdOf ByteArray.empty l1 x13_1).toList) = true := bne_iff_ne.mpr c8
         obtain rfl := Option.some.inj H
         have p195 : 0 ≤ (x13_1 : Int) := of_decide_eq_true (by first | (with_reducible assumption) | assumption)
         have q195 : x13_1 < (l0.length : Int) := of_decide_eq_true (by first | (with_reducible assumption) | assumption)
         obtain ⟨ad195, e195, hx195_0⟩ := Kd.at_string HR0.out x13_1 p195 q195
         cases e195
         replace p195 := eq_true p195
         replace q195 := eq_true q195
         have p196 : 0 ≤ (x13_1 : Int) := of_decide_eq_true (by first | (with_reducible assumption) | assumption)
         have q196 : x13_1 < (l1.length : Int) := of_decide_eq_true (by first | (with_reducible assumption) | assumption)
         obtain ⟨ad196, e196, hx196_0⟩ := Kd.at_string HR1.out x13_1 p196 q196
         cases e196
         replace p196 := eq_true p196
         replace q196 := eq_true q196
         go_wp2
         repeat (go_quiet (fail); try go_wp2)
         go_ret
         exact ⟨by first | rfl | (simp; done) | (simp [*]; done), by repeat (first | exact Drawn0.refl _ | apply Drawn0.step)⟩
       ·rw [if_neg c7] at H
        exact absurd H (by simp)
      ·rw [if_neg c6] at H
       exact absurd H (by simp)
     ·rw [if_neg c5] at H
      exact absurd H (by simp)
    ·rw [if_neg c4] at H
     have c4b0 : decide (x13_1 < (l0.length : Int)) = false := decide_eq_false c4
     clear c4
     obtain rfl := Option.some.inj H
     go_wp2
     repeat (go_quiet (fail); try go_wp2)
     go_ret
     exact ⟨by first | rfl | (simp; done) | (simp [*]; done), by repeat (first | exact Drawn0.refl _ | apply Drawn0.step)⟩
 ·rw [if_neg c3] at H
  have c3b0 : ((l0.length : Int) == (l1.length : Int)) = false := beq_eq_false_iff_ne.mpr c3
  have c3b1 : ((l0.length : Int) != (l1.length : Int)) = true := bne_iff_ne.mpr c3
  have c3b2 : (l0.length == l1.length) = false := by first | simpa using c3 | (simp at c3 ⊢; omega)
  obtain rfl := Option.some.inj H
  go_enter Tryd.func98, Tryd.ntmps98
  go_wp2
  repeat (go_quiet (fail); try go_wp2)
  go_ret
  exact ⟨by first | rfl | (simp; done) | (simp [*]; done), by repeat (first | exact Drawn0.refl _ | apply Drawn0.step)⟩
end Go.Proofs.YtmcdnpooclelgaaDoor.PAll
namespace Go.Proofs.YtmcdnpooclelgaaDoor.PAll
open Go.RowKit Go.Proofs.YtmcdnpooclelgaaDoorW.PrintWords Go.Proofs.YtmcdnpooclelgaaDoorW.PrintLast Go.Proofs.YtmcdnpooclelgaaDoorW.PrintMore
theorem equalS_l0 (xs ys : List ByteArray) (hl : xs.length = ys.length) (hn : xs.length ≤ 1099511627776) : ∀ (d i : Nat), i + d = xs.length → Ev (fun k => slices_Equal_string_string.l0 k xs ys (xs.length : Int) (i : Int)) (decide (xs.drop i = ys.drop i))
 | 0, i, h => Ev.unf (fun _ => some true) (fun k => by simp only [slices_Equal_string_string.l0]; rw [if_neg (by omega)]) (by rw [List.drop_eq_nil_of_le (by omega), List.drop_eq_nil_of_le (by omega)]; exact Ev.now _)
 | d + 1, i, h => by
  have h1 : i < xs.length := by omega
  have h2 : i < ys.length := by omega
  have ih := equalS_l0 xs ys hl hn d (i + 1) (by omega)
  have g1 : rdOf ByteArray.empty xs (i : Int) = xs[i] := by unfold rdOf; rw [List.getD_eq_getElem?_getD, Int.toNat_natCast, List.getElem?_eq_getElem h1]; rfl
  have g2 : rdOf ByteArray.empty ys (i : Int) = ys[i] := by unfold rdOf; rw [List.getD_eq_getElem?_getD, Int.toNat_natCast, List.getElem?_eq_getElem h2]; rfl
  refine Ev.unf (fun k => if xs[i] = ys[i] then slices_Equal_string_string.l0 k xs ys (xs.length : Int) ((i + 1 : Nat) : Int) else some false) (fun k => ?_) ?_
  ·simp only [slices_Equal_string_string.l0]
   rw [if_pos (by omega), if_pos (by omega), if_pos (by omega), if_pos (by omega), g1, g2, inc (by omega)]
   simp only [toList_iff]
  ·rw [List.drop_eq_getElem_cons h1, List.drop_eq_getElem_cons h2]
   by_cases q : xs[i] = ys[i]
   ·simp only [if_pos q]
    rw [q]
    rw [show decide (ys[i] :: xs.drop (i + 1) = ys[i] :: ys.drop (i + 1)) = decide (xs.drop (i + 1) = ys.drop (i + 1)) from decide_eq_decide.2 ⟨fun e => by injection e, fun e => by rw [e]⟩]
    exact ih
   ·simp only [if_neg q]
    rw [decide_eq_false (fun e => q (by injection e))]
    exact Ev.now _
theorem equalS_c (a b : List ByteArray) (ha : a.length ≤ 1099511627776) (A B : Option Addr) (c d : Nat) (w : World) (hA : Kd.C Kd.string w A a.length a) (hc : a.length ≤ c) (hB : Kd.C Kd.string w B b.length b) (hd : b.length ≤ d) :
  Calls Tryd.prog 98 #[.slice A a.length c, .slice B b.length d] w fun e w' => e = .returned (.bool (decide (a = b))) ∧ Below w.heap.size w w' := by
 have hev : Ev (fun k => slices_Equal_string_string.f k a b) (decide (a = b)) := by
  unfold slices_Equal_string_string.f
  by_cases q : a.length = b.length
  ·simp only [if_pos (show (a.length : Int) = (b.length : Int) by omega)]
   exact equalS_l0 a b q ha a.length 0 (by omega)
  ·simp only [if_neg (show ¬ (a.length : Int) = (b.length : Int) by omega)]
   rw [decide_eq_false (fun e => q (by rw [e]))]
   exact Ev.now _
 obtain ⟨K, hk⟩ := hev.rounds
 refine (slices_Equal_string_string.calls K A c a B d b _ w hA hc hB hd hk).mono ?_
 rintro e w' ⟨rfl, n, rfl⟩
 exact ⟨rfl, pw_below_drewN (Below.refl _ _) n⟩
end Go.Proofs.YtmcdnpooclelgaaDoor.PAll
namespace Go.Proofs.YtmcdnpooclelgaaDoor.PAll
open Go.RowKit Go.Proofs.YtmcdnpooclelgaaDoorW.PrintWords
def sameL (x y : S83) : Bool := decide (x.f0 = y.f0) && decide (x.f1 = y.f1)
def sameLs : List S83 → List S83 → Bool
 | [], [] => true
 | x :: xs, y :: ys => sameL x y && sameLs xs ys
 | _, _ => false
theorem sameLs_len : ∀ (a b : List S83), a.length ≠ b.length → sameLs a b = false
 | [], [], h => absurd rfl h
 | [], _ :: _, _ => rfl
 | _ :: _, [], _ => rfl
 | x :: xs, y :: ys, h => by rw [sameLs, sameLs_len xs ys (fun e => h (by simp [e])), Bool.and_false]
set_option maxRecDepth 100000 in
set_option maxHeartbeats 2000000 in
theorem sameClosure_c (x y : S83) (hx : x.f1.length ≤ 1099511627776) (A B : Option Addr) (c d : Nat) (w : World) (hA : Kd.C Kd.string w A x.f1.length x.f1) (hc : x.f1.length ≤ c) (hB : Kd.C Kd.string w B y.f1.length y.f1) (hd : y.f1.length ≤ d) :
  Calls Tryd.prog 132 #[.agg #[.string x.f0, .slice A x.f1.length c], .agg #[.string y.f0, .slice B y.f1.length d]] w fun e w' => e = .returned (.bool (sameL x y)) ∧ Below w.heap.size w w' := by
 have HA := Aside0.mk hA
 have HB := Aside0.mk hB
 clear hA hB
 obtain ⟨x0, x1⟩ := x
 obtain ⟨y0, y1⟩ := y
 simp only at *
 have a2 : Below w.heap.size w ((w.alloc (.cells #[.string x0, .slice A x1.length c] 83)).alloc (.cells #[.string y0, .slice B y1.length d] 83)) := ((Below.refl _ _).alloc (Nat.le_refl _) _).alloc (by simp) _
 by_cases q : x0 = y0
 ·subst q
  have HS : Aside0 (sameL ⟨x0, x1⟩ ⟨x0, y1⟩ = decide (x1 = y1)) := ⟨by unfold sameL; simp⟩
  have HE := Aside0.mk (equalS_c x1 y1 hx A B c d _ (Kd.C_below HA.out a2) hc (Kd.C_below HB.out a2) hd)
  go_enter Tryd.func132, Tryd.ntmps132
  go_wp2_with fail
  refine HE.out.mono ?_
  rintro e w1 ⟨rfl, hb1⟩
  have B1 := Aside0.mk (a2.trans (hb1.mono a2.size))
  clear hb1 a2
  go_wp2
  go_ret
  exact ⟨retB HS.out.symm, B1.out⟩
 ·have nq := str_ne' _ _ q
  have HS : Aside0 (sameL ⟨x0, x1⟩ ⟨y0, y1⟩ = false) := ⟨by unfold sameL; simp [q]⟩
  clear q
  go_enter Tryd.func132, Tryd.ntmps132
  go_wp2
  go_ret
  exact ⟨retB HS.out.symm, a2⟩
set_option maxRecDepth 100000 in
set_option maxHeartbeats 4000000 in
theorem equalFunc_c (a b : List S83) (ha : a.length ≤ 1099511627776) (hs : ∀ l ∈ a, l.f1.length ≤ 1099511627776) (A B : Option Addr) (c d : Nat) (w : World) (hA : Kd.C k83 w A a.length a) (hB : Kd.C k83 w B b.length b) :
  Calls Tryd.prog 131 #[.slice A a.length c, .slice B b.length d, .func (.func 132) #[] #[]] w fun e w' => e = .returned (.bool (sameLs a b)) ∧ Below w.heap.size w w' := by
 have eg : ∀ args w, (callFunc 132 args).run Tryd.prog w = .ok (.enter 132 args) w := enters_of Tryd.func132 (by kernel_rfl) rfl
 have HA := Aside0.mk hA
 have HB := Aside0.mk hB
 have HS := Aside0.mk hs
 clear hA hB hs
 by_cases hl : a.length = b.length
 ·have i0 : ((a.length : Int) != (b.length : Int)) = false := by simp [hl]
  have HL := Aside0.mk hl
  clear hl
  go_enter Tryd.func131, Tryd.ntmps131
  go_wp2
  go_loopw [17] (fun v wr => ∃ k : Nat, v = .int .i64 k ∧ k ≤ a.length ∧ Aside0 (Below w.heap.size w wr) ∧ Aside0 (sameLs a b = sameLs (a.drop k) (b.drop k))) (fun v _ => a.length - (intOf v).toNat)
  case atStart => exact ⟨0, rfl, Nat.zero_le _, ⟨Below.refl _ _⟩, ⟨rfl⟩⟩
  case round =>
   obtain ⟨k, rfl, hk, hB, hf⟩ := hrel
   by_cases hlt : k < a.length
   ·have hlb : k < b.length := by have := HL.out; omega
    obtain ⟨ad, A1, c1, rfl, hx0, hx1, hl1, hC1⟩ := line_at (Kd.C_below HA.out hB.out) k a[k] (List.getElem?_eq_getElem hlt)
    obtain ⟨bd, B1, d1, rfl, hy0, hy1, hm1, hD1⟩ := line_at (Kd.C_below HB.out hB.out) k b[k] (List.getElem?_eq_getElem hlb)
    have hst := hf.out
    rw [List.drop_eq_getElem_cons hlt, List.drop_eq_getElem_cons hlb, sameLs] at hst
    have hsx := HS.out _ (List.getElem_mem hlt)
    have i1 : (k : Int) < (a.length : Int) := by omega
    have i2 : (k : Int) < (b.length : Int) := by omega
    generalize a[k] = x at *
    generalize b[k] = y at *
    have CL : Aside0 (∀ w', Below wr.heap.size wr w' → Calls Tryd.prog 132 #[.agg #[.string x.f0, .slice A1 x.f1.length c1], .agg #[.string y.f0, .slice B1 y.f1.length d1]] w' fun e w'' => e = .returned (.bool (sameL x y)) ∧ Below w'.heap.size w' w'') := ⟨fun w' hb => sameClosure_c x y hsx A1 B1 c1 d1 w' (Kd.C_below hC1 hb) hl1 (Kd.C_below hD1 hb) hm1⟩
    have HST := Aside0.mk hst
    have a2 : Below wr.heap.size wr ((wr.alloc (.cells #[.string x.f0, .slice A1 x.f1.length c1] 83)).alloc (.cells #[.string y.f0, .slice B1 y.f1.length d1] 83)) := ((Below.refl _ _).alloc (Nat.le_refl _) _).alloc (by simp) _
    have a1 : Below wr.heap.size wr (wr.alloc (.cells #[.string x.f0, .slice A1 x.f1.length c1] 83)) := (Below.refl _ _).alloc (Nat.le_refl _) _
    have z0 := pw_cell_below a1 hy0
    have z1 := pw_cell_below a1 hy1
    clear hC1 hD1 hf hst hsx hy0 hy1 a1
    have hss : sameL x y = true ∨ sameL x y = false := by cases sameL x y <;> simp
    generalize hsb : sameL x y = sb at *
    have CL2 := Aside0.mk (CL.out _ a2)
    go_wp2_with fail
    refine CL2.out.mono ?_
    rintro e w2 ⟨rfl, hb2⟩
    have B2 := Aside0.mk (hB.out.trans ((a2.trans (hb2.mono a2.size)).mono hB.out.size))
    clear hb2 a2 CL CL2 hx0 hx1 z0 z1 hsb hss
    cases sb with
    | false =>
     have HF := Aside0.mk (show sameLs a b = false by rw [HST.out, Bool.false_and])
     go_wp2
     go_ret
     exact ⟨retB HF.out.symm, B2.out⟩
    | true =>
     have HF : Aside0 (sameLs a b = sameLs (a.drop (k + 1)) (b.drop (k + 1))) := ⟨by rw [HST.out, Bool.true_and]⟩
     go_wp2
     go_roundw
     case rel => exact ⟨k + 1, by go_num, hlt, B2, HF⟩
     case measure => simp [intOf]; omega
   ·obtain rfl : k = a.length := by omega
    have HF : Aside0 (sameLs a b = true) := ⟨by rw [hf.out, List.drop_length, List.drop_eq_nil_of_le (by have := HL.out; omega)]; rfl⟩
    go_wp2
    go_ret
    exact ⟨retB HF.out.symm, hB.out⟩
 ·have i0 : ((a.length : Int) != (b.length : Int)) = true := by simp; omega
  have HF := Aside0.mk (sameLs_len a b hl)
  clear hl
  go_enter Tryd.func131, Tryd.ntmps131
  go_wp2
  go_ret
  exact ⟨retB HF.out.symm, Below.refl _ _⟩
set_option maxRecDepth 100000 in
set_option maxHeartbeats 1000000 in
theorem sameLines_c (a b : List S83) (ha : a.length ≤ 1099511627776) (hs : ∀ l ∈ a, l.f1.length ≤ 1099511627776) (A B : Option Addr) (c d : Nat) (w : World) (hA : Kd.C k83 w A a.length a) (hB : Kd.C k83 w B b.length b) :
  Calls Tryd.prog 102 #[.slice A a.length c, .slice B b.length d] w fun e w' => e = .returned (.bool (sameLs a b)) ∧ Below w.heap.size w w' := by
 have HE := Aside0.mk (equalFunc_c a b ha hs A B c d w hA hB)
 clear hA hB hs
 go_enter Tryd.func102, Tryd.ntmps102
 go_wp2_with fail
 refine HE.out.mono ?_
 rintro e w1 ⟨rfl, hb1⟩
 have B1 := Aside0.mk hb1
 clear hb1
 go_wp2
 go_ret
 exact ⟨rfl, B1.out⟩
def changeS : Sh S114 := .iso (.pair intS (.pair strS (.pair strS (.pair strS linesS)))) (fun x : S114 => (x.f0, x.f1, x.f2, x.f3, x.f4))
abbrev changesS : Sh (List S114) := .row changeS 114
theorem change_ow {w : World} {b : Nat} {a : Int} {s1 s2 s3 : ByteArray} {lv : Value} {ls : List S83} {H : List Nat} (h : linesS.ow w b [lv] ls H) : changeS.ow w b [.int .i64 a, .string s1, .string s2, .string s3, lv] ⟨a, s1, s2, s3, ls⟩ H :=
 ⟨[.int .i64 a], [.string s1, .string s2, .string s3, lv], [], H, rfl, rfl, ⟨rfl, rfl⟩, ⟨[.string s1], [.string s2, .string s3, lv], [], H, rfl, rfl, ⟨rfl, rfl⟩, ⟨[.string s2], [.string s3, lv], [], H, rfl, rfl, ⟨rfl, rfl⟩, ⟨[.string s3], [lv], [], H, rfl, rfl, ⟨rfl, rfl⟩, h, by simp⟩, by simp⟩, by simp⟩, by simp⟩
theorem change_open {w : World} {b : Nat} {us : List Value} {x : S114} {G : List Nat} (h : changeS.ow w b us x G) : ∃ lv, us = [.int .i64 x.f0, .string x.f1, .string x.f2, .string x.f3, lv] ∧ linesS.ow w b [lv] x.f4 G := by
 obtain ⟨u0, v0, G0, H0, rfl, rfl, ⟨rfl, rfl⟩, ⟨u1, v1, G1, H1, rfl, rfl, ⟨rfl, rfl⟩, ⟨u2, v2, G2, H2, rfl, rfl, ⟨rfl, rfl⟩, ⟨u3, v3, G3, H3, rfl, rfl, ⟨rfl, rfl⟩, h1, _⟩, _⟩, _⟩, _⟩ := h
 obtain ⟨lv, _, _, rfl, _⟩ := id h1
 exact ⟨lv, rfl, h1⟩
section
variable {w w' : World} {b : Nat} {v lv : Value} {cs : List S114} {F : List Nat} {j g c : Nat} {a : Int} {s1 s2 s3 : ByteArray} {l0 : List S83} {G : List Nat}
theorem change_at (h : RowAt changeS 114 w b v cs F j g c [.int .i64 a, .string s1, .string s2, .string s3, lv] ⟨a, s1, s2, s3, l0⟩ G) : linesS.ow w b [lv] l0 G := by
 obtain ⟨_, he, hd⟩ := change_open h.ow
 injection he with _ he; injection he with _ he; injection he with _ he; injection he with _ he; injection he with he1 _
 subst he1
 exact hd
theorem change_what (h : RowAt changeS 114 w b v cs F j g c [.int .i64 a, .string s1, .string s2, .string s3, lv] ⟨a, s1, s2, s3, l0⟩ G) (k : Int) : RowAt changeS 114 (w.setCell ⟨g, j * 5, none⟩ (.int .i64 k)) b v (cs.set j ⟨k, s1, s2, s3, l0⟩) F j g c [.int .i64 k, .string s1, .string s2, .string s3, lv] ⟨k, s1, s2, s3, l0⟩ G :=
 h.set 0 (.int .i64 k) (by decide) (change_ow (change_at h))
theorem change_kind (h : RowAt changeS 114 w b v cs F j g c [.int .i64 a, .string s1, .string s2, .string s3, lv] ⟨a, s1, s2, s3, l0⟩ G) (s : ByteArray) : RowAt changeS 114 (w.setCell ⟨g, j * 5 + 1, none⟩ (.string s)) b v (cs.set j ⟨a, s, s2, s3, l0⟩) F j g c [.int .i64 a, .string s, .string s2, .string s3, lv] ⟨a, s, s2, s3, l0⟩ G :=
 h.set 1 (.string s) (by decide) (change_ow (change_at h))
theorem change_name (h : RowAt changeS 114 w b v cs F j g c [.int .i64 a, .string s1, .string s2, .string s3, lv] ⟨a, s1, s2, s3, l0⟩ G) (s : ByteArray) : RowAt changeS 114 (w.setCell ⟨g, j * 5 + 2, none⟩ (.string s)) b v (cs.set j ⟨a, s1, s, s3, l0⟩) F j g c [.int .i64 a, .string s1, .string s, .string s3, lv] ⟨a, s1, s, s3, l0⟩ G :=
 h.set 2 (.string s) (by decide) (change_ow (change_at h))
theorem change_key (h : RowAt changeS 114 w b v cs F j g c [.int .i64 a, .string s1, .string s2, .string s3, lv] ⟨a, s1, s2, s3, l0⟩ G) (s : ByteArray) : RowAt changeS 114 (w.setCell ⟨g, j * 5 + 3, none⟩ (.string s)) b v (cs.set j ⟨a, s1, s2, s, l0⟩) F j g c [.int .i64 a, .string s1, .string s2, .string s, lv] ⟨a, s1, s2, s, l0⟩ G :=
 h.set 3 (.string s) (by decide) (change_ow (change_at h))
set_option linter.unusedVariables false in
theorem change_lines (h : RowAt changeS 114 w b v cs F j g c [.int .i64 a, .string s1, .string s2, .string s3, lv] ⟨a, s1, s2, s3, l0⟩ G) : linesS.ow w b [lv] l0 G ∧ (∀ y ∈ G, y ∈ F) ∧
  ∀ w' ls, linesS.ow w' b [lv] ls G → Upd G w w' → RowAt changeS 114 w' b v (cs.set j ⟨a, s1, s2, s3, ls⟩) F j g c [.int .i64 a, .string s1, .string s2, .string s3, lv] ⟨a, s1, s2, s3, ls⟩ G :=
 ⟨change_at h, fun y hy => h.away.2.2 y hy, fun w' ls hn hu => h.mov hu (change_ow hn)⟩
end
def mkChange (b : S114) (k : Int) : S114 := ⟨k, mtP (k + 1), mtP (k + 2), mtP (k + 3), markAll mkLine cntLine b.f4 (k + 4)⟩
def cntChange (b : S114) : Nat := 4 + cntAll cntLine b.f4
theorem cntChange_pos (l : S114) : 1 ≤ cntChange l := by unfold cntChange; omega
set_option maxRecDepth 100000 in
set_option maxHeartbeats 4000000 in
theorem markChanges_any (v : Value) (xs : List S114) (F : List Nat) (b : Nat) (k : Int) (w : World) (ho : changesS.ow w b [v] xs F) (hk : 0 ≤ k) (hk2 : k + cntAll cntChange xs ≤ 1099511627776) :
  Calls Tryd.prog 51 #[v, .int .i64 k] w fun e w' => e = .returned (.int .i64 (k + (cntAll cntChange xs : Int))) ∧ changesS.ow w' b [v] (markAll mkChange cntChange xs k) F ∧ Upd F w w' := by
 obtain ⟨Ad, c, rfl⟩ := own_form ho
 have HO := Aside0.mk ho
 clear ho
 have hlen : xs.length ≤ 1099511627776 := by have := len_cnt cntChange cntChange_pos xs; omega
 go_enter Tryd.func51, Tryd.ntmps51
 go_wp2
 go_loopw [1, 5] (fun kv i wr => ∃ j : Nat, kv = .int .i64 (k + (cntAll cntChange (xs.take j) : Int)) ∧ i = .int .i64 j ∧ j ≤ xs.length ∧ Aside0 (changesS.ow wr b [.slice Ad xs.length c] (half mkChange cntChange xs k j) F) ∧ Aside0 (Upd F w wr)) (fun _ i _ => xs.length - (intOf i).toNat)
 case atStart => exact ⟨0, by simp [cntAll], rfl, Nat.zero_le _, ⟨HO.out⟩, ⟨Upd.refl _ _⟩⟩
 case round =>
  obtain ⟨j, rfl, rfl, hj, ho, hu⟩ := hrel
  by_cases hlt : j < xs.length
  ·have hct := cntAll_take cntChange xs j hlt
   have hle := cntAll_le cntChange xs (j + 1)
   have hset := half_set mkChange cntChange xs k j hlt
   have hget := half_get mkChange cntChange xs k j hlt
   have hhl := half_len mkChange cntChange xs k j hj
   generalize xs[j] = x at *
   obtain ⟨a0, s1, s2, s3, l0⟩ := x
   generalize hys : half mkChange cntChange xs k j = ys at *
   clear hys
   have HS := Aside0.mk hset
   have HCT := Aside0.mk hct
   have HL := Aside0.mk hhl
   have hkk0 : 0 ≤ k + (cntAll cntChange (xs.take j) : Int) := by omega
   have hkk1 : k + (cntAll cntChange (xs.take j) : Int) + 4 + cntAll cntLine l0 ≤ 1099511627776 := by
    have : cntChange ⟨a0, s1, s2, s3, l0⟩ = 4 + cntAll cntLine l0 := rfl
    omega
   clear hset hct hhl hle
   generalize hkk : k + (cntAll cntChange (xs.take j) : Int) = kk at *
   have HKK := Aside0.mk hkk
   clear hkk
   obtain ⟨g, c', us, G, hR⟩ := RowAt.of ho.out hget
   have hv := hR.val
   injection hv with hv1 hv2 hv3
   subst hv1 hv3
   obtain ⟨lv, rfl, hd⟩ := change_open hR.ow
   obtain ⟨A3, c3, rfl⟩ := own_form hd
   have R0 := Aside0.mk hR
   have ha0 : wr.cell? ⟨g, j * 5, none⟩ = some (.int .i64 a0) := hR.cell 0 (by decide)
   have hfa := hR.frozen (j * 5)
   have R0' := Aside0.mk (change_what R0.out kk)
   have U0 := Aside0.mk (upd_in hu.out (upd_cell wr g (j * 5) (.int .i64 kk)) (fun y hy => by simp at hy; subst hy; exact R0.out.away.2.1))
   clear hd hv2 hR hu
   go_wp2_with fail
   refine (markText_any _ _ (by omega)).mono ?_
   rintro e w1 ⟨rfl, hbl⟩
   have R1 := Aside0.mk (R0'.out.below hbl)
   have hc1 : w1.cell? ⟨g, j * 5 + 1, none⟩ = some (.string s1) := R1.out.cell 1 (by decide)
   have hf1 := R1.out.frozen (j * 5 + 1)
   have U1 := Aside0.mk (upd_in U0.out (Upd.of_below hbl []) (fun _ hx => by cases hx))
   have R2 := Aside0.mk (change_kind R1.out (mtP (kk + 1)))
   have U2 := Aside0.mk (upd_in U1.out (upd_cell w1 g (j * 5 + 1) (.string (mtP (kk + 1)))) (fun y hy => by simp at hy; subst hy; exact R1.out.away.2.1))
   clear hbl ha0 hfa
   go_wp2_with fail
   refine (markText_any _ _ (by omega)).mono ?_
   rintro e w3 ⟨rfl, hbl3⟩
   have R3 := Aside0.mk (R2.out.below hbl3)
   have hc2 : w3.cell? ⟨g, j * 5 + 2, none⟩ = some (.string s2) := R3.out.cell 2 (by decide)
   have hf2 := R3.out.frozen (j * 5 + 2)
   have U3 := Aside0.mk (upd_in U2.out (Upd.of_below hbl3 []) (fun _ hx => by cases hx))
   have R4 := Aside0.mk (change_name R3.out (mtP (kk + 1 + 1)))
   have U4 := Aside0.mk (upd_in U3.out (upd_cell w3 g (j * 5 + 2) (.string (mtP (kk + 1 + 1)))) (fun y hy => by simp at hy; subst hy; exact R3.out.away.2.1))
   clear hbl3 hc1 hf1
   go_wp2_with fail
   refine (markText_any _ _ (by omega)).mono ?_
   rintro e w4 ⟨rfl, hbl4⟩
   have R5 := Aside0.mk (R4.out.below hbl4)
   have hc3 : w4.cell? ⟨g, j * 5 + 3, none⟩ = some (.string s3) := R5.out.cell 3 (by decide)
   have hc4 : w4.cell? ⟨g, j * 5 + 4, none⟩ = some (.slice A3 l0.length c3) := R5.out.cell 4 (by decide)
   have hf3 := R5.out.frozen (j * 5 + 3)
   have U5 := Aside0.mk (upd_in U4.out (Upd.of_below hbl4 []) (fun _ hx => by cases hx))
   have R6 := Aside0.mk (change_key R5.out (mtP (kk + 1 + 1 + 1)))
   have U6 := Aside0.mk (upd_in U5.out (upd_cell w4 g (j * 5 + 3) (.string (mtP (kk + 1 + 1 + 1)))) (fun y hy => by simp at hy; subst hy; exact R5.out.away.2.1))
   clear hbl4 hc2 hf2
   go_wp2_with fail
   obtain ⟨E4, Y4, M4⟩ := change_lines R6.out
   refine (markLines_any (.slice A3 l0.length c3) l0 G b (kk + 1 + 1 + 1 + 1) _ E4 (by omega) (by omega)).mono ?_
   rintro e w5 ⟨rfl, hE5, hu5⟩
   have R7 := Aside0.mk (M4 w5 _ hE5 hu5)
   have U7 := Aside0.mk (upd_in U6.out hu5 Y4)
   have HR5 : Aside0 (changesS.ow w5 b [.slice (some ⟨g, 0, none⟩) xs.length c] (half mkChange cntChange xs k (j + 1)) F) := ⟨by
    have h5 := R7.out.row
    rw [List.set_set, List.set_set, List.set_set, List.set_set, show kk + 1 + 1 = kk + 2 by omega, show kk + 2 + 1 = kk + 3 by omega, show kk + 3 + 1 = kk + 4 by omega] at h5
    rw [← HS.out]
    exact h5⟩
   have hkn : Aside0 (kk + 1 + 1 + 1 + 1 + (cntAll cntLine l0 : Int) = k + (cntAll cntChange (xs.take (j + 1)) : Int)) := ⟨by rw [HCT.out, ← HKK.out]; show _ = k + ((_ + (4 + cntAll cntLine l0) : Nat) : Int); omega⟩
   clear E4 Y4 M4 hE5 hu5 hc3 hc4 hf3
   go_wp2_with fail
   go_roundw
   case rel => exact ⟨j + 1, by rw [hkn.out], by go_num, hlt, HR5, U7⟩
   case measure => simp [intOf]; omega
  ·obtain rfl : j = xs.length := by omega
   have hh := half_end mkChange cntChange xs k
   have ho2 := ho.out
   rw [hh] at ho2
   have HO2 := Aside0.mk ho2
   clear hh ho2
   have he : xs.take xs.length = xs := List.take_length
   rw [he]
   go_wp2
   go_ret
   exact ⟨rfl, HO2.out, hu.out⟩
theorem change_get {w : World} {A : Option Addr} {n : Nat} {ls : List S114} (h : Kd.C k114 w A n ls) (j : Nat) (l : S114) (hj : ls[j]? = some l) : ∃ ad A1 c1, A = some ad ∧ w.cell? (ad.add (j * 5)) = some (.int .i64 l.f0) ∧ w.cell? ⟨(ad.add (j * 5)).block, (ad.add (j * 5)).off + 1, none⟩ = some (.string l.f1) ∧ w.cell? ⟨(ad.add (j * 5)).block, (ad.add (j * 5)).off + 2, none⟩ = some (.string l.f2) ∧ w.cell? ⟨(ad.add (j * 5)).block, (ad.add (j * 5)).off + 3, none⟩ = some (.string l.f3) ∧ w.cell? ⟨(ad.add (j * 5)).block, (ad.add (j * 5)).off + 4, none⟩ = some (.slice A1 l.f4.length c1) ∧ l.f4.length ≤ c1 ∧ Kd.C k83 w A1 l.f4.length l.f4 := by
 have hjl := (List.getElem?_eq_some_iff.1 hj).1
 obtain ⟨ad, A1, c1, h1, h2, h3, h4, h5, h6, h7, h8⟩ := at_T114 h (j : Int) (by omega) (by have := h.1; omega)
 have hg : rd_T114 ls (j : Int) = l := by unfold rd_T114; rw [List.getD_eq_getElem?_getD, Int.toNat_natCast, hj]; rfl
 rw [hg] at h2 h3 h4 h5 h6 h7 h8
 rw [Int.toNat_natCast] at h2 h3 h4 h5 h6
 exact ⟨ad, A1, c1, h1, h2, h3, h4, h5, h6, h7, h8⟩
set_option maxRecDepth 100000 in
set_option maxHeartbeats 2000000 in
theorem heldChanges_any (A : Option Addr) (c : Nat) (xs : List S114) (k : Int) (w : World) (hr : Kd.C k114 w A (markAll mkChange cntChange xs k).length (markAll mkChange cntChange xs k)) (hk : 0 ≤ k) (hk2 : k + cntAll cntChange xs ≤ 1099511627776) :
  Calls Tryd.prog 52 #[.slice A xs.length c, .int .i64 k] w fun e w' => e = .returned (.int .i64 (k + (cntAll cntChange xs : Int))) ∧ Below w.heap.size w w' := by
 have HR := Aside0.mk hr
 clear hr
 have hlen : xs.length ≤ 1099511627776 := by have := len_cnt cntChange cntChange_pos xs; omega
 go_enter Tryd.func52, Tryd.ntmps52
 go_wp2
 go_loopw [1, 5] (fun kv i wr => ∃ j : Nat, kv = .int .i64 (k + (cntAll cntChange (xs.take j) : Int)) ∧ i = .int .i64 j ∧ j ≤ xs.length ∧ Below w.heap.size w wr) (fun _ i _ => xs.length - (intOf i).toNat)
 case atStart => exact ⟨0, by simp [cntAll], rfl, Nat.zero_le _, Below.refl _ _⟩
 case round =>
  obtain ⟨j, rfl, rfl, hj, hB⟩ := hrel
  by_cases hlt : j < xs.length
  ·have hct := cntAll_take cntChange xs j hlt
   have hle := cntAll_le cntChange xs (j + 1)
   have hget := markAll_get mkChange cntChange xs j k hlt
   obtain ⟨ad, A3, c3, rfl, hx0, hx1, hx2, hx3, hx4, hl3, hC3⟩ := change_get (Kd.C_below HR.out hB) j _ hget
   clear hget
   generalize xs[j] = x at *
   obtain ⟨a0, s0, n0, e0, d0⟩ := x
   have HCT := Aside0.mk hct
   have hkk0 : 0 ≤ k + (cntAll cntChange (xs.take j) : Int) := by omega
   have hkk1 : k + (cntAll cntChange (xs.take j) : Int) + 4 + cntAll cntLine d0 ≤ 1099511627776 := by
    have : cntChange ⟨a0, s0, n0, e0, d0⟩ = 4 + cntAll cntLine d0 := rfl
    omega
   clear hct hle
   generalize hkk : k + (cntAll cntChange (xs.take j) : Int) = kk at *
   have HKK := Aside0.mk hkk
   clear hkk
   simp only [mkChange] at hx0 hx1 hx2 hx3 hx4 hl3 hC3
   rw [markAll_len] at hx4
   rw [show kk + 2 = kk + 1 + 1 by omega] at hx2
   rw [show kk + 3 = kk + 1 + 1 + 1 by omega] at hx3
   rw [show kk + 4 = kk + 1 + 1 + 1 + 1 by omega] at hC3
   have HH := Aside0.mk (fun w' hb => heldLines_any A3 c3 d0 (kk + 1 + 1 + 1 + 1) w' (Kd.C_below hC3 hb) (by omega) (by omega))
   clear hl3 hC3
   obtain ⟨t1, ht1⟩ : ∃ t, t = mtP (kk + 1) := ⟨_, rfl⟩
   obtain ⟨t2, ht2⟩ : ∃ t, t = mtP (kk + 1 + 1) := ⟨_, rfl⟩
   obtain ⟨t3, ht3⟩ : ∃ t, t = mtP (kk + 1 + 1 + 1) := ⟨_, rfl⟩
   have Ht1 := Aside0.mk ht1
   have Ht2 := Aside0.mk ht2
   have Ht3 := Aside0.mk ht3
   rw [← ht1] at hx1
   rw [← ht2] at hx2
   rw [← ht3] at hx3
   clear ht1 ht2 ht3
   have HCN : Aside0 (kk + 1 + 1 + 1 + 1 + (cntAll cntLine d0 : Int) = k + (cntAll cntChange (xs.take (j + 1)) : Int)) := ⟨by rw [HCT.out, ← HKK.out]; show _ = k + ((_ + (4 + cntAll cntLine d0) : Nat) : Int); omega⟩
   have hm0 : 0 ≤ kk + 1 + 1 + 1 + 1 + (cntAll cntLine d0 : Int) := by omega
   have hkb : kk + 4 ≤ 1099511627776 := by omega
   have hw1 : wrap64 (kk + 1) = kk + 1 := w64 (by omega) (by omega)
   have hw2 : wrap64 (kk + 1 + 1) = kk + 1 + 1 := w64 (by omega) (by omega)
   have hw3 : wrap64 (kk + 1 + 1 + 1) = kk + 1 + 1 + 1 := w64 (by omega) (by omega)
   generalize kk + 1 + 1 + 1 + 1 + (cntAll cntLine d0 : Int) = mm at *
   clear HCT HKK
   go_wp2_with fail
   go_region_held3 (fun w' => w'.cell? ⟨(ad.add (j * 5)).block, (ad.add (j * 5)).off + 1, none⟩ = some (.string t1)) (first | go_keep | exact (pw_cell_below hbl (by simpa using hx1))) (first | (go_at_call 57; refine (markText_any _ _ (by omega)).mono ?_; (try rw [hw1]); rw [← Ht1.out]; rintro e w1 ⟨rfl, hbl⟩))
   all_goals
    have hbl0 := Aside0.mk ((below_drew (Below.refl wr.heap.size wr)).trans (hbl.mono (Nat.le_refl _)))
    have hB1 : Below w.heap.size w w1 := hB.trans (hbl0.out.mono hB.size)
    have hy2 := pw_cell_below hbl0.out hx2
    have hy3 := pw_cell_below hbl0.out hx3
    have hy4 := pw_cell_below hbl0.out hx4
    clear hx0 hx1 hx2 hx3 hx4 hbl hB
    go_wp2_with fail
    go_region_held3 (fun w' => w'.cell? ⟨(ad.add (j * 5)).block, (ad.add (j * 5)).off + 2, none⟩ = some (.string t2)) (first | go_keep | exact (pw_cell_below hbl2 (by simpa using hy2))) (first | (go_at_call 57; refine (markText_any _ _ (by omega)).mono ?_; (try rw [hw1]); (try rw [hw2]); rw [← Ht2.out]; rintro e w2 ⟨rfl, hbl2⟩))
    all_goals
     have hbl3 := Aside0.mk (hbl0.out.trans (((below_drew (Below.refl w1.heap.size w1)).trans (hbl2.mono (Nat.le_refl _))).mono hbl0.out.size))
     have hB2 : Below w.heap.size w w2 := hB1.trans (((below_drew (Below.refl w1.heap.size w1)).trans (hbl2.mono (Nat.le_refl _))).mono hB1.size)
     have hz3 := pw_cell_below ((below_drew (Below.refl w1.heap.size w1)).trans (hbl2.mono (Nat.le_refl _))) hy3
     have hz4 := pw_cell_below ((below_drew (Below.refl w1.heap.size w1)).trans (hbl2.mono (Nat.le_refl _))) hy4
     clear hy2 hy3 hy4 hbl2 hB1 hbl0
     go_wp2_with fail
     go_region_held3 (fun w' => w'.cell? ⟨(ad.add (j * 5)).block, (ad.add (j * 5)).off + 3, none⟩ = some (.string t3)) (first | go_keep | exact (pw_cell_below hbl4 (by simpa using hz3))) (first | (go_at_call 57; refine (markText_any _ _ (by omega)).mono ?_; (try rw [hw1]); (try rw [hw2]); (try rw [hw3]); rw [← Ht3.out]; rintro e w3 ⟨rfl, hbl4⟩))
     all_goals
      have hbl5 := Aside0.mk (hbl3.out.trans (((below_drew (Below.refl w2.heap.size w2)).trans (hbl4.mono (Nat.le_refl _))).mono hbl3.out.size))
      have hB3 : Below w.heap.size w w3 := hB2.trans (((below_drew (Below.refl w2.heap.size w2)).trans (hbl4.mono (Nat.le_refl _))).mono hB2.size)
      have hu4 := pw_cell_below ((below_drew (Below.refl w2.heap.size w2)).trans (hbl4.mono (Nat.le_refl _))) hz4
      clear hz3 hz4 hbl4 hB2 hbl3
      go_wp2_with fail
      refine (HH.out w3 hbl5.out).mono ?_
      rintro e w4 ⟨rfl, hb4⟩
      have hB4 : Below w.heap.size w w4 := hB3.trans (hb4.mono hB3.size)
      go_wp2
      go_roundw
      case rel => exact ⟨j + 1, by rw [HCN.out], by go_num, hlt, hB4⟩
      case measure => simp [intOf]; omega
  ·obtain rfl : j = xs.length := by omega
   have he : xs.take xs.length = xs := List.take_length
   rw [he]
   go_wp2
   go_ret
   exact ⟨rfl, hB⟩
def smallC (c : S114) : Prop := smallLs c.f4
def smallCs (cs : List S114) : Prop := cs.length ≤ 1099511627776 ∧ ∀ c ∈ cs, smallC c
set_option maxRecDepth 100000 in
set_option maxHeartbeats 1000000 in
theorem eqChange_c (l : S114) (h : smallC l) (A B : Option Addr) (c d : Nat) (w : World) (ha : Kd.C k83 w A l.f4.length l.f4) (hb : Kd.C k83 w B l.f4.length l.f4) :
  Calls Tryd.prog 103 #[.agg #[.int .i64 l.f0, .string l.f1, .string l.f2, .string l.f3, .slice A l.f4.length c], .agg #[.int .i64 l.f0, .string l.f1, .string l.f2, .string l.f3, .slice B l.f4.length d]] w fun e w' => e = .returned (.bool true) ∧ Below w.heap.size w w' := by
 have HA := Aside0.mk (fun w' hb' => eqLines_c l.f4 h A B c d w' (Kd.C_below ha hb') (Kd.C_below hb hb'))
 clear ha hb h
 go_enter Tryd.func103, Tryd.ntmps103
 go_wp2_with fail
 have hB : ∀ x y, Below w.heap.size w ((w.alloc x).alloc y) := fun x y => ((Below.refl _ _).alloc (Nat.le_refl _) _).alloc (by simp) _
 refine (HA.out _ (hB _ _)).mono ?_
 rintro e w1 ⟨rfl, hb1⟩
 have hB1 := Aside0.mk ((hB _ _).trans (hb1.mono (by simp; omega)))
 clear hb1 hB
 go_wp2_with fail
 go_ret
 exact ⟨rfl, hB1.out⟩
set_option maxRecDepth 100000 in
set_option maxHeartbeats 2000000 in
theorem eqChanges_c (ls : List S114) (h : smallCs ls) (A B : Option Addr) (c d : Nat) (w : World) (ha : Kd.C k114 w A ls.length ls) (hb : Kd.C k114 w B ls.length ls) :
  Calls Tryd.prog 50 #[.slice A ls.length c, .slice B ls.length d] w fun e w' => e = .returned (.bool true) ∧ Below w.heap.size w w' := by
 have HA := Aside0.mk ha
 have HB := Aside0.mk hb
 have HS := Aside0.mk h
 have hn : ls.length ≤ 1099511627776 := h.1
 clear ha hb h
 go_enter Tryd.func50, Tryd.ntmps50
 go_wp2
 go_loopw [5] (fun v wr => ∃ k : Nat, v = .int .i64 k ∧ k ≤ ls.length ∧ Below w.heap.size w wr) (fun v _ => ls.length - (intOf v).toNat)
 case atStart => exact ⟨0, rfl, Nat.zero_le _, Below.refl _ _⟩
 case round =>
  obtain ⟨k, rfl, hk, hBr⟩ := hrel
  by_cases hlt : k < ls.length
  ·obtain ⟨ad, A1, c1, rfl, hx0, hx1, hx2, hx3, hx4, hl1, hC1⟩ := change_get (Kd.C_below HA.out hBr) k ls[k] (List.getElem?_eq_getElem hlt)
   obtain ⟨bd, B1, d1, rfl, hy0, hy1, hy2, hy3, hy4, hm1, hD1⟩ := change_get (Kd.C_below HB.out hBr) k ls[k] (List.getElem?_eq_getElem hlt)
   have hL := HS.out.2 _ (List.getElem_mem hlt)
   generalize ls[k] = l at *
   have i1 : (k : Int) < (ls.length : Int) := by omega
   go_upto_region 6 with (fail)
   have FC := fun p : BW wr => eqChange_c l hL A1 B1 c1 d1 p.w' (Kd.C_below hC1 p.h) (Kd.C_below hD1 p.h)
   have q0 := fun p : BW wr => p.cell hx0
   have q1 := fun p : BW wr => p.cell hx1
   have q2 := fun p : BW wr => p.cell hx2
   have r2 := fun p : BW wr => p.cell hy2
   have r0 := fun p : BW wr => p.cell hy0
   have r1 := fun p : BW wr => p.cell hy1
   have q3 := fun p : BW wr => p.cell hx3
   have q4 := fun p : BW wr => p.cell hx4
   have r3 := fun p : BW wr => p.cell hy3
   have r4 := fun p : BW wr => p.cell hy4
   clear hx0 hx1 hx2 hx3 hx4 hy0 hy1 hy2 hy3 hy4 hC1 hD1
   refine wp_region_below (by kernel_rfl) (by kernel_rfl) ?_
   repeat ((with_reducible refine wpQuiet_step ?_); (with_reducible intro K hK); go_simp; first | ((with_reducible refine hK _ ?_); clear hK K) | (apply Exists.intro; refine ⟨fun _ => ?_, hK _ ?_⟩; (first | (go_at_call 103; exact BW.calls (FC _))); clear hK K))
   with_reducible refine wpQuiet_nil ?_
   intro wn hw'
   obtain ⟨⟨_, hBn⟩, rfl⟩ := hw'
   clear FC q0 q1 q2 q3 q4 r0 r1 r2 r3 r4
   have hB2 := hBr.trans (hBn.mono hBr.size)
   go_wp2
   go_roundw
   case rel => exact ⟨k + 1, by go_num, hlt, hB2⟩
   case measure => simp [intOf]; omega
  ·obtain rfl : k = ls.length := by omega
   go_wp2
   go_ret
   exact ⟨rfl, hBr⟩
abbrev noneS : ByteArray := ⟨#[]⟩
def chGone (x : S62) : S114 := ⟨1, x.f0, x.f1, noneS, []⟩
def chNew (y : S62) : S114 := ⟨2, y.f0, y.f1, noneS, y.f2⟩
def whatOf (ls : List S83) : Int := if ls.length = 0 then 4 else 3
def chSet (y : S62) (key : ByteArray) : S114 := ⟨whatOf (ofKey key y.f2), y.f0, y.f1, key, ofKey key y.f2⟩
def goneOf (b : List S62) (x : S62) : List S114 := if findB x.f0 x.f1 b 0 < 0 then [chGone x] else []
def setOf (x y : S62) (r : S36) : List S114 := if sameLs (ofKey r.f0 x.f2) (ofKey r.f0 y.f2) = true then [] else [chSet y r.f0]
def blkOf (a : List S62) (y : S62) : List S114 := if findB y.f0 y.f1 a 0 < 0 then [chNew y] else (rulesL y.f0).flatMap (setOf (rd_T62 a (findB y.f0 y.f1 a 0)) y)
def diffP (a b : List S62) : List S114 := if (sheetOk a && sheetOk b) = true then a.flatMap (goneOf b) ++ b.flatMap (blkOf a) else []
theorem goneOf_len (b : List S62) (x : S62) : (goneOf b x).length ≤ 1 := by unfold goneOf; split <;> simp
theorem setOf_len (x y : S62) (r : S36) : (setOf x y r).length ≤ 1 := by unfold setOf; split <;> simp
theorem flat_lenB {α β : Type} (f : α → List β) (B : Nat) (l : List α) (h : ∀ x, (f x).length ≤ B) : (l.flatMap f).length ≤ l.length * B := flat_len f B l (fun x _ => h x)
theorem blkOf_len (a : List S62) (y : S62) : (blkOf a y).length ≤ 12 := by
 unfold blkOf; split
 ·simp
 ·have := flat_lenB (setOf (rd_T62 a (findB y.f0 y.f1 a 0)) y) 1 (rulesL y.f0) (setOf_len _ _)
  have := rulesL_len y.f0
  omega
theorem take_flat {α β : Type} (f : α → List β) (l : List α) (j : Nat) (h : j < l.length) : (l.take (j + 1)).flatMap f = (l.take j).flatMap f ++ f l[j] := by
 rw [List.take_add_one, List.getElem?_eq_getElem h, List.flatMap_append]; simp
theorem cnt_flatK {α β : Type} (cnt : β → Nat) (d : α → Nat) (K : Nat) (f : α → List β) : ∀ l : List α, (∀ x ∈ l, cntAll cnt (f x) ≤ K * d x) → cntAll cnt (l.flatMap f) ≤ K * cntAll d l
 | [], _ => by simp [cntAll]
 | x :: l, h => by
  rw [List.flatMap_cons, cnt_app]
  have h1 := h x List.mem_cons_self
  have h2 := cnt_flatK cnt d K f l (fun y hy => h y (List.mem_cons_of_mem _ hy))
  simp only [cntAll, Nat.mul_add]
  omega
theorem goneOf_cnt (b : List S62) (x : S62) : cntAll cntChange (goneOf b x) ≤ 2 * cntBlock x := by
 unfold goneOf; split
 ·simp only [cntAll, cntChange, chGone, cntBlock]; omega
 ·simp [cntAll]
theorem setOf_cnt (x y : S62) (r : S36) : cntAll cntChange (setOf x y r) ≤ 2 * cntBlock y := by
 unfold setOf; split
 ·simp [cntAll]
 ·have := cnt_filter cntLine (fun l => decide (l.f0 = r.f0)) y.f2
  simp only [cntAll, cntChange, chSet, cntBlock, ofKey]; omega
theorem blkOf_cnt (a : List S62) (y : S62) : cntAll cntChange (blkOf a y) ≤ 24 * cntBlock y := by
 unfold blkOf; split
 ·simp only [cntAll, cntChange, chNew, cntBlock]; omega
 ·have h1 := cnt_flat cntChange (setOf (rd_T62 a (findB y.f0 y.f1 a 0)) y) (2 * cntBlock y) (rulesL y.f0) (fun r _ => setOf_cnt _ _ _)
  have h2 := Nat.mul_le_mul_right (2 * cntBlock y) (rulesL_len y.f0)
  omega
theorem diffP_cnt (a b : List S62) (ha : cntAll cntBlock a ≤ 2097152) (hb : cntAll cntBlock b ≤ 2097152) : cntAll cntChange (diffP a b) ≤ 1073741824 := by
 unfold diffP; split
 ·rw [cnt_app]
  have h1 := cnt_flatK cntChange cntBlock 2 (goneOf b) a (fun x _ => goneOf_cnt b x)
  have h2 := cnt_flatK cntChange cntBlock 24 (blkOf a) b (fun x _ => blkOf_cnt a x)
  omega
 ·simp [cntAll]
theorem diffP_small (a b : List S62) (ha : cntAll cntBlock a ≤ 2097152) (hb : cntAll cntBlock b ≤ 2097152) (hs : smallBs b) : smallCs (diffP a b) := by
 have h1 := diffP_cnt a b ha hb
 have h2 := len_cnt cntChange cntChange_pos (diffP a b)
 refine ⟨by omega, fun c hc => ?_⟩
 have hnil : smallLs [] := ⟨Nat.zero_le _, fun l hl => by cases hl⟩
 unfold diffP at hc
 split at hc
 ·rcases List.mem_append.1 hc with hc | hc
  ·obtain ⟨x, _, hx⟩ := List.mem_flatMap.1 hc
   unfold goneOf at hx
   split at hx
   ·obtain rfl := List.mem_singleton.1 hx; exact hnil
   ·cases hx
  ·obtain ⟨y, hy, hx⟩ := List.mem_flatMap.1 hc
   have hyl : smallLs y.f2 := (hs.2 y hy).2.2
   unfold blkOf at hx
   split at hx
   ·obtain rfl := List.mem_singleton.1 hx; exact hyl
   ·obtain ⟨r, _, hx⟩ := List.mem_flatMap.1 hx
    unfold setOf at hx
    split at hx
    ·cases hx
    ·obtain rfl := List.mem_singleton.1 hx; exact ofKey_small hyl
 ·cases hc
theorem findB_hit {kind name : ByteArray} : ∀ {bs : List S62} {i : Nat}, ¬ findB kind name bs i < 0 → ∃ (n : Nat) (x : S62), findB kind name bs i = ((i + n : Nat) : Int) ∧ bs[n]? = some x ∧ x.f0 = kind ∧ x.f1 = name
 | [], _, h => by exact absurd (show findB kind name [] _ < 0 by simp [findB]) h
 | b :: bs, i, h => by
  unfold findB at h ⊢
  split
  ·rename_i q; exact ⟨0, b, by simp, by simp, q.1, q.2⟩
  ·rename_i q
   rw [if_neg q] at h
   obtain ⟨n, x, h1, h2, h3, h4⟩ := findB_hit h
   exact ⟨n + 1, x, by rw [h1]; omega, by simpa using h2, h3, h4⟩
theorem rdBlockAt {bs : List S62} {i : Nat} {x : S62} (h : bs[i]? = some x) : rd_T62 bs (i : Int) = x := by unfold rd_T62; rw [List.getD_eq_getElem?_getD, Int.toNat_natCast, h]; rfl
end Go.Proofs.YtmcdnpooclelgaaDoor.PAll
