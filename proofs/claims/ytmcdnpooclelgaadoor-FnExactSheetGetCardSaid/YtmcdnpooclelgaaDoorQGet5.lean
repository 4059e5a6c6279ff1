/- Texts of this claim, packed: contracts of functions and plain lemmas that the law is proved from. -/
import Derived.Deep.LoopGhost
import Derived.Deep.RegionHeld3
import Derived.Deep.RegionLaw
import Derived.Test.YtmcdnpooclelgaaDoorQGet1
import Derived.Test.YtmcdnpooclelgaaDoorQGet2
import Derived.Test.YtmcdnpooclelgaaDoorQGet3
import Derived.Test.YtmcdnpooclelgaaDoorQGet4
set_option linter.unusedVariables false
set_option linter.unusedSimpArgs false
namespace Go.Proofs.YtmcdnpooclelgaaDoor.PAll
open Go.RowKit Go.Proofs.YtmcdnpooclelgaaDoorW.PrintWords Go.Proofs.YtmcdnpooclelgaaDoorW.PrintLast Go.Proofs.YtmcdnpooclelgaaDoorW.PrintMore
attribute [local go_sem] max2_int min2_int max_two min_two max_three min_three max_four min_four   -- for this text's walks alone
set_option linter.unusedVariables false
set_option linter.unusedSimpArgs false
mutual
def impl_SheetValid.l0 : Nat → List (S62) → Int → Int → List (S62) → Option (Bool)
 | 0, _, _, _, _ => none
 | k + 1, x10, x11, x12, x445000 => if x12 < x11 then (if 0 ≤ x12 then (if x12 < (x10.length : Int) then ((impl_blockOk.f ((rd_T62 x10 x12).f0) ((rd_T62 x10 x12).f1) ((rd_T62 x10 x12).f2)).bind fun t447 => (if t447 = true then (if x12 > 0 then (if 0 ≤ (wrap64 (x12 - 1)) then (if (wrap64 (x12 - 1)) < (x445000.length : Int) then ((impl_compare.f ((rd_T62 x445000 (wrap64 (x12 - 1))).f0) ((rd_T62 x445000 (wrap64 (x12 - 1))).f1) ((rd_T62 x445000 (wrap64 (x12 - 1))).f2) ((rd_T62 x10 x12).f0) ((rd_T62 x10 x12).f1) ((rd_T62 x10 x12).f2)).bind fun t449 => (impl_SheetValid.j1 k x10 x11 x12 (decide (t449 ≥ 0)) x445000)) else (none)) else (none)) else (impl_SheetValid.j1 k x10 x11 x12 false x445000)) else (impl_SheetValid.j1 k x10 x11 x12 true x445000))) else (none)) else (none)) else (some true)
def impl_SheetValid.j1 : Nat → List (S62) → Int → Int → Bool → List (S62) → Option (Bool)
 | 0, _, _, _, _, _ => none
 | k + 1, x10, x11, x12, x34, x445000 => if x34 = true then (some false) else (impl_SheetValid.l0 k x10 x11 (wrap64 (x12 + 1)) x445000)
end
def impl_SheetValid.f (k : Nat) (l0_0 : List (S62)) : Option (Bool) := if (l0_0.length : Int) > 60 then (some false) else (impl_SheetValid.l0 k l0_0 (l0_0.length : Int) 0 l0_0)
def impl_SheetValid.T6 : Bool × List (List Nat × List Nat) := (true, [([], []), ([0], [0]), ([1], [1]), ([2, 1], [2]), ([3], [3]), ([4, 3], [3, 4]), ([5, 3, 3], [3, 5]), ([6], [6]), ([7, 6], [6, 7]), ([6], [6]), ([9, 6], [6, 9]), ([8, 10, 6], [6, 8, 10]), ([11, 6], [6, 11]), ([6], [6]), ([12, 13, 6, 6], [6, 12, 13]), ([14, 6], [6, 14]), ([6, 15, 3], [3, 6, 15]), ([3, 16], [3, 16])])
def impl_SheetValid.B6 : List Nat := [0, 1, 3, 7, 15, 31, 63, 127, 255, 127, 639, 2047, 4095, 127, 16383, 32767, 65535, 131071]
theorem impl_SheetValid.tab6 : rtab .any (opsOf Tryd.f29 6) = impl_SheetValid.T6 := by kernel_rfl
theorem impl_SheetValid.bits6 : waitsOk impl_SheetValid.T6.2 impl_SheetValid.B6 = true := by kernel_rfl
set_option maxHeartbeats 8000000 in
set_option maxRecDepth 100000 in
theorem impl_SheetValid.calls (k : Nat) (A0_0 : Option Addr) (c0_0 : Nat) (l0_0 : List (S62)) (r : Bool) (w : World) (hr0_0 : Kd.C k62 w A0_0 l0_0.length l0_0) (hc0_0 : l0_0.length ≤ c0_0) (h : impl_SheetValid.f k l0_0 = some r) :
  Calls Tryd.prog 29 #[.agg #[.slice A0_0 l0_0.length c0_0]] w fun e w' => e = .returned (.bool r) ∧ Below w.heap.size w w' := by
 have hu47 := Tryd.underlying47
 have hu62 := Tryd.underlying62
 have HR0_0 := Aside0.mk hr0_0
 have HC0_0 := Aside0.mk hc0_0
 clear hr0_0 hc0_0
 have HB := Aside0.mk (Below.refl w.heap.size w)
 have H : (if (l0_0.length : Int) > 60 then (some false) else (impl_SheetValid.l0 k l0_0 (l0_0.length : Int) 0 l0_0)) = some r := h
 clear h
 by_cases c2 : (l0_0.length : Int) > 60
 ·rw [if_pos c2] at H
  have c2b0 : decide (60 < (l0_0.length : Int)) = true := decide_eq_true c2
  have c2b1 : decide (60 < l0_0.length) = true := decide_eq_true (by omega)
  clear c2
  obtain rfl := Option.some.inj H
  go_enter Tryd.func29, Tryd.ntmps29
  go_wp2_with (first | ((with_reducible refine gate_dst (N := 1) rfl ?_); refine box_event ?hg (N := 1) ?hd (cs := #[.slice A0_0 l0_0.length c0_0]) (t := 47) ?hr ?_; (case hd => rfl); (case hg => rfl); (case hr => first | (go_simp; done) | (go_simp; rfl)); intro gb444 hg w3 hbox hb; have n0_ := Aside0.mk (below_step (stB HB.out) hb); have n1_ := Aside0.mk (hbox); have n2_ := Aside0.mk ((by rw [hg]; exact (below_size (stB HB.out)) : w.heap.size ≤ gb444)); have n3_ := Aside0.mk ((by rw [hg]; exact (below_size (stB HB.out)) : w.heap.size ≤ gb444)); clear HB; have HB := n0_; have BK444 := n1_; have GW444 := n2_; have GE444 := n3_; clear n0_ n1_ n2_ n3_; clear hb hbox hg; have hcz4_0 : w3.cell? ⟨gb444, 0, none⟩ = some (.slice A0_0 l0_0.length c0_0) := (blk_cell BK444.out 0).trans rfl; have hfz4_0 := blk_frozen BK444.out 0))
  go_ret
  exact ⟨by first | rfl | (simp [errW_none, errW_some] <;> rfl) | (simp [*, errW_none, errW_some] <;> rfl), by repeat (first | (with_reducible first | exact HB.out | apply below_alloc | apply pw_below_drewN | apply below_drew1 | refine below_set ?_ GE444.out) | exact HB.out)⟩
 ·rw [if_neg c2] at H
  have c2b0 : decide (60 < (l0_0.length : Int)) = false := decide_eq_false c2
  have c2b1 : decide (60 < l0_0.length) = false := decide_eq_false (by omega)
  clear c2
  have H' := Aside0.mk H
  clear H
  go_enter Tryd.func29, Tryd.ntmps29
  go_wp2_with (first | ((with_reducible refine gate_dst (N := 1) rfl ?_); refine box_event ?hg (N := 1) ?hd (cs := #[.slice A0_0 l0_0.length c0_0]) (t := 47) ?hr ?_; (case hd => rfl); (case hg => rfl); (case hr => first | (go_simp; done) | (go_simp; rfl)); intro gb444 hg w5 hbox hb; have n0_ := Aside0.mk (below_step (stB HB.out) hb); have n1_ := Aside0.mk (hbox); have n2_ := Aside0.mk ((by rw [hg]; exact (below_size (stB HB.out)) : w.heap.size ≤ gb444)); have n3_ := Aside0.mk ((by rw [hg]; exact (below_size (stB HB.out)) : w.heap.size ≤ gb444)); clear HB; have HB := n0_; have BK444 := n1_; have GW444 := n2_; have GE444 := n3_; clear n0_ n1_ n2_ n3_; clear hb hbox hg; have hcz6_0 : w5.cell? ⟨gb444, 0, none⟩ = some (.slice A0_0 l0_0.length c0_0) := (blk_cell BK444.out 0).trans rfl; have hfz6_0 := blk_frozen BK444.out 0))
  go_loopg [12] k (fun kq v12 w' => ∃ (x12_1 : Int), v12 = .int .i64 x12_1 ∧ Aside0 (impl_SheetValid.l0 kq l0_0 (l0_0.length : Int) x12_1 l0_0 = some r) ∧ Aside0 (kq ≤ k) ∧ Aside0 (w'.heap[gb444]? = some (.cells #[(.slice A0_0 l0_0.length c0_0)] 47 (0, 0))) ∧ Aside0 (Below w.heap.size w w'))
  case atStart => exact ⟨(0), (by first | rfl | (simp; done) | (simp [*]; done)), H', ⟨Nat.le_refl _⟩, ⟨by (with_reducible repeat (first | refine blk_drewN ?_ _ | refine blk_drew ?_ | refine blk_alloc ?_ _)); exact BK444.out⟩, ⟨by repeat (first | (with_reducible first | exact HB.out | apply below_alloc | apply pw_below_drewN | apply below_drew1 | refine below_set ?_ GE444.out) | exact HB.out)⟩⟩
  case round =>
   clear H'
   try clear c2
   try clear c2b0
   try clear c2b1
   try clear p2
   try clear hcz4_0
   try clear hcz6_0
   try clear hfz4_0
   try clear hfz6_0
   obtain ⟨x12_1, rfl, HA, HK1, BK444, HB⟩ := hrel
   cases gk with
   | zero => exact absurd HA.out (by simp [impl_SheetValid.l0])
   | succ k1 =>
    have H := HA.out
    clear HA
    simp only [impl_SheetValid.l0] at H
    by_cases c7 : x12_1 < (l0_0.length : Int)
    ·rw [if_pos c7] at H
     have c7b0 : decide (x12_1 < (l0_0.length : Int)) = true := decide_eq_true c7
     clear c7
     by_cases c8 : 0 ≤ x12_1
     ·rw [if_pos c8] at H
      have c8b0 : decide (0 ≤ x12_1) = true := decide_eq_true c8
      clear c8
      by_cases c9 : x12_1 < (l0_0.length : Int)
      ·rw [if_pos c9] at H
       have c9b0 : decide (x12_1 < (l0_0.length : Int)) = true := decide_eq_true c9
       clear c9
       have HC10 := Aside0.mk H
       clear H
       have p445 : 0 ≤ (x12_1 : Int) := of_decide_eq_true (by first | (with_reducible assumption) | assumption)
       have q445 : x12_1 < (l0_0.length : Int) := of_decide_eq_true (by first | (with_reducible assumption) | assumption)
       obtain ⟨ad445, A445_2, c445_2, e445, hx445_0, hx445_1, hx445_2, hl445_2, hi445_2⟩ := at_T62 HR0_0.out x12_1 p445 q445
       cases e445
       (try replace hx445_0 := (HB.out.cell (World.block_lt_of_cell? w _ hx445_0)).trans hx445_0)
       (try replace hx445_1 := (HB.out.cell (World.block_lt_of_cell? w _ hx445_1)).trans hx445_1)
       (try replace hx445_2 := (HB.out.cell (World.block_lt_of_cell? w _ hx445_2)).trans hx445_2)
       have HR445_2 := Aside0.mk hi445_2
       have HC445_2 := Aside0.mk hl445_2
       clear hi445_2 hl445_2
       replace p445 := eq_true p445
       replace q445 := eq_true q445
       go_upto_region 6 with (first | ((with_reducible refine gate_dst (N := 4) rfl ?_); refine box_event ?hg (N := 4) ?hd (cs := #[.string (⟨#[]⟩ : ByteArray), .string (⟨#[]⟩ : ByteArray), .slice none 0 0]) (t := 62) ?hr ?_; (case hd => rfl); (case hg => rfl); (case hr => first | (go_simp; done) | (go_simp; rfl)); intro gb446 hg w11 hbox hb; have n0_ := Aside0.mk (blk_below (g := gb444) (o := .cells #[.slice (some ad445) l0_0.length c0_0] 47 (0, 0)) (by (with_reducible repeat (first | refine blk_drewN ?_ _ | refine blk_drew ?_ | refine blk_alloc ?_ _)); exact BK444.out) hb); have n1_ := Aside0.mk (below_step (by repeat (first | (with_reducible first | exact HB.out | apply below_alloc | apply pw_below_drewN | apply below_drew1 | refine below_set ?_ GE444.out) | exact HB.out)) hb); have n2_ := Aside0.mk (hbox); have n3_ := Aside0.mk ((by rw [hg]; exact (below_size (by repeat (first | (with_reducible first | exact HB.out | apply below_alloc | apply pw_below_drewN | apply below_drew1 | refine below_set ?_ GE444.out) | exact HB.out))) : w.heap.size ≤ gb446)); have n4_ := Aside0.mk ((by rw [hg]; exact (below_size (by repeat (first | (with_reducible first | exact HB.out | apply below_alloc | apply pw_below_drewN | apply below_drew1 | refine below_set ?_ GE444.out) | exact HB.out))) : w.heap.size ≤ gb446)); have n5_ := Aside0.mk ((by rw [hg]; exact Nat.ne_of_lt (blk_lt (g := gb444) (o := .cells #[.slice (some ad445) l0_0.length c0_0] 47 (0, 0)) (by (with_reducible repeat (first | refine blk_drewN ?_ _ | refine blk_drew ?_ | refine blk_alloc ?_ _)); exact BK444.out)) : gb444 ≠ gb446)); have n6_ := Aside0.mk ((by rw [hg]; exact Nat.ne_of_gt (blk_lt (g := gb444) (o := .cells #[.slice (some ad445) l0_0.length c0_0] 47 (0, 0)) (by (with_reducible repeat (first | refine blk_drewN ?_ _ | refine blk_drew ?_ | refine blk_alloc ?_ _)); exact BK444.out)) : gb446 ≠ gb444)); clear BK444; clear HB; have BK444 := n0_; have HB := n1_; have BK446 := n2_; have GW446 := n3_; have GE446 := n4_; have NB444_446 := n5_; have NB446_444 := n6_; clear n0_ n1_ n2_ n3_ n4_ n5_ n6_; clear hb hbox hg; have hnb12 := NB446_444.out; have hnc12 := NB444_446.out; have hcz13_0 : w11.cell? ⟨gb446, 0, none⟩ = some (.string (⟨#[]⟩ : ByteArray)) := (blk_cell BK446.out 0).trans rfl; have hcz13_1 : w11.cell? ⟨gb446, 1, none⟩ = some (.string (⟨#[]⟩ : ByteArray)) := (blk_cell BK446.out 1).trans rfl; have hcz13_2 : w11.cell? ⟨gb446, 2, none⟩ = some (.slice none 0 0) := (blk_cell BK446.out 2).trans rfl; have hfz13_0 := blk_frozen BK446.out 0; have hfz13_1 := blk_frozen BK446.out 1; have hfz13_2 := blk_frozen BK446.out 2))
       (try simp only [Act.put, List.setIfInBounds_toArray, List.set_cons_zero, List.set_cons_succ])
       go_cut [34] (fun v34 wc => ∃ (kq : Nat) (x34_9 : Bool), v34 = .bool x34_9 ∧ Aside0 (impl_SheetValid.j1 kq l0_0 (l0_0.length : Int) x12_1 x34_9 l0_0 = some r) ∧ Aside0 (kq ≤ k1) ∧ Aside0 (wc.heap[gb444]? = some (.cells #[(.slice (some ad445) l0_0.length c0_0)] 47 (0, 0))) ∧ Aside0 (wc.heap[gb446]? = some (.cells #[.string ((rd_T62 l0_0 x12_1).f0), .string ((rd_T62 l0_0 x12_1).f1), (.slice A445_2 ((rd_T62 l0_0 x12_1).f2).length c445_2)] 62 (0, 0))) ∧ Aside0 (Below w.heap.size w wc))
       case first =>
        have H := HC10.out
        clear HC10
        replace H := Option.bind_eq_some_iff.mp H
        obtain ⟨t447, A140, H⟩ := H
        replace H : (if t447 = true then (if x12_1 > 0 then (if 0 ≤ (wrap64 (x12_1 - 1)) then (if (wrap64 (x12_1 - 1)) < (l0_0.length : Int) then ((impl_compare.f ((rd_T62 l0_0 (wrap64 (x12_1 - 1))).f0) ((rd_T62 l0_0 (wrap64 (x12_1 - 1))).f1) ((rd_T62 l0_0 (wrap64 (x12_1 - 1))).f2) ((rd_T62 l0_0 x12_1).f0) ((rd_T62 l0_0 x12_1).f1) ((rd_T62 l0_0 x12_1).f2)).bind fun t449 => (impl_SheetValid.j1 k1 l0_0 (l0_0.length : Int) x12_1 (decide (t449 ≥ 0)) l0_0)) else (none)) else (none)) else (impl_SheetValid.j1 k1 l0_0 (l0_0.length : Int) x12_1 false l0_0)) else (impl_SheetValid.j1 k1 l0_0 (l0_0.length : Int) x12_1 true l0_0)) = some r := H
        have A14 := Aside0.mk A140
        clear A140
        by_cases c15 : t447 = true
        ·subst c15
         have H1 : (if x12_1 > 0 then (if 0 ≤ (wrap64 (x12_1 - 1)) then (if (wrap64 (x12_1 - 1)) < (l0_0.length : Int) then ((impl_compare.f ((rd_T62 l0_0 (wrap64 (x12_1 - 1))).f0) ((rd_T62 l0_0 (wrap64 (x12_1 - 1))).f1) ((rd_T62 l0_0 (wrap64 (x12_1 - 1))).f2) ((rd_T62 l0_0 x12_1).f0) ((rd_T62 l0_0 x12_1).f1) ((rd_T62 l0_0 x12_1).f2)).bind fun t449 => (impl_SheetValid.j1 k1 l0_0 (l0_0.length : Int) x12_1 (decide (t449 ≥ 0)) l0_0)) else (none)) else (none)) else (impl_SheetValid.j1 k1 l0_0 (l0_0.length : Int) x12_1 false l0_0)) = some r := by rw [if_pos rfl] at H; exact H
         clear H
         have H := H1
         clear H1
         by_cases c16 : x12_1 > 0
         ·rw [if_pos c16] at H
          have c16b0 : decide (0 < x12_1) = true := decide_eq_true c16
          clear c16
          (first | rw [c16b0] | (simp only [i64_w, i32_w]; rw [c16b0]) | skip)
          obtain ⟨ji17, hji17⟩ : ∃ j_ : Int, (wrap64 (x12_1 - 1)) = j_ := ⟨_, rfl⟩
          replace H : (if 0 ≤ (ji17) then (if (ji17) < (l0_0.length : Int) then ((impl_compare.f ((rd_T62 l0_0 (ji17)).f0) ((rd_T62 l0_0 (ji17)).f1) ((rd_T62 l0_0 (ji17)).f2) ((rd_T62 l0_0 x12_1).f0) ((rd_T62 l0_0 x12_1).f1) ((rd_T62 l0_0 x12_1).f2)).bind fun t449 => (impl_SheetValid.j1 k1 l0_0 (l0_0.length : Int) x12_1 (decide (t449 ≥ 0)) l0_0)) else (none)) else (none)) = some r := by first | (rw [hji17] at H; exact H) | (simp only [hji17] at H ⊢; exact H)
          (try rw [hji17] at A14)
          have hji17w : (IntKind.i64.wrap (x12_1 - 1)) = ji17 := (i64_w _).trans hji17
          by_cases c18 : 0 ≤ (ji17)
          ·rw [if_pos c18] at H
           have c18b0 : decide (0 ≤ (ji17)) = true := decide_eq_true c18
           clear c18
           by_cases c19 : (ji17) < (l0_0.length : Int)
           ·rw [if_pos c19] at H
            have c19b0 : decide ((ji17) < (l0_0.length : Int)) = true := decide_eq_true c19
            clear c19
            replace H := Option.bind_eq_some_iff.mp H
            obtain ⟨t449, A200, H⟩ := H
            replace H : (impl_SheetValid.j1 k1 l0_0 (l0_0.length : Int) x12_1 (decide (t449 ≥ 0)) l0_0) = some r := H
            have A20 := Aside0.mk A200
            clear A200
            have H' := Aside0.mk H
            clear H
            try go_wp2
            have n0_ : Aside0 ((((w11.setCell ⟨gb446, 0, none⟩ (.string ((rd_T62 l0_0 x12_1).f0))).setCell ⟨gb446, 1, none⟩ (.string ((rd_T62 l0_0 x12_1).f1))).setCell ⟨gb446, 2, none⟩ (.slice A445_2 ((rd_T62 l0_0 x12_1).f2).length c445_2)).heap[gb444]? = some (.cells #[.slice (some ad445) l0_0.length c0_0] 47 (0, 0))) := ⟨by (with_reducible repeat (first | refine blk_drewN ?_ _ | refine blk_drew ?_ | refine blk_alloc ?_ _)); refine blk_far ?_ NB444_446.out _; (with_reducible repeat (first | refine blk_drewN ?_ _ | refine blk_drew ?_ | refine blk_alloc ?_ _)); refine blk_far ?_ NB444_446.out _; (with_reducible repeat (first | refine blk_drewN ?_ _ | refine blk_drew ?_ | refine blk_alloc ?_ _)); refine blk_far ?_ NB444_446.out _; (with_reducible repeat (first | refine blk_drewN ?_ _ | refine blk_drew ?_ | refine blk_alloc ?_ _)); exact BK444.out⟩
            have n1_ : Aside0 ((((w11.setCell ⟨gb446, 0, none⟩ (.string ((rd_T62 l0_0 x12_1).f0))).setCell ⟨gb446, 1, none⟩ (.string ((rd_T62 l0_0 x12_1).f1))).setCell ⟨gb446, 2, none⟩ (.slice A445_2 ((rd_T62 l0_0 x12_1).f2).length c445_2)).heap[gb446]? = some (.cells #[.string ((rd_T62 l0_0 x12_1).f0), .string ((rd_T62 l0_0 x12_1).f1), .slice A445_2 ((rd_T62 l0_0 x12_1).f2).length c445_2] 62 (0, 0))) := ⟨by (with_reducible repeat (first | refine blk_drewN ?_ _ | refine blk_drew ?_ | refine blk_alloc ?_ _)); refine blk_put (cs := #[.string ((rd_T62 l0_0 x12_1).f0), .string ((rd_T62 l0_0 x12_1).f1), .slice none 0 0]) ?_ 2 _ rfl; (with_reducible repeat (first | refine blk_drewN ?_ _ | refine blk_drew ?_ | refine blk_alloc ?_ _)); refine blk_put (cs := #[.string ((rd_T62 l0_0 x12_1).f0), .string (⟨#[]⟩ : ByteArray), .slice none 0 0]) ?_ 1 _ rfl; (with_reducible repeat (first | refine blk_drewN ?_ _ | refine blk_drew ?_ | refine blk_alloc ?_ _)); refine blk_put (cs := #[.string (⟨#[]⟩ : ByteArray), .string (⟨#[]⟩ : ByteArray), .slice none 0 0]) ?_ 0 _ rfl; (with_reducible repeat (first | refine blk_drewN ?_ _ | refine blk_drew ?_ | refine blk_alloc ?_ _)); exact BK446.out⟩
            have n2_ : Aside0 (Below w.heap.size w (((w11.setCell ⟨gb446, 0, none⟩ (.string ((rd_T62 l0_0 x12_1).f0))).setCell ⟨gb446, 1, none⟩ (.string ((rd_T62 l0_0 x12_1).f1))).setCell ⟨gb446, 2, none⟩ (.slice A445_2 ((rd_T62 l0_0 x12_1).f2).length c445_2))) := ⟨by repeat (first | (with_reducible first | exact HB.out | apply below_alloc | apply pw_below_drewN | apply below_drew1 | refine below_set ?_ GE444.out | refine below_set ?_ GE446.out) | exact HB.out)⟩
            (try clear BK444)
            (try clear BK446)
            (try clear HB)
            generalize (((w11.setCell ⟨gb446, 0, none⟩ (.string ((rd_T62 l0_0 x12_1).f0))).setCell ⟨gb446, 1, none⟩ (.string ((rd_T62 l0_0 x12_1).f1))).setCell ⟨gb446, 2, none⟩ (.slice A445_2 ((rd_T62 l0_0 x12_1).f2).length c445_2)) = w21 at n0_ n1_ n2_ ⊢
            have BK444 := n0_
            have BK446 := n1_
            have HB := n2_
            clear n0_ n1_ n2_
            have n0_ := Aside0.mk (blk_drew BK444.out)
            have n1_ := Aside0.mk (blk_drew BK446.out)
            have n2_ := Aside0.mk (below_drew1 HB.out)
            clear BK444
            clear BK446
            clear HB
            have BK444 := n0_
            have BK446 := n1_
            have HB := n2_
            clear n0_ n1_ n2_
            have p448 : 0 ≤ ((ji17) : Int) := of_decide_eq_true (by first | (with_reducible assumption) | assumption)
            have q448 : (ji17) < (l0_0.length : Int) := of_decide_eq_true (by first | (with_reducible assumption) | assumption)
            obtain ⟨ad448, A448_2, c448_2, e448, hx448_0, hx448_1, hx448_2, hl448_2, hi448_2⟩ := at_T62 HR0_0.out (ji17) p448 q448
            have hw448_2 := hx448_2
            have hw448_1 := hx448_1
            have hw448_0 := hx448_0
            obtain rfl : ad445 = ad448 := (by injection e448)
            (try replace hx448_0 := (HB.out.cell (World.block_lt_of_cell? w _ hx448_0)).trans hx448_0)
            (try replace hx448_1 := (HB.out.cell (World.block_lt_of_cell? w _ hx448_1)).trans hx448_1)
            (try replace hx448_2 := (HB.out.cell (World.block_lt_of_cell? w _ hx448_2)).trans hx448_2)
            have HR448_2 := Aside0.mk hi448_2
            have HC448_2 := Aside0.mk hl448_2
            clear hi448_2 hl448_2
            replace p448 := eq_true p448
            replace q448 := eq_true q448
            refine start_ (n := 18) (S := fun w' => w'.cell? ⟨gb446, 0, none⟩ = some (.string ((rd_T62 l0_0 x12_1).f0)) ∧ w'.cell? ⟨gb446, 1, none⟩ = some (.string ((rd_T62 l0_0 x12_1).f1)) ∧ w'.cell? ⟨gb446, 2, none⟩ = some (.slice A445_2 ((rd_T62 l0_0 x12_1).f2).length c445_2) ∧ w'.cell? ⟨gb444, 0, none⟩ = some (.slice (some ad445) l0_0.length c0_0) ∧ w'.cell? (ad445.add (((ji17)).toNat * 3)) = some (.string ((rd_T62 l0_0 (ji17)).f0)) ∧ w'.cell? ⟨(ad445.add (((ji17)).toNat * 3)).block, (ad445.add (((ji17)).toNat * 3)).off + 1, none⟩ = some (.string ((rd_T62 l0_0 (ji17)).f1)) ∧ w'.cell? ⟨(ad445.add (((ji17)).toNat * 3)).block, (ad445.add (((ji17)).toNat * 3)).off + 2, none⟩ = some (.slice A448_2 ((rd_T62 l0_0 (ji17)).f2).length c448_2)) (ds := []) (bz 18 0) (by kernel_rfl) rfl rfl ⟨(blk_cell BK446.out 0).trans rfl, (blk_cell BK446.out 1).trans rfl, (blk_cell BK446.out 2).trans rfl, (blk_cell BK444.out 0).trans rfl, (by first | exact (HB.out.cell (World.block_lt_of_cell? w _ hw448_0)).trans hw448_0 | exact hw448_0), (by first | exact (HB.out.cell (World.block_lt_of_cell? w _ hw448_1)).trans hw448_1 | exact hw448_1), (by first | exact (HB.out.cell (World.block_lt_of_cell? w _ hw448_2)).trans hw448_2 | exact hw448_2)⟩ (fun hHeld => ?_); refine with_tabW impl_SheetValid.tab6 impl_SheetValid.bits6 (fun HT_ HW_ => ?_)
            generalize w21.drew = w22 at BK444 BK446 HB HR448_2 hx448_0 hx448_1 hx448_2 hHeld ⊢
            refine take_ (i := 0) (N := some 17) (v := ?_) (a' := ?_) (bz 18 1) rfl rfl (take_ofW HT_.out HW_.out (by kernel_rfl)) (fun _ _ _ h => h) (Or.inl ⟨by rfl, ?_⟩) hHeld ?_ ?_
            rotate_left
            ·rintro w' ⟨s0, s1, s2, s3, s4, s5, s6⟩
             go_simp
             with_reducible rfl
            rotate_left
            ·simp only [Act.put, List.setIfInBounds_toArray, List.set_cons_zero, List.set_cons_succ, i64_w, i32_w]
             rfl
            refine one_ (i := 1) (N := some 18) (bz 18 3) rfl rfl (one_of HT_.out (by kernel_rfl)) (by decide) (fun K hK => ?_)
            refine goes_ Tryd.func75 (by kernel_rfl) rfl #[.agg #[.string ((rd_T62 l0_0 x12_1).f0), .string ((rd_T62 l0_0 x12_1).f1), .slice A445_2 ((rd_T62 l0_0 x12_1).f2).length c445_2]] (by rfl) rfl rfl (by (try simp only [List.map_toArray, List.map_cons, List.map_nil]); first | done | rfl | (simp only [List.length_drop, List.length_take]; rfl)) ?_
            with_reducible refine (impl_blockOk.calls ((rd_T62 l0_0 x12_1).f0) ((rd_T62 l0_0 x12_1).f1) _ _ ((rd_T62 l0_0 x12_1).f2) true _ ?side1 ?side2 A14.out).mono ?_
            (case side1 => repeat (first | exact (Kd.C_below HR445_2.out HB.out) | (with_reducible refine Kd.C_alloc ?_ _) | (with_reducible refine Kd.C_drewN ?_ _) | (with_reducible refine Kd.C_drew ?_)))
            (case side2 => exact HC445_2.out)
            rintro e w23 ⟨rfl, hb⟩
            refine ⟨_, rfl, ?_⟩
            have n0_ := Aside0.mk (blk_below (g := gb444) (o := .cells #[.slice (some ad445) l0_0.length c0_0] 47 (0, 0)) (by (with_reducible repeat (first | refine blk_drewN ?_ _ | refine blk_drew ?_ | refine blk_alloc ?_ _)); exact BK444.out) hb)
            have n1_ := Aside0.mk (blk_below (g := gb446) (o := .cells #[.string ((rd_T62 l0_0 x12_1).f0), .string ((rd_T62 l0_0 x12_1).f1), .slice A445_2 ((rd_T62 l0_0 x12_1).f2).length c445_2] 62 (0, 0)) (by (with_reducible repeat (first | refine blk_drewN ?_ _ | refine blk_drew ?_ | refine blk_alloc ?_ _)); exact BK446.out) hb)
            have n2_ := Aside0.mk (below_step (by repeat (first | (with_reducible first | exact HB.out | apply below_alloc | apply pw_below_drewN | apply below_drew1 | refine below_set ?_ GE444.out | refine below_set ?_ GE446.out) | exact HB.out)) hb)
            clear BK444
            clear BK446
            clear HB
            have BK444 := n0_
            have BK446 := n1_
            have HB := n2_
            clear n0_ n1_ n2_
            (try clear hb)
            (try clear hb2)
            (try clear hk)
            (try clear hi)
            refine hK.out _ _ ⟨(blk_cell BK446.out 0).trans rfl, (blk_cell BK446.out 1).trans rfl, (blk_cell BK446.out 2).trans rfl, (blk_cell BK444.out 0).trans rfl, (by first | exact (HB.out.cell (World.block_lt_of_cell? w _ hw448_0)).trans hw448_0 | exact hw448_0), (by first | exact (HB.out.cell (World.block_lt_of_cell? w _ hw448_1)).trans hw448_1 | exact hw448_1), (by first | exact (HB.out.cell (World.block_lt_of_cell? w _ hw448_2)).trans hw448_2 | exact hw448_2)⟩ (fun hHeld => ?_)
            clear hK K
            refine norm_ (a' := ?_) ?_ ?_
            rotate_left
            ·show Act.put _ (some 18) _ = _
             simp only [Act.put, List.setIfInBounds_toArray, List.set_cons_zero, List.set_cons_succ, i64_w, i32_w]
             rfl
            refine pure_ (i := 2) (N := some 19) (v := ?_) (a' := ?_) (bz 18 7) rfl rfl (any_of HT_.out (by kernel_rfl)) (fun _ _ _ h => h) (Or.inl ⟨by rfl, ?_⟩) ?_ ?_
            rotate_left
            ·intro w'
             go_simp
             with_reducible rfl
            rotate_left
            ·simp only [Act.put, List.setIfInBounds_toArray, List.set_cons_zero, List.set_cons_succ, i64_w, i32_w]
             rfl
            refine pure_ (i := 3) (N := some 20) (v := ?_) (a' := ?_) (bz 18 15) rfl rfl (any_of HT_.out (by kernel_rfl)) (fun _ _ _ h => h) (Or.inl ⟨by rfl, ?_⟩) ?_ ?_
            rotate_left
            ·intro w'
             go_simp
             with_reducible rfl
            rotate_left
            ·simp only [Act.put, List.setIfInBounds_toArray, List.set_cons_zero, List.set_cons_succ, i64_w, i32_w]
             rfl
            refine pure_ (i := 4) (N := some 21) (v := ?_) (a' := ?_) (bz 18 31) rfl rfl (any_of HT_.out (by kernel_rfl)) (fun _ _ _ h => h) (Or.inl ⟨by rfl, ?_⟩) ?_ ?_
            rotate_left
            ·intro w'
             go_simp
             with_reducible rfl
            rotate_left
            ·simp only [Act.put, List.setIfInBounds_toArray, List.set_cons_zero, List.set_cons_succ, i64_w, i32_w]
             rfl
            refine pure_ (i := 5) (N := some 22) (v := ?_) (a' := ?_) (bz 18 63) rfl rfl (any_of HT_.out (by kernel_rfl)) (fun _ _ _ h => h) (Or.inl ⟨by rfl, ?_⟩) ?_ ?_
            rotate_left
            ·intro w'
             go_simp
             with_reducible rfl
            rotate_left
            ·simp only [Act.put, List.setIfInBounds_toArray, List.set_cons_zero, List.set_cons_succ, i64_w, i32_w]
             rfl
            refine pure_ (i := 6) (N := some 23) (v := ?_) (a' := ?_) (bz 18 127) rfl rfl (any_of HT_.out (by kernel_rfl)) (fun _ _ _ h => h) (Or.inl ⟨by rfl, ?_⟩) ?_ ?_
            rotate_left
            ·intro w'
             go_simp
             with_reducible rfl
            rotate_left
            ·simp only [Act.put, List.setIfInBounds_toArray, List.set_cons_zero, List.set_cons_succ, i64_w, i32_w]
             rfl
            refine pure_ (i := 7) (N := some 24) (v := ?_) (a' := ?_) (bz 18 255) rfl rfl (any_of HT_.out (by kernel_rfl)) (fun _ _ _ h => h) (Or.inl ⟨by rfl, ?_⟩) ?_ ?_
            rotate_left
            ·intro w'
             go_simp
             with_reducible rfl
            rotate_left
            ·simp only [Act.put, List.setIfInBounds_toArray, List.set_cons_zero, List.set_cons_succ, i64_w, i32_w]
             rfl
            refine pure_ (i := 9) (N := some 26) (v := ?_) (a' := ?_) (bz 18 767) rfl rfl (any_of HT_.out (by kernel_rfl)) (fun _ _ _ h => h) (Or.inl ⟨by rfl, ?_⟩) ?_ ?_
            rotate_left
            ·intro w'
             go_simp
             with_reducible rfl
            rotate_left
            ·simp only [Act.put, List.setIfInBounds_toArray, List.set_cons_zero, List.set_cons_succ, i64_w, i32_w]
             rfl
            refine pure_ (i := 10) (N := some 27) (v := ?_) (a' := ?_) (bz 18 1791) rfl rfl (any_of HT_.out (by kernel_rfl)) (fun _ _ _ h => h) (Or.inl ⟨by rfl, ?_⟩) ?_ ?_
            rotate_left
            ·intro w'
             go_simp
             with_reducible rfl
            rotate_left
            ·simp only [Act.put, List.setIfInBounds_toArray, List.set_cons_zero, List.set_cons_succ, i64_w, i32_w]
             rfl
            refine take_ (i := 8) (N := some 25) (v := ?_) (a' := ?_) (bz 18 2047) rfl rfl (take_ofW HT_.out HW_.out (by kernel_rfl)) (fun _ _ _ h => h) (Or.inl ⟨by rfl, ?_⟩) hHeld ?_ ?_
            rotate_left
            ·rintro w' ⟨s0, s1, s2, s3, s4, s5, s6⟩
             go_simp
             with_reducible rfl
            rotate_left
            ·simp only [Act.put, List.setIfInBounds_toArray, List.set_cons_zero, List.set_cons_succ, i64_w, i32_w]
             rfl
            refine pure_ (i := 11) (N := some 28) (v := ?_) (a' := ?_) (bz 18 4095) rfl rfl (any_of HT_.out (by kernel_rfl)) (fun _ _ _ h => h) (Or.inl ⟨by rfl, ?_⟩) ?_ ?_
            rotate_left
            ·intro w'
             go_simp
             with_reducible rfl
            rotate_left
            ·simp only [Act.put, List.setIfInBounds_toArray, List.set_cons_zero, List.set_cons_succ, i64_w, i32_w]
             rfl
            refine take_ (i := 12) (N := some 29) (v := ?_) (a' := ?_) (bz 18 8191) rfl rfl (take_ofW HT_.out HW_.out (by kernel_rfl)) (fun _ _ _ h => h) (Or.inl ⟨by rfl, ?_⟩) hHeld ?_ ?_
            rotate_left
            ·rintro w' ⟨s0, s1, s2, s3, s4, s5, s6⟩
             go_simp
             with_reducible rfl
            rotate_left
            ·simp only [Act.put, List.setIfInBounds_toArray, List.set_cons_zero, List.set_cons_succ, i64_w, i32_w]
             rfl
            refine take_ (i := 13) (N := some 30) (v := ?_) (a' := ?_) (bz 18 16383) rfl rfl (take_ofW HT_.out HW_.out (by kernel_rfl)) (fun _ _ _ h => h) (Or.inl ⟨by rfl, ?_⟩) hHeld ?_ ?_
            rotate_left
            ·rintro w' ⟨s0, s1, s2, s3, s4, s5, s6⟩
             go_simp
             with_reducible rfl
            rotate_left
            ·simp only [Act.put, List.setIfInBounds_toArray, List.set_cons_zero, List.set_cons_succ, i64_w, i32_w]
             rfl
            refine one_ (i := 14) (N := some 31) (bz 18 32767) rfl rfl (one_of HT_.out (by kernel_rfl)) (by decide) (fun K hK => ?_)
            refine goes_ Tryd.func76 (by kernel_rfl) rfl #[.agg #[.string ((rd_T62 l0_0 (ji17)).f0), .string ((rd_T62 l0_0 (ji17)).f1), .slice A448_2 ((rd_T62 l0_0 (ji17)).f2).length c448_2], .agg #[.string ((rd_T62 l0_0 x12_1).f0), .string ((rd_T62 l0_0 x12_1).f1), .slice A445_2 ((rd_T62 l0_0 x12_1).f2).length c445_2]] (by rfl) rfl rfl (by (try simp only [List.map_toArray, List.map_cons, List.map_nil]); first | done | (simp only [hji17]; rfl) | rfl | (simp only [List.length_drop, List.length_take]; rfl)) ?_
            with_reducible refine (impl_compare.calls ((rd_T62 l0_0 (ji17)).f0) ((rd_T62 l0_0 (ji17)).f1) _ _ ((rd_T62 l0_0 (ji17)).f2) ((rd_T62 l0_0 x12_1).f0) ((rd_T62 l0_0 x12_1).f1) _ _ ((rd_T62 l0_0 x12_1).f2) t449 _ ?side1 ?side2 ?side3 ?side4 A20.out).mono ?_
            (case side1 => repeat (first | exact (Kd.C_below HR448_2.out HB.out) | (with_reducible refine Kd.C_alloc ?_ _) | (with_reducible refine Kd.C_drewN ?_ _) | (with_reducible refine Kd.C_drew ?_)))
            (case side2 => exact HC448_2.out)
            (case side3 => repeat (first | exact (Kd.C_below HR445_2.out HB.out) | (with_reducible refine Kd.C_alloc ?_ _) | (with_reducible refine Kd.C_drewN ?_ _) | (with_reducible refine Kd.C_drew ?_)))
            (case side4 => exact HC445_2.out)
            rintro e w24 ⟨rfl, hb⟩
            refine ⟨_, rfl, ?_⟩
            have n0_ := Aside0.mk (blk_below (g := gb444) (o := .cells #[.slice (some ad445) l0_0.length c0_0] 47 (0, 0)) (by (with_reducible repeat (first | refine blk_drewN ?_ _ | refine blk_drew ?_ | refine blk_alloc ?_ _)); exact BK444.out) hb)
            have n1_ := Aside0.mk (blk_below (g := gb446) (o := .cells #[.string ((rd_T62 l0_0 x12_1).f0), .string ((rd_T62 l0_0 x12_1).f1), .slice A445_2 ((rd_T62 l0_0 x12_1).f2).length c445_2] 62 (0, 0)) (by (with_reducible repeat (first | refine blk_drewN ?_ _ | refine blk_drew ?_ | refine blk_alloc ?_ _)); exact BK446.out) hb)
            have n2_ := Aside0.mk (below_step (by repeat (first | (with_reducible first | exact HB.out | apply below_alloc | apply pw_below_drewN | apply below_drew1 | refine below_set ?_ GE444.out | refine below_set ?_ GE446.out) | exact HB.out)) hb)
            clear BK444
            clear BK446
            clear HB
            have BK444 := n0_
            have BK446 := n1_
            have HB := n2_
            clear n0_ n1_ n2_
            (try clear hb)
            (try clear hb2)
            (try clear hk)
            (try clear hi)
            refine hK.out _ _ ⟨(blk_cell BK446.out 0).trans rfl, (blk_cell BK446.out 1).trans rfl, (blk_cell BK446.out 2).trans rfl, (blk_cell BK444.out 0).trans rfl, (by first | exact (HB.out.cell (World.block_lt_of_cell? w _ hw448_0)).trans hw448_0 | exact hw448_0), (by first | exact (HB.out.cell (World.block_lt_of_cell? w _ hw448_1)).trans hw448_1 | exact hw448_1), (by first | exact (HB.out.cell (World.block_lt_of_cell? w _ hw448_2)).trans hw448_2 | exact hw448_2)⟩ (fun hHeld => ?_)
            clear hK K
            refine norm_ (a' := ?_) ?_ ?_
            rotate_left
            ·show Act.put _ (some 31) _ = _
             simp only [Act.put, List.setIfInBounds_toArray, List.set_cons_zero, List.set_cons_succ, i64_w, i32_w]
             rfl
            refine pure_ (i := 15) (N := some 32) (v := ?_) (a' := ?_) (bz 18 65535) rfl rfl (any_of HT_.out (by kernel_rfl)) (fun _ _ _ h => h) (Or.inl ⟨by rfl, ?_⟩) ?_ ?_
            rotate_left
            ·intro w'
             go_simp
             with_reducible rfl
            rotate_left
            ·simp only [Act.put, List.setIfInBounds_toArray, List.set_cons_zero, List.set_cons_succ, i64_w, i32_w]
             rfl
            refine pure_ (i := 16) (N := some 33) (v := ?_) (a' := ?_) (bz 18 131071) rfl rfl (any_of HT_.out (by kernel_rfl)) (fun _ _ _ h => h) (Or.inl ⟨by rfl, ?_⟩) ?_ ?_
            rotate_left
            ·intro w'
             go_simp
             with_reducible rfl
            rotate_left
            ·simp only [Act.put, List.setIfInBounds_toArray, List.set_cons_zero, List.set_cons_succ, i64_w, i32_w]
             rfl
            refine pure_ (i := 17) (N := some 34) (v := ?_) (a' := ?_) (bz 18 262143) rfl rfl (any_of HT_.out (by kernel_rfl)) (fun _ _ _ h => h) (Or.inl ⟨by rfl, ?_⟩) ?_ ?_
            rotate_left
            ·intro w'
             go_simp
             with_reducible rfl
            rotate_left
            ·simp only [Act.put, List.setIfInBounds_toArray, List.set_cons_zero, List.set_cons_succ, i64_w, i32_w]
             rfl
            refine done_ (done_of HT_.out (by kernel_rfl)) ?_
            try go_wp2
            go_meet
            case rel => exact ⟨_, (decide (t449 ≥ 0)), (by first | rfl | (simp; done) | (simp [*]; done)), H', ⟨by have := HK1.out; first | omega | exact Nat.le_refl _⟩, ⟨by (with_reducible repeat (first | refine blk_drewN ?_ _ | refine blk_drew ?_ | refine blk_alloc ?_ _)); exact BK444.out⟩, ⟨by (with_reducible repeat (first | refine blk_drewN ?_ _ | refine blk_drew ?_ | refine blk_alloc ?_ _)); exact BK446.out⟩, ⟨by repeat (first | (with_reducible first | exact HB.out | apply below_alloc | apply pw_below_drewN | apply below_drew1 | refine below_set ?_ GE444.out | refine below_set ?_ GE446.out) | exact HB.out)⟩⟩
           ·rw [if_neg c19] at H
            exact absurd H (by simp)
          ·rw [if_neg c18] at H
           exact absurd H (by simp)
         ·rw [if_neg c16] at H
          have c16b0 : decide (0 < x12_1) = false := decide_eq_false c16
          clear c16
          (first | rw [c16b0] | (simp only [i64_w, i32_w]; rw [c16b0]) | skip)
          have H' := Aside0.mk H
          clear H
          try go_wp2
          have n0_ : Aside0 ((((w11.setCell ⟨gb446, 0, none⟩ (.string ((rd_T62 l0_0 x12_1).f0))).setCell ⟨gb446, 1, none⟩ (.string ((rd_T62 l0_0 x12_1).f1))).setCell ⟨gb446, 2, none⟩ (.slice A445_2 ((rd_T62 l0_0 x12_1).f2).length c445_2)).heap[gb444]? = some (.cells #[.slice (some ad445) l0_0.length c0_0] 47 (0, 0))) := ⟨by (with_reducible repeat (first | refine blk_drewN ?_ _ | refine blk_drew ?_ | refine blk_alloc ?_ _)); refine blk_far ?_ NB444_446.out _; (with_reducible repeat (first | refine blk_drewN ?_ _ | refine blk_drew ?_ | refine blk_alloc ?_ _)); refine blk_far ?_ NB444_446.out _; (with_reducible repeat (first | refine blk_drewN ?_ _ | refine blk_drew ?_ | refine blk_alloc ?_ _)); refine blk_far ?_ NB444_446.out _; (with_reducible repeat (first | refine blk_drewN ?_ _ | refine blk_drew ?_ | refine blk_alloc ?_ _)); exact BK444.out⟩
          have n1_ : Aside0 ((((w11.setCell ⟨gb446, 0, none⟩ (.string ((rd_T62 l0_0 x12_1).f0))).setCell ⟨gb446, 1, none⟩ (.string ((rd_T62 l0_0 x12_1).f1))).setCell ⟨gb446, 2, none⟩ (.slice A445_2 ((rd_T62 l0_0 x12_1).f2).length c445_2)).heap[gb446]? = some (.cells #[.string ((rd_T62 l0_0 x12_1).f0), .string ((rd_T62 l0_0 x12_1).f1), .slice A445_2 ((rd_T62 l0_0 x12_1).f2).length c445_2] 62 (0, 0))) := ⟨by (with_reducible repeat (first | refine blk_drewN ?_ _ | refine blk_drew ?_ | refine blk_alloc ?_ _)); refine blk_put (cs := #[.string ((rd_T62 l0_0 x12_1).f0), .string ((rd_T62 l0_0 x12_1).f1), .slice none 0 0]) ?_ 2 _ rfl; (with_reducible repeat (first | refine blk_drewN ?_ _ | refine blk_drew ?_ | refine blk_alloc ?_ _)); refine blk_put (cs := #[.string ((rd_T62 l0_0 x12_1).f0), .string (⟨#[]⟩ : ByteArray), .slice none 0 0]) ?_ 1 _ rfl; (with_reducible repeat (first | refine blk_drewN ?_ _ | refine blk_drew ?_ | refine blk_alloc ?_ _)); refine blk_put (cs := #[.string (⟨#[]⟩ : ByteArray), .string (⟨#[]⟩ : ByteArray), .slice none 0 0]) ?_ 0 _ rfl; (with_reducible repeat (first | refine blk_drewN ?_ _ | refine blk_drew ?_ | refine blk_alloc ?_ _)); exact BK446.out⟩
          have n2_ : Aside0 (Below w.heap.size w (((w11.setCell ⟨gb446, 0, none⟩ (.string ((rd_T62 l0_0 x12_1).f0))).setCell ⟨gb446, 1, none⟩ (.string ((rd_T62 l0_0 x12_1).f1))).setCell ⟨gb446, 2, none⟩ (.slice A445_2 ((rd_T62 l0_0 x12_1).f2).length c445_2))) := ⟨by repeat (first | (with_reducible first | exact HB.out | apply below_alloc | apply pw_below_drewN | apply below_drew1 | refine below_set ?_ GE444.out | refine below_set ?_ GE446.out) | exact HB.out)⟩
          (try clear BK444)
          (try clear BK446)
          (try clear HB)
          generalize (((w11.setCell ⟨gb446, 0, none⟩ (.string ((rd_T62 l0_0 x12_1).f0))).setCell ⟨gb446, 1, none⟩ (.string ((rd_T62 l0_0 x12_1).f1))).setCell ⟨gb446, 2, none⟩ (.slice A445_2 ((rd_T62 l0_0 x12_1).f2).length c445_2)) = w25 at n0_ n1_ n2_ ⊢
          have BK444 := n0_
          have BK446 := n1_
          have HB := n2_
          clear n0_ n1_ n2_
          have n0_ := Aside0.mk (blk_drew BK444.out)
          have n1_ := Aside0.mk (blk_drew BK446.out)
          have n2_ := Aside0.mk (below_drew1 HB.out)
          clear BK444
          clear BK446
          clear HB
          have BK444 := n0_
          have BK446 := n1_
          have HB := n2_
          clear n0_ n1_ n2_
          refine start_ (n := 18) (S := fun w' => w'.cell? ⟨gb446, 0, none⟩ = some (.string ((rd_T62 l0_0 x12_1).f0)) ∧ w'.cell? ⟨gb446, 1, none⟩ = some (.string ((rd_T62 l0_0 x12_1).f1)) ∧ w'.cell? ⟨gb446, 2, none⟩ = some (.slice A445_2 ((rd_T62 l0_0 x12_1).f2).length c445_2)) (ds := []) (bz 18 0) (by kernel_rfl) rfl rfl ⟨(blk_cell BK446.out 0).trans rfl, (blk_cell BK446.out 1).trans rfl, (blk_cell BK446.out 2).trans rfl⟩ (fun hHeld => ?_); refine with_tabW impl_SheetValid.tab6 impl_SheetValid.bits6 (fun HT_ HW_ => ?_)
          generalize w25.drew = w26 at BK444 BK446 HB hHeld ⊢
          refine take_ (i := 0) (N := some 17) (v := ?_) (a' := ?_) (bz 18 1) rfl rfl (take_ofW HT_.out HW_.out (by kernel_rfl)) (fun _ _ _ h => h) (Or.inl ⟨by rfl, ?_⟩) hHeld ?_ ?_
          rotate_left
          ·rintro w' ⟨s0, s1, s2⟩
           go_simp
           with_reducible rfl
          rotate_left
          ·simp only [Act.put, List.setIfInBounds_toArray, List.set_cons_zero, List.set_cons_succ, i64_w, i32_w]
           rfl
          refine one_ (i := 1) (N := some 18) (bz 18 3) rfl rfl (one_of HT_.out (by kernel_rfl)) (by decide) (fun K hK => ?_)
          refine goes_ Tryd.func75 (by kernel_rfl) rfl #[.agg #[.string ((rd_T62 l0_0 x12_1).f0), .string ((rd_T62 l0_0 x12_1).f1), .slice A445_2 ((rd_T62 l0_0 x12_1).f2).length c445_2]] (by rfl) rfl rfl (by (try simp only [List.map_toArray, List.map_cons, List.map_nil]); first | done | rfl | (simp only [List.length_drop, List.length_take]; rfl)) ?_
          with_reducible refine (impl_blockOk.calls ((rd_T62 l0_0 x12_1).f0) ((rd_T62 l0_0 x12_1).f1) _ _ ((rd_T62 l0_0 x12_1).f2) true _ ?side1 ?side2 A14.out).mono ?_
          (case side1 => repeat (first | exact (Kd.C_below HR445_2.out HB.out) | (with_reducible refine Kd.C_alloc ?_ _) | (with_reducible refine Kd.C_drewN ?_ _) | (with_reducible refine Kd.C_drew ?_)))
          (case side2 => exact HC445_2.out)
          rintro e w27 ⟨rfl, hb⟩
          refine ⟨_, rfl, ?_⟩
          have n0_ := Aside0.mk (blk_below (g := gb444) (o := .cells #[.slice (some ad445) l0_0.length c0_0] 47 (0, 0)) (by (with_reducible repeat (first | refine blk_drewN ?_ _ | refine blk_drew ?_ | refine blk_alloc ?_ _)); exact BK444.out) hb)
          have n1_ := Aside0.mk (blk_below (g := gb446) (o := .cells #[.string ((rd_T62 l0_0 x12_1).f0), .string ((rd_T62 l0_0 x12_1).f1), .slice A445_2 ((rd_T62 l0_0 x12_1).f2).length c445_2] 62 (0, 0)) (by (with_reducible repeat (first | refine blk_drewN ?_ _ | refine blk_drew ?_ | refine blk_alloc ?_ _)); exact BK446.out) hb)
          have n2_ := Aside0.mk (below_step (by repeat (first | (with_reducible first | exact HB.out | apply below_alloc | apply pw_below_drewN | apply below_drew1 | refine below_set ?_ GE444.out | refine below_set ?_ GE446.out) | exact HB.out)) hb)
          clear BK444
          clear BK446
          clear HB
          have BK444 := n0_
          have BK446 := n1_
          have HB := n2_
          clear n0_ n1_ n2_
          (try clear hb)
          (try clear hb2)
          (try clear hk)
          (try clear hi)
          refine hK.out _ _ ⟨(blk_cell BK446.out 0).trans rfl, (blk_cell BK446.out 1).trans rfl, (blk_cell BK446.out 2).trans rfl⟩ (fun hHeld => ?_)
          clear hK K
          refine norm_ (a' := ?_) ?_ ?_
          rotate_left
          ·show Act.put _ (some 18) _ = _
           simp only [Act.put, List.setIfInBounds_toArray, List.set_cons_zero, List.set_cons_succ, i64_w, i32_w]
           rfl
          refine pure_ (i := 2) (N := some 19) (v := ?_) (a' := ?_) (bz 18 7) rfl rfl (any_of HT_.out (by kernel_rfl)) (fun _ _ _ h => h) (Or.inl ⟨by rfl, ?_⟩) ?_ ?_
          rotate_left
          ·intro w'
           go_simp
           with_reducible rfl
          rotate_left
          ·simp only [Act.put, List.setIfInBounds_toArray, List.set_cons_zero, List.set_cons_succ, i64_w, i32_w]
           rfl
          refine pure_ (i := 3) (N := some 20) (v := ?_) (a' := ?_) (bz 18 15) rfl rfl (any_of HT_.out (by kernel_rfl)) (fun _ _ _ h => h) (Or.inl ⟨by rfl, ?_⟩) ?_ ?_
          rotate_left
          ·intro w'
           go_simp
           with_reducible rfl
          rotate_left
          ·simp only [Act.put, List.setIfInBounds_toArray, List.set_cons_zero, List.set_cons_succ, i64_w, i32_w]
           rfl
          refine pure_ (i := 4) (N := some 21) (v := ?_) (a' := ?_) (bz 18 31) rfl rfl (any_of HT_.out (by kernel_rfl)) (fun _ _ _ h => h) (Or.inl ⟨by rfl, ?_⟩) ?_ ?_
          rotate_left
          ·intro w'
           go_simp
           with_reducible rfl
          rotate_left
          ·simp only [Act.put, List.setIfInBounds_toArray, List.set_cons_zero, List.set_cons_succ, i64_w, i32_w]
           rfl
          refine pure_ (i := 5) (N := some 22) (v := ?_) (a' := ?_) (bz 18 63) rfl rfl (any_of HT_.out (by kernel_rfl)) (fun _ _ _ h => h) (Or.inl ⟨by rfl, ?_⟩) ?_ ?_
          rotate_left
          ·intro w'
           go_simp
           with_reducible rfl
          rotate_left
          ·simp only [Act.put, List.setIfInBounds_toArray, List.set_cons_zero, List.set_cons_succ, i64_w, i32_w]
           rfl
          refine pure_ (i := 6) (N := some 23) (v := ?_) (a' := ?_) (bz 18 127) rfl rfl (any_of HT_.out (by kernel_rfl)) (fun _ _ _ h => h) (Or.inl ⟨by rfl, ?_⟩) ?_ ?_
          rotate_left
          ·intro w'
           go_simp
           with_reducible rfl
          rotate_left
          ·simp only [Act.put, List.setIfInBounds_toArray, List.set_cons_zero, List.set_cons_succ, i64_w, i32_w]
           rfl
          refine pure_ (i := 7) (N := some 24) (v := undef) (a' := ?_) (bz 18 255) rfl rfl (any_of HT_.out (by kernel_rfl)) (fun _ _ _ h => h) (Or.inr ⟨by rfl, rfl⟩) ?_ ?_
          rotate_left
          ·simp only [Act.put, List.setIfInBounds_toArray, List.set_cons_zero, List.set_cons_succ, i64_w, i32_w]
           rfl
          refine pure_ (i := 8) (N := some 25) (v := undef) (a' := ?_) (bz 18 511) rfl rfl (any_of HT_.out (by kernel_rfl)) (fun _ _ _ h => h) (Or.inr ⟨by rfl, rfl⟩) ?_ ?_
          rotate_left
          ·simp only [Act.put, List.setIfInBounds_toArray, List.set_cons_zero, List.set_cons_succ, i64_w, i32_w]
           rfl
          refine pure_ (i := 9) (N := some 26) (v := undef) (a' := ?_) (bz 18 1023) rfl rfl (any_of HT_.out (by kernel_rfl)) (fun _ _ _ h => h) (Or.inr ⟨by rfl, rfl⟩) ?_ ?_
          rotate_left
          ·simp only [Act.put, List.setIfInBounds_toArray, List.set_cons_zero, List.set_cons_succ, i64_w, i32_w]
           rfl
          refine pure_ (i := 10) (N := some 27) (v := undef) (a' := ?_) (bz 18 2047) rfl rfl (any_of HT_.out (by kernel_rfl)) (fun _ _ _ h => h) (Or.inr ⟨by rfl, rfl⟩) ?_ ?_
          rotate_left
          ·simp only [Act.put, List.setIfInBounds_toArray, List.set_cons_zero, List.set_cons_succ, i64_w, i32_w]
           rfl
          refine pure_ (i := 11) (N := some 28) (v := undef) (a' := ?_) (bz 18 4095) rfl rfl (any_of HT_.out (by kernel_rfl)) (fun _ _ _ h => h) (Or.inr ⟨by rfl, rfl⟩) ?_ ?_
          rotate_left
          ·simp only [Act.put, List.setIfInBounds_toArray, List.set_cons_zero, List.set_cons_succ, i64_w, i32_w]
           rfl
          refine pure_ (i := 12) (N := some 29) (v := undef) (a' := ?_) (bz 18 8191) rfl rfl (any_of HT_.out (by kernel_rfl)) (fun _ _ _ h => h) (Or.inr ⟨by rfl, rfl⟩) ?_ ?_
          rotate_left
          ·simp only [Act.put, List.setIfInBounds_toArray, List.set_cons_zero, List.set_cons_succ, i64_w, i32_w]
           rfl
          refine pure_ (i := 13) (N := some 30) (v := undef) (a' := ?_) (bz 18 16383) rfl rfl (any_of HT_.out (by kernel_rfl)) (fun _ _ _ h => h) (Or.inr ⟨by rfl, rfl⟩) ?_ ?_
          rotate_left
          ·simp only [Act.put, List.setIfInBounds_toArray, List.set_cons_zero, List.set_cons_succ, i64_w, i32_w]
           rfl
          refine pure_ (i := 14) (N := some 31) (v := undef) (a' := ?_) (bz 18 32767) rfl rfl (any_of HT_.out (by kernel_rfl)) (fun _ _ _ h => h) (Or.inr ⟨by rfl, rfl⟩) ?_ ?_
          rotate_left
          ·simp only [Act.put, List.setIfInBounds_toArray, List.set_cons_zero, List.set_cons_succ, i64_w, i32_w]
           rfl
          refine pure_ (i := 15) (N := some 32) (v := undef) (a' := ?_) (bz 18 65535) rfl rfl (any_of HT_.out (by kernel_rfl)) (fun _ _ _ h => h) (Or.inr ⟨by rfl, rfl⟩) ?_ ?_
          rotate_left
          ·simp only [Act.put, List.setIfInBounds_toArray, List.set_cons_zero, List.set_cons_succ, i64_w, i32_w]
           rfl
          refine pure_ (i := 16) (N := some 33) (v := ?_) (a' := ?_) (bz 18 131071) rfl rfl (any_of HT_.out (by kernel_rfl)) (fun _ _ _ h => h) (Or.inl ⟨by rfl, ?_⟩) ?_ ?_
          rotate_left
          ·intro w'
           go_simp
           with_reducible rfl
          rotate_left
          ·simp only [Act.put, List.setIfInBounds_toArray, List.set_cons_zero, List.set_cons_succ, i64_w, i32_w]
           rfl
          refine pure_ (i := 17) (N := some 34) (v := ?_) (a' := ?_) (bz 18 262143) rfl rfl (any_of HT_.out (by kernel_rfl)) (fun _ _ _ h => h) (Or.inl ⟨by rfl, ?_⟩) ?_ ?_
          rotate_left
          ·intro w'
           go_simp
           with_reducible rfl
          rotate_left
          ·simp only [Act.put, List.setIfInBounds_toArray, List.set_cons_zero, List.set_cons_succ, i64_w, i32_w]
           rfl
          refine done_ (done_of HT_.out (by kernel_rfl)) ?_
          try go_wp2
          go_meet
          case rel => exact ⟨_, (false), (by first | rfl | (simp; done) | (simp [*]; done)), H', ⟨by have := HK1.out; first | omega | exact Nat.le_refl _⟩, ⟨by (with_reducible repeat (first | refine blk_drewN ?_ _ | refine blk_drew ?_ | refine blk_alloc ?_ _)); exact BK444.out⟩, ⟨by (with_reducible repeat (first | refine blk_drewN ?_ _ | refine blk_drew ?_ | refine blk_alloc ?_ _)); exact BK446.out⟩, ⟨by repeat (first | (with_reducible first | exact HB.out | apply below_alloc | apply pw_below_drewN | apply below_drew1 | refine below_set ?_ GE444.out | refine below_set ?_ GE446.out) | exact HB.out)⟩⟩
        ·replace c15 := Bool.eq_false_iff.mpr c15
         subst c15
         have H1 : (impl_SheetValid.j1 k1 l0_0 (l0_0.length : Int) x12_1 true l0_0) = some r := by rw [if_neg (show ¬ (false = true) by decide)] at H; exact H
         clear H
         have H := H1
         clear H1
         have H' := Aside0.mk H
         clear H
         try go_wp2
         have n0_ : Aside0 ((((w11.setCell ⟨gb446, 0, none⟩ (.string ((rd_T62 l0_0 x12_1).f0))).setCell ⟨gb446, 1, none⟩ (.string ((rd_T62 l0_0 x12_1).f1))).setCell ⟨gb446, 2, none⟩ (.slice A445_2 ((rd_T62 l0_0 x12_1).f2).length c445_2)).heap[gb444]? = some (.cells #[.slice (some ad445) l0_0.length c0_0] 47 (0, 0))) := ⟨by (with_reducible repeat (first | refine blk_drewN ?_ _ | refine blk_drew ?_ | refine blk_alloc ?_ _)); refine blk_far ?_ NB444_446.out _; (with_reducible repeat (first | refine blk_drewN ?_ _ | refine blk_drew ?_ | refine blk_alloc ?_ _)); refine blk_far ?_ NB444_446.out _; (with_reducible repeat (first | refine blk_drewN ?_ _ | refine blk_drew ?_ | refine blk_alloc ?_ _)); refine blk_far ?_ NB444_446.out _; (with_reducible repeat (first | refine blk_drewN ?_ _ | refine blk_drew ?_ | refine blk_alloc ?_ _)); exact BK444.out⟩
         have n1_ : Aside0 ((((w11.setCell ⟨gb446, 0, none⟩ (.string ((rd_T62 l0_0 x12_1).f0))).setCell ⟨gb446, 1, none⟩ (.string ((rd_T62 l0_0 x12_1).f1))).setCell ⟨gb446, 2, none⟩ (.slice A445_2 ((rd_T62 l0_0 x12_1).f2).length c445_2)).heap[gb446]? = some (.cells #[.string ((rd_T62 l0_0 x12_1).f0), .string ((rd_T62 l0_0 x12_1).f1), .slice A445_2 ((rd_T62 l0_0 x12_1).f2).length c445_2] 62 (0, 0))) := ⟨by (with_reducible repeat (first | refine blk_drewN ?_ _ | refine blk_drew ?_ | refine blk_alloc ?_ _)); refine blk_put (cs := #[.string ((rd_T62 l0_0 x12_1).f0), .string ((rd_T62 l0_0 x12_1).f1), .slice none 0 0]) ?_ 2 _ rfl; (with_reducible repeat (first | refine blk_drewN ?_ _ | refine blk_drew ?_ | refine blk_alloc ?_ _)); refine blk_put (cs := #[.string ((rd_T62 l0_0 x12_1).f0), .string (⟨#[]⟩ : ByteArray), .slice none 0 0]) ?_ 1 _ rfl; (with_reducible repeat (first | refine blk_drewN ?_ _ | refine blk_drew ?_ | refine blk_alloc ?_ _)); refine blk_put (cs := #[.string (⟨#[]⟩ : ByteArray), .string (⟨#[]⟩ : ByteArray), .slice none 0 0]) ?_ 0 _ rfl; (with_reducible repeat (first | refine blk_drewN ?_ _ | refine blk_drew ?_ | refine blk_alloc ?_ _)); exact BK446.out⟩
         have n2_ : Aside0 (Below w.heap.size w (((w11.setCell ⟨gb446, 0, none⟩ (.string ((rd_T62 l0_0 x12_1).f0))).setCell ⟨gb446, 1, none⟩ (.string ((rd_T62 l0_0 x12_1).f1))).setCell ⟨gb446, 2, none⟩ (.slice A445_2 ((rd_T62 l0_0 x12_1).f2).length c445_2))) := ⟨by repeat (first | (with_reducible first | exact HB.out | apply below_alloc | apply pw_below_drewN | apply below_drew1 | refine below_set ?_ GE444.out | refine below_set ?_ GE446.out) | exact HB.out)⟩
         (try clear BK444)
         (try clear BK446)
         (try clear HB)
         generalize (((w11.setCell ⟨gb446, 0, none⟩ (.string ((rd_T62 l0_0 x12_1).f0))).setCell ⟨gb446, 1, none⟩ (.string ((rd_T62 l0_0 x12_1).f1))).setCell ⟨gb446, 2, none⟩ (.slice A445_2 ((rd_T62 l0_0 x12_1).f2).length c445_2)) = w28 at n0_ n1_ n2_ ⊢
         have BK444 := n0_
         have BK446 := n1_
         have HB := n2_
         clear n0_ n1_ n2_
         have n0_ := Aside0.mk (blk_drew BK444.out)
         have n1_ := Aside0.mk (blk_drew BK446.out)
         have n2_ := Aside0.mk (below_drew1 HB.out)
         clear BK444
         clear BK446
         clear HB
         have BK444 := n0_
         have BK446 := n1_
         have HB := n2_
         clear n0_ n1_ n2_
         refine start_ (n := 18) (S := fun w' => w'.cell? ⟨gb446, 0, none⟩ = some (.string ((rd_T62 l0_0 x12_1).f0)) ∧ w'.cell? ⟨gb446, 1, none⟩ = some (.string ((rd_T62 l0_0 x12_1).f1)) ∧ w'.cell? ⟨gb446, 2, none⟩ = some (.slice A445_2 ((rd_T62 l0_0 x12_1).f2).length c445_2)) (ds := []) (bz 18 0) (by kernel_rfl) rfl rfl ⟨(blk_cell BK446.out 0).trans rfl, (blk_cell BK446.out 1).trans rfl, (blk_cell BK446.out 2).trans rfl⟩ (fun hHeld => ?_); refine with_tabW impl_SheetValid.tab6 impl_SheetValid.bits6 (fun HT_ HW_ => ?_)
         generalize w28.drew = w29 at BK444 BK446 HB hHeld ⊢
         refine take_ (i := 0) (N := some 17) (v := ?_) (a' := ?_) (bz 18 1) rfl rfl (take_ofW HT_.out HW_.out (by kernel_rfl)) (fun _ _ _ h => h) (Or.inl ⟨by rfl, ?_⟩) hHeld ?_ ?_
         rotate_left
         ·rintro w' ⟨s0, s1, s2⟩
          go_simp
          with_reducible rfl
         rotate_left
         ·simp only [Act.put, List.setIfInBounds_toArray, List.set_cons_zero, List.set_cons_succ, i64_w, i32_w]
          rfl
         refine one_ (i := 1) (N := some 18) (bz 18 3) rfl rfl (one_of HT_.out (by kernel_rfl)) (by decide) (fun K hK => ?_)
         refine goes_ Tryd.func75 (by kernel_rfl) rfl #[.agg #[.string ((rd_T62 l0_0 x12_1).f0), .string ((rd_T62 l0_0 x12_1).f1), .slice A445_2 ((rd_T62 l0_0 x12_1).f2).length c445_2]] (by rfl) rfl rfl (by (try simp only [List.map_toArray, List.map_cons, List.map_nil]); first | done | rfl | (simp only [List.length_drop, List.length_take]; rfl)) ?_
         with_reducible refine (impl_blockOk.calls ((rd_T62 l0_0 x12_1).f0) ((rd_T62 l0_0 x12_1).f1) _ _ ((rd_T62 l0_0 x12_1).f2) false _ ?side1 ?side2 A14.out).mono ?_
         (case side1 => repeat (first | exact (Kd.C_below HR445_2.out HB.out) | (with_reducible refine Kd.C_alloc ?_ _) | (with_reducible refine Kd.C_drewN ?_ _) | (with_reducible refine Kd.C_drew ?_)))
         (case side2 => exact HC445_2.out)
         rintro e w30 ⟨rfl, hb⟩
         refine ⟨_, rfl, ?_⟩
         have n0_ := Aside0.mk (blk_below (g := gb444) (o := .cells #[.slice (some ad445) l0_0.length c0_0] 47 (0, 0)) (by (with_reducible repeat (first | refine blk_drewN ?_ _ | refine blk_drew ?_ | refine blk_alloc ?_ _)); exact BK444.out) hb)
         have n1_ := Aside0.mk (blk_below (g := gb446) (o := .cells #[.string ((rd_T62 l0_0 x12_1).f0), .string ((rd_T62 l0_0 x12_1).f1), .slice A445_2 ((rd_T62 l0_0 x12_1).f2).length c445_2] 62 (0, 0)) (by (with_reducible repeat (first | refine blk_drewN ?_ _ | refine blk_drew ?_ | refine blk_alloc ?_ _)); exact BK446.out) hb)
         have n2_ := Aside0.mk (below_step (by repeat (first | (with_reducible first | exact HB.out | apply below_alloc | apply pw_below_drewN | apply below_drew1 | refine below_set ?_ GE444.out | refine below_set ?_ GE446.out) | exact HB.out)) hb)
         clear BK444
         clear BK446
         clear HB
         have BK444 := n0_
         have BK446 := n1_
         have HB := n2_
         clear n0_ n1_ n2_
         (try clear hb)
         (try clear hb2)
         (try clear hk)
         (try clear hi)
         refine hK.out _ _ ⟨(blk_cell BK446.out 0).trans rfl, (blk_cell BK446.out 1).trans rfl, (blk_cell BK446.out 2).trans rfl⟩ (fun hHeld => ?_)
         clear hK K
         refine norm_ (a' := ?_) ?_ ?_
         rotate_left
         ·show Act.put _ (some 18) _ = _
          simp only [Act.put, List.setIfInBounds_toArray, List.set_cons_zero, List.set_cons_succ, i64_w, i32_w]
          rfl
         refine pure_ (i := 2) (N := some 19) (v := ?_) (a' := ?_) (bz 18 7) rfl rfl (any_of HT_.out (by kernel_rfl)) (fun _ _ _ h => h) (Or.inl ⟨by rfl, ?_⟩) ?_ ?_
         rotate_left
         ·intro w'
          go_simp
          with_reducible rfl
         rotate_left
         ·simp only [Act.put, List.setIfInBounds_toArray, List.set_cons_zero, List.set_cons_succ, i64_w, i32_w]
          rfl
         refine pure_ (i := 3) (N := some 20) (v := ?_) (a' := ?_) (bz 18 15) rfl rfl (any_of HT_.out (by kernel_rfl)) (fun _ _ _ h => h) (Or.inl ⟨by rfl, ?_⟩) ?_ ?_
         rotate_left
         ·intro w'
          go_simp
          with_reducible rfl
         rotate_left
         ·simp only [Act.put, List.setIfInBounds_toArray, List.set_cons_zero, List.set_cons_succ, i64_w, i32_w]
          rfl
         refine pure_ (i := 4) (N := some 21) (v := undef) (a' := ?_) (bz 18 31) rfl rfl (any_of HT_.out (by kernel_rfl)) (fun _ _ _ h => h) (Or.inr ⟨by rfl, rfl⟩) ?_ ?_
         rotate_left
         ·simp only [Act.put, List.setIfInBounds_toArray, List.set_cons_zero, List.set_cons_succ, i64_w, i32_w]
          rfl
         refine pure_ (i := 5) (N := some 22) (v := undef) (a' := ?_) (bz 18 63) rfl rfl (any_of HT_.out (by kernel_rfl)) (fun _ _ _ h => h) (Or.inr ⟨by rfl, rfl⟩) ?_ ?_
         rotate_left
         ·simp only [Act.put, List.setIfInBounds_toArray, List.set_cons_zero, List.set_cons_succ, i64_w, i32_w]
          rfl
         refine pure_ (i := 6) (N := some 23) (v := undef) (a' := ?_) (bz 18 127) rfl rfl (any_of HT_.out (by kernel_rfl)) (fun _ _ _ h => h) (Or.inr ⟨by rfl, rfl⟩) ?_ ?_
         rotate_left
         ·simp only [Act.put, List.setIfInBounds_toArray, List.set_cons_zero, List.set_cons_succ, i64_w, i32_w]
          rfl
         refine pure_ (i := 7) (N := some 24) (v := undef) (a' := ?_) (bz 18 255) rfl rfl (any_of HT_.out (by kernel_rfl)) (fun _ _ _ h => h) (Or.inr ⟨by rfl, rfl⟩) ?_ ?_
         rotate_left
         ·simp only [Act.put, List.setIfInBounds_toArray, List.set_cons_zero, List.set_cons_succ, i64_w, i32_w]
          rfl
         refine pure_ (i := 8) (N := some 25) (v := undef) (a' := ?_) (bz 18 511) rfl rfl (any_of HT_.out (by kernel_rfl)) (fun _ _ _ h => h) (Or.inr ⟨by rfl, rfl⟩) ?_ ?_
         rotate_left
         ·simp only [Act.put, List.setIfInBounds_toArray, List.set_cons_zero, List.set_cons_succ, i64_w, i32_w]
          rfl
         refine pure_ (i := 9) (N := some 26) (v := undef) (a' := ?_) (bz 18 1023) rfl rfl (any_of HT_.out (by kernel_rfl)) (fun _ _ _ h => h) (Or.inr ⟨by rfl, rfl⟩) ?_ ?_
         rotate_left
         ·simp only [Act.put, List.setIfInBounds_toArray, List.set_cons_zero, List.set_cons_succ, i64_w, i32_w]
          rfl
         refine pure_ (i := 10) (N := some 27) (v := undef) (a' := ?_) (bz 18 2047) rfl rfl (any_of HT_.out (by kernel_rfl)) (fun _ _ _ h => h) (Or.inr ⟨by rfl, rfl⟩) ?_ ?_
         rotate_left
         ·simp only [Act.put, List.setIfInBounds_toArray, List.set_cons_zero, List.set_cons_succ, i64_w, i32_w]
          rfl
         refine pure_ (i := 11) (N := some 28) (v := undef) (a' := ?_) (bz 18 4095) rfl rfl (any_of HT_.out (by kernel_rfl)) (fun _ _ _ h => h) (Or.inr ⟨by rfl, rfl⟩) ?_ ?_
         rotate_left
         ·simp only [Act.put, List.setIfInBounds_toArray, List.set_cons_zero, List.set_cons_succ, i64_w, i32_w]
          rfl
         refine pure_ (i := 12) (N := some 29) (v := undef) (a' := ?_) (bz 18 8191) rfl rfl (any_of HT_.out (by kernel_rfl)) (fun _ _ _ h => h) (Or.inr ⟨by rfl, rfl⟩) ?_ ?_
         rotate_left
         ·simp only [Act.put, List.setIfInBounds_toArray, List.set_cons_zero, List.set_cons_succ, i64_w, i32_w]
          rfl
         refine pure_ (i := 13) (N := some 30) (v := undef) (a' := ?_) (bz 18 16383) rfl rfl (any_of HT_.out (by kernel_rfl)) (fun _ _ _ h => h) (Or.inr ⟨by rfl, rfl⟩) ?_ ?_
         rotate_left
         ·simp only [Act.put, List.setIfInBounds_toArray, List.set_cons_zero, List.set_cons_succ, i64_w, i32_w]
          rfl
         refine pure_ (i := 14) (N := some 31) (v := undef) (a' := ?_) (bz 18 32767) rfl rfl (any_of HT_.out (by kernel_rfl)) (fun _ _ _ h => h) (Or.inr ⟨by rfl, rfl⟩) ?_ ?_
         rotate_left
         ·simp only [Act.put, List.setIfInBounds_toArray, List.set_cons_zero, List.set_cons_succ, i64_w, i32_w]
          rfl
         refine pure_ (i := 15) (N := some 32) (v := undef) (a' := ?_) (bz 18 65535) rfl rfl (any_of HT_.out (by kernel_rfl)) (fun _ _ _ h => h) (Or.inr ⟨by rfl, rfl⟩) ?_ ?_
         rotate_left
         ·simp only [Act.put, List.setIfInBounds_toArray, List.set_cons_zero, List.set_cons_succ, i64_w, i32_w]
          rfl
         refine pure_ (i := 16) (N := some 33) (v := undef) (a' := ?_) (bz 18 131071) rfl rfl (any_of HT_.out (by kernel_rfl)) (fun _ _ _ h => h) (Or.inr ⟨by rfl, rfl⟩) ?_ ?_
         rotate_left
         ·simp only [Act.put, List.setIfInBounds_toArray, List.set_cons_zero, List.set_cons_succ, i64_w, i32_w]
          rfl
         refine pure_ (i := 17) (N := some 34) (v := ?_) (a' := ?_) (bz 18 262143) rfl rfl (any_of HT_.out (by kernel_rfl)) (fun _ _ _ h => h) (Or.inl ⟨by rfl, ?_⟩) ?_ ?_
         rotate_left
         ·intro w'
          go_simp
          with_reducible rfl
         rotate_left
         ·simp only [Act.put, List.setIfInBounds_toArray, List.set_cons_zero, List.set_cons_succ, i64_w, i32_w]
          rfl
         refine done_ (done_of HT_.out (by kernel_rfl)) ?_
         try go_wp2
         go_meet
         case rel => exact ⟨_, (true), (by first | rfl | (simp; done) | (simp [*]; done)), H', ⟨by have := HK1.out; first | omega | exact Nat.le_refl _⟩, ⟨by (with_reducible repeat (first | refine blk_drewN ?_ _ | refine blk_drew ?_ | refine blk_alloc ?_ _)); exact BK444.out⟩, ⟨by (with_reducible repeat (first | refine blk_drewN ?_ _ | refine blk_drew ?_ | refine blk_alloc ?_ _)); exact BK446.out⟩, ⟨by repeat (first | (with_reducible first | exact HB.out | apply below_alloc | apply pw_below_drewN | apply below_drew1 | refine below_set ?_ GE444.out | refine below_set ?_ GE446.out) | exact HB.out)⟩⟩
       case rest =>
        clear HC10
        try clear c1
        try clear p2
        try clear c4
        try clear p4
        try clear q4
        try clear hx4
        try clear p6
        try clear c7
        try clear c12
        try clear c15
        try clear c16
        try clear c16b0
        try clear c18
        try clear c18b0
        try clear c19
        try clear c19b0
        try clear hcz13_0
        try clear hcz13_1
        try clear hcz13_2
        try clear hfz13_0
        try clear hfz13_1
        try clear hfz13_2
        try clear hx445_0
        try clear hx445_1
        try clear hx445_2
        try clear hx448_0
        try clear hx448_1
        try clear hx448_2
        try clear p445
        try clear p448
        try clear q445
        try clear q448
        obtain ⟨kq, x34_9, rfl, HA, HJ9, BK444, BK446, HB⟩ := hcut
        cases kq with
        | zero => exact absurd HA.out (by simp [impl_SheetValid.j1])
        | succ kj9 =>
         have H := HA.out
         clear HA
         simp only [impl_SheetValid.j1] at H
         by_cases c31 : x34_9 = true
         ·subst c31
          have H1 : (some false) = some r := by rw [if_pos rfl] at H; exact H
          clear H
          have H := H1
          clear H1
          obtain rfl := Option.some.inj H
          go_wp2
          go_ret
          exact ⟨by first | rfl | (simp [errW_none, errW_some] <;> rfl) | (simp [*, errW_none, errW_some] <;> rfl), by repeat (first | (with_reducible first | exact HB.out | apply below_alloc | apply pw_below_drewN | apply below_drew1 | refine below_set ?_ GE444.out | refine below_set ?_ GE446.out) | exact HB.out)⟩
         ·replace c31 := Bool.eq_false_iff.mpr c31
          subst c31
          have H1 : (impl_SheetValid.l0 kj9 l0_0 (l0_0.length : Int) (wrap64 (x12_1 + 1)) l0_0) = some r := by rw [if_neg (show ¬ (false = true) by decide)] at H; exact H
          clear H
          have H := H1
          clear H1
          have H' := Aside0.mk H
          clear H
          go_wp2
          go_roundg kj9
          case measure => have := HK1.out; have := HJ9.out; omega
          case rel => exact ⟨(wrap64 (x12_1 + 1)), (by first | rfl | (simp; done) | (simp [*]; done)), H', ⟨by have := HK1.out; have := HJ9.out; omega⟩, ⟨by (with_reducible repeat (first | refine blk_drewN ?_ _ | refine blk_drew ?_ | refine blk_alloc ?_ _)); exact BK444.out⟩, ⟨by repeat (first | (with_reducible first | exact HB.out | apply below_alloc | apply pw_below_drewN | apply below_drew1 | refine below_set ?_ GE444.out | refine below_set ?_ GE446.out) | exact HB.out)⟩⟩
      ·rw [if_neg c9] at H
       exact absurd H (by simp)
     ·rw [if_neg c8] at H
      exact absurd H (by simp)
    ·rw [if_neg c7] at H
     have c7b0 : decide (x12_1 < (l0_0.length : Int)) = false := decide_eq_false c7
     clear c7
     obtain rfl := Option.some.inj H
     go_wp2
     go_ret
     exact ⟨by first | rfl | (simp [errW_none, errW_some] <;> rfl) | (simp [*, errW_none, errW_some] <;> rfl), by repeat (first | (with_reducible first | exact HB.out | apply below_alloc | apply pw_below_drewN | apply below_drew1 | refine below_set ?_ GE444.out) | exact HB.out)⟩
end Go.Proofs.YtmcdnpooclelgaaDoor.PAll

namespace Go.Proofs.YtmcdnpooclelgaaDoor.PAll
open Go.RowKit Go.Proofs.YtmcdnpooclelgaaDoorW.PrintWords
theorem rdLine {ls : List S83} {i : Nat} (h : i < ls.length) : rd_T83 ls (i : Int) = ls[i] := by unfold rd_T83; rw [List.getD_eq_getElem?_getD, Int.toNat_natCast, List.getElem?_eq_getElem h]; rfl
theorem many_at (kind key : ByteArray) (ws : List ByteArray) (h : fitsL kind key ws = true) : 0 ≤ placeL kind key ∧ placeL kind key < ((rulesL kind).length : Int) ∧ (rd_T36 (rulesL kind) (placeL kind key)).f2 = manyL kind key := by
  unfold fitsL at h
  unfold placeL manyL
  cases hk : lookL kind key with
  | none => rw [hk] at h; cases h
  | some p =>
    obtain ⟨r, i⟩ := p
    obtain ⟨_, _, _, h4⟩ := lookFrom_mem key _ _ _ _ hk
    rw [Nat.sub_zero] at h4
    have h5 := (List.getElem?_eq_some_iff.1 h4).1
    simp only
    refine ⟨by omega, by omega, ?_⟩
    unfold rd_T36
    rw [List.getD_eq_getElem?_getD, Int.toNat_natCast, h4]
    rfl
theorem lines_l1 (kind : ByteArray) (ls : List S83) (hn : ls.length ≤ 1099511627776) (i : Nat) (hi : i < ls.length) (many b : Bool) (key : ByteArray) (hkey : ls[i].f0 = key) (ih : Ev (fun k => spec_l3LinesOk.l0 k kind ls ((i + 1 : Nat) : Int)) b) :
    ∀ (d m : Nat), m + d = i + 1 → Ev (fun k => spec_l3LinesOk.l1 k kind ls i many ((cntKey key (ls.take m) : Nat) : Int) (m : Int)) (!((!many && decide (1 < cntKey key (ls.take (i + 1)))) || decide (10 < cntKey key (ls.take (i + 1)))) && b)
  | 0, m, h => by
    obtain rfl : m = i + 1 := by omega
    generalize cntKey key (ls.take (i + 1)) = c
    refine Ev.unf (fun k => if many = true then (if (c : Int) > 10 then some false else spec_l3LinesOk.l0 k kind ls ((i + 1 : Nat) : Int)) else (if (c : Int) > 1 then some false else if (c : Int) > 10 then some false else spec_l3LinesOk.l0 k kind ls ((i + 1 : Nat) : Int))) (fun k => ?_) ?_
    · simp only [spec_l3LinesOk.l1]
      rw [if_neg (by omega), inc (by omega)]
    · by_cases q : (c : Int) > 10
      · rw [decide_eq_true (show 10 < c by omega), Bool.or_true]
        by_cases q1 : (c : Int) > 1
        · cases many <;> simp only [if_pos q, if_pos q1, Bool.false_eq_true, if_false, if_true] <;> exact Ev.now _
        · omega
      · rw [decide_eq_false (show ¬ 10 < c by omega), Bool.or_false]
        cases many
        · by_cases q1 : (c : Int) > 1
          · rw [decide_eq_true (show 1 < c by omega)]
            simp only [if_pos q1, Bool.false_eq_true, if_false]; exact Ev.now _
          · rw [decide_eq_false (show ¬ 1 < c by omega)]
            simp only [if_neg q, if_neg q1, Bool.false_eq_true, if_false]; exact ih
        · simp only [if_neg q, if_true]; exact ih
  | d + 1, m, h => by
    have hm : m < ls.length := by omega
    have ihd := lines_l1 kind ls hn i hi many b key hkey ih d (m + 1) (by omega)
    have hc := cntKey_le key (ls.take m)
    have hc2 : (ls.take m).length = m := by rw [List.length_take]; omega
    have hs : cntKey key (ls.take (m + 1)) = cntKey key (ls.take m) + (if ls[m].f0 = key then 1 else 0) := by
      rw [List.take_add_one, List.getElem?_eq_getElem hm]; exact cntKey_snoc key _ _
    refine Ev.unf (fun k => spec_l3LinesOk.l1 k kind ls i many ((cntKey key (ls.take (m + 1)) : Nat) : Int) ((m + 1 : Nat) : Int)) (fun k => ?_) ihd
    simp only [spec_l3LinesOk.l1]
    rw [if_pos (by omega), if_pos (by omega), if_pos (by omega), if_pos (by omega), if_pos (by omega), rdLine hm, rdLine hi, hkey]
    simp only [toList_iff]
    rw [inc (by omega), inc (by omega), hs]
    by_cases q : ls[m].f0 = key
    · rw [if_pos q, if_pos q]
    · rw [if_neg q, if_neg q]; rfl
theorem lines_l0 (kind : ByteArray) (ls : List S83) (hf : fitB ls) : ∀ (d i : Nat), i + d = ls.length → Ev (fun k => spec_l3LinesOk.l0 k kind ls i) (linesFrom kind (ls.take i) (ls.drop i))
  | 0, i, h => Ev.unf (fun _ => some true) (fun k => by simp only [spec_l3LinesOk.l0]; rw [if_neg (by omega)]) (by rw [List.drop_eq_nil_of_le (by omega)]; exact Ev.now _)
  | d + 1, i, h => by
    have hi : i < ls.length := by omega
    have hn := hf.1
    have ih := lines_l0 kind ls hf d (i + 1) (by omega)
    have hl := hf.2 _ (List.getElem_mem hi)
    have htk : ls.take i ++ [ls[i]] = ls.take (i + 1) := by rw [List.take_add_one, List.getElem?_eq_getElem hi]; rfl
    rw [List.drop_eq_getElem_cons hi, linesFrom, htk]
    have hfits : spec_SheetFits.f kind ls[i].f0 ls[i].f1 = some (fitsL kind ls[i].f0 ls[i].f1) := rfl
    have jt : Ev (fun k => spec_l3LinesOk.j1 k kind ls i true) false := Ev.unf (fun _ => some false) (fun k => by simp only [spec_l3LinesOk.j1, if_true]) (Ev.now _)
    cases hb : fitsL kind ls[i].f0 ls[i].f1 with
    | false =>
      refine Ev.unf (fun k => spec_l3LinesOk.j1 k kind ls i true) (fun k => ?_) jt
      simp only [spec_l3LinesOk.l0]
      rw [if_pos (by omega), if_pos (by omega), rdLine hi, hfits, hb]
      rfl
    | true =>
      rw [Bool.true_and]
      obtain ⟨p1, p2, p3⟩ := many_at kind ls[i].f0 ls[i].f1 hb
      have jf : Ev (fun k => spec_l3LinesOk.j1 k kind ls i false) (!tooMany kind ls[i].f0 (cntKey ls[i].f0 (ls.take (i + 1))) && linesFrom kind (ls.take (i + 1)) (ls.drop (i + 1))) := by
        have h1 := lines_l1 kind ls hn i hi (manyL kind ls[i].f0) _ _ rfl ih (i + 1) 0 (by omega)
        refine Ev.unf (fun k => (spec_l2Rule.f k kind ls[i].f0).bind fun t360 => if 0 ≤ t360 then (if t360 < ((rulesL kind).length : Int) then spec_l3LinesOk.l1 k kind ls i (rd_T36 (rulesL kind) t360).f2 0 0 else none) else none) (fun k => ?_) ?_
        · simp only [spec_l3LinesOk.j1, Bool.false_eq_true, if_false, spec_SheetRules.f, Option.bind_some]
          rw [if_pos (by omega), if_pos (by omega), rdLine hi]
        · refine Ev.bind (ev_l2Rule kind ls[i].f0) ?_
          simp only [if_pos p1, if_pos p2, p3]
          exact h1
      by_cases hz : i = 0
      · subst hz
        rw [List.take_zero, headOk_nil, Bool.true_and]
        refine Ev.unf (fun k => spec_l3LinesOk.j1 k kind ls ((0 : Nat) : Int) false) (fun k => ?_) jf
        simp only [spec_l3LinesOk.l0]
        rw [if_pos (by omega), if_pos (by omega), rdLine hi, hfits, hb]
        rfl
      · obtain ⟨j, rfl⟩ : ∃ j, i = j + 1 := ⟨i - 1, by omega⟩
        have hj : j < ls.length := by omega
        have ew : wrap64 (((j + 1 : Nat) : Int) - 1) = (j : Int) := by rw [w64 (by omega) (by omega)]; omega
        rw [headOk_take kind ls j ls[j] _ (List.getElem?_eq_getElem hj)]
        have hlj := hf.2 _ (List.getElem_mem hj)
        refine Ev.unf (fun k => (spec_l3LineLess.f k kind ls[j].f0 ls[j].f1 ls[j + 1].f0 ls[j + 1].f1).bind fun t355 => spec_l3LinesOk.j1 k kind ls ((j + 1 : Nat) : Int) (!t355)) (fun k => ?_) ?_
        · simp only [spec_l3LinesOk.l0]
          rw [if_pos (by omega), if_pos (by omega), rdLine hi, hfits, hb]
          simp only [Option.bind_some, if_true]
          rw [if_pos (by omega), ew, if_pos (by omega), if_pos (by omega), rdLine hj]
        · refine Ev.bind (ev_l3LineLess kind ls[j] ls[j + 1] hlj.2.1 hl.2.1) ?_
          cases lineLt kind ls[j] ls[j + 1]
          · exact jt
          · exact jf
theorem ev_l3LinesOk (kind : ByteArray) (ls : List S83) (hf : fitB ls) : Ev (fun k => spec_l3LinesOk.f k kind ls) (linesOkL kind ls) := by
  have h := lines_l0 kind ls hf ls.length 0 (by omega)
  unfold spec_l3LinesOk.f linesOkL
  exact h
def fitBB (bs : List S62) : Prop := ∀ b ∈ bs, b.f0.size ≤ 1099511627776 ∧ b.f1.size ≤ 1099511627776 ∧ fitB b.f2
def aheadL (a b : S62) : Bool := if ltB a.f0 b.f0 = true then true else if a.f0 = b.f0 then ltB a.f1 b.f1 else false
theorem rdBlock {ls : List S62} {i : Nat} (h : i < ls.length) : rd_T62 ls (i : Int) = ls[i] := by unfold rd_T62; rw [List.getD_eq_getElem?_getD, Int.toNat_natCast, List.getElem?_eq_getElem h]; rfl
end Go.Proofs.YtmcdnpooclelgaaDoor.PAll

namespace Go.Proofs.YtmcdnpooclelgaaDoor.PAll
open Go.RowKit Go.Proofs.YtmcdnpooclelgaaDoorW.PrintWords
theorem toList_data (a : ByteArray) : a.toList = a.data.toList := by
  rw [ByteArray.toList_eq]
theorem cmpBytes_zero : ∀ (x y : List UInt8), Lib.compareBytes x y = 0 ↔ x = y
  | [], [] => by simp [Lib.compareBytes]
  | [], _ :: _ => by simp [Lib.compareBytes]
  | _ :: _, [] => by simp [Lib.compareBytes]
  | a :: xs, b :: ys => by
    rw [Lib.compareBytes]
    by_cases h1 : a < b
    · rw [if_pos h1]
      refine ⟨fun h => by omega, fun h => ?_⟩
      injection h with h _
      subst h
      exact absurd h1 (UInt8.lt_irrefl _)
    · rw [if_neg h1]
      by_cases h2 : b < a
      · rw [if_pos h2]
        refine ⟨fun h => by omega, fun h => ?_⟩
        injection h with h _
        subst h
        exact absurd h2 (UInt8.lt_irrefl _)
      · rw [if_neg h2, cmpBytes_zero xs ys]
        have e : a = b := UInt8.le_antisymm (UInt8.not_lt.1 h2) (UInt8.not_lt.1 h1)
        subst e
        simp
theorem cmpBytes_lt : ∀ (x y : List UInt8), Lib.compareBytes x y < 0 ↔ Op.bytesLess x y = true
  | [], [] => by simp [Lib.compareBytes, Op.bytesLess]
  | [], _ :: _ => by simp [Lib.compareBytes, Op.bytesLess]
  | _ :: _, [] => by simp [Lib.compareBytes, Op.bytesLess]
  | a :: xs, b :: ys => by
    rw [Lib.compareBytes, Op.bytesLess]
    by_cases h1 : a < b
    · simp [h1]
    · by_cases h2 : b < a
      · simp [h1, h2]
        intro e
        subst e
        exact absurd h2 (UInt8.lt_irrefl _)
      · have e : a = b := UInt8.le_antisymm (UInt8.not_lt.1 h2) (UInt8.not_lt.1 h1)
        subst e
        simp [h1, cmpBytes_lt xs ys]
def cmpBl (a b : S62) : Int := if Lib.compareBytes a.f0.data.toList b.f0.data.toList = 0 then Lib.compareBytes a.f1.data.toList b.f1.data.toList else Lib.compareBytes a.f0.data.toList b.f0.data.toList
theorem compare_f (a b : S62) : impl_compare.f a.f0 a.f1 a.f2 b.f0 b.f1 b.f2 = some (cmpBl a b) := by
  unfold impl_compare.f strings_Compare.f cmpBl
  simp only [Option.bind_some]
  split <;> rfl
theorem data_iff {a b : ByteArray} : a.data.toList = b.data.toList ↔ a = b := by rw [← toList_data, ← toList_data]; exact toList_iff
theorem cmpBl_lt (a b : S62) : decide (cmpBl a b ≥ 0) = !aheadL a b := by
  unfold cmpBl aheadL ltB
  have h1 := cmpBytes_lt a.f0.data.toList b.f0.data.toList
  have h2 := cmpBytes_lt a.f1.data.toList b.f1.data.toList
  simp only [toList_data, cmpBytes_zero, data_iff]
  by_cases q : a.f0 = b.f0
  · rw [if_pos q, if_pos q, q, bytesLess_self, if_neg (by decide)]
    rw [Bool.eq_iff_iff]
    simp only [decide_eq_true_eq, Bool.not_eq_true', ← Bool.not_eq_true, ← h2]
    omega
  · rw [if_neg q, if_neg q, Bool.eq_iff_iff]
    simp only [decide_eq_true_eq, Bool.not_eq_true', ← Bool.not_eq_true]
    by_cases r : Op.bytesLess a.f0.data.toList b.f0.data.toList = true
    · simp only [if_pos r]
      have := h1.2 r
      simp
      omega
    · simp only [if_neg r]
      simp
      have := mt h1.1 r
      omega
theorem ahead_f (a b : S62) : spec_l3Ahead.f a.f0 a.f1 a.f2 b.f0 b.f1 b.f2 = some (aheadL a b) := by
  unfold spec_l3Ahead.f aheadL ltB
  simp only [toList_iff]
  split
  · rfl
  · split <;> rfl
def prevOk : Option S62 → S62 → Bool
  | none, _ => true
  | some a, b => aheadL a b
def blocksOk : Option S62 → List S62 → Bool
  | _, [] => true
  | p, b :: ys => blockOkL b.f0 b.f1 b.f2 && (prevOk p b && blocksOk (some b) ys)
def sheetOk (ys : List S62) : Bool := decide (ys.length ≤ 60) && blocksOk none ys
def prevAt (ys : List S62) (i : Nat) : Option S62 := if i = 0 then none else ys[i - 1]?
theorem prevAt_succ (ys : List S62) (i : Nat) (h : i < ys.length) : prevAt ys (i + 1) = some ys[i] := by
  unfold prevAt
  rw [if_neg (by omega), Nat.add_sub_cancel, List.getElem?_eq_getElem h]
theorem implValid_l0 (ys : List S62) (hf : fitBB ys) (hn : ys.length ≤ 1000) : ∀ (d i : Nat), i + d = ys.length → Ev (fun k => impl_SheetValid.l0 k ys ys.length i ys) (blocksOk (prevAt ys i) (ys.drop i))
  | 0, i, h => Ev.unf (fun _ => some true) (fun k => by simp only [impl_SheetValid.l0]; rw [if_neg (by omega)]) (by rw [List.drop_eq_nil_of_le (by omega), blocksOk]; exact Ev.now _)
  | d + 1, i, h => by
    have hi : i < ys.length := by omega
    have ih := implValid_l0 ys hf hn d (i + 1) (by omega)
    have hb := hf _ (List.getElem_mem hi)
    rw [prevAt_succ ys i hi] at ih
    rw [List.drop_eq_getElem_cons hi, blocksOk]
    have jt : Ev (fun k => impl_SheetValid.j1 k ys ys.length i true ys) false := Ev.unf (fun _ => some false) (fun k => by simp only [impl_SheetValid.j1, if_true]) (Ev.now _)
    have jf : Ev (fun k => impl_SheetValid.j1 k ys ys.length i false ys) (blocksOk (some ys[i]) (ys.drop (i + 1))) := Ev.unf (fun k => impl_SheetValid.l0 k ys ys.length ((i + 1 : Nat) : Int) ys) (fun k => by simp only [impl_SheetValid.j1, Bool.false_eq_true, if_false]; rw [inc (by omega)]) ih
    have hbf : impl_blockOk.f ys[i].f0 ys[i].f1 ys[i].f2 = some (blockOkL ys[i].f0 ys[i].f1 ys[i].f2) := by unfold impl_blockOk.f; rw [if_pos ⟨hb.2.1, hb.2.2⟩]
    cases hq : blockOkL ys[i].f0 ys[i].f1 ys[i].f2 with
    | false =>
      refine Ev.unf (fun k => impl_SheetValid.j1 k ys ys.length i true ys) (fun k => ?_) jt
      simp only [impl_SheetValid.l0]
      rw [if_pos (by omega), if_pos (by omega), if_pos (by omega), rdBlock hi, hbf, hq]
      rfl
    | true =>
      rw [Bool.true_and]
      by_cases hz : i = 0
      · subst hz
        refine Ev.unf (fun k => impl_SheetValid.j1 k ys ys.length ((0 : Nat) : Int) false ys) (fun k => ?_) jf
        simp only [impl_SheetValid.l0]
        rw [if_pos (by omega), if_pos (by omega), if_pos (by omega), rdBlock hi, hbf, hq]
        rfl
      · obtain ⟨j, rfl⟩ : ∃ j, i = j + 1 := ⟨i - 1, by omega⟩
        have hj : j < ys.length := by omega
        have ew : wrap64 (((j + 1 : Nat) : Int) - 1) = (j : Int) := by rw [w64 (by omega) (by omega)]; omega
        rw [prevAt_succ ys j hj, prevOk]
        refine Ev.unf (fun k => impl_SheetValid.j1 k ys ys.length ((j + 1 : Nat) : Int) (!aheadL ys[j] ys[j + 1]) ys) (fun k => ?_) ?_
        · simp only [impl_SheetValid.l0]
          rw [if_pos (by omega), if_pos (by omega), if_pos (by omega), rdBlock hi, hbf, hq]
          simp only [Option.bind_some, if_true]
          rw [if_pos (by omega), ew, if_pos (by omega), if_pos (by omega), rdBlock hj, compare_f]
          simp only [Option.bind_some, cmpBl_lt]
        · cases aheadL ys[j] ys[j + 1]
          · exact jt
          · exact jf
theorem ev_implValid (ys : List S62) (hf : fitBB ys) : Ev (fun k => impl_SheetValid.f k ys) (sheetOk ys) := by
  unfold impl_SheetValid.f sheetOk
  by_cases q : (ys.length : Int) > 60
  · simp only [if_pos q]; rw [decide_eq_false (by omega)]; exact Ev.now _
  · simp only [if_neg q]; rw [decide_eq_true (by omega), Bool.true_and]
    exact implValid_l0 ys hf (by omega) ys.length 0 (by omega)
end Go.Proofs.YtmcdnpooclelgaaDoor.PAll

namespace Go.Proofs.YtmcdnpooclelgaaDoor.PAll
open Go.RowKit Go.Proofs.YtmcdnpooclelgaaDoorW.PrintWords
theorem isEmpty_len {α : Type} (l : List α) : l.isEmpty = decide ((l.length : Int) = 0) := by
  cases l with
  | nil => rfl
  | cons a t => exact (decide_eq_false (by rw [List.length_cons]; omega)).symm
theorem specValid_l0 (ys : List S62) (hf : fitBB ys) (hn : ys.length ≤ 1000) : ∀ (d i : Nat), i + d = ys.length → Ev (fun k => spec_SheetValid.l0 k i ys) (blocksOk (prevAt ys i) (ys.drop i))
  | 0, i, h => Ev.unf (fun _ => some true) (fun k => by simp only [spec_SheetValid.l0]; rw [if_neg (by omega)]) (by rw [List.drop_eq_nil_of_le (by omega), blocksOk]; exact Ev.now _)
  | d + 1, i, h => by
    have hi : i < ys.length := by omega
    have ih := specValid_l0 ys hf hn d (i + 1) (by omega)
    have hb := hf _ (List.getElem_mem hi)
    rw [prevAt_succ ys i hi] at ih
    rw [List.drop_eq_getElem_cons hi, blocksOk]
    have jt : Ev (fun k => spec_SheetValid.j1 k i true ys) false := Ev.unf (fun _ => some false) (fun k => by simp only [spec_SheetValid.j1, if_true]) (Ev.now _)
    have jf : Ev (fun k => spec_SheetValid.j1 k i false ys) (blocksOk (some ys[i]) (ys.drop (i + 1))) := Ev.unf (fun k => spec_SheetValid.l0 k ((i + 1 : Nat) : Int) ys) (fun k => by simp only [spec_SheetValid.j1, Bool.false_eq_true, if_false]; rw [inc (by omega)]) ih
    unfold blockOkL
    rw [isEmpty_len]
    by_cases q0 : (((rulesL ys[i].f0).length : Int) = 0)
    · rw [decide_eq_true q0]
      refine Ev.unf (fun k => spec_SheetValid.j1 k i true ys) (fun k => ?_) jt
      simp only [spec_SheetValid.l0]
      rw [if_pos (by omega), if_pos (by omega), rdBlock hi]
      simp only [spec_SheetRules.f, Option.bind_some, if_pos q0]
    · rw [decide_eq_false q0]
      refine Ev.unf (fun k => (spec_l2NameOk.f k ys[i].f1).bind fun t372 => if t372 = true then (spec_l3LinesOk.f k ys[i].f0 ys[i].f2).bind fun t373 => (if t373 = true then (if (i : Int) > 0 then (if 0 ≤ wrap64 ((i : Int) - 1) then (if wrap64 ((i : Int) - 1) < (ys.length : Int) then ((spec_l3Ahead.f (rd_T62 ys (wrap64 ((i : Int) - 1))).f0 (rd_T62 ys (wrap64 ((i : Int) - 1))).f1 (rd_T62 ys (wrap64 ((i : Int) - 1))).f2 ys[i].f0 ys[i].f1 ys[i].f2).bind fun t375 => spec_SheetValid.j1 k i (!t375) ys) else none) else none) else spec_SheetValid.j1 k i false ys) else spec_SheetValid.j1 k i true ys) else spec_SheetValid.j1 k i true ys) (fun k => ?_) ?_
      · simp only [spec_SheetValid.l0]
        rw [if_pos (by omega), if_pos (by omega), rdBlock hi]
        simp only [spec_SheetRules.f, Option.bind_some, if_neg q0]
      · refine Ev.bind (ev_l2NameOk ys[i].f1) ?_
        cases nameOk ys[i].f1 with
        | false => exact jt
        | true =>
          simp only [if_true]
          refine Ev.bind (ev_l3LinesOk ys[i].f0 ys[i].f2 hb.2.2) ?_
          cases linesOkL ys[i].f0 ys[i].f2 with
          | false => exact jt
          | true =>
            simp only [if_true]
            by_cases hz : i = 0
            · subst hz
              simp only [if_neg (show ¬ (((0 : Nat) : Int) > 0) by omega)]
              exact jf
            · obtain ⟨j, rfl⟩ : ∃ j, i = j + 1 := ⟨i - 1, by omega⟩
              have hj : j < ys.length := by omega
              have ew : wrap64 (((j + 1 : Nat) : Int) - 1) = (j : Int) := by rw [w64 (by omega) (by omega)]; omega
              rw [prevAt_succ ys j hj, prevOk]
              simp only [ew, rdBlock hj, ahead_f, Option.bind_some, if_pos (show ((j + 1 : Nat) : Int) > 0 by omega), if_pos (show (0 : Int) ≤ (j : Int) by omega), if_pos (show (j : Int) < (ys.length : Int) by omega)]
              cases aheadL ys[j] ys[j + 1]
              · exact jt
              · exact jf
theorem ev_specValid (ys : List S62) (hf : fitBB ys) : Ev (fun k => spec_SheetValid.f k ys) (sheetOk ys) := by
  unfold spec_SheetValid.f sheetOk
  by_cases q : (ys.length : Int) > 60
  · simp only [if_pos q]; rw [decide_eq_false (by omega)]; exact Ev.now _
  · simp only [if_neg q]; rw [decide_eq_true (by omega), Bool.true_and]
    exact specValid_l0 ys hf (by omega) ys.length 0 (by omega)
end Go.Proofs.YtmcdnpooclelgaaDoor.PAll

namespace Go.Proofs.YtmcdnpooclelgaaDoor.PAll
open Go.RowKit Go.Proofs.YtmcdnpooclelgaaDoorW.PrintWords Go.Proofs.YtmcdnpooclelgaaDoorW.PrintLast Go.Proofs.YtmcdnpooclelgaaDoorW.PrintMore
attribute [local go_sem] max2_int min2_int max_two min_two max_three min_three max_four min_four   -- for this text's walks alone
set_option linter.unusedVariables false
set_option linter.unusedSimpArgs false
def laws_szSheetLine.f (k : Nat) (a0_0 : ByteArray) (l0_1 : List ByteArray) (a1 : Int) : Option (Int) := if (wrap64 (a1 - (a0_0.size : Int))) < 0 then (some (-1)) else ((laws_szStringS.f k l0_1 (wrap64 (a1 - (a0_0.size : Int)))).bind fun t355 => (if t355 < 0 then (some (-1)) else (some t355)))
set_option maxHeartbeats 8000000 in
set_option maxRecDepth 100000 in
theorem laws_szSheetLine.calls (k : Nat) (a0_0 : ByteArray) (A0_1 : Option Addr) (c0_1 : Nat) (l0_1 : List ByteArray) (a1 : Int) (r : Int) (w : World) (hr0_1 : Kd.C Kd.string w A0_1 l0_1.length l0_1) (hc0_1 : l0_1.length ≤ c0_1) (h : laws_szSheetLine.f k a0_0 l0_1 a1 = some r) :
  Calls Tryd.prog 151 #[.agg #[.string a0_0, .slice A0_1 l0_1.length c0_1], .int .i64 a1] w fun e w' => e = .returned (.int .i64 r) ∧ Below w.heap.size w w' := by
 have hu155 := Tryd.underlying155
 have HR0_1 := Aside0.mk hr0_1
 have HC0_1 := Aside0.mk hc0_1
 clear hr0_1 hc0_1
 have HB := Aside0.mk (Below.refl w.heap.size w)
 have H : (if (wrap64 (a1 - (a0_0.size : Int))) < 0 then (some (-1)) else ((laws_szStringS.f k l0_1 (wrap64 (a1 - (a0_0.size : Int)))).bind fun t355 => (if t355 < 0 then (some (-1)) else (some t355)))) = some r := h
 clear h
 by_cases c3 : (wrap64 (a1 - (a0_0.size : Int))) < 0
 ·rw [if_pos c3] at H
  have c3b0 : decide ((wrap64 (a1 - (a0_0.size : Int))) < 0) = true := decide_eq_true c3
  clear c3
  obtain rfl := Option.some.inj H
  go_enter Tryd.func151, Tryd.ntmps151
  go_wp2_with (first | ((with_reducible refine gate_dst (N := 2) rfl ?_); refine box_event ?hg (N := 2) ?hd (cs := #[.string a0_0, .slice A0_1 l0_1.length c0_1]) (t := 155) ?hr ?_; (case hd => rfl); (case hg => rfl); (case hr => first | (go_simp; done) | (go_simp; rfl)); intro gb354 hg w4 hbox hb; have n0_ := Aside0.mk (below_step (stB HB.out) hb); have n1_ := Aside0.mk (hbox); have n2_ := Aside0.mk ((by rw [hg]; exact (below_size (stB HB.out)) : w.heap.size ≤ gb354)); have n3_ := Aside0.mk ((by rw [hg]; exact (below_size (stB HB.out)) : w.heap.size ≤ gb354)); clear HB; have HB := n0_; have BK354 := n1_; have GW354 := n2_; have GE354 := n3_; clear n0_ n1_ n2_ n3_; clear hb hbox hg; have hcz5_0 : w4.cell? ⟨gb354, 0, none⟩ = some (.string a0_0) := (blk_cell BK354.out 0).trans rfl; have hcz5_1 : w4.cell? ⟨gb354, 1, none⟩ = some (.slice A0_1 l0_1.length c0_1) := (blk_cell BK354.out 1).trans rfl; have hfz5_0 := blk_frozen BK354.out 0; have hfz5_1 := blk_frozen BK354.out 1))
  go_ret
  exact ⟨by first | rfl | (simp [errW_none, errW_some] <;> rfl) | (simp [*, errW_none, errW_some] <;> rfl), by repeat (first | (with_reducible first | exact HB.out | apply below_alloc | apply pw_below_drewN | apply below_drew1 | refine below_set ?_ GE354.out) | exact HB.out)⟩
 ·rw [if_neg c3] at H
  have c3b0 : decide ((wrap64 (a1 - (a0_0.size : Int))) < 0) = false := decide_eq_false c3
  clear c3
  replace H := Option.bind_eq_some_iff.mp H
  obtain ⟨t355, A60, H⟩ := H
  replace H : (if t355 < 0 then (some (-1)) else (some t355)) = some r := H
  have A6 := Aside0.mk A60
  clear A60
  by_cases c7 : t355 < 0
  ·rw [if_pos c7] at H
   have c7b0 : decide (t355 < 0) = true := decide_eq_true c7
   clear c7
   obtain rfl := Option.some.inj H
   go_enter Tryd.func151, Tryd.ntmps151
   go_wp2_with (first | ((with_reducible refine gate_dst (N := 2) rfl ?_); refine box_event ?hg (N := 2) ?hd (cs := #[.string a0_0, .slice A0_1 l0_1.length c0_1]) (t := 155) ?hr ?_; (case hd => rfl); (case hg => rfl); (case hr => first | (go_simp; done) | (go_simp; rfl)); intro gb354 hg w8 hbox hb; have n0_ := Aside0.mk (below_step (stB HB.out) hb); have n1_ := Aside0.mk (hbox); have n2_ := Aside0.mk ((by rw [hg]; exact (below_size (stB HB.out)) : w.heap.size ≤ gb354)); have n3_ := Aside0.mk ((by rw [hg]; exact (below_size (stB HB.out)) : w.heap.size ≤ gb354)); clear HB; have HB := n0_; have BK354 := n1_; have GW354 := n2_; have GE354 := n3_; clear n0_ n1_ n2_ n3_; clear hb hbox hg; have hcz9_0 : w8.cell? ⟨gb354, 0, none⟩ = some (.string a0_0) := (blk_cell BK354.out 0).trans rfl; have hcz9_1 : w8.cell? ⟨gb354, 1, none⟩ = some (.slice A0_1 l0_1.length c0_1) := (blk_cell BK354.out 1).trans rfl; have hfz9_0 := blk_frozen BK354.out 0; have hfz9_1 := blk_frozen BK354.out 1) | ((with_reducible refine gate_callee (f := 18) rfl ?_); refine goesL_ (some 15) rfl rfl Tryd.func18 (by kernel_rfl) rfl #[.slice A0_1 l0_1.length c0_1, .int .i64 (wrap64 (a1 - (a0_0.size : Int)))] rfl (by (try simp only [List.map_toArray, List.map_cons, List.map_nil]); first | done | rfl | (simp only [List.length_drop, List.length_take]; rfl)) ?_; (with_reducible refine (laws_szStringS.calls k _ _ l0_1 (wrap64 (a1 - (a0_0.size : Int))) t355 _ ?side1 ?side2 A6.out).mono ?_); (case side1 => repeat (first | exact (Kd.C_below HR0_1.out HB.out) | (with_reducible refine Kd.C_alloc ?_ _) | (with_reducible refine Kd.C_drewN ?_ _) | (with_reducible refine Kd.C_drew ?_))); (case side2 => exact HC0_1.out); rintro e w' ⟨rfl, ⟨nd, rfl⟩⟩; refine ⟨_, rfl, ?_⟩))
   go_ret
   exact ⟨by first | rfl | (simp [errW_none, errW_some] <;> rfl) | (simp [*, errW_none, errW_some] <;> rfl), by repeat (first | (with_reducible first | exact HB.out | apply below_alloc | apply pw_below_drewN | apply below_drew1 | refine below_set ?_ GE354.out) | exact HB.out)⟩
  ·rw [if_neg c7] at H
   have c7b0 : decide (t355 < 0) = false := decide_eq_false c7
   clear c7
   obtain rfl := Option.some.inj H
   go_enter Tryd.func151, Tryd.ntmps151
   go_wp2_with (first | ((with_reducible refine gate_dst (N := 2) rfl ?_); refine box_event ?hg (N := 2) ?hd (cs := #[.string a0_0, .slice A0_1 l0_1.length c0_1]) (t := 155) ?hr ?_; (case hd => rfl); (case hg => rfl); (case hr => first | (go_simp; done) | (go_simp; rfl)); intro gb354 hg w10 hbox hb; have n0_ := Aside0.mk (below_step (stB HB.out) hb); have n1_ := Aside0.mk (hbox); have n2_ := Aside0.mk ((by rw [hg]; exact (below_size (stB HB.out)) : w.heap.size ≤ gb354)); have n3_ := Aside0.mk ((by rw [hg]; exact (below_size (stB HB.out)) : w.heap.size ≤ gb354)); clear HB; have HB := n0_; have BK354 := n1_; have GW354 := n2_; have GE354 := n3_; clear n0_ n1_ n2_ n3_; clear hb hbox hg; have hcz11_0 : w10.cell? ⟨gb354, 0, none⟩ = some (.string a0_0) := (blk_cell BK354.out 0).trans rfl; have hcz11_1 : w10.cell? ⟨gb354, 1, none⟩ = some (.slice A0_1 l0_1.length c0_1) := (blk_cell BK354.out 1).trans rfl; have hfz11_0 := blk_frozen BK354.out 0; have hfz11_1 := blk_frozen BK354.out 1) | ((with_reducible refine gate_callee (f := 18) rfl ?_); refine goesL_ (some 15) rfl rfl Tryd.func18 (by kernel_rfl) rfl #[.slice A0_1 l0_1.length c0_1, .int .i64 (wrap64 (a1 - (a0_0.size : Int)))] rfl (by (try simp only [List.map_toArray, List.map_cons, List.map_nil]); first | done | rfl | (simp only [List.length_drop, List.length_take]; rfl)) ?_; (with_reducible refine (laws_szStringS.calls k _ _ l0_1 (wrap64 (a1 - (a0_0.size : Int))) t355 _ ?side1 ?side2 A6.out).mono ?_); (case side1 => repeat (first | exact (Kd.C_below HR0_1.out HB.out) | (with_reducible refine Kd.C_alloc ?_ _) | (with_reducible refine Kd.C_drewN ?_ _) | (with_reducible refine Kd.C_drew ?_))); (case side2 => exact HC0_1.out); rintro e w' ⟨rfl, ⟨nd, rfl⟩⟩; refine ⟨_, rfl, ?_⟩))
   go_ret
   exact ⟨by first | rfl | (simp [errW_none, errW_some] <;> rfl) | (simp [*, errW_none, errW_some] <;> rfl), by repeat (first | (with_reducible first | exact HB.out | apply below_alloc | apply pw_below_drewN | apply below_drew1 | refine below_set ?_ GE354.out) | exact HB.out)⟩
end Go.Proofs.YtmcdnpooclelgaaDoor.PAll

namespace Go.Proofs.YtmcdnpooclelgaaDoor.PAll
open Go.RowKit Go.Proofs.YtmcdnpooclelgaaDoorW.PrintWords Go.Proofs.YtmcdnpooclelgaaDoorW.PrintLast Go.Proofs.YtmcdnpooclelgaaDoorW.PrintMore
attribute [local go_sem] max2_int min2_int max_two min_two max_three min_three max_four min_four   -- for this text's walks alone
set_option linter.unusedVariables false
set_option linter.unusedSimpArgs false
def laws_szSheetLineS.l0 : Nat → List (S155) → Int → Int → Option (Int)
 | 0, _, _, _ => none
 | k + 1, x0, x1, x5 => if x5 < (x0.length : Int) then (if 0 ≤ x5 then ((laws_szSheetLine.f k ((rd_T155 x0 x5).f0) ((rd_T155 x0 x5).f1) x1).bind fun t357 => (if t357 < 0 then (some (-1)) else (laws_szSheetLineS.l0 k x0 t357 (wrap64 (x5 + 1))))) else (none)) else (some x1)
def laws_szSheetLineS.f (k : Nat) (l0 : List (S155)) (a1 : Int) : Option (Int) := if (wrap64 (a1 - (l0.length : Int))) < 0 then (some (-1)) else (laws_szSheetLineS.l0 k l0 (wrap64 (a1 - (l0.length : Int))) 0)
set_option maxHeartbeats 8000000 in
set_option maxRecDepth 100000 in
theorem laws_szSheetLineS.calls (k : Nat) (A0 : Option Addr) (c0 : Nat) (l0 : List (S155)) (a1 : Int) (r : Int) (w : World) (hr0 : Kd.C k155 w A0 l0.length l0) (hc0 : l0.length ≤ c0) (h : laws_szSheetLineS.f k l0 a1 = some r) :
  Calls Tryd.prog 137 #[.slice A0 l0.length c0, .int .i64 a1] w fun e w' => e = .returned (.int .i64 r) ∧ Below w.heap.size w w' := by
 have hu155 := Tryd.underlying155
 have HR0 := Aside0.mk hr0
 have HC0 := Aside0.mk hc0
 clear hr0 hc0
 have HB := Aside0.mk (Below.refl w.heap.size w)
 have H : (if (wrap64 (a1 - (l0.length : Int))) < 0 then (some (-1)) else (laws_szSheetLineS.l0 k l0 (wrap64 (a1 - (l0.length : Int))) 0)) = some r := h
 clear h
 by_cases c3 : (wrap64 (a1 - (l0.length : Int))) < 0
 ·rw [if_pos c3] at H
  have c3b0 : decide ((wrap64 (a1 - (l0.length : Int))) < 0) = true := decide_eq_true c3
  clear c3
  obtain rfl := Option.some.inj H
  go_enter Tryd.func137, Tryd.ntmps137
  go_wp2
  go_ret
  exact ⟨by first | rfl | (simp [errW_none, errW_some] <;> rfl) | (simp [*, errW_none, errW_some] <;> rfl), by repeat (first | (with_reducible first | exact HB.out | apply below_alloc | apply pw_below_drewN | apply below_drew1) | exact HB.out)⟩
 ·rw [if_neg c3] at H
  have c3b0 : decide ((wrap64 (a1 - (l0.length : Int))) < 0) = false := decide_eq_false c3
  clear c3
  have H' := Aside0.mk H
  clear H
  go_enter Tryd.func137, Tryd.ntmps137
  go_wp2
  go_loopg [1, 5] k (fun kq v1 v5 w' => ∃ (x1_1 : Int) (x5_1 : Int), v1 = .int .i64 x1_1 ∧ v5 = .int .i64 x5_1 ∧ Aside0 (laws_szSheetLineS.l0 kq l0 x1_1 x5_1 = some r) ∧ Aside0 (kq ≤ k) ∧ Aside0 (Below w.heap.size w w'))
  case atStart => exact ⟨(wrap64 (a1 - (l0.length : Int))), (0), (by first | rfl | (simp; done) | (simp [*]; done)), (by first | rfl | (simp; done) | (simp [*]; done)), H', ⟨Nat.le_refl _⟩, ⟨by repeat (first | (with_reducible first | exact HB.out | apply below_alloc | apply pw_below_drewN | apply below_drew1) | exact HB.out)⟩⟩
  case round =>
   clear H'
   try clear c1
   try clear p2
   try clear c3
   try clear c3b0
   obtain ⟨x1_1, x5_1, rfl, rfl, HA, HK1, HB⟩ := hrel
   cases gk with
   | zero => exact absurd HA.out (by simp [laws_szSheetLineS.l0])
   | succ k1 =>
    have H := HA.out
    clear HA
    simp only [laws_szSheetLineS.l0] at H
    by_cases c4 : x5_1 < (l0.length : Int)
    ·rw [if_pos c4] at H
     have c4b0 : decide (x5_1 < (l0.length : Int)) = true := decide_eq_true c4
     clear c4
     by_cases c5 : 0 ≤ x5_1
     ·rw [if_pos c5] at H
      have c5b0 : decide (0 ≤ x5_1) = true := decide_eq_true c5
      clear c5
      replace H := Option.bind_eq_some_iff.mp H
      obtain ⟨t357, A60, H⟩ := H
      replace H : (if t357 < 0 then (some (-1)) else (laws_szSheetLineS.l0 k1 l0 t357 (wrap64 (x5_1 + 1)))) = some r := H
      have A6 := Aside0.mk A60
      clear A60
      by_cases c7 : t357 < 0
      ·rw [if_pos c7] at H
       have c7b0 : decide (t357 < 0) = true := decide_eq_true c7
       clear c7
       obtain rfl := Option.some.inj H
       have p356 : 0 ≤ (x5_1 : Int) := of_decide_eq_true (by first | (with_reducible assumption) | assumption)
       have q356 : x5_1 < (l0.length : Int) := of_decide_eq_true (by first | (with_reducible assumption) | assumption)
       obtain ⟨ad356, A356_1, c356_1, e356, hx356_0, hx356_1, hl356_1, hi356_1⟩ := at_T155 HR0.out x5_1 p356 q356
       cases e356
       (try replace hx356_0 := (HB.out.cell (World.block_lt_of_cell? w _ hx356_0)).trans hx356_0)
       (try replace hx356_1 := (HB.out.cell (World.block_lt_of_cell? w _ hx356_1)).trans hx356_1)
       have HR356_1 := Aside0.mk hi356_1
       have HC356_1 := Aside0.mk hl356_1
       clear hi356_1 hl356_1
       replace p356 := eq_true p356
       replace q356 := eq_true q356
       go_wp2_with (first | ((with_reducible refine gate_callee (f := 151) rfl ?_); refine goesL_ (some 23) rfl rfl Tryd.func151 (by kernel_rfl) rfl #[.agg #[.string ((rd_T155 l0 x5_1).f0), .slice A356_1 ((rd_T155 l0 x5_1).f1).length c356_1], .int .i64 x1_1] rfl (by (try simp only [List.map_toArray, List.map_cons, List.map_nil]); first | done | rfl | (simp only [List.length_drop, List.length_take]; rfl)) ?_; (with_reducible refine (laws_szSheetLine.calls k1 ((rd_T155 l0 x5_1).f0) _ _ ((rd_T155 l0 x5_1).f1) x1_1 t357 _ ?side1 ?side2 A6.out).mono ?_); (case side1 => repeat (first | exact (Kd.C_below HR356_1.out HB.out) | (with_reducible refine Kd.C_alloc ?_ _) | (with_reducible refine Kd.C_drewN ?_ _) | (with_reducible refine Kd.C_drew ?_))); (case side2 => exact HC356_1.out); rintro e w8 ⟨rfl, hb⟩; refine ⟨_, rfl, ?_⟩; have n0_ := Aside0.mk (below_step (stB HB.out) hb); clear HB; have HB := n0_; clear n0_; (try clear hb); (try clear hb2); (try clear hk); (try clear hi)))
       go_ret
       exact ⟨by first | rfl | (simp [errW_none, errW_some] <;> rfl) | (simp [*, errW_none, errW_some] <;> rfl), by repeat (first | (with_reducible first | exact HB.out | apply below_alloc | apply pw_below_drewN | apply below_drew1) | exact HB.out)⟩
      ·rw [if_neg c7] at H
       have c7b0 : decide (t357 < 0) = false := decide_eq_false c7
       clear c7
       have H' := Aside0.mk H
       clear H
       have p356 : 0 ≤ (x5_1 : Int) := of_decide_eq_true (by first | (with_reducible assumption) | assumption)
       have q356 : x5_1 < (l0.length : Int) := of_decide_eq_true (by first | (with_reducible assumption) | assumption)
       obtain ⟨ad356, A356_1, c356_1, e356, hx356_0, hx356_1, hl356_1, hi356_1⟩ := at_T155 HR0.out x5_1 p356 q356
       cases e356
       (try replace hx356_0 := (HB.out.cell (World.block_lt_of_cell? w _ hx356_0)).trans hx356_0)
       (try replace hx356_1 := (HB.out.cell (World.block_lt_of_cell? w _ hx356_1)).trans hx356_1)
       have HR356_1 := Aside0.mk hi356_1
       have HC356_1 := Aside0.mk hl356_1
       clear hi356_1 hl356_1
       replace p356 := eq_true p356
       replace q356 := eq_true q356
       go_wp2_with (first | ((with_reducible refine gate_callee (f := 151) rfl ?_); refine goesL_ (some 23) rfl rfl Tryd.func151 (by kernel_rfl) rfl #[.agg #[.string ((rd_T155 l0 x5_1).f0), .slice A356_1 ((rd_T155 l0 x5_1).f1).length c356_1], .int .i64 x1_1] rfl (by (try simp only [List.map_toArray, List.map_cons, List.map_nil]); first | done | rfl | (simp only [List.length_drop, List.length_take]; rfl)) ?_; (with_reducible refine (laws_szSheetLine.calls k1 ((rd_T155 l0 x5_1).f0) _ _ ((rd_T155 l0 x5_1).f1) x1_1 t357 _ ?side1 ?side2 A6.out).mono ?_); (case side1 => repeat (first | exact (Kd.C_below HR356_1.out HB.out) | (with_reducible refine Kd.C_alloc ?_ _) | (with_reducible refine Kd.C_drewN ?_ _) | (with_reducible refine Kd.C_drew ?_))); (case side2 => exact HC356_1.out); rintro e w9 ⟨rfl, hb⟩; refine ⟨_, rfl, ?_⟩; have n0_ := Aside0.mk (below_step (stB HB.out) hb); clear HB; have HB := n0_; clear n0_; (try clear hb); (try clear hb2); (try clear hk); (try clear hi)))
       go_roundg k1
       case measure => have := HK1.out; omega
       case rel => exact ⟨(t357), (wrap64 (x5_1 + 1)), (by first | rfl | (simp; done) | (simp [*]; done)), (by first | rfl | (simp; done) | (simp [*]; done)), H', ⟨by have := HK1.out; omega⟩, ⟨by repeat (first | (with_reducible first | exact HB.out | apply below_alloc | apply pw_below_drewN | apply below_drew1) | exact HB.out)⟩⟩
     ·rw [if_neg c5] at H
      exact absurd H (by simp)
    ·rw [if_neg c4] at H
     have c4b0 : decide (x5_1 < (l0.length : Int)) = false := decide_eq_false c4
     clear c4
     obtain rfl := Option.some.inj H
     go_wp2
     go_ret
     exact ⟨by first | rfl | (simp [errW_none, errW_some] <;> rfl) | (simp [*, errW_none, errW_some] <;> rfl), by repeat (first | (with_reducible first | exact HB.out | apply below_alloc | apply pw_below_drewN | apply below_drew1) | exact HB.out)⟩
end Go.Proofs.YtmcdnpooclelgaaDoor.PAll

namespace Go.Proofs.YtmcdnpooclelgaaDoor.PAll
open Go.RowKit Go.Proofs.YtmcdnpooclelgaaDoorW.PrintWords Go.Proofs.YtmcdnpooclelgaaDoorW.PrintLast Go.Proofs.YtmcdnpooclelgaaDoorW.PrintMore
attribute [local go_sem] max2_int min2_int max_two min_two max_three min_three max_four min_four   -- for this text's walks alone
set_option linter.unusedVariables false
set_option linter.unusedSimpArgs false
def laws_szSheetBlock.f (k : Nat) (a0_0 : ByteArray) (a0_1 : ByteArray) (l0_2 : List (S155)) (a1 : Int) : Option (Int) := if (wrap64 (a1 - (a0_0.size : Int))) < 0 then (some (-1)) else (if (wrap64 ((wrap64 (a1 - (a0_0.size : Int))) - (a0_1.size : Int))) < 0 then (some (-1)) else ((laws_szSheetLineS.f k l0_2 (wrap64 ((wrap64 (a1 - (a0_0.size : Int))) - (a0_1.size : Int)))).bind fun t359 => (if t359 < 0 then (some (-1)) else (some t359))))
set_option maxHeartbeats 8000000 in
set_option maxRecDepth 100000 in
theorem laws_szSheetBlock.calls (k : Nat) (a0_0 : ByteArray) (a0_1 : ByteArray) (A0_2 : Option Addr) (c0_2 : Nat) (l0_2 : List (S155)) (a1 : Int) (r : Int) (w : World) (hr0_2 : Kd.C k155 w A0_2 l0_2.length l0_2) (hc0_2 : l0_2.length ≤ c0_2) (h : laws_szSheetBlock.f k a0_0 a0_1 l0_2 a1 = some r) :
  Calls Tryd.prog 112 #[.agg #[.string a0_0, .string a0_1, .slice A0_2 l0_2.length c0_2], .int .i64 a1] w fun e w' => e = .returned (.int .i64 r) ∧ Below w.heap.size w w' := by
 have hu128 := Tryd.underlying128
 have HR0_2 := Aside0.mk hr0_2
 have HC0_2 := Aside0.mk hc0_2
 clear hr0_2 hc0_2
 have HB := Aside0.mk (Below.refl w.heap.size w)
 have H : (if (wrap64 (a1 - (a0_0.size : Int))) < 0 then (some (-1)) else (if (wrap64 ((wrap64 (a1 - (a0_0.size : Int))) - (a0_1.size : Int))) < 0 then (some (-1)) else ((laws_szSheetLineS.f k l0_2 (wrap64 ((wrap64 (a1 - (a0_0.size : Int))) - (a0_1.size : Int)))).bind fun t359 => (if t359 < 0 then (some (-1)) else (some t359))))) = some r := h
 clear h
 by_cases c3 : (wrap64 (a1 - (a0_0.size : Int))) < 0
 ·rw [if_pos c3] at H
  have c3b0 : decide ((wrap64 (a1 - (a0_0.size : Int))) < 0) = true := decide_eq_true c3
  clear c3
  obtain rfl := Option.some.inj H
  go_enter Tryd.func112, Tryd.ntmps112
  go_wp2_with (first | ((with_reducible refine gate_dst (N := 2) rfl ?_); refine box_event ?hg (N := 2) ?hd (cs := #[.string a0_0, .string a0_1, .slice A0_2 l0_2.length c0_2]) (t := 128) ?hr ?_; (case hd => rfl); (case hg => rfl); (case hr => first | (go_simp; done) | (go_simp; rfl)); intro gb358 hg w4 hbox hb; have n0_ := Aside0.mk (below_step (stB HB.out) hb); have n1_ := Aside0.mk (hbox); have n2_ := Aside0.mk ((by rw [hg]; exact (below_size (stB HB.out)) : w.heap.size ≤ gb358)); have n3_ := Aside0.mk ((by rw [hg]; exact (below_size (stB HB.out)) : w.heap.size ≤ gb358)); clear HB; have HB := n0_; have BK358 := n1_; have GW358 := n2_; have GE358 := n3_; clear n0_ n1_ n2_ n3_; clear hb hbox hg; have hcz5_0 : w4.cell? ⟨gb358, 0, none⟩ = some (.string a0_0) := (blk_cell BK358.out 0).trans rfl; have hcz5_1 : w4.cell? ⟨gb358, 1, none⟩ = some (.string a0_1) := (blk_cell BK358.out 1).trans rfl; have hcz5_2 : w4.cell? ⟨gb358, 2, none⟩ = some (.slice A0_2 l0_2.length c0_2) := (blk_cell BK358.out 2).trans rfl; have hfz5_0 := blk_frozen BK358.out 0; have hfz5_1 := blk_frozen BK358.out 1; have hfz5_2 := blk_frozen BK358.out 2))
  go_ret
  exact ⟨by first | rfl | (simp [errW_none, errW_some] <;> rfl) | (simp [*, errW_none, errW_some] <;> rfl), by repeat (first | (with_reducible first | exact HB.out | apply below_alloc | apply pw_below_drewN | apply below_drew1 | refine below_set ?_ GE358.out) | exact HB.out)⟩
 ·rw [if_neg c3] at H
  have c3b0 : decide ((wrap64 (a1 - (a0_0.size : Int))) < 0) = false := decide_eq_false c3
  clear c3
  by_cases c6 : (wrap64 ((wrap64 (a1 - (a0_0.size : Int))) - (a0_1.size : Int))) < 0
  ·rw [if_pos c6] at H
   have c6b0 : decide ((wrap64 ((wrap64 (a1 - (a0_0.size : Int))) - (a0_1.size : Int))) < 0) = true := decide_eq_true c6
   clear c6
   obtain rfl := Option.some.inj H
   go_enter Tryd.func112, Tryd.ntmps112
   go_wp2_with (first | ((with_reducible refine gate_dst (N := 2) rfl ?_); refine box_event ?hg (N := 2) ?hd (cs := #[.string a0_0, .string a0_1, .slice A0_2 l0_2.length c0_2]) (t := 128) ?hr ?_; (case hd => rfl); (case hg => rfl); (case hr => first | (go_simp; done) | (go_simp; rfl)); intro gb358 hg w7 hbox hb; have n0_ := Aside0.mk (below_step (stB HB.out) hb); have n1_ := Aside0.mk (hbox); have n2_ := Aside0.mk ((by rw [hg]; exact (below_size (stB HB.out)) : w.heap.size ≤ gb358)); have n3_ := Aside0.mk ((by rw [hg]; exact (below_size (stB HB.out)) : w.heap.size ≤ gb358)); clear HB; have HB := n0_; have BK358 := n1_; have GW358 := n2_; have GE358 := n3_; clear n0_ n1_ n2_ n3_; clear hb hbox hg; have hcz8_0 : w7.cell? ⟨gb358, 0, none⟩ = some (.string a0_0) := (blk_cell BK358.out 0).trans rfl; have hcz8_1 : w7.cell? ⟨gb358, 1, none⟩ = some (.string a0_1) := (blk_cell BK358.out 1).trans rfl; have hcz8_2 : w7.cell? ⟨gb358, 2, none⟩ = some (.slice A0_2 l0_2.length c0_2) := (blk_cell BK358.out 2).trans rfl; have hfz8_0 := blk_frozen BK358.out 0; have hfz8_1 := blk_frozen BK358.out 1; have hfz8_2 := blk_frozen BK358.out 2))
   go_ret
   exact ⟨by first | rfl | (simp [errW_none, errW_some] <;> rfl) | (simp [*, errW_none, errW_some] <;> rfl), by repeat (first | (with_reducible first | exact HB.out | apply below_alloc | apply pw_below_drewN | apply below_drew1 | refine below_set ?_ GE358.out) | exact HB.out)⟩
  ·rw [if_neg c6] at H
   have c6b0 : decide ((wrap64 ((wrap64 (a1 - (a0_0.size : Int))) - (a0_1.size : Int))) < 0) = false := decide_eq_false c6
   clear c6
   replace H := Option.bind_eq_some_iff.mp H
   obtain ⟨t359, A90, H⟩ := H
   replace H : (if t359 < 0 then (some (-1)) else (some t359)) = some r := H
   have A9 := Aside0.mk A90
   clear A90
   by_cases c10 : t359 < 0
   ·rw [if_pos c10] at H
    have c10b0 : decide (t359 < 0) = true := decide_eq_true c10
    clear c10
    obtain rfl := Option.some.inj H
    go_enter Tryd.func112, Tryd.ntmps112
    go_wp2_with (first | ((with_reducible refine gate_dst (N := 2) rfl ?_); refine box_event ?hg (N := 2) ?hd (cs := #[.string a0_0, .string a0_1, .slice A0_2 l0_2.length c0_2]) (t := 128) ?hr ?_; (case hd => rfl); (case hg => rfl); (case hr => first | (go_simp; done) | (go_simp; rfl)); intro gb358 hg w11 hbox hb; have n0_ := Aside0.mk (below_step (stB HB.out) hb); have n1_ := Aside0.mk (hbox); have n2_ := Aside0.mk ((by rw [hg]; exact (below_size (stB HB.out)) : w.heap.size ≤ gb358)); have n3_ := Aside0.mk ((by rw [hg]; exact (below_size (stB HB.out)) : w.heap.size ≤ gb358)); clear HB; have HB := n0_; have BK358 := n1_; have GW358 := n2_; have GE358 := n3_; clear n0_ n1_ n2_ n3_; clear hb hbox hg; have hcz12_0 : w11.cell? ⟨gb358, 0, none⟩ = some (.string a0_0) := (blk_cell BK358.out 0).trans rfl; have hcz12_1 : w11.cell? ⟨gb358, 1, none⟩ = some (.string a0_1) := (blk_cell BK358.out 1).trans rfl; have hcz12_2 : w11.cell? ⟨gb358, 2, none⟩ = some (.slice A0_2 l0_2.length c0_2) := (blk_cell BK358.out 2).trans rfl; have hfz12_0 := blk_frozen BK358.out 0; have hfz12_1 := blk_frozen BK358.out 1; have hfz12_2 := blk_frozen BK358.out 2) | ((with_reducible refine gate_callee (f := 137) rfl ?_); refine goesL_ (some 22) rfl rfl Tryd.func137 (by kernel_rfl) rfl #[.slice A0_2 l0_2.length c0_2, .int .i64 (wrap64 ((wrap64 (a1 - (a0_0.size : Int))) - (a0_1.size : Int)))] rfl (by (try simp only [List.map_toArray, List.map_cons, List.map_nil]); first | done | rfl | (simp only [List.length_drop, List.length_take]; rfl)) ?_; (with_reducible refine (laws_szSheetLineS.calls k _ _ l0_2 (wrap64 ((wrap64 (a1 - (a0_0.size : Int))) - (a0_1.size : Int))) t359 _ ?side1 ?side2 A9.out).mono ?_); (case side1 => repeat (first | exact (Kd.C_below HR0_2.out HB.out) | (with_reducible refine Kd.C_alloc ?_ _) | (with_reducible refine Kd.C_drewN ?_ _) | (with_reducible refine Kd.C_drew ?_))); (case side2 => exact HC0_2.out); rintro e w13 ⟨rfl, hb⟩; refine ⟨_, rfl, ?_⟩; have n0_ := Aside0.mk (blk_below (g := gb358) (o := .cells #[.string a0_0, .string a0_1, .slice A0_2 l0_2.length c0_2] 128 (0, 0)) (by (with_reducible repeat (first | refine blk_drewN ?_ _ | refine blk_drew ?_ | refine blk_alloc ?_ _)); exact BK358.out) hb); have n1_ := Aside0.mk (below_step (by repeat (first | (with_reducible first | exact HB.out | apply below_alloc | apply pw_below_drewN | apply below_drew1 | refine below_set ?_ GE358.out) | exact HB.out)) hb); clear BK358; clear HB; have BK358 := n0_; have HB := n1_; clear n0_ n1_; (try clear hb); (try clear hb2); (try clear hk); (try clear hi)))
    go_ret
    exact ⟨by first | rfl | (simp [errW_none, errW_some] <;> rfl) | (simp [*, errW_none, errW_some] <;> rfl), by repeat (first | (with_reducible first | exact HB.out | apply below_alloc | apply pw_below_drewN | apply below_drew1 | refine below_set ?_ GE358.out) | exact HB.out)⟩
   ·rw [if_neg c10] at H
    have c10b0 : decide (t359 < 0) = false := decide_eq_false c10
    clear c10
    obtain rfl := Option.some.inj H
    go_enter Tryd.func112, Tryd.ntmps112
    go_wp2_with (first | ((with_reducible refine gate_dst (N := 2) rfl ?_); refine box_event ?hg (N := 2) ?hd (cs := #[.string a0_0, .string a0_1, .slice A0_2 l0_2.length c0_2]) (t := 128) ?hr ?_; (case hd => rfl); (case hg => rfl); (case hr => first | (go_simp; done) | (go_simp; rfl)); intro gb358 hg w14 hbox hb; have n0_ := Aside0.mk (below_step (stB HB.out) hb); have n1_ := Aside0.mk (hbox); have n2_ := Aside0.mk ((by rw [hg]; exact (below_size (stB HB.out)) : w.heap.size ≤ gb358)); have n3_ := Aside0.mk ((by rw [hg]; exact (below_size (stB HB.out)) : w.heap.size ≤ gb358)); clear HB; have HB := n0_; have BK358 := n1_; have GW358 := n2_; have GE358 := n3_; clear n0_ n1_ n2_ n3_; clear hb hbox hg; have hcz15_0 : w14.cell? ⟨gb358, 0, none⟩ = some (.string a0_0) := (blk_cell BK358.out 0).trans rfl; have hcz15_1 : w14.cell? ⟨gb358, 1, none⟩ = some (.string a0_1) := (blk_cell BK358.out 1).trans rfl; have hcz15_2 : w14.cell? ⟨gb358, 2, none⟩ = some (.slice A0_2 l0_2.length c0_2) := (blk_cell BK358.out 2).trans rfl; have hfz15_0 := blk_frozen BK358.out 0; have hfz15_1 := blk_frozen BK358.out 1; have hfz15_2 := blk_frozen BK358.out 2) | ((with_reducible refine gate_callee (f := 137) rfl ?_); refine goesL_ (some 22) rfl rfl Tryd.func137 (by kernel_rfl) rfl #[.slice A0_2 l0_2.length c0_2, .int .i64 (wrap64 ((wrap64 (a1 - (a0_0.size : Int))) - (a0_1.size : Int)))] rfl (by (try simp only [List.map_toArray, List.map_cons, List.map_nil]); first | done | rfl | (simp only [List.length_drop, List.length_take]; rfl)) ?_; (with_reducible refine (laws_szSheetLineS.calls k _ _ l0_2 (wrap64 ((wrap64 (a1 - (a0_0.size : Int))) - (a0_1.size : Int))) t359 _ ?side1 ?side2 A9.out).mono ?_); (case side1 => repeat (first | exact (Kd.C_below HR0_2.out HB.out) | (with_reducible refine Kd.C_alloc ?_ _) | (with_reducible refine Kd.C_drewN ?_ _) | (with_reducible refine Kd.C_drew ?_))); (case side2 => exact HC0_2.out); rintro e w16 ⟨rfl, hb⟩; refine ⟨_, rfl, ?_⟩; have n0_ := Aside0.mk (blk_below (g := gb358) (o := .cells #[.string a0_0, .string a0_1, .slice A0_2 l0_2.length c0_2] 128 (0, 0)) (by (with_reducible repeat (first | refine blk_drewN ?_ _ | refine blk_drew ?_ | refine blk_alloc ?_ _)); exact BK358.out) hb); have n1_ := Aside0.mk (below_step (by repeat (first | (with_reducible first | exact HB.out | apply below_alloc | apply pw_below_drewN | apply below_drew1 | refine below_set ?_ GE358.out) | exact HB.out)) hb); clear BK358; clear HB; have BK358 := n0_; have HB := n1_; clear n0_ n1_; (try clear hb); (try clear hb2); (try clear hk); (try clear hi)))
    go_ret
    exact ⟨by first | rfl | (simp [errW_none, errW_some] <;> rfl) | (simp [*, errW_none, errW_some] <;> rfl), by repeat (first | (with_reducible first | exact HB.out | apply below_alloc | apply pw_below_drewN | apply below_drew1 | refine below_set ?_ GE358.out) | exact HB.out)⟩
end Go.Proofs.YtmcdnpooclelgaaDoor.PAll

namespace Go.Proofs.YtmcdnpooclelgaaDoor.PAll
open Go.RowKit Go.Proofs.YtmcdnpooclelgaaDoorW.PrintWords Go.Proofs.YtmcdnpooclelgaaDoorW.PrintLast Go.Proofs.YtmcdnpooclelgaaDoorW.PrintMore
attribute [local go_sem] max2_int min2_int max_two min_two max_three min_three max_four min_four   -- for this text's walks alone
set_option linter.unusedVariables false
set_option linter.unusedSimpArgs false
def laws_szSheetBlockS.l0 : Nat → List (S128) → Int → Int → Option (Int)
 | 0, _, _, _ => none
 | k + 1, x0, x1, x5 => if x5 < (x0.length : Int) then (if 0 ≤ x5 then ((laws_szSheetBlock.f k ((rd_T128 x0 x5).f0) ((rd_T128 x0 x5).f1) ((rd_T128 x0 x5).f2) x1).bind fun t361 => (if t361 < 0 then (some (-1)) else (laws_szSheetBlockS.l0 k x0 t361 (wrap64 (x5 + 1))))) else (none)) else (some x1)
def laws_szSheetBlockS.f (k : Nat) (l0 : List (S128)) (a1 : Int) : Option (Int) := if (wrap64 (a1 - (l0.length : Int))) < 0 then (some (-1)) else (laws_szSheetBlockS.l0 k l0 (wrap64 (a1 - (l0.length : Int))) 0)
set_option maxHeartbeats 8000000 in
set_option maxRecDepth 100000 in
theorem laws_szSheetBlockS.calls (k : Nat) (A0 : Option Addr) (c0 : Nat) (l0 : List (S128)) (a1 : Int) (r : Int) (w : World) (hr0 : Kd.C k128 w A0 l0.length l0) (hc0 : l0.length ≤ c0) (h : laws_szSheetBlockS.f k l0 a1 = some r) :
  Calls Tryd.prog 70 #[.slice A0 l0.length c0, .int .i64 a1] w fun e w' => e = .returned (.int .i64 r) ∧ Below w.heap.size w w' := by
 have hu128 := Tryd.underlying128
 have HR0 := Aside0.mk hr0
 have HC0 := Aside0.mk hc0
 clear hr0 hc0
 have HB := Aside0.mk (Below.refl w.heap.size w)
 have H : (if (wrap64 (a1 - (l0.length : Int))) < 0 then (some (-1)) else (laws_szSheetBlockS.l0 k l0 (wrap64 (a1 - (l0.length : Int))) 0)) = some r := h
 clear h
 by_cases c3 : (wrap64 (a1 - (l0.length : Int))) < 0
 ·rw [if_pos c3] at H
  have c3b0 : decide ((wrap64 (a1 - (l0.length : Int))) < 0) = true := decide_eq_true c3
  clear c3
  obtain rfl := Option.some.inj H
  go_enter Tryd.func70, Tryd.ntmps70
  go_wp2
  go_ret
  exact ⟨by first | rfl | (simp [errW_none, errW_some] <;> rfl) | (simp [*, errW_none, errW_some] <;> rfl), by repeat (first | (with_reducible first | exact HB.out | apply below_alloc | apply pw_below_drewN | apply below_drew1) | exact HB.out)⟩
 ·rw [if_neg c3] at H
  have c3b0 : decide ((wrap64 (a1 - (l0.length : Int))) < 0) = false := decide_eq_false c3
  clear c3
  have H' := Aside0.mk H
  clear H
  go_enter Tryd.func70, Tryd.ntmps70
  go_wp2
  go_loopg [1, 5] k (fun kq v1 v5 w' => ∃ (x1_1 : Int) (x5_1 : Int), v1 = .int .i64 x1_1 ∧ v5 = .int .i64 x5_1 ∧ Aside0 (laws_szSheetBlockS.l0 kq l0 x1_1 x5_1 = some r) ∧ Aside0 (kq ≤ k) ∧ Aside0 (Below w.heap.size w w'))
  case atStart => exact ⟨(wrap64 (a1 - (l0.length : Int))), (0), (by first | rfl | (simp; done) | (simp [*]; done)), (by first | rfl | (simp; done) | (simp [*]; done)), H', ⟨Nat.le_refl _⟩, ⟨by repeat (first | (with_reducible first | exact HB.out | apply below_alloc | apply pw_below_drewN | apply below_drew1) | exact HB.out)⟩⟩
  case round =>
   clear H'
   try clear p2
   try clear c3
   try clear c3b0
   obtain ⟨x1_1, x5_1, rfl, rfl, HA, HK1, HB⟩ := hrel
   cases gk with
   | zero => exact absurd HA.out (by simp [laws_szSheetBlockS.l0])
   | succ k1 =>
    have H := HA.out
    clear HA
    simp only [laws_szSheetBlockS.l0] at H
    by_cases c4 : x5_1 < (l0.length : Int)
    ·rw [if_pos c4] at H
     have c4b0 : decide (x5_1 < (l0.length : Int)) = true := decide_eq_true c4
     clear c4
     by_cases c5 : 0 ≤ x5_1
     ·rw [if_pos c5] at H
      have c5b0 : decide (0 ≤ x5_1) = true := decide_eq_true c5
      clear c5
      replace H := Option.bind_eq_some_iff.mp H
      obtain ⟨t361, A60, H⟩ := H
      replace H : (if t361 < 0 then (some (-1)) else (laws_szSheetBlockS.l0 k1 l0 t361 (wrap64 (x5_1 + 1)))) = some r := H
      have A6 := Aside0.mk A60
      clear A60
      by_cases c7 : t361 < 0
      ·rw [if_pos c7] at H
       have c7b0 : decide (t361 < 0) = true := decide_eq_true c7
       clear c7
       obtain rfl := Option.some.inj H
       have p360 : 0 ≤ (x5_1 : Int) := of_decide_eq_true (by first | (with_reducible assumption) | assumption)
       have q360 : x5_1 < (l0.length : Int) := of_decide_eq_true (by first | (with_reducible assumption) | assumption)
       obtain ⟨ad360, A360_2, c360_2, e360, hx360_0, hx360_1, hx360_2, hl360_2, hi360_2⟩ := at_T128 HR0.out x5_1 p360 q360
       cases e360
       (try replace hx360_0 := (HB.out.cell (World.block_lt_of_cell? w _ hx360_0)).trans hx360_0)
       (try replace hx360_1 := (HB.out.cell (World.block_lt_of_cell? w _ hx360_1)).trans hx360_1)
       (try replace hx360_2 := (HB.out.cell (World.block_lt_of_cell? w _ hx360_2)).trans hx360_2)
       have HR360_2 := Aside0.mk hi360_2
       have HC360_2 := Aside0.mk hl360_2
       clear hi360_2 hl360_2
       replace p360 := eq_true p360
       replace q360 := eq_true q360
       go_wp2_with (first | ((with_reducible refine gate_callee (f := 112) rfl ?_); refine goesL_ (some 23) rfl rfl Tryd.func112 (by kernel_rfl) rfl #[.agg #[.string ((rd_T128 l0 x5_1).f0), .string ((rd_T128 l0 x5_1).f1), .slice A360_2 ((rd_T128 l0 x5_1).f2).length c360_2], .int .i64 x1_1] rfl (by (try simp only [List.map_toArray, List.map_cons, List.map_nil]); first | done | rfl | (simp only [List.length_drop, List.length_take]; rfl)) ?_; (with_reducible refine (laws_szSheetBlock.calls k1 ((rd_T128 l0 x5_1).f0) ((rd_T128 l0 x5_1).f1) _ _ ((rd_T128 l0 x5_1).f2) x1_1 t361 _ ?side1 ?side2 A6.out).mono ?_); (case side1 => repeat (first | exact (Kd.C_below HR360_2.out HB.out) | (with_reducible refine Kd.C_alloc ?_ _) | (with_reducible refine Kd.C_drewN ?_ _) | (with_reducible refine Kd.C_drew ?_))); (case side2 => exact HC360_2.out); rintro e w8 ⟨rfl, hb⟩; refine ⟨_, rfl, ?_⟩; have n0_ := Aside0.mk (below_step (stB HB.out) hb); clear HB; have HB := n0_; clear n0_; (try clear hb); (try clear hb2); (try clear hk); (try clear hi)))
       go_ret
       exact ⟨by first | rfl | (simp [errW_none, errW_some] <;> rfl) | (simp [*, errW_none, errW_some] <;> rfl), by repeat (first | (with_reducible first | exact HB.out | apply below_alloc | apply pw_below_drewN | apply below_drew1) | exact HB.out)⟩
      ·rw [if_neg c7] at H
       have c7b0 : decide (t361 < 0) = false := decide_eq_false c7
       clear c7
       have H' := Aside0.mk H
       clear H
       have p360 : 0 ≤ (x5_1 : Int) := of_decide_eq_true (by first | (with_reducible assumption) | assumption)
       have q360 : x5_1 < (l0.length : Int) := of_decide_eq_true (by first | (with_reducible assumption) | assumption)
       obtain ⟨ad360, A360_2, c360_2, e360, hx360_0, hx360_1, hx360_2, hl360_2, hi360_2⟩ := at_T128 HR0.out x5_1 p360 q360
       cases e360
       (try replace hx360_0 := (HB.out.cell (World.block_lt_of_cell? w _ hx360_0)).trans hx360_0)
       (try replace hx360_1 := (HB.out.cell (World.block_lt_of_cell? w _ hx360_1)).trans hx360_1)
       (try replace hx360_2 := (HB.out.cell (World.block_lt_of_cell? w _ hx360_2)).trans hx360_2)
       have HR360_2 := Aside0.mk hi360_2
       have HC360_2 := Aside0.mk hl360_2
       clear hi360_2 hl360_2
       replace p360 := eq_true p360
       replace q360 := eq_true q360
       go_wp2_with (first | ((with_reducible refine gate_callee (f := 112) rfl ?_); refine goesL_ (some 23) rfl rfl Tryd.func112 (by kernel_rfl) rfl #[.agg #[.string ((rd_T128 l0 x5_1).f0), .string ((rd_T128 l0 x5_1).f1), .slice A360_2 ((rd_T128 l0 x5_1).f2).length c360_2], .int .i64 x1_1] rfl (by (try simp only [List.map_toArray, List.map_cons, List.map_nil]); first | done | rfl | (simp only [List.length_drop, List.length_take]; rfl)) ?_; (with_reducible refine (laws_szSheetBlock.calls k1 ((rd_T128 l0 x5_1).f0) ((rd_T128 l0 x5_1).f1) _ _ ((rd_T128 l0 x5_1).f2) x1_1 t361 _ ?side1 ?side2 A6.out).mono ?_); (case side1 => repeat (first | exact (Kd.C_below HR360_2.out HB.out) | (with_reducible refine Kd.C_alloc ?_ _) | (with_reducible refine Kd.C_drewN ?_ _) | (with_reducible refine Kd.C_drew ?_))); (case side2 => exact HC360_2.out); rintro e w9 ⟨rfl, hb⟩; refine ⟨_, rfl, ?_⟩; have n0_ := Aside0.mk (below_step (stB HB.out) hb); clear HB; have HB := n0_; clear n0_; (try clear hb); (try clear hb2); (try clear hk); (try clear hi)))
       go_roundg k1
       case measure => have := HK1.out; omega
       case rel => exact ⟨(t361), (wrap64 (x5_1 + 1)), (by first | rfl | (simp; done) | (simp [*]; done)), (by first | rfl | (simp; done) | (simp [*]; done)), H', ⟨by have := HK1.out; omega⟩, ⟨by repeat (first | (with_reducible first | exact HB.out | apply below_alloc | apply pw_below_drewN | apply below_drew1) | exact HB.out)⟩⟩
     ·rw [if_neg c5] at H
      exact absurd H (by simp)
    ·rw [if_neg c4] at H
     have c4b0 : decide (x5_1 < (l0.length : Int)) = false := decide_eq_false c4
     clear c4
     obtain rfl := Option.some.inj H
     go_wp2
     go_ret
     exact ⟨by first | rfl | (simp [errW_none, errW_some] <;> rfl) | (simp [*, errW_none, errW_some] <;> rfl), by repeat (first | (with_reducible first | exact HB.out | apply below_alloc | apply pw_below_drewN | apply below_drew1) | exact HB.out)⟩
end Go.Proofs.YtmcdnpooclelgaaDoor.PAll

namespace Go.Proofs.YtmcdnpooclelgaaDoor.PAll
open Go.RowKit Go.Proofs.YtmcdnpooclelgaaDoorW.PrintWords Go.Proofs.YtmcdnpooclelgaaDoorW.PrintLast Go.Proofs.YtmcdnpooclelgaaDoorW.PrintMore
attribute [local go_sem] max2_int min2_int max_two min_two max_three min_three max_four min_four   -- for this text's walks alone
set_option linter.unusedVariables false
set_option linter.unusedSimpArgs false
def laws_szSheet.f (k : Nat) (l0_0 : List (S128)) (a1 : Int) : Option (Int) := (laws_szSheetBlockS.f k l0_0 a1).bind fun t363 => (if t363 < 0 then (some (-1)) else (some t363))
set_option maxHeartbeats 8000000 in
set_option maxRecDepth 100000 in
theorem laws_szSheet.calls (k : Nat) (A0_0 : Option Addr) (c0_0 : Nat) (l0_0 : List (S128)) (a1 : Int) (r : Int) (w : World) (hr0_0 : Kd.C k128 w A0_0 l0_0.length l0_0) (hc0_0 : l0_0.length ≤ c0_0) (h : laws_szSheet.f k l0_0 a1 = some r) :
  Calls Tryd.prog 26 #[.agg #[.slice A0_0 l0_0.length c0_0], .int .i64 a1] w fun e w' => e = .returned (.int .i64 r) ∧ Below w.heap.size w w' := by
 have hu42 := Tryd.underlying42
 have HR0_0 := Aside0.mk hr0_0
 have HC0_0 := Aside0.mk hc0_0
 clear hr0_0 hc0_0
 have HB := Aside0.mk (Below.refl w.heap.size w)
 have H : ((laws_szSheetBlockS.f k l0_0 a1).bind fun t363 => (if t363 < 0 then (some (-1)) else (some t363))) = some r := h
 clear h
 replace H := Option.bind_eq_some_iff.mp H
 obtain ⟨t363, A30, H⟩ := H
 replace H : (if t363 < 0 then (some (-1)) else (some t363)) = some r := H
 have A3 := Aside0.mk A30
 clear A30
 by_cases c4 : t363 < 0
 ·rw [if_pos c4] at H
  have c4b0 : decide (t363 < 0) = true := decide_eq_true c4
  clear c4
  obtain rfl := Option.some.inj H
  go_enter Tryd.func26, Tryd.ntmps26
  go_wp2_with (first | ((with_reducible refine gate_dst (N := 2) rfl ?_); refine box_event ?hg (N := 2) ?hd (cs := #[.slice A0_0 l0_0.length c0_0]) (t := 42) ?hr ?_; (case hd => rfl); (case hg => rfl); (case hr => first | (go_simp; done) | (go_simp; rfl)); intro gb362 hg w5 hbox hb; have n0_ := Aside0.mk (below_step (stB HB.out) hb); have n1_ := Aside0.mk (hbox); have n2_ := Aside0.mk ((by rw [hg]; exact (below_size (stB HB.out)) : w.heap.size ≤ gb362)); have n3_ := Aside0.mk ((by rw [hg]; exact (below_size (stB HB.out)) : w.heap.size ≤ gb362)); clear HB; have HB := n0_; have BK362 := n1_; have GW362 := n2_; have GE362 := n3_; clear n0_ n1_ n2_ n3_; clear hb hbox hg; have hcz6_0 : w5.cell? ⟨gb362, 0, none⟩ = some (.slice A0_0 l0_0.length c0_0) := (blk_cell BK362.out 0).trans rfl; have hfz6_0 := blk_frozen BK362.out 0) | ((with_reducible refine gate_callee (f := 70) rfl ?_); refine goesL_ (some 8) rfl rfl Tryd.func70 (by kernel_rfl) rfl #[.slice A0_0 l0_0.length c0_0, .int .i64 a1] rfl (by (try simp only [List.map_toArray, List.map_cons, List.map_nil]); first | done | rfl | (simp only [List.length_drop, List.length_take]; rfl)) ?_; (with_reducible refine (laws_szSheetBlockS.calls k _ _ l0_0 a1 t363 _ ?side1 ?side2 A3.out).mono ?_); (case side1 => repeat (first | exact (Kd.C_below HR0_0.out HB.out) | (with_reducible refine Kd.C_alloc ?_ _) | (with_reducible refine Kd.C_drewN ?_ _) | (with_reducible refine Kd.C_drew ?_))); (case side2 => exact HC0_0.out); rintro e w7 ⟨rfl, hb⟩; refine ⟨_, rfl, ?_⟩; have n0_ := Aside0.mk (blk_below (g := gb362) (o := .cells #[.slice A0_0 l0_0.length c0_0] 42 (0, 0)) (by (with_reducible repeat (first | refine blk_drewN ?_ _ | refine blk_drew ?_ | refine blk_alloc ?_ _)); exact BK362.out) hb); have n1_ := Aside0.mk (below_step (by repeat (first | (with_reducible first | exact HB.out | apply below_alloc | apply pw_below_drewN | apply below_drew1 | refine below_set ?_ GE362.out) | exact HB.out)) hb); clear BK362; clear HB; have BK362 := n0_; have HB := n1_; clear n0_ n1_; (try clear hb); (try clear hb2); (try clear hk); (try clear hi)))
  go_ret
  exact ⟨by first | rfl | (simp [errW_none, errW_some] <;> rfl) | (simp [*, errW_none, errW_some] <;> rfl), by repeat (first | (with_reducible first | exact HB.out | apply below_alloc | apply pw_below_drewN | apply below_drew1 | refine below_set ?_ GE362.out) | exact HB.out)⟩
 ·rw [if_neg c4] at H
  have c4b0 : decide (t363 < 0) = false := decide_eq_false c4
  clear c4
  obtain rfl := Option.some.inj H
  go_enter Tryd.func26, Tryd.ntmps26
  go_wp2_with (first | ((with_reducible refine gate_dst (N := 2) rfl ?_); refine box_event ?hg (N := 2) ?hd (cs := #[.slice A0_0 l0_0.length c0_0]) (t := 42) ?hr ?_; (case hd => rfl); (case hg => rfl); (case hr => first | (go_simp; done) | (go_simp; rfl)); intro gb362 hg w8 hbox hb; have n0_ := Aside0.mk (below_step (stB HB.out) hb); have n1_ := Aside0.mk (hbox); have n2_ := Aside0.mk ((by rw [hg]; exact (below_size (stB HB.out)) : w.heap.size ≤ gb362)); have n3_ := Aside0.mk ((by rw [hg]; exact (below_size (stB HB.out)) : w.heap.size ≤ gb362)); clear HB; have HB := n0_; have BK362 := n1_; have GW362 := n2_; have GE362 := n3_; clear n0_ n1_ n2_ n3_; clear hb hbox hg; have hcz9_0 : w8.cell? ⟨gb362, 0, none⟩ = some (.slice A0_0 l0_0.length c0_0) := (blk_cell BK362.out 0).trans rfl; have hfz9_0 := blk_frozen BK362.out 0) | ((with_reducible refine gate_callee (f := 70) rfl ?_); refine goesL_ (some 8) rfl rfl Tryd.func70 (by kernel_rfl) rfl #[.slice A0_0 l0_0.length c0_0, .int .i64 a1] rfl (by (try simp only [List.map_toArray, List.map_cons, List.map_nil]); first | done | rfl | (simp only [List.length_drop, List.length_take]; rfl)) ?_; (with_reducible refine (laws_szSheetBlockS.calls k _ _ l0_0 a1 t363 _ ?side1 ?side2 A3.out).mono ?_); (case side1 => repeat (first | exact (Kd.C_below HR0_0.out HB.out) | (with_reducible refine Kd.C_alloc ?_ _) | (with_reducible refine Kd.C_drewN ?_ _) | (with_reducible refine Kd.C_drew ?_))); (case side2 => exact HC0_0.out); rintro e w10 ⟨rfl, hb⟩; refine ⟨_, rfl, ?_⟩; have n0_ := Aside0.mk (blk_below (g := gb362) (o := .cells #[.slice A0_0 l0_0.length c0_0] 42 (0, 0)) (by (with_reducible repeat (first | refine blk_drewN ?_ _ | refine blk_drew ?_ | refine blk_alloc ?_ _)); exact BK362.out) hb); have n1_ := Aside0.mk (below_step (by repeat (first | (with_reducible first | exact HB.out | apply below_alloc | apply pw_below_drewN | apply below_drew1 | refine below_set ?_ GE362.out) | exact HB.out)) hb); clear BK362; clear HB; have BK362 := n0_; have HB := n1_; clear n0_ n1_; (try clear hb); (try clear hb2); (try clear hk); (try clear hi)))
  go_ret
  exact ⟨by first | rfl | (simp [errW_none, errW_some] <;> rfl) | (simp [*, errW_none, errW_some] <;> rfl), by repeat (first | (with_reducible first | exact HB.out | apply below_alloc | apply pw_below_drewN | apply below_drew1 | refine below_set ?_ GE362.out) | exact HB.out)⟩
end Go.Proofs.YtmcdnpooclelgaaDoor.PAll

namespace Go.Proofs.YtmcdnpooclelgaaDoor.PAll
open Go.RowKit Go.Proofs.YtmcdnpooclelgaaDoorW.PrintWords
def LB (l : S155) : Prop := l.f0.size ≤ 9223372036854775807 ∧ l.f1.length ≤ 9223372036854775807 ∧ BS l.f1
def LBs (ls : List S155) : Prop := ls.length ≤ 9223372036854775807 ∧ ∀ l ∈ ls, LB l
def KB (b : S128) : Prop := b.f0.size ≤ 9223372036854775807 ∧ b.f1.size ≤ 9223372036854775807 ∧ LBs b.f2
def KBs (bs : List S128) : Prop := bs.length ≤ 9223372036854775807 ∧ ∀ b ∈ bs, KB b
def LF (l : S155) : Prop := l.f0.size ≤ 1048576 ∧ l.f1.length ≤ 1048576 ∧ ∀ s ∈ l.f1, s.size ≤ 1048576
def LFs (ls : List S155) : Prop := ls.length ≤ 1048576 ∧ ∀ l ∈ ls, LF l
theorem rdLl {ls : List S155} {i : Nat} (h : i < ls.length) : rd_T155 ls (i : Int) = ls[i] := by unfold rd_T155; rw [List.getD_eq_getElem?_getD, Int.toNat_natCast, List.getElem?_eq_getElem h]; rfl
def KF (b : S128) : Prop := b.f0.size ≤ 1048576 ∧ b.f1.size ≤ 1048576 ∧ LFs b.f2
def KFs (bs : List S128) : Prop := bs.length ≤ 1048576 ∧ ∀ b ∈ bs, KF b
theorem rdBl {bs : List S128} {i : Nat} (h : i < bs.length) : rd_T128 bs (i : Int) = bs[i] := by unfold rd_T128; rw [List.getD_eq_getElem?_getD, Int.toNat_natCast, List.getElem?_eq_getElem h]; rfl
end Go.Proofs.YtmcdnpooclelgaaDoor.PAll

namespace Go.Proofs.YtmcdnpooclelgaaDoor.PAll
open Go.RowKit Go.Proofs.YtmcdnpooclelgaaDoorW.PrintWords
def cvL (l : S155) : S83 := ⟨l.f0, l.f1⟩
def cvB (b : S128) : S62 := ⟨b.f0, b.f1, b.f2.map cvL⟩
def cvBs (bs : List S128) : List S62 := bs.map cvB
def smallL (l : S83) : Prop := l.f0.size ≤ 1048576 ∧ l.f1.length ≤ 1048576 ∧ ∀ s ∈ l.f1, s.size ≤ 1048576
def smallLs (ls : List S83) : Prop := ls.length ≤ 1048576 ∧ ∀ l ∈ ls, smallL l
def smallB (b : S62) : Prop := b.f0.size ≤ 1048576 ∧ b.f1.size ≤ 1048576 ∧ smallLs b.f2
def smallBs (bs : List S62) : Prop := bs.length ≤ 1048576 ∧ ∀ b ∈ bs, smallB b
theorem small_cv (bs : List S128) (h : KFs bs) : smallBs (cvBs bs) := by
  refine ⟨by rw [cvBs, List.length_map]; exact h.1, fun b hb => ?_⟩
  obtain ⟨x, hx, rfl⟩ := List.mem_map.1 hb
  obtain ⟨h1, h2, h3⟩ := h.2 x hx
  refine ⟨h1, h2, by rw [show (cvB x).f2 = x.f2.map cvL from rfl, List.length_map]; exact h3.1, fun l hl => ?_⟩
  obtain ⟨y, hy, rfl⟩ := List.mem_map.1 hl
  exact h3.2 y hy
theorem fit_small (ls : List S83) (h : smallLs ls) : fitB ls := ⟨by have := h.1; omega, fun l hl => by
  obtain ⟨h1, h2, h3⟩ := h.2 l hl
  exact ⟨by omega, by omega, fun s hs => by have := h3 s hs; omega⟩⟩
theorem fits_small (bs : List S62) (h : smallBs bs) : fitBB bs := fun b hb => by
  obtain ⟨h1, h2, h3⟩ := h.2 b hb
  exact ⟨by omega, by omega, fit_small _ h3⟩
end Go.Proofs.YtmcdnpooclelgaaDoor.PAll

namespace Go.Proofs.YtmcdnpooclelgaaDoor.PAll
open Go.RowKit Go.Proofs.YtmcdnpooclelgaaDoorW.PrintWords
theorem LBs_of {w : World} {A : Option Addr} {ls : List S155} (h : Kd.C k155 w A ls.length ls) (hb : BLs ls) : LBs ls := by
  refine ⟨h.2.1, fun l hl => ?_⟩
  obtain ⟨i, hi, rfl⟩ := List.getElem_of_mem hl
  obtain ⟨ad, A1, c1, _, _, _, _, h5⟩ := at_T155 h (i : Int) (by omega) (by omega)
  rw [rdLl hi] at h5
  exact ⟨(hb _ hl).1, h5.2.1, (hb _ hl).2⟩
theorem KBs_of {w : World} {A : Option Addr} {bs : List S128} (h : Kd.C k128 w A bs.length bs) (hb : BBs bs) : KBs bs := by
  refine ⟨h.2.1, fun b hl => ?_⟩
  obtain ⟨i, hi, rfl⟩ := List.getElem_of_mem hl
  obtain ⟨ad, A2, c2, _, _, _, _, _, h5⟩ := at_T128 h (i : Int) (by omega) (by omega)
  rw [rdBl hi] at h5
  exact ⟨(hb _ hl).1, (hb _ hl).2.1, LBs_of h5 (hb _ hl).2.2⟩
end Go.Proofs.YtmcdnpooclelgaaDoor.PAll

namespace Go.Proofs.YtmcdnpooclelgaaDoor.PAll
open Go.RowKit Go.Proofs.YtmcdnpooclelgaaDoorW.PrintWords Go.Proofs.YtmcdnpooclelgaaDoorW.PrintLast Go.Proofs.YtmcdnpooclelgaaDoorW.PrintMore
attribute [local go_sem] max2_int min2_int max_two min_two max_three min_three max_four min_four   -- for this text's walks alone
set_option linter.unusedVariables false
set_option linter.unusedSimpArgs false
def laws_markText.l0 : Nat → Int → ByteArray → Option (ByteArray)
 | 0, _, _ => none
 | k + 1, x0, x3 => if x0 > 0 then ((some (([(wrap64 (48 + (Int.tmod x0 10))) % 256] : List Int) : List Int)).bind fun y195 => (if (strOfNums y195).size + x3.size ≤ 9223372036854775807 then (laws_markText.l0 k (wrap64 (Int.tdiv x0 10)) ((strOfNums y195) ++ x3)) else (none))) else (if 1 + x3.size ≤ 9223372036854775807 then (some ((⟨#[109]⟩ : ByteArray) ++ x3)) else (none))
def laws_markText.f (k : Nat) (a0 : Int) : Option (ByteArray) := if a0 ≤ 0 then (some (⟨#[109, 48]⟩ : ByteArray)) else (laws_markText.l0 k a0 (⟨#[]⟩ : ByteArray))
set_option maxHeartbeats 8000000 in
set_option maxRecDepth 100000 in
theorem laws_markText.calls (k : Nat) (a0 : Int) (r : ByteArray) (w : World) (h : laws_markText.f k a0 = some r) :
  Calls Tryd.prog 57 #[.int .i64 a0] w fun e w' => e = .returned (.string r) ∧ Below w.heap.size w w' := by
 have HB := Aside0.mk (Below.refl w.heap.size w)
 have H : (if a0 ≤ 0 then (some (⟨#[109, 48]⟩ : ByteArray)) else (laws_markText.l0 k a0 (⟨#[]⟩ : ByteArray))) = some r := h
 clear h
 by_cases c2 : a0 ≤ 0
 ·rw [if_pos c2] at H
  have c2b0 : decide (a0 ≤ 0) = true := decide_eq_true c2
  clear c2
  obtain rfl := Option.some.inj H
  go_enter Tryd.func57, Tryd.ntmps57
  go_wp2
  go_ret
  exact ⟨by first | rfl | (simp [errW_none, errW_some] <;> rfl) | (simp [*, errW_none, errW_some] <;> rfl), by repeat (first | (with_reducible first | exact HB.out | apply below_alloc | apply pw_below_drewN | apply below_drew1) | exact HB.out)⟩
 ·rw [if_neg c2] at H
  have c2b0 : decide (a0 ≤ 0) = false := decide_eq_false c2
  clear c2
  have H' := Aside0.mk H
  clear H
  go_enter Tryd.func57, Tryd.ntmps57
  go_wp2
  go_loopg [0, 3] k (fun kq v0 v3 w' => ∃ (x0_1 : Int) (x3_1 : ByteArray), v0 = .int .i64 x0_1 ∧ v3 = .string x3_1 ∧ Aside0 (laws_markText.l0 kq x0_1 x3_1 = some r) ∧ Aside0 (kq ≤ k) ∧ Aside0 (Below w.heap.size w w'))
  case atStart => exact ⟨(a0), ((⟨#[]⟩ : ByteArray)), (by first | rfl | (simp; done) | (simp [*]; done)), (by first | rfl | (simp; done) | (simp [*]; done)), H', ⟨Nat.le_refl _⟩, ⟨by repeat (first | (with_reducible first | exact HB.out | apply below_alloc | apply pw_below_drewN | apply below_drew1) | exact HB.out)⟩⟩
  case round =>
   clear H'
   try clear c2
   try clear c2b0
   try clear p2
   obtain ⟨x0_1, x3_1, rfl, rfl, HA, HK1, HB⟩ := hrel
   cases gk with
   | zero => exact absurd HA.out (by simp [laws_markText.l0])
   | succ k1 =>
    have H := HA.out
    clear HA
    simp only [laws_markText.l0] at H
    by_cases c3 : x0_1 > 0
    ·rw [if_pos c3] at H
     have c3b0 : decide (0 < x0_1) = true := decide_eq_true c3
     clear c3
     obtain ⟨y195, hy195⟩ : ∃ y_ : List Int, y_ = (([(wrap64 (48 + (Int.tmod x0_1 10))) % 256] : List Int)) := ⟨_, rfl⟩
     replace H : (if (strOfNums y195).size + x3_1.size ≤ 9223372036854775807 then (laws_markText.l0 k1 (wrap64 (Int.tdiv x0_1 10)) ((strOfNums y195) ++ x3_1)) else (none)) = some r := by first | (rw [hy195]; with_reducible exact H) | (have H2_ := (Option.bind_some _ _).symm.trans H; rw [hy195]; with_reducible exact H2_) | (have H2_ := (Option.bind_some _ _).symm.trans H; with_reducible exact H2_) | with_reducible exact H | (rw [hy195]; exact H) | exact H
     have Ny195 := Aside0.mk hy195
     clear hy195
     by_cases c4 : (strOfNums y195).size + x3_1.size ≤ 9223372036854775807
     ·rw [if_pos c4] at H
      have c4b0 := eq_true c4
      have c4b1 : decide ((strOfNums y195).size + x3_1.size ≤ 9223372036854775807) = true := decide_eq_true c4
      try have c4b2 : (9223372036854775807 < (strOfNums y195).size + x3_1.size) = False := eq_false (Nat.not_lt.2 c4)
      have H' := Aside0.mk H
      clear H
      go_wp2_with (first | ((with_reducible refine gate_dst (N := 12) rfl ?_); refine Kd.R_lit (Kd.int .u8) _ 5 ?hg (N := 12) ?hd (xs := ([(wrap64 (48 + (Int.tmod x0_1 10))) % 256] : List Int)) (inner := [.int .u8 ((wrap64 (48 + (Int.tmod x0_1 10))) % 256)]) (ok := fun _ => True) (okp := fun _ => True) ?hr ?hp (fun _ hk => hk) trivial (Below.refl _ _) (Nat.le_refl _) (by simp) ?_; (case hd => rfl); (case hg => rfl); (case hr => first | (go_simp; done) | (go_simp; rfl)); (case hp => exact (Reps.one (show Kd.M (Kd.int .u8) _ _ _ ((wrap64 (48 + (Int.tmod x0_1 10))) % 256) [.int .u8 ((wrap64 (48 + (Int.tmod x0_1 10))) % 256)] from rfl) (Reps.none _ _))); intro v196 w5 ho6 hb hg_ hnew_; clear hg_ hnew_; (first | rw [← Ny195.out] at ho6 | (simp only [Int.reduceToNat] at ho6; rw [← Ny195.out] at ho6)); have n0_ := Aside0.mk (Kd.R_lower ho6 (below_size (stB HB.out))); have n1_ := Aside0.mk (below_step (stB HB.out) hb); clear HB; have HO197 := n0_; have HB := n1_; clear n0_ n1_; clear hb ho6; have hcv7 := own_string (P := Tryd.prog) Tryd.underlying32 Tryd.underlying5 Tryd.underlying9 (Kd.own_of_R HO197.out)))
      go_roundg k1
      case measure => have := HK1.out; omega
      case rel => exact ⟨(wrap64 (Int.tdiv x0_1 10)), ((strOfNums y195) ++ x3_1), (by first | rfl | (simp; done) | (simp [*]; done)), (by first | rfl | (simp; done) | (simp [*]; done)), H', ⟨by have := HK1.out; omega⟩, ⟨by repeat (first | (with_reducible first | exact HB.out | apply below_alloc | apply pw_below_drewN | apply below_drew1) | exact HB.out)⟩⟩
     ·rw [if_neg c4] at H
      exact absurd H (by simp)
    ·rw [if_neg c3] at H
     have c3b0 : decide (0 < x0_1) = false := decide_eq_false c3
     clear c3
     by_cases c8 : 1 + x3_1.size ≤ 9223372036854775807
     ·rw [if_pos c8] at H
      have c8b0 := eq_true c8
      have c8b1 : decide (1 + x3_1.size ≤ 9223372036854775807) = true := decide_eq_true c8
      try have c8b2 : (9223372036854775807 < 1 + x3_1.size) = False := eq_false (Nat.not_lt.2 c8)
      obtain rfl := Option.some.inj H
      go_wp2
      go_ret
      exact ⟨by first | rfl | (simp [errW_none, errW_some] <;> rfl) | (simp [*, errW_none, errW_some] <;> rfl), by repeat (first | (with_reducible first | exact HB.out | apply below_alloc | apply pw_below_drewN | apply below_drew1) | exact HB.out)⟩
     ·rw [if_neg c8] at H
      exact absurd H (by simp)
end Go.Proofs.YtmcdnpooclelgaaDoor.PAll

namespace Go.Proofs.YtmcdnpooclelgaaDoor.PAll
open Go.RowKit Go.Proofs.YtmcdnpooclelgaaDoorW.PrintWords
def digsP (k : Nat) (out : ByteArray) : ByteArray := if _h : k = 0 then out else digsP (k / 10) (strOfNums [(48 + k % 10 : Nat)] ++ out)
termination_by k
decreasing_by omega
theorem digsP_zero (out : ByteArray) : digsP 0 out = out := by rw [digsP]; simp
theorem digsP_pos (k : Nat) (out : ByteArray) (h : k ≠ 0) : digsP k out = digsP (k / 10) (strOfNums [(48 + k % 10 : Nat)] ++ out) := by rw [digsP, dif_neg h]
def mtP (k : Int) : ByteArray := if k ≤ 0 then ⟨#[109, 48]⟩ else (⟨#[109]⟩ : ByteArray) ++ digsP k.toNat ⟨#[]⟩
theorem markText_l0 : ∀ (b n : Nat) (out : ByteArray), n ≤ b → n ≤ 1099511627776 → out.size + n ≤ 1099511627776 → Ev (fun k => laws_markText.l0 k n out) ((⟨#[109]⟩ : ByteArray) ++ digsP n out)
  | b, n, out, hb, hn, hs => by
    by_cases h0 : n = 0
    · subst h0
      rw [digsP_zero]
      exact Ev.unf (fun _ => some ((⟨#[109]⟩ : ByteArray) ++ out)) (fun k => by simp only [laws_markText.l0]; rw [if_neg (by omega), if_pos (by omega)]) (Ev.now _)
    · cases b with
      | zero => omega
      | succ b =>
        have e1 : wrap64 (Int.tdiv (n : Int) 10) = ((n / 10 : Nat) : Int) := by rw [Int.tdiv_eq_ediv_of_nonneg (by omega), w64 (by omega) (by omega)]; omega
        have e2 : (wrap64 (48 + Int.tmod (n : Int) 10)) % 256 = ((48 + n % 10 : Nat) : Int) := by rw [Int.tmod_eq_emod_of_nonneg (by omega), w64 (by omega) (by omega)]; omega
        rw [digsP_pos n out h0]
        refine Ev.unf (fun k => laws_markText.l0 k ((n / 10 : Nat) : Int) (strOfNums [((48 + n % 10 : Nat) : Int)] ++ out)) (fun k => ?_) (markText_l0 b (n / 10) _ (by omega) (by omega) (by rw [ByteArray.size_append, str1_size]; omega))
        simp only [laws_markText.l0]
        rw [if_pos (by omega), e1, e2, Option.bind_some, if_pos (by rw [str1_size]; omega)]
theorem ev_markText (n : Int) (h : n ≤ 1099511627776) : Ev (fun k => laws_markText.f k n) (mtP n) := by
  unfold laws_markText.f mtP
  by_cases h0 : n ≤ 0
  · simp only [if_pos h0]; exact Ev.now _
  · simp only [if_neg h0]
    obtain ⟨m, rfl⟩ := Int.eq_ofNat_of_zero_le (show 0 ≤ n by omega)
    exact markText_l0 m m ⟨#[]⟩ (Nat.le_refl _) (by omega) (by show 0 + m ≤ _; omega)
theorem markText_any (n : Int) (w : World) (h : n ≤ 1099511627776) : Calls Tryd.prog 57 #[.int .i64 n] w fun e w' => e = .returned (.string (mtP n)) ∧ Below w.heap.size w w' := by
  obtain ⟨k, hk⟩ := (ev_markText n h).rounds
  exact laws_markText.calls k n _ w hk
def marks (k : Int) (n : Nat) : List ByteArray := (List.range n).map fun (j : Nat) => mtP (k + (j : Int))
theorem marks_len (k : Int) (n : Nat) : (marks k n).length = n := by simp [marks]
theorem marks_succ (k : Int) (n : Nat) : marks k (n + 1) = marks k n ++ [mtP (k + (n : Int))] := by simp [marks, List.range_succ]
theorem marks_set (k : Int) (xs : List ByteArray) (j : Nat) (h : j < xs.length) : (marks k j ++ xs.drop j).set j (mtP (k + (j : Int))) = marks k (j + 1) ++ xs.drop (j + 1) := by
  rw [List.set_append_right _ _ (by rw [marks_len]; exact Nat.le_refl _), marks_len, Nat.sub_self, List.drop_eq_getElem_cons h, List.set_cons_zero, marks_succ, List.append_assoc]; rfl
set_option maxRecDepth 100000 in
set_option maxHeartbeats 1000000 in
theorem markStringS_any (A : Option Addr) (c base : Nat) (xs : List ByteArray) (k : Int) (w : World) (ho : ER Value.string w base 9 (.slice A xs.length c) xs) (hk : 0 ≤ k) (hk2 : k + xs.length ≤ 1099511627776) :
    Calls Tryd.prog 59 #[.slice A xs.length c, .int .i64 k] w fun e w' => e = .returned (.int .i64 (k + (xs.length : Int))) ∧ ER Value.string w' base 9 (.slice A xs.length c) (marks k xs.length) ∧ Upd (Value.slice A xs.length c).ownBlock.toList w w' := by
  have HO := Aside0.mk ho
  clear ho
  go_enter Tryd.func59, Tryd.ntmps59
  go_wp2
  go_loopw [1, 5] (fun kv i wr => ∃ j : Nat, kv = .int .i64 (k + (j : Int)) ∧ i = .int .i64 j ∧ j ≤ xs.length ∧ Aside0 (ER Value.string wr base 9 (.slice A xs.length c) (marks k j ++ xs.drop j)) ∧ Aside0 (Upd (Value.slice A xs.length c).ownBlock.toList w wr)) (fun _ i _ => xs.length - (intOf i).toNat)
  case atStart => exact ⟨0, by simp, rfl, Nat.zero_le _, ⟨by simpa [marks] using HO.out⟩, ⟨Upd.refl _ _⟩⟩
  case round =>
    obtain ⟨j, rfl, rfl, hj, ho, hu⟩ := hrel
    by_cases hlt : j < xs.length
    · have hL : Aside0 ((marks k j ++ xs.drop j).length = xs.length) := ⟨by rw [List.length_append, marks_len, List.length_drop]; omega⟩
      obtain ⟨A', c', he, hf⟩ := ER.form ho.out
      injection he with he1 he2 he3
      subst he1
      obtain ⟨g, rfl, hb0, hb1, hfz, hcl⟩ := hf (by rw [hL.out]; omega)
      have hc0 := hcl j _ (List.getElem?_eq_getElem (by rw [hL.out]; exact hlt))
      have hfj := hfz j
      clear hf hfz hcl he2 he3
      generalize (marks k j ++ xs.drop j)[j]'(by rw [hL.out]; exact hlt) = old at hc0
      have hgo : Aside0 ((Value.slice (some ⟨g, 0, none⟩) xs.length c).ownBlock.toList = [g]) := ⟨rfl⟩
      go_wp2_with (go_at_call 57; refine (markText_any _ _ (by omega)).mono ?_; rintro e w1 ⟨rfl, hbl⟩; have hc1 := pw_cell_below hbl hc0; have hf1 := (hbl.frozen (p := ⟨g, j, none⟩) hb1).trans hfj; have ho1 := Aside0.mk (ho.out.below hbl))
      go_roundw
      case rel =>
        have h1 := ho1.out
        unfold ER at h1
        rw [hL.out] at h1
        have hst : ER Value.string (w1.setCell ⟨g, j, none⟩ (.string (mtP (k + (j : Int))))) base 9 (.slice (some ⟨g, 0, none⟩) xs.length c) (marks k (j + 1) ++ xs.drop (j + 1)) ∧ w1.grownBy (w1.setCell ⟨g, j, none⟩ (.string (mtP (k + (j : Int))))) (some g) := by
          obtain ⟨q1, q2⟩ := World.ownsRow.stored h1 j (.string (mtP (k + (j : Int))))
          refine ⟨?_, q2⟩
          unfold ER
          rw [← marks_set k xs j hlt, List.length_set, hL.out, List.map_set]
          exact q1
        exact ⟨j + 1, by go_num, by go_num, hlt, ⟨hst.1⟩, ⟨(hu.out.trans (Upd.of_below hbl []) (fun _ hx => by cases hx)).trans (Upd.of_grown hst.2) (fun x hx _ => hx)⟩⟩
      case measure => simp [intOf]; omega
    · obtain rfl : j = xs.length := by omega
      go_wp2
      go_ret
      exact ⟨rfl, by simpa using ho.out, hu.out⟩
theorem ones_cells {α : Type} {enc : α → Value} {h1 : ∀ x, (enc x).oneCell' = true} {w : World} {b : Nat} : ∀ (vss : List (List Value)) (xs : List α) (F : List Nat), Els (.one enc h1) w b vss xs F → vss = xs.map (fun x => [enc x]) ∧ F = []
  | [], [], F, h => ⟨rfl, h⟩
  | vs :: vss, x :: xs, F, h => by
    obtain ⟨G, H, rfl, ⟨h1, h2⟩, h3, _⟩ := h
    obtain ⟨h4, h5⟩ := ones_cells vss xs H h3
    exact ⟨by rw [h1, h4]; rfl, by rw [h2, h5]; rfl⟩
theorem ones_ER {α : Type} {enc : α → Value} {h1 : ∀ x, (enc x).oneCell' = true} {e : TypeId} {w : World} {b : Nat} {v : Value} {xs : List α} {F : List Nat} : (Sh.row (.one enc h1) e).ow w b [v] xs F ↔ ER enc w b e v xs ∧ F = v.ownBlock.toList := by
  constructor
  · rintro ⟨v', vss, Gs, hv, ho, he, rfl, _⟩
    injection hv with hv _
    subst hv
    obtain ⟨rfl, rfl⟩ := ones_cells _ _ _ he
    rw [ones_flat] at ho
    exact ⟨ho, by simp⟩
  · rintro ⟨ho, rfl⟩
    exact ⟨v, _, [], rfl, by rw [ones_flat]; exact ho, Els.ones enc h1 w b xs, by simp, by simp⟩
def cntAll {α : Type} (cnt : α → Nat) : List α → Nat
  | [] => 0
  | x :: xs => cnt x + cntAll cnt xs
def markAll {α : Type} (mk : α → Int → α) (cnt : α → Nat) : List α → Int → List α
  | [], _ => []
  | x :: xs, k => mk x k :: markAll mk cnt xs (k + cnt x)
theorem markAll_len {α : Type} (mk : α → Int → α) (cnt : α → Nat) : ∀ (xs : List α) (k : Int), (markAll mk cnt xs k).length = xs.length
  | [], _ => rfl
  | x :: xs, k => by simp [markAll, markAll_len mk cnt xs]
theorem cntAll_snoc {α : Type} (cnt : α → Nat) : ∀ (xs : List α) (x : α), cntAll cnt (xs ++ [x]) = cntAll cnt xs + cnt x
  | [], x => by simp [cntAll]
  | y :: xs, x => by simp only [List.cons_append, cntAll, cntAll_snoc cnt xs]; omega
theorem markAll_snoc {α : Type} (mk : α → Int → α) (cnt : α → Nat) : ∀ (xs : List α) (x : α) (k : Int), markAll mk cnt (xs ++ [x]) k = markAll mk cnt xs k ++ [mk x (k + cntAll cnt xs)]
  | [], x, k => by simp [markAll, cntAll]
  | y :: xs, x, k => by
    simp only [List.cons_append, markAll, markAll_snoc mk cnt xs, cntAll]
    rw [show k + (cnt y : Int) + (cntAll cnt xs : Int) = k + ((cnt y + cntAll cnt xs : Nat) : Int) by omega]
theorem cntAll_take {α : Type} (cnt : α → Nat) (xs : List α) (j : Nat) (h : j < xs.length) : cntAll cnt (xs.take (j + 1)) = cntAll cnt (xs.take j) + cnt xs[j] := by
  rw [List.take_add_one, List.getElem?_eq_getElem h]
  exact cntAll_snoc _ _ _
theorem cntAll_le {α : Type} (cnt : α → Nat) : ∀ (xs : List α) (j : Nat), cntAll cnt (xs.take j) ≤ cntAll cnt xs
  | [], j => by simp [cntAll]
  | x :: xs, 0 => by simp [cntAll]
  | x :: xs, j + 1 => by simp only [List.take_succ_cons, cntAll]; have := cntAll_le cnt xs j; omega
def half {α : Type} (mk : α → Int → α) (cnt : α → Nat) (xs : List α) (k : Int) (j : Nat) : List α := markAll mk cnt (xs.take j) k ++ xs.drop j
theorem half_len {α : Type} (mk : α → Int → α) (cnt : α → Nat) (xs : List α) (k : Int) (j : Nat) (h : j ≤ xs.length) : (half mk cnt xs k j).length = xs.length := by
  unfold half; rw [List.length_append, markAll_len, List.length_take, List.length_drop]; omega
theorem half_get {α : Type} (mk : α → Int → α) (cnt : α → Nat) (xs : List α) (k : Int) (j : Nat) (h : j < xs.length) : (half mk cnt xs k j)[j]? = some xs[j] := by
  unfold half
  rw [List.getElem?_append_right (by rw [markAll_len, List.length_take]; omega), markAll_len, List.length_take, show j - min j xs.length = 0 by omega, List.drop_eq_getElem_cons h]
  rfl
theorem half_set {α : Type} (mk : α → Int → α) (cnt : α → Nat) (xs : List α) (k : Int) (j : Nat) (h : j < xs.length) : (half mk cnt xs k j).set j (mk xs[j] (k + cntAll cnt (xs.take j))) = half mk cnt xs k (j + 1) := by
  unfold half
  rw [List.set_append_right _ _ (by rw [markAll_len, List.length_take]; omega), markAll_len, List.length_take, show j - min j xs.length = 0 by omega, List.drop_eq_getElem_cons h, List.set_cons_zero, List.take_add_one, List.getElem?_eq_getElem h]
  rw [show xs.take j ++ (some xs[j]).toList = xs.take j ++ [xs[j]] from rfl, markAll_snoc, List.append_assoc]
  rfl
theorem half_end {α : Type} (mk : α → Int → α) (cnt : α → Nat) (xs : List α) (k : Int) : half mk cnt xs k xs.length = markAll mk cnt xs k := by unfold half; simp
end Go.Proofs.YtmcdnpooclelgaaDoor.PAll

namespace Go.Proofs.YtmcdnpooclelgaaDoor.PAll
open Go.RowKit Go.Proofs.YtmcdnpooclelgaaDoorW.PrintWords
theorem strs_ER {w : World} {b : Nat} {v : Value} {xs : List ByteArray} {F : List Nat} : strsS.ow w b [v] xs F ↔ ER Value.string w b 9 v xs ∧ F = v.ownBlock.toList := ones_ER
theorem own_form {α : Type} {A : Sh α} {e : TypeId} {w : World} {b : Nat} {v : Value} {xs : List α} {F : List Nat} (h : (Sh.row A e).ow w b [v] xs F) : ∃ Ad c, v = .slice Ad xs.length c := by
  obtain ⟨Ad, c, hv, _⟩ := (Sh.row A e).ord h
  injection hv with hv _
  exact ⟨Ad, c, hv⟩
section
variable {w w' : World} {b : Nat} {v av dv : Value} {ys : List S36} {F : List Nat} {j g c : Nat} {s0 : ByteArray} {n0 : List Int} {m0 : Bool} {d0 : List ByteArray} {G : List Nat}
end
theorem upd_in {F bs : List Nat} {w w1 w2 : World} (h : Upd F w w1) (k : Upd bs w1 w2) (hb : ∀ y ∈ bs, y ∈ F) : Upd F w w2 := h.trans k (fun y hy _ => hb y hy)
end Go.Proofs.YtmcdnpooclelgaaDoor.PAll

namespace Go.Proofs.YtmcdnpooclelgaaDoor.PAll
open Go.RowKit Go.Proofs.YtmcdnpooclelgaaDoorW.PrintWords Go.Proofs.YtmcdnpooclelgaaDoorW.PrintLast Go.Proofs.YtmcdnpooclelgaaDoorW.PrintMore
attribute [local go_sem] max2_int min2_int max_two min_two max_three min_three max_four min_four   -- for this text's walks alone
set_option linter.unusedVariables false
set_option linter.unusedSimpArgs false
def laws_heldStringS.l0 : Nat → List ByteArray → Int → Int → Option (Int)
 | 0, _, _, _ => none
 | k + 1, x0, x1, x5 => if x5 < (x0.length : Int) then (if 0 ≤ x5 then ((laws_markText.f k x1).bind fun t204 => (if (rdOf ByteArray.empty x0 x5).toList = t204.toList then (laws_heldStringS.l0 k x0 (wrap64 (x1 + 1)) (wrap64 (x5 + 1))) else (some (-1)))) else (none)) else (some x1)
def laws_heldStringS.f (k : Nat) (l0 : List ByteArray) (a1 : Int) : Option (Int) := laws_heldStringS.l0 k l0 a1 0
set_option maxHeartbeats 8000000 in
set_option maxRecDepth 100000 in
theorem laws_heldStringS.calls (k : Nat) (A0 : Option Addr) (c0 : Nat) (l0 : List ByteArray) (a1 : Int) (r : Int) (w : World) (hr0 : Kd.C Kd.string w A0 l0.length l0) (hc0 : l0.length ≤ c0) (h : laws_heldStringS.f k l0 a1 = some r) :
  Calls Tryd.prog 61 #[.slice A0 l0.length c0, .int .i64 a1] w fun e w' => e = .returned (.int .i64 r) ∧ Below w.heap.size w w' := by
 have HR0 := Aside0.mk hr0
 have HC0 := Aside0.mk hc0
 clear hr0 hc0
 have HB := Aside0.mk (Below.refl w.heap.size w)
 have H : (laws_heldStringS.l0 k l0 a1 0) = some r := h
 clear h
 have H' := Aside0.mk H
 clear H
 go_enter Tryd.func61, Tryd.ntmps61
 go_wp2
 go_loopg [1, 5] k (fun kq v1 v5 w' => ∃ (x1_1 : Int) (x5_1 : Int), v1 = .int .i64 x1_1 ∧ v5 = .int .i64 x5_1 ∧ Aside0 (laws_heldStringS.l0 kq l0 x1_1 x5_1 = some r) ∧ Aside0 (kq ≤ k) ∧ Aside0 (Below w.heap.size w w'))
 case atStart => exact ⟨(a1), (0), (by first | rfl | (simp; done) | (simp [*]; done)), (by first | rfl | (simp; done) | (simp [*]; done)), H', ⟨Nat.le_refl _⟩, ⟨by repeat (first | (with_reducible first | exact HB.out | apply below_alloc | apply pw_below_drewN | apply below_drew1) | exact HB.out)⟩⟩
 case round =>
  clear H'
  try clear p2
  obtain ⟨x1_1, x5_1, rfl, rfl, HA, HK1, HB⟩ := hrel
  cases gk with
  | zero => exact absurd HA.out (by simp [laws_heldStringS.l0])
  | succ k1 =>
   have H := HA.out
   clear HA
   simp only [laws_heldStringS.l0] at H
   by_cases c3 : x5_1 < (l0.length : Int)
   ·rw [if_pos c3] at H
    have c3b0 : decide (x5_1 < (l0.length : Int)) = true := decide_eq_true c3
    clear c3
    by_cases c4 : 0 ≤ x5_1
    ·rw [if_pos c4] at H
     have c4b0 : decide (0 ≤ x5_1) = true := decide_eq_true c4
     clear c4
     replace H := Option.bind_eq_some_iff.mp H
     obtain ⟨t204, A50, H⟩ := H
     replace H : (if (rdOf ByteArray.empty l0 x5_1).toList = t204.toList then (laws_heldStringS.l0 k1 l0 (wrap64 (x1_1 + 1)) (wrap64 (x5_1 + 1))) else (some (-1))) = some r := H
     have A5 := Aside0.mk A50
     clear A50
     by_cases c6 : (rdOf ByteArray.empty l0 x5_1).toList = t204.toList
     ·rw [if_pos c6] at H
      have c6b0 : ((rdOf ByteArray.empty l0 x5_1).toList == t204.toList) = true := beq_iff_eq.mpr c6
      have c6b1 : ((rdOf ByteArray.empty l0 x5_1).toList != t204.toList) = false := bne_eq_false_iff_eq.mpr c6
      clear c6
      have H' := Aside0.mk H
      clear H
      try go_wp2
      have n0_ := Aside0.mk (below_drew1 HB.out)
      clear HB
      have HB := n0_
      clear n0_
      have p203 : 0 ≤ (x5_1 : Int) := of_decide_eq_true (by first | (with_reducible assumption) | assumption)
      have q203 : x5_1 < (l0.length : Int) := of_decide_eq_true (by first | (with_reducible assumption) | assumption)
      obtain ⟨ad203, e203, hx203_0⟩ := Kd.at_string HR0.out x5_1 p203 q203
      have hw203_0 := hx203_0
      cases e203
      (try replace hx203_0 := (HB.out.cell (World.block_lt_of_cell? w _ hx203_0)).trans hx203_0)
      replace p203 := eq_true p203
      replace q203 := eq_true q203
      refine start_ (n := 7) (S := fun w' => w'.cell? (ad203.add (x5_1).toNat) = some (.string (rdOf ByteArray.empty l0 x5_1))) (ds := []) (bz 7 0) (by kernel_rfl) rfl rfl ((by first | exact (HB.out.cell (World.block_lt_of_cell? w _ hw203_0)).trans hw203_0 | exact hw203_0)) (fun hHeld => ?_)
      generalize wr.drew = w7 at HB hx203_0 hHeld ⊢
      refine pure_ (i := 0) (N := some 12) (v := ?_) (a' := ?_) (bz 7 1) rfl rfl (by kernel_rfl) (fun _ _ _ h => h) (Or.inl ⟨by rfl, ?_⟩) ?_ ?_
      rotate_left
      ·intro w'
       go_simp
       with_reducible rfl
      rotate_left
      ·simp only [Act.put, List.setIfInBounds_toArray, List.set_cons_zero, List.set_cons_succ, i64_w, i32_w]
       rfl
      refine pure_ (i := 1) (N := some 13) (v := ?_) (a' := ?_) (bz 7 3) rfl rfl (by kernel_rfl) (fun _ _ _ h => h) (Or.inl ⟨by rfl, ?_⟩) ?_ ?_
      rotate_left
      ·intro w'
       go_simp
       with_reducible rfl
      rotate_left
      ·simp only [Act.put, List.setIfInBounds_toArray, List.set_cons_zero, List.set_cons_succ, i64_w, i32_w]
       rfl
      refine pure_ (i := 2) (N := some 14) (v := ?_) (a' := ?_) (bz 7 7) rfl rfl (by kernel_rfl) (fun _ _ _ h => h) (Or.inl ⟨by rfl, ?_⟩) ?_ ?_
      rotate_left
      ·intro w'
       go_simp
       with_reducible rfl
      rotate_left
      ·simp only [Act.put, List.setIfInBounds_toArray, List.set_cons_zero, List.set_cons_succ, i64_w, i32_w]
       rfl
      refine pure_ (i := 4) (N := some 16) (v := ?_) (a' := ?_) (bz 7 23) rfl rfl (by kernel_rfl) (fun _ _ _ h => h) (Or.inl ⟨by rfl, ?_⟩) ?_ ?_
      rotate_left
      ·intro w'
       go_simp
       with_reducible rfl
      rotate_left
      ·simp only [Act.put, List.setIfInBounds_toArray, List.set_cons_zero, List.set_cons_succ, i64_w, i32_w]
       rfl
      refine take_ (i := 3) (N := some 15) (v := ?_) (a' := ?_) (bz 7 31) rfl rfl (by kernel_rfl) (fun _ _ _ h => h) (Or.inl ⟨by rfl, ?_⟩) hHeld ?_ ?_
      rotate_left
      ·intro w' s0
       go_simp
       with_reducible rfl
      rotate_left
      ·simp only [Act.put, List.setIfInBounds_toArray, List.set_cons_zero, List.set_cons_succ, i64_w, i32_w]
       rfl
      refine one_ (i := 5) (N := some 17) (bz 7 63) rfl rfl (by kernel_rfl) (by decide) (fun K hK => ?_)
      refine goes_ Tryd.func57 (by kernel_rfl) rfl #[.int .i64 x1_1] (by rfl) rfl rfl (by (try simp only [List.map_toArray, List.map_cons, List.map_nil]); first | done | rfl | (simp only [List.length_drop, List.length_take]; rfl)) ?_
      with_reducible refine (laws_markText.calls k1 x1_1 t204 _ A5.out).mono ?_
      rintro e w8 ⟨rfl, hb⟩
      refine ⟨_, rfl, ?_⟩
      have n0_ := Aside0.mk (below_step (stB HB.out) hb)
      clear HB
      have HB := n0_
      clear n0_
      (try clear hb)
      (try clear hb2)
      (try clear hk)
      (try clear hi)
      refine hK.out _ _ ((by first | exact (HB.out.cell (World.block_lt_of_cell? w _ hw203_0)).trans hw203_0 | exact hw203_0)) (fun hHeld => ?_)
      clear hK K
      refine norm_ (a' := ?_) ?_ ?_
      rotate_left
      ·show Act.put _ (some 17) _ = _
       simp only [Act.put, List.setIfInBounds_toArray, List.set_cons_zero, List.set_cons_succ, i64_w, i32_w]
       rfl
      refine pure_ (i := 6) (N := some 18) (v := ?_) (a' := ?_) (bz 7 127) rfl rfl (by kernel_rfl) (fun _ _ _ h => h) (Or.inl ⟨by rfl, ?_⟩) ?_ ?_
      rotate_left
      ·intro w'
       go_simp
       with_reducible rfl
      rotate_left
      ·simp only [Act.put, List.setIfInBounds_toArray, List.set_cons_zero, List.set_cons_succ, i64_w, i32_w]
       rfl
      refine done_ (by kernel_rfl) ?_
      try go_wp2
      go_roundg k1
      case measure => have := HK1.out; omega
      case rel => exact ⟨(wrap64 (x1_1 + 1)), (wrap64 (x5_1 + 1)), (by first | rfl | (simp; done) | (simp [*]; done)), (by first | rfl | (simp; done) | (simp [*]; done)), H', ⟨by have := HK1.out; omega⟩, ⟨by repeat (first | (with_reducible first | exact HB.out | apply below_alloc | apply pw_below_drewN | apply below_drew1) | exact HB.out)⟩⟩
     ·rw [if_neg c6] at H
      have c6b0 : ((rdOf ByteArray.empty l0 x5_1).toList == t204.toList) = false := beq_eq_false_iff_ne.mpr c6
      have c6b1 : ((rdOf ByteArray.empty l0 x5_1).toList != t204.toList) = true := bne_iff_ne.mpr c6
      obtain rfl := Option.some.inj H
      try go_wp2
      have n0_ := Aside0.mk (below_drew1 HB.out)
      clear HB
      have HB := n0_
      clear n0_
      have p203 : 0 ≤ (x5_1 : Int) := of_decide_eq_true (by first | (with_reducible assumption) | assumption)
      have q203 : x5_1 < (l0.length : Int) := of_decide_eq_true (by first | (with_reducible assumption) | assumption)
      obtain ⟨ad203, e203, hx203_0⟩ := Kd.at_string HR0.out x5_1 p203 q203
      have hw203_0 := hx203_0
      cases e203
      (try replace hx203_0 := (HB.out.cell (World.block_lt_of_cell? w _ hx203_0)).trans hx203_0)
      replace p203 := eq_true p203
      replace q203 := eq_true q203
      refine start_ (n := 7) (S := fun w' => w'.cell? (ad203.add (x5_1).toNat) = some (.string (rdOf ByteArray.empty l0 x5_1))) (ds := []) (bz 7 0) (by kernel_rfl) rfl rfl ((by first | exact (HB.out.cell (World.block_lt_of_cell? w _ hw203_0)).trans hw203_0 | exact hw203_0)) (fun hHeld => ?_)
      generalize wr.drew = w9 at HB hx203_0 hHeld ⊢
      refine pure_ (i := 0) (N := some 12) (v := ?_) (a' := ?_) (bz 7 1) rfl rfl (by kernel_rfl) (fun _ _ _ h => h) (Or.inl ⟨by rfl, ?_⟩) ?_ ?_
      rotate_left
      ·intro w'
       go_simp
       with_reducible rfl
      rotate_left
      ·simp only [Act.put, List.setIfInBounds_toArray, List.set_cons_zero, List.set_cons_succ, i64_w, i32_w]
       rfl
      refine pure_ (i := 1) (N := some 13) (v := ?_) (a' := ?_) (bz 7 3) rfl rfl (by kernel_rfl) (fun _ _ _ h => h) (Or.inl ⟨by rfl, ?_⟩) ?_ ?_
      rotate_left
      ·intro w'
       go_simp
       with_reducible rfl
      rotate_left
      ·simp only [Act.put, List.setIfInBounds_toArray, List.set_cons_zero, List.set_cons_succ, i64_w, i32_w]
       rfl
      refine pure_ (i := 2) (N := some 14) (v := ?_) (a' := ?_) (bz 7 7) rfl rfl (by kernel_rfl) (fun _ _ _ h => h) (Or.inl ⟨by rfl, ?_⟩) ?_ ?_
      rotate_left
      ·intro w'
       go_simp
       with_reducible rfl
      rotate_left
      ·simp only [Act.put, List.setIfInBounds_toArray, List.set_cons_zero, List.set_cons_succ, i64_w, i32_w]
       rfl
      refine pure_ (i := 4) (N := some 16) (v := ?_) (a' := ?_) (bz 7 23) rfl rfl (by kernel_rfl) (fun _ _ _ h => h) (Or.inl ⟨by rfl, ?_⟩) ?_ ?_
      rotate_left
      ·intro w'
       go_simp
       with_reducible rfl
      rotate_left
      ·simp only [Act.put, List.setIfInBounds_toArray, List.set_cons_zero, List.set_cons_succ, i64_w, i32_w]
       rfl
      refine take_ (i := 3) (N := some 15) (v := ?_) (a' := ?_) (bz 7 31) rfl rfl (by kernel_rfl) (fun _ _ _ h => h) (Or.inl ⟨by rfl, ?_⟩) hHeld ?_ ?_
      rotate_left
      ·intro w' s0
       go_simp
       with_reducible rfl
      rotate_left
      ·simp only [Act.put, List.setIfInBounds_toArray, List.set_cons_zero, List.set_cons_succ, i64_w, i32_w]
       rfl
      refine one_ (i := 5) (N := some 17) (bz 7 63) rfl rfl (by kernel_rfl) (by decide) (fun K hK => ?_)
      refine goes_ Tryd.func57 (by kernel_rfl) rfl #[.int .i64 x1_1] (by rfl) rfl rfl (by (try simp only [List.map_toArray, List.map_cons, List.map_nil]); first | done | rfl | (simp only [List.length_drop, List.length_take]; rfl)) ?_
      with_reducible refine (laws_markText.calls k1 x1_1 t204 _ A5.out).mono ?_
      rintro e w10 ⟨rfl, hb⟩
      refine ⟨_, rfl, ?_⟩
      have n0_ := Aside0.mk (below_step (stB HB.out) hb)
      clear HB
      have HB := n0_
      clear n0_
      (try clear hb)
      (try clear hb2)
      (try clear hk)
      (try clear hi)
      refine hK.out _ _ ((by first | exact (HB.out.cell (World.block_lt_of_cell? w _ hw203_0)).trans hw203_0 | exact hw203_0)) (fun hHeld => ?_)
      clear hK K
      refine norm_ (a' := ?_) ?_ ?_
      rotate_left
      ·show Act.put _ (some 17) _ = _
       simp only [Act.put, List.setIfInBounds_toArray, List.set_cons_zero, List.set_cons_succ, i64_w, i32_w]
       rfl
      refine pure_ (i := 6) (N := some 18) (v := ?_) (a' := ?_) (bz 7 127) rfl rfl (by kernel_rfl) (fun _ _ _ h => h) (Or.inl ⟨by rfl, ?_⟩) ?_ ?_
      rotate_left
      ·intro w'
       go_simp
       with_reducible rfl
      rotate_left
      ·simp only [Act.put, List.setIfInBounds_toArray, List.set_cons_zero, List.set_cons_succ, i64_w, i32_w]
       rfl
      refine done_ (by kernel_rfl) ?_
      try go_wp2
      go_ret
      exact ⟨by first | rfl | (simp [errW_none, errW_some] <;> rfl) | (simp [*, errW_none, errW_some] <;> rfl), by repeat (first | (with_reducible first | exact HB.out | apply below_alloc | apply pw_below_drewN | apply below_drew1) | exact HB.out)⟩
    ·rw [if_neg c4] at H
     exact absurd H (by simp)
   ·rw [if_neg c3] at H
    have c3b0 : decide (x5_1 < (l0.length : Int)) = false := decide_eq_false c3
    clear c3
    obtain rfl := Option.some.inj H
    go_wp2
    go_ret
    exact ⟨by first | rfl | (simp [errW_none, errW_some] <;> rfl) | (simp [*, errW_none, errW_some] <;> rfl), by repeat (first | (with_reducible first | exact HB.out | apply below_alloc | apply pw_below_drewN | apply below_drew1) | exact HB.out)⟩
end Go.Proofs.YtmcdnpooclelgaaDoor.PAll

namespace Go.Proofs.YtmcdnpooclelgaaDoor.PAll
open Go.RowKit Go.Proofs.YtmcdnpooclelgaaDoorW.PrintWords
theorem getD_drop {α : Type} {z : α} {l : List α} {i : Nat} {x : α} {t : List α} (h : l.drop i = x :: t) : l.getD ((i : Nat) : Int).toNat z = x ∧ i < l.length ∧ l.drop (i + 1) = t := by
  have hi : i < l.length := by
    rcases Nat.lt_or_ge i l.length with h' | h'
    · exact h'
    · rw [List.drop_eq_nil_of_le h'] at h; cases h
  rw [List.drop_eq_getElem_cons hi] at h
  injection h with h1 h2
  exact ⟨by rw [List.getD_eq_getElem?_getD, Int.toNat_natCast, List.getElem?_eq_getElem hi]; exact h1, hi, h2⟩
theorem drop_nil {α : Type} {l : List α} {i : Nat} (h : l.drop i = []) (hi : i ≤ l.length) : i = l.length := by have := List.drop_eq_nil_iff.1 h; omega
theorem marks_cons (k : Int) (n : Nat) : marks k (n + 1) = mtP k :: marks (k + 1) n := by
  simp only [marks, List.range_succ_eq_map, List.map_cons, List.map_map]
  congr 1
  · simp
  · apply List.map_congr_left; intro j _; simp only [Function.comp]; congr 1; omega
theorem heldStr_l0 (ys : List ByteArray) (hn : ys.length ≤ 1099511627776) : ∀ (d i : Nat) (k : Int), ys.drop i = marks k d → i ≤ ys.length → 0 ≤ k → k + d ≤ 1099511627776 → Ev (fun n => laws_heldStringS.l0 n ys k i) (k + d)
  | 0, i, k, h, hi, _, _ => Ev.unf (fun _ => some (k + (0 : Nat))) (fun n => by
      have := drop_nil h hi
      simp only [laws_heldStringS.l0]; rw [if_neg (by omega)]; simp) (Ev.now _)
  | d + 1, i, k, h, hi, h0, h1 => by
    rw [marks_cons] at h
    obtain ⟨e1, e2, e3⟩ := getD_drop (z := ByteArray.empty) h
    have e1 : rdOf ByteArray.empty ys (i : Int) = mtP k := e1
    have ih := heldStr_l0 ys hn d (i + 1) (k + 1) e3 (by omega) (by omega) (by omega)
    rw [show k + 1 + (d : Int) = k + ((d + 1 : Nat) : Int) by omega] at ih
    refine Ev.unf (fun n => (laws_markText.f n k).bind fun t => if (mtP k).toList = t.toList then laws_heldStringS.l0 n ys (k + 1) ((i + 1 : Nat) : Int) else some (-1)) (fun n => ?_) ?_
    · simp only [laws_heldStringS.l0]
      rw [if_pos (by omega), if_pos (by omega), e1, inc (by omega), w64 (by omega) (by omega)]
    · refine Ev.bind (ev_markText k (by omega)) ?_
      simp only [if_true]
      exact ih
theorem ev_heldStr (k : Int) (d : Nat) (h0 : 0 ≤ k) (h1 : k + d ≤ 1099511627776) : Ev (fun n => laws_heldStringS.f n (marks k d) k) (k + d) := by
  unfold laws_heldStringS.f
  exact heldStr_l0 (marks k d) (by rw [marks_len]; omega) d 0 k rfl (by omega) h0 h1
theorem heldStr_any (A : Option Addr) (c n : Nat) (k : Int) (w : World) (hr : Kd.C Kd.string w A (marks k n).length (marks k n)) (hc : (marks k n).length ≤ c) (h0 : 0 ≤ k) (h1 : k + n ≤ 1099511627776) :
    Calls Tryd.prog 61 #[.slice A n c, .int .i64 k] w fun e w' => e = .returned (.int .i64 (k + (n : Int))) ∧ Below w.heap.size w w' := by
  obtain ⟨q, hq⟩ := (ev_heldStr k n h0 h1).rounds
  have := laws_heldStringS.calls q A c (marks k n) k _ w hr hc hq
  rw [marks_len] at this
  exact this
theorem markAll_get {α : Type} (mk : α → Int → α) (cnt : α → Nat) : ∀ (xs : List α) (j : Nat) (k : Int) (h : j < xs.length), (markAll mk cnt xs k)[j]? = some (mk xs[j] (k + (cntAll cnt (xs.take j) : Int)))
  | x :: xs, 0, k, _ => by simp [markAll, cntAll]
  | x :: xs, j + 1, k, h => by
    simp only [markAll, List.getElem?_cons_succ, List.take_succ_cons, cntAll, List.getElem_cons_succ]
    rw [markAll_get mk cnt xs j (k + cnt x) (by simpa using h), show k + ((cnt x + cntAll cnt (xs.take j) : Nat) : Int) = k + (cnt x : Int) + (cntAll cnt (xs.take j) : Int) by omega]
end Go.Proofs.YtmcdnpooclelgaaDoor.PAll

namespace Go.Proofs.YtmcdnpooclelgaaDoor.PAll
open Go.RowKit Go.Proofs.YtmcdnpooclelgaaDoorW.PrintWords
def lineS : Sh S83 := .iso (.pair strS strsS) (fun x : S83 => (x.f0, x.f1))
abbrev linesS : Sh (List S83) := .row lineS 83
def blockS : Sh S62 := .iso (.pair strS (.pair strS linesS)) (fun x : S62 => (x.f0, x.f1, x.f2))
abbrev blocksS : Sh (List S62) := .row blockS 62
theorem line_ow {w : World} {b : Nat} {key : ByteArray} {dv : Value} {ds : List ByteArray} {H : List Nat} (h : strsS.ow w b [dv] ds H) : lineS.ow w b [.string key, dv] ⟨key, ds⟩ H :=
  ⟨[.string key], [dv], [], H, rfl, rfl, ⟨rfl, rfl⟩, h, by simp⟩
theorem line_open {w : World} {b : Nat} {us : List Value} {x : S83} {G : List Nat} (h : lineS.ow w b us x G) : ∃ dv, us = [.string x.f0, dv] ∧ strsS.ow w b [dv] x.f1 G := by
  obtain ⟨u0, v0, G0, H0, rfl, rfl, ⟨rfl, rfl⟩, h1, _⟩ := h
  obtain ⟨dv, _, _, rfl, _⟩ := id h1
  exact ⟨dv, rfl, h1⟩
theorem block_ow {w : World} {b : Nat} {kind name : ByteArray} {lv : Value} {ls : List S83} {H : List Nat} (h : linesS.ow w b [lv] ls H) : blockS.ow w b [.string kind, .string name, lv] ⟨kind, name, ls⟩ H :=
  ⟨[.string kind], [.string name, lv], [], H, rfl, rfl, ⟨rfl, rfl⟩, ⟨[.string name], [lv], [], H, rfl, rfl, ⟨rfl, rfl⟩, h, by simp⟩, by simp⟩
theorem block_open {w : World} {b : Nat} {us : List Value} {x : S62} {G : List Nat} (h : blockS.ow w b us x G) : ∃ lv, us = [.string x.f0, .string x.f1, lv] ∧ linesS.ow w b [lv] x.f2 G := by
  obtain ⟨u0, v0, G0, H0, rfl, rfl, ⟨rfl, rfl⟩, ⟨u1, v1, G1, H1, rfl, rfl, ⟨rfl, rfl⟩, h1, _⟩, _⟩ := h
  obtain ⟨lv, _, _, rfl, _⟩ := id h1
  exact ⟨lv, rfl, h1⟩
section
variable {w w' : World} {b : Nat} {v dv lv : Value} {ys : List S83} {bs : List S62} {F : List Nat} {j g c : Nat} {s0 s1 : ByteArray} {d0 : List ByteArray} {l0 : List S83} {G : List Nat}
theorem line_key (h : RowAt lineS 83 w b v ys F j g c [.string s0, dv] ⟨s0, d0⟩ G) (s : ByteArray) : RowAt lineS 83 (w.setCell ⟨g, j * 2, none⟩ (.string s)) b v (ys.set j ⟨s, d0⟩) F j g c [.string s, dv] ⟨s, d0⟩ G := by
  obtain ⟨_, he, hd⟩ := line_open h.ow
  injection he with _ he; injection he with he1 _
  subst he1
  exact h.set 0 (.string s) (by decide) (line_ow hd)
theorem line_strs (h : RowAt lineS 83 w b v ys F j g c [.string s0, dv] ⟨s0, d0⟩ G) : ER Value.string w b 9 dv d0 ∧ (∀ y ∈ dv.ownBlock.toList, y ∈ F) ∧
    ∀ w' ss, ER Value.string w' b 9 dv ss → Upd dv.ownBlock.toList w w' → RowAt lineS 83 w' b v (ys.set j ⟨s0, ss⟩) F j g c [.string s0, dv] ⟨s0, ss⟩ G := by
  obtain ⟨_, he, hd⟩ := line_open h.ow
  injection he with _ he; injection he with he1 _
  subst he1
  obtain ⟨e1, rfl⟩ := strs_ER.1 hd
  exact ⟨e1, fun y hy => h.away.2.2 y hy, fun w' ss hn hu => h.mov hu (line_ow (strs_ER.2 ⟨hn, rfl⟩))⟩
theorem block_kind (h : RowAt blockS 62 w b v bs F j g c [.string s0, .string s1, lv] ⟨s0, s1, l0⟩ G) (s : ByteArray) : RowAt blockS 62 (w.setCell ⟨g, j * 3, none⟩ (.string s)) b v (bs.set j ⟨s, s1, l0⟩) F j g c [.string s, .string s1, lv] ⟨s, s1, l0⟩ G := by
  obtain ⟨_, he, hd⟩ := block_open h.ow
  injection he with _ he; injection he with _ he; injection he with he1 _
  subst he1
  exact h.set 0 (.string s) (by decide) (block_ow hd)
theorem block_name (h : RowAt blockS 62 w b v bs F j g c [.string s0, .string s1, lv] ⟨s0, s1, l0⟩ G) (s : ByteArray) : RowAt blockS 62 (w.setCell ⟨g, j * 3 + 1, none⟩ (.string s)) b v (bs.set j ⟨s0, s, l0⟩) F j g c [.string s0, .string s, lv] ⟨s0, s, l0⟩ G := by
  obtain ⟨_, he, hd⟩ := block_open h.ow
  injection he with _ he; injection he with _ he; injection he with he1 _
  subst he1
  exact h.set 1 (.string s) (by decide) (block_ow hd)
theorem block_lines (h : RowAt blockS 62 w b v bs F j g c [.string s0, .string s1, lv] ⟨s0, s1, l0⟩ G) : linesS.ow w b [lv] l0 G ∧ (∀ y ∈ G, y ∈ F) ∧
    ∀ w' ls, linesS.ow w' b [lv] ls G → Upd G w w' → RowAt blockS 62 w' b v (bs.set j ⟨s0, s1, ls⟩) F j g c [.string s0, .string s1, lv] ⟨s0, s1, ls⟩ G := by
  obtain ⟨_, he, hd⟩ := block_open h.ow
  injection he with _ he; injection he with _ he; injection he with he1 _
  subst he1
  exact ⟨hd, fun y hy => h.away.2.2 y hy, fun w' ls hn hu => h.mov hu (block_ow hn)⟩
end
def mkLine (l : S83) (k : Int) : S83 := ⟨mtP k, marks (k + 1) l.f1.length⟩
def cntLine (l : S83) : Nat := 1 + l.f1.length
def mkBlock (b : S62) (k : Int) : S62 := ⟨mtP k, mtP (k + 1), markAll mkLine cntLine b.f2 (k + 2)⟩
def cntBlock (b : S62) : Nat := 2 + cntAll cntLine b.f2
theorem len_cnt {α : Type} (cnt : α → Nat) (h : ∀ x, 1 ≤ cnt x) : ∀ ys : List α, ys.length ≤ cntAll cnt ys
  | [] => Nat.zero_le _
  | y :: ys => by have := len_cnt cnt h ys; have := h y; simp only [List.length_cons, cntAll]; omega
theorem cntLine_pos (l : S83) : 1 ≤ cntLine l := by unfold cntLine; omega
theorem cntBlock_pos (l : S62) : 1 ≤ cntBlock l := by unfold cntBlock; omega
set_option maxRecDepth 100000 in
set_option maxHeartbeats 2000000 in
theorem markLines_any (v : Value) (xs : List S83) (F : List Nat) (b : Nat) (k : Int) (w : World) (ho : linesS.ow w b [v] xs F) (hk : 0 ≤ k) (hk2 : k + cntAll cntLine xs ≤ 1099511627776) :
    Calls Tryd.prog 37 #[v, .int .i64 k] w fun e w' => e = .returned (.int .i64 (k + (cntAll cntLine xs : Int))) ∧ linesS.ow w' b [v] (markAll mkLine cntLine xs k) F ∧ Upd F w w' := by
  obtain ⟨Ad, c, rfl⟩ := own_form ho
  have HO := Aside0.mk ho
  clear ho
  have hlen : xs.length ≤ 1099511627776 := by have := len_cnt cntLine cntLine_pos xs; omega
  go_enter Tryd.func37, Tryd.ntmps37
  go_wp2
  go_loopw [1, 5] (fun kv i wr => ∃ j : Nat, kv = .int .i64 (k + (cntAll cntLine (xs.take j) : Int)) ∧ i = .int .i64 j ∧ j ≤ xs.length ∧ Aside0 (linesS.ow wr b [.slice Ad xs.length c] (half mkLine cntLine xs k j) F) ∧ Aside0 (Upd F w wr)) (fun _ i _ => xs.length - (intOf i).toNat)
  case atStart => exact ⟨0, by simp [cntAll], rfl, Nat.zero_le _, ⟨HO.out⟩, ⟨Upd.refl _ _⟩⟩
  case round =>
    obtain ⟨j, rfl, rfl, hj, ho, hu⟩ := hrel
    by_cases hlt : j < xs.length
    · have hct := cntAll_take cntLine xs j hlt
      have hle := cntAll_le cntLine xs (j + 1)
      have hset := half_set mkLine cntLine xs k j hlt
      have hget := half_get mkLine cntLine xs k j hlt
      have hhl := half_len mkLine cntLine xs k j hj
      generalize xs[j] = x at *
      obtain ⟨s0, d0⟩ := x
      generalize hys : half mkLine cntLine xs k j = ys at *
      clear hys
      have HS := Aside0.mk hset
      have HCT := Aside0.mk hct
      have HL := Aside0.mk hhl
      have hkk0 : 0 ≤ k + (cntAll cntLine (xs.take j) : Int) := by omega
      have hkk1 : k + (cntAll cntLine (xs.take j) : Int) + 1 + d0.length ≤ 1099511627776 := by
        have : cntLine ⟨s0, d0⟩ = 1 + d0.length := rfl
        omega
      clear hset hct hhl hle
      generalize hkk : k + (cntAll cntLine (xs.take j) : Int) = kk at *
      have HKK := Aside0.mk hkk
      clear hkk
      obtain ⟨g, c', us, G, hR⟩ := RowAt.of ho.out hget
      have hv := hR.val
      injection hv with hv1 hv2 hv3
      subst hv1 hv3
      obtain ⟨dv, rfl, hd⟩ := line_open hR.ow
      obtain ⟨A3, c3, rfl⟩ := own_form hd
      have R0 := Aside0.mk hR
      clear hd hv2 hR
      go_wp2_with fail
      refine (markText_any _ _ (by omega)).mono ?_
      rintro e w1 ⟨rfl, hbl⟩
      have R1 := Aside0.mk (R0.out.below hbl)
      have hc0 : w1.cell? ⟨g, j * 2, none⟩ = some (.string s0) := R1.out.cell 0 (by decide)
      have hc1 : w1.cell? ⟨g, j * 2 + 1, none⟩ = some (.slice A3 d0.length c3) := R1.out.cell 1 (by decide)
      have hf0 := R1.out.frozen (j * 2)
      have U1 := Aside0.mk (upd_in hu.out (Upd.of_below hbl []) (fun _ hx => by cases hx))
      have R2 := Aside0.mk (line_key R1.out (mtP kk))
      have U2 := Aside0.mk (upd_in U1.out (upd_cell w1 g (j * 2) (.string (mtP kk))) (fun y hy => by simp at hy; subst hy; exact R1.out.away.2.1))
      clear hbl
      go_wp2_with fail
      obtain ⟨E4, Y4, M4⟩ := line_strs R2.out
      refine (markStringS_any A3 c3 b d0 (kk + 1) _ E4 (by omega) (by omega)).mono ?_
      rintro e w5 ⟨rfl, hE5, hu5⟩
      have R5 := Aside0.mk (M4 w5 _ hE5 hu5)
      have U5 := Aside0.mk (upd_in U2.out hu5 Y4)
      have HR5 : Aside0 (linesS.ow w5 b [.slice (some ⟨g, 0, none⟩) xs.length c] (half mkLine cntLine xs k (j + 1)) F) := ⟨by
        have h5 := R5.out.row
        rw [List.set_set] at h5
        rw [← HS.out]
        exact h5⟩
      have hkn : Aside0 (kk + 1 + (d0.length : Int) = k + (cntAll cntLine (xs.take (j + 1)) : Int)) := ⟨by rw [HCT.out, ← HKK.out]; show _ = k + ((_ + (1 + d0.length) : Nat) : Int); omega⟩
      clear E4 Y4 M4 hE5 hu5 hc0 hc1 hf0
      go_wp2_with fail
      go_roundw
      case rel => exact ⟨j + 1, by rw [hkn.out], by go_num, hlt, HR5, U5⟩
      case measure => simp [intOf]; omega
    · obtain rfl : j = xs.length := by omega
      have hh := half_end mkLine cntLine xs k
      have ho2 := ho.out
      rw [hh] at ho2
      have HO2 := Aside0.mk ho2
      clear hh ho2
      have he : xs.take xs.length = xs := List.take_length
      rw [he]
      go_wp2
      go_ret
      exact ⟨rfl, HO2.out, hu.out⟩
set_option maxRecDepth 100000 in
set_option maxHeartbeats 2000000 in
theorem markBlocks_any (v : Value) (xs : List S62) (F : List Nat) (b : Nat) (k : Int) (w : World) (ho : blocksS.ow w b [v] xs F) (hk : 0 ≤ k) (hk2 : k + cntAll cntBlock xs ≤ 1099511627776) :
    Calls Tryd.prog 90 #[v, .int .i64 k] w fun e w' => e = .returned (.int .i64 (k + (cntAll cntBlock xs : Int))) ∧ blocksS.ow w' b [v] (markAll mkBlock cntBlock xs k) F ∧ Upd F w w' := by
  obtain ⟨Ad, c, rfl⟩ := own_form ho
  have HO := Aside0.mk ho
  clear ho
  have hlen : xs.length ≤ 1099511627776 := by have := len_cnt cntBlock cntBlock_pos xs; omega
  go_enter Tryd.func90, Tryd.ntmps90
  go_wp2
  go_loopw [1, 5] (fun kv i wr => ∃ j : Nat, kv = .int .i64 (k + (cntAll cntBlock (xs.take j) : Int)) ∧ i = .int .i64 j ∧ j ≤ xs.length ∧ Aside0 (blocksS.ow wr b [.slice Ad xs.length c] (half mkBlock cntBlock xs k j) F) ∧ Aside0 (Upd F w wr)) (fun _ i _ => xs.length - (intOf i).toNat)
  case atStart => exact ⟨0, by simp [cntAll], rfl, Nat.zero_le _, ⟨HO.out⟩, ⟨Upd.refl _ _⟩⟩
  case round =>
    obtain ⟨j, rfl, rfl, hj, ho, hu⟩ := hrel
    by_cases hlt : j < xs.length
    · have hct := cntAll_take cntBlock xs j hlt
      have hle := cntAll_le cntBlock xs (j + 1)
      have hset := half_set mkBlock cntBlock xs k j hlt
      have hget := half_get mkBlock cntBlock xs k j hlt
      have hhl := half_len mkBlock cntBlock xs k j hj
      generalize xs[j] = x at *
      obtain ⟨s0, s1, l0⟩ := x
      generalize hys : half mkBlock cntBlock xs k j = ys at *
      clear hys
      have HS := Aside0.mk hset
      have HCT := Aside0.mk hct
      have HL := Aside0.mk hhl
      have hkk0 : 0 ≤ k + (cntAll cntBlock (xs.take j) : Int) := by omega
      have hkk1 : k + (cntAll cntBlock (xs.take j) : Int) + 2 + cntAll cntLine l0 ≤ 1099511627776 := by
        have : cntBlock ⟨s0, s1, l0⟩ = 2 + cntAll cntLine l0 := rfl
        omega
      clear hset hct hhl hle
      generalize hkk : k + (cntAll cntBlock (xs.take j) : Int) = kk at *
      have HKK := Aside0.mk hkk
      clear hkk
      obtain ⟨g, c', us, G, hR⟩ := RowAt.of ho.out hget
      have hv := hR.val
      injection hv with hv1 hv2 hv3
      subst hv1 hv3
      obtain ⟨lv, rfl, hd⟩ := block_open hR.ow
      obtain ⟨A3, c3, rfl⟩ := own_form hd
      have R0 := Aside0.mk hR
      clear hd hv2 hR
      go_wp2_with fail
      refine (markText_any _ _ (by omega)).mono ?_
      rintro e w1 ⟨rfl, hbl⟩
      have R1 := Aside0.mk (R0.out.below hbl)
      have hc0 : w1.cell? ⟨g, j * 3, none⟩ = some (.string s0) := R1.out.cell 0 (by decide)
      have hc1 : w1.cell? ⟨g, j * 3 + 1, none⟩ = some (.string s1) := R1.out.cell 1 (by decide)
      have hc2 : w1.cell? ⟨g, j * 3 + 2, none⟩ = some (.slice A3 l0.length c3) := R1.out.cell 2 (by decide)
      have hf0 := R1.out.frozen (j * 3)
      have U1 := Aside0.mk (upd_in hu.out (Upd.of_below hbl []) (fun _ hx => by cases hx))
      have R2 := Aside0.mk (block_kind R1.out (mtP kk))
      have U2 := Aside0.mk (upd_in U1.out (upd_cell w1 g (j * 3) (.string (mtP kk))) (fun y hy => by simp at hy; subst hy; exact R1.out.away.2.1))
      clear hbl
      go_wp2_with fail
      refine (markText_any _ _ (by omega)).mono ?_
      rintro e w3 ⟨rfl, hbl3⟩
      have R3 := Aside0.mk (R2.out.below hbl3)
      have hd0 : w3.cell? ⟨g, j * 3, none⟩ = some (.string (mtP kk)) := R3.out.cell 0 (by decide)
      have hd1 : w3.cell? ⟨g, j * 3 + 1, none⟩ = some (.string s1) := R3.out.cell 1 (by decide)
      have hd2 : w3.cell? ⟨g, j * 3 + 2, none⟩ = some (.slice A3 l0.length c3) := R3.out.cell 2 (by decide)
      have hf1 := R3.out.frozen (j * 3 + 1)
      have U3 := Aside0.mk (upd_in U2.out (Upd.of_below hbl3 []) (fun _ hx => by cases hx))
      have R4 := Aside0.mk (block_name R3.out (mtP (kk + 1)))
      have U4 := Aside0.mk (upd_in U3.out (upd_cell w3 g (j * 3 + 1) (.string (mtP (kk + 1)))) (fun y hy => by simp at hy; subst hy; exact R3.out.away.2.1))
      clear hbl3 hc0 hc1 hc2 hf0
      go_wp2_with fail
      obtain ⟨E4, Y4, M4⟩ := block_lines R4.out
      refine (markLines_any (.slice A3 l0.length c3) l0 G b (kk + 1 + 1) _ E4 (by omega) (by omega)).mono ?_
      rintro e w5 ⟨rfl, hE5, hu5⟩
      have R5 := Aside0.mk (M4 w5 _ hE5 hu5)
      have U5 := Aside0.mk (upd_in U4.out hu5 Y4)
      have HR5 : Aside0 (blocksS.ow w5 b [.slice (some ⟨g, 0, none⟩) xs.length c] (half mkBlock cntBlock xs k (j + 1)) F) := ⟨by
        have h5 := R5.out.row
        rw [List.set_set, List.set_set, show kk + 1 + 1 = kk + 2 by omega] at h5
        rw [← HS.out]
        exact h5⟩
      have hkn : Aside0 (kk + 1 + 1 + (cntAll cntLine l0 : Int) = k + (cntAll cntBlock (xs.take (j + 1)) : Int)) := ⟨by rw [HCT.out, ← HKK.out]; show _ = k + ((_ + (2 + cntAll cntLine l0) : Nat) : Int); omega⟩
      clear E4 Y4 M4 hE5 hu5 hd0 hd1 hd2 hf1
      go_wp2_with fail
      go_roundw
      case rel => exact ⟨j + 1, by rw [hkn.out], by go_num, hlt, HR5, U5⟩
      case measure => simp [intOf]; omega
    · obtain rfl : j = xs.length := by omega
      have hh := half_end mkBlock cntBlock xs k
      have ho2 := ho.out
      rw [hh] at ho2
      have HO2 := Aside0.mk ho2
      clear hh ho2
      have he : xs.take xs.length = xs := List.take_length
      rw [he]
      go_wp2
      go_ret
      exact ⟨rfl, HO2.out, hu.out⟩
end Go.Proofs.YtmcdnpooclelgaaDoor.PAll

namespace Go.Proofs.YtmcdnpooclelgaaDoor
open Go.RowKit Go.Proofs.YtmcdnpooclelgaaDoorW.PrintWords
theorem Els.split {α : Type} {A : Sh α} {w : World} {b : Nat} : ∀ (vss : List (List Value)) (xs : List α) (F : List Nat), Els A w b vss xs F → ∀ (j : Nat) (x : α), xs[j]? = some x → ∃ us F1 G F2, F = F1 ++ (G ++ F2) ∧ Els A w b (vss.take j) (xs.take j) F1 ∧ A.ow w b us x G ∧ Els A w b (vss.drop (j + 1)) (xs.drop (j + 1)) F2 ∧ vss = vss.take j ++ us :: vss.drop (j + 1)
  | [], [], F, h, j, x, hj => by simp at hj
  | vs :: vss, y :: xs, F, h, j, x, hj => by
    obtain ⟨G, H, rfl, h1, h2, h3⟩ := h
    cases j with
    | zero =>
      simp only [List.getElem?_cons_zero, Option.some.injEq] at hj
      subst hj
      exact ⟨vs, [], G, H, rfl, rfl, h1, h2, rfl⟩
    | succ j =>
      rw [List.getElem?_cons_succ] at hj
      obtain ⟨us, F1, G', F2, rfl, e1, e2, e3, e4⟩ := Els.split vss xs H h2 j x hj
      refine ⟨us, G ++ F1, G', F2, by simp, ?_, e2, e3, ?_⟩
      · exact ⟨G, F1, rfl, h1, e1, fun g hg hg' => h3 g hg (List.mem_append_left _ hg')⟩
      · rw [List.take_succ_cons, List.drop_succ_cons, List.cons_append, ← e4]
theorem Els.nodup {α : Type} {A : Sh α} {w : World} {b : Nat} {vss : List (List Value)} {xs : List α} {F : List Nat} (h : Els A w b vss xs F) : F.Nodup := (Els.mem _ _ _ h).2.1
theorem Els.lenv {α : Type} {A : Sh α} {w : World} {b : Nat} {vss : List (List Value)} {xs : List α} {F : List Nat} (h : Els A w b vss xs F) : vss.length = xs.length := (Els.mem _ _ _ h).2.2.1
def Foc {α : Type} (A : Sh α) (e : TypeId) (w : World) (b : Nat) (v : Value) (xs1 : List α) (x : α) (xs2 : List α) (g c : Nat) (us : List Value) (F1 G F2 : List Nat) : Prop :=
  ∃ (vs1 vs2 : List (List Value)), v = .slice (some ⟨g, 0, none⟩) (xs1 ++ x :: xs2).length c ∧ w.ownsRow b e A.k v (xs1 ++ x :: xs2).length (vs1 ++ us :: vs2).flatten ∧ Els A w b vs1 xs1 F1 ∧ A.ow w b us x G ∧ Els A w b vs2 xs2 F2 ∧ (g :: (F1 ++ (G ++ F2))).Nodup
section
variable {α : Type} {A : Sh α} {e : TypeId} {w w' : World} {b : Nat} {v : Value} {xs xs1 xs2 : List α} {F F1 F2 : List Nat} {j g c : Nat} {us : List Value} {x x' : α} {G G' : List Nat}
theorem Foc.of (h : (Sh.row A e).ow w b [v] xs F) (hj : xs[j]? = some x) : ∃ g c us F1 G F2, F = g :: (F1 ++ (G ++ F2)) ∧ Foc A e w b v (xs.take j) x (xs.drop (j + 1)) g c us F1 G F2 := by
  have hnd := (Sh.row A e).ond h
  obtain ⟨v', vss, Gs, hv, h1, h2, rfl, h3⟩ := h
  injection hv with hv _
  subst hv
  have hjl := (List.getElem?_eq_some_iff.1 hj).1
  have hx : xs = xs.take j ++ x :: xs.drop (j + 1) := by
    have : xs.drop j = x :: xs.drop (j + 1) := by rw [List.drop_eq_getElem_cons hjl]; congr 1; exact (List.getElem?_eq_some_iff.1 hj).2
    rw [← this, List.take_append_drop]
  rcases ownSl h1 with ⟨rfl, hn⟩ | ⟨g, c, rfl⟩
  · omega
  · obtain ⟨us, F1, G, F2, rfl, e1, e2, e3, e4⟩ := Els.split _ _ _ h2 j x hj
    refine ⟨g, c, us, F1, G, F2, by simp [Value.ownBlock], vss.take j, vss.drop (j + 1), by rw [← hx], ?_, e1, e2, e3, by simpa [Value.ownBlock] using hnd⟩
    rw [← hx, ← e4]
    exact h1
theorem Foc.row (h : Foc A e w b v xs1 x xs2 g c us F1 G F2) : (Sh.row A e).ow w b [v] (xs1 ++ x :: xs2) (g :: (F1 ++ (G ++ F2))) := by
  obtain ⟨vs1, vs2, rfl, h1, h2, h3, h4, h5⟩ := h
  have hn := List.nodup_cons.1 h5
  have hn2 := List.nodup_append.1 hn.2
  have hn3 := List.nodup_append.1 hn2.2.1
  refine ⟨_, vs1 ++ us :: vs2, F1 ++ (G ++ F2), rfl, h1, ?_, by simp [Value.ownBlock], fun y hy => by simp [Value.ownBlock] at hy; subst hy; exact hn.1⟩
  exact Els.append _ _ _ h2 ⟨G, F2, rfl, h3, h4, fun y hy hy' => hn3.2.2 y hy y hy' rfl⟩ (fun y hy hy' => hn2.2.2 y hy y hy' rfl)
theorem Foc.ow (h : Foc A e w b v xs1 x xs2 g c us F1 G F2) : A.ow w b us x G := by
  obtain ⟨vs1, vs2, _, _, _, h3, _⟩ := h
  exact h3
theorem Foc.nodup (h : Foc A e w b v xs1 x xs2 g c us F1 G F2) : (g :: (F1 ++ (G ++ F2))).Nodup := by
  obtain ⟨vs1, vs2, _, _, _, _, _, h5⟩ := h
  exact h5
theorem Foc.val (h : Foc A e w b v xs1 x xs2 g c us F1 G F2) : v = .slice (some ⟨g, 0, none⟩) (xs1 ++ x :: xs2).length c := by
  obtain ⟨vs1, vs2, h, _⟩ := h
  exact h
theorem Foc.lt (h : Foc A e w b v xs1 x xs2 g c us F1 G F2) : b ≤ g ∧ g < w.heap.size := by
  obtain ⟨vs1, vs2, rfl, h1, _⟩ := h
  exact ⟨own_base h1 g rfl, own_lt h1 g rfl⟩
theorem Foc.in (h : Foc A e w b v xs1 x xs2 g c us F1 G F2) : ∀ y ∈ g :: (F1 ++ (G ++ F2)), b ≤ y ∧ y < w.heap.size := fun y hy => (Sh.row A e).oin h.row y hy
theorem Foc.frozen (h : Foc A e w b v xs1 x xs2 g c us F1 G F2) (i : Nat) : w.frozen? ⟨g, i, none⟩ = false := by
  obtain ⟨vs1, vs2, rfl, h1, _⟩ := h
  exact World.ownsRow.frozenAt h1 i
theorem Foc.cell (h : Foc A e w b v xs1 x xs2 g c us F1 G F2) (i : Nat) (hi : i < A.k) : w.cell? ⟨g, xs1.length * A.k + i, none⟩ = us[i]? := by
  obtain ⟨vs1, vs2, rfl, h1, h2, h3, h4, _⟩ := h
  have hl1 := h2.lenv
  have hv : (vs1 ++ us :: vs2)[xs1.length]? = some us := by rw [List.getElem?_append_right (by omega), hl1, Nat.sub_self]; rfl
  have hls : ∀ vs ∈ vs1 ++ us :: vs2, vs.length = A.k := by
    intro vs hvs
    rcases List.mem_append.1 hvs with hvs | hvs
    · exact Els.lens _ _ _ h2 vs hvs
    · rcases List.mem_cons.1 hvs with rfl | hvs
      · exact A.olen h3
      · exact Els.lens _ _ _ h4 vs hvs
  have hb : xs1.length * A.k + i < (xs1 ++ x :: xs2).length * A.k := by
    have : (xs1.length + 1) * A.k ≤ (xs1 ++ x :: xs2).length * A.k := Nat.mul_le_mul_right _ (by simp)
    rw [Nat.add_mul] at this
    omega
  rw [World.ownsRow.cellAt h1 (xs1.length * A.k + i) hb, flat_at _ xs1.length us hls hv i hi]
theorem Foc.below (h : Foc A e w b v xs1 x xs2 g c us F1 G F2) (hb : Below w.heap.size w w') : Foc A e w' b v xs1 x xs2 g c us F1 G F2 := by
  obtain ⟨vs1, vs2, h0, h1, h2, h3, h4, h5⟩ := h
  exact ⟨vs1, vs2, h0, own_move h1 (fun k hk => hb.block k (own_lt h1 k hk)), h2.below hb, A.obelow h3 hb, h4.below hb, h5⟩
theorem Foc.set (h : Foc A e w b v xs1 x xs2 g c us F1 G F2) (i : Nat) (u : Value) (hi : i < A.k) (ho : A.ow w b (us.set i u) x' G') (hn : (g :: (F1 ++ (G' ++ F2))).Nodup) : Foc A e (w.setCell ⟨g, xs1.length * A.k + i, none⟩ u) b v xs1 x' xs2 g c (us.set i u) F1 G' F2 := by
  obtain ⟨vs1, vs2, rfl, h1, h2, h3, h4, _⟩ := h
  have hfar : ∀ y, y ≠ g → (w.setCell ⟨g, xs1.length * A.k + i, none⟩ u).heap[y]? = w.heap[y]? := fun y hy => Below.heap_setCell w ⟨g, xs1.length * A.k + i, none⟩ u y hy
  have hng := (List.nodup_cons.1 hn).1
  have hl1 := h2.lenv
  have hv : (vs1 ++ us :: vs2)[xs1.length]? = some us := by rw [List.getElem?_append_right (by omega), hl1, Nat.sub_self]; rfl
  have hls : ∀ vs ∈ vs1 ++ us :: vs2, vs.length = A.k := by
    intro vs hvs
    rcases List.mem_append.1 hvs with hvs | hvs
    · exact Els.lens _ _ _ h2 vs hvs
    · rcases List.mem_cons.1 hvs with rfl | hvs
      · exact A.olen h3
      · exact Els.lens _ _ _ h4 vs hvs
  have hset : vs1 ++ (us.set i u) :: vs2 = (vs1 ++ us :: vs2).set xs1.length (us.set i u) := by rw [List.set_append_right _ _ (by omega), hl1, Nat.sub_self, List.set_cons_zero]
  have hlen : (xs1 ++ x' :: xs2).length = (xs1 ++ x :: xs2).length := by simp
  refine ⟨vs1, vs2, by rw [hlen], ?_, h2.frame fun y hy => hfar y (fun e => hng (e ▸ List.mem_append_left _ hy)), A.oframe ho fun y hy => hfar y (fun e => hng (e ▸ List.mem_append_right _ (List.mem_append_left _ hy))), h4.frame fun y hy => hfar y (fun e => hng (e ▸ List.mem_append_right _ (List.mem_append_right _ hy))), hn⟩
  rw [hlen, hset, flat_set _ xs1.length us hls hv i u hi]
  exact (World.ownsRow.stored h1 (xs1.length * A.k + i) u).1
theorem Foc.mov {bs : List Nat} (h : Foc A e w b v xs1 x xs2 g c us F1 G F2) (hu : Upd bs w w') (hbs : ∀ y ∈ bs, y ≠ g ∧ y ∉ F1 ∧ y ∉ F2) (ho : A.ow w' b us x' G') (hn : (g :: (F1 ++ (G' ++ F2))).Nodup) : Foc A e w' b v xs1 x' xs2 g c us F1 G' F2 := by
  obtain ⟨vs1, vs2, rfl, h1, h2, h3, h4, _⟩ := h
  have hlen : (xs1 ++ x' :: xs2).length = (xs1 ++ x :: xs2).length := by simp
  refine ⟨vs1, vs2, by rw [hlen], ?_, h2.frame fun y hy => hu.block y ((Els.mem _ _ _ h2).1 y hy).2 (fun hb => (hbs y hb).2.1 hy), ho, h4.frame fun y hy => hu.block y ((Els.mem _ _ _ h4).1 y hy).2 (fun hb => (hbs y hb).2.2 hy), hn⟩
  rw [hlen]
  exact own_move h1 (fun k hk => hu.block k (own_lt h1 k hk) (fun hb => by simp [Value.ownBlock] at hk; subst hk; exact (hbs _ hb).1 rfl))
end
structure Part (α : Type) where
  us : List Value
  x : α
  G : List Nat
def Parts {α : Type} (A : Sh α) (w : World) (b : Nat) (T : List (Part α)) : Prop := (∀ t ∈ T, A.ow w b t.us t.x t.G) ∧ (T.flatMap Part.G).Nodup
theorem Els.parts {α : Type} {A : Sh α} {w : World} {b : Nat} : ∀ (vss : List (List Value)) (xs : List α) (F : List Nat), Els A w b vss xs F → ∃ T : List (Part α), vss = T.map Part.us ∧ xs = T.map Part.x ∧ F = T.flatMap Part.G ∧ Parts A w b T
  | [], [], F, h => by
    have h : F = [] := h
    subst h
    exact ⟨[], rfl, rfl, rfl, by simp, by simp⟩
  | vs :: vss, x :: xs, F, h => by
    have hnd := h.nodup
    obtain ⟨G, H, rfl, h1, h2, h3⟩ := h
    obtain ⟨T, rfl, rfl, rfl, h4, _⟩ := Els.parts vss xs H h2
    refine ⟨⟨vs, x, G⟩ :: T, rfl, rfl, rfl, fun t ht => ?_, hnd⟩
    rcases List.mem_cons.1 ht with rfl | ht
    · exact h1
    · exact h4 t ht
theorem own_at {W : World} {b e k n : Nat} {v v1 : Value} {cs : List Value} (hr : W.ownsRow b e k v n cs) (hb : b ≤ W.heap.size) (hat : v1.ownBlock = v.ownBlock ∨ ∃ k, v1.ownBlock = some k ∧ W.heap.size ≤ k) (g : Nat) (hg : v1.ownBlock = some g) : b ≤ g := by
  rcases hat with hat | ⟨k, hat, hk⟩
  · exact own_base hr g (by rw [← hat, hg])
  · rw [hg] at hat
    injection hat with hat
    omega
section
variable {P : Program} {ops : Array Oper} {rest : List Oper} {o : Oper} {a : Act} {Q : Exit → Act → World → Prop} {K : Act → World → Prop} {α : Type} {A : Sh α}
theorem row_grown {e : TypeId} {W w1 : World} {b : Nat} {v v1 : Value} {xs : List α} {F G : List Nat} {us : List Value} {x : α} {vss : List (List Value)} {Gs : List Nat}
    (h2 : Els A W b vss xs Gs) (hF : F = v.ownBlock.toList ++ Gs) (h3 : ∀ g ∈ v.ownBlock.toList, g ∉ Gs) (hx : A.ow W b us x G) (hd : ∀ g ∈ G, g ∉ F)
    (hown : w1.ownsRow b e A.k v1 (xs.length + 1) (vss.flatten ++ us)) (hg : W.grownBy w1 v.ownBlock) (hat : v1.ownBlock = v.ownBlock ∨ ∃ k, v1.ownBlock = some k ∧ W.heap.size ≤ k) :
    ∃ F1, (Sh.row A e).ow w1 b [v1] (xs ++ [x]) F1 ∧ (∀ g ∈ F1, g ∈ F ∨ g ∈ G ∨ W.heap.size ≤ g) ∧ (∀ g ∈ F, g ∉ F1 → v.ownBlock = some g) := by
  subst hF
  have hk : ∀ y, y ∈ Gs ∨ y ∈ G → w1.heap[y]? = W.heap[y]? := by
    intro y hy
    refine hg.block y ?_ ?_
    · rcases hy with hy | hy
      · exact ((Els.mem _ _ _ h2).1 y hy).2
      · exact (A.oin hx y hy).2
    · intro he
      rcases hy with hy | hy
      · exact h3 y (by rw [← he]; simp) hy
      · exact hd y hy (List.mem_append_left _ (by rw [← he]; simp))
  have hE : Els A w1 b (vss ++ [us]) (xs ++ [x]) (Gs ++ G) :=
    Els.append _ _ _ (h2.frame fun y hy => hk y (.inl hy)) ⟨G, [], by simp, A.oframe hx fun y hy => hk y (.inr hy), rfl, by simp⟩ (fun y hy hy' => hd y hy' (List.mem_append_right _ hy))
  refine ⟨v1.ownBlock.toList ++ (Gs ++ G), ⟨v1, vss ++ [us], Gs ++ G, rfl, by simpa using hown, hE, rfl, fun y hy hy' => ?_⟩, fun y hy => ?_, fun y hy hn => ?_⟩
  · have hy : v1.ownBlock = some y := by simpa using hy
    rcases hat with hat | ⟨k, hat, hk'⟩
    · have hv : v.ownBlock = some y := by rw [← hat, hy]
      rcases List.mem_append.1 hy' with hy' | hy'
      · exact h3 y (by rw [hv]; simp) hy'
      · exact hd y hy' (List.mem_append_left _ (by rw [hv]; simp))
    · rw [hy] at hat
      injection hat with hat
      subst hat
      rcases List.mem_append.1 hy' with hy' | hy'
      · have := ((Els.mem _ _ _ h2).1 y hy').2; omega
      · have := (A.oin hx y hy').2; omega
  · rcases List.mem_append.1 hy with hy | hy
    · have hy : v1.ownBlock = some y := by simpa using hy
      rcases hat with hat | ⟨k, hat, hk'⟩
      · exact .inl (List.mem_append_left _ (by rw [← hat, hy]; simp))
      · rw [hy] at hat
        injection hat with hat
        subst hat
        exact .inr (.inr hk')
    · rcases List.mem_append.1 hy with hy | hy
      · exact .inl (List.mem_append_right _ hy)
      · exact .inr (.inl hy)
  · rcases List.mem_append.1 hy with hy | hy
    · simpa using hy
    · exact absurd (List.mem_append_right _ (List.mem_append_left _ hy)) hn
theorem Sh.app {w0 W : World} {base b : Nat} {e : TypeId} {v : Value} {xs : List α} {F G : List Nat} {us : List Value} {x : α} (z : Value) (bytes : Nat) (s y : Operand) (t : TypeId)
    (HO : (Sh.row A e).ow W b [v] xs F) (hx : A.ow W b us x G) (hd : ∀ g ∈ G, g ∉ F) (HB : Below base w0 W) (hbb : base ≤ b) (hl : (xs.length + 1) * bytes ≤ 140737488355328)
    (hgd : o.guard = none)
    (ho : o.op = .call { callee := .builtin .append, args := #[s, y], argTypes := #[t, t] })
    (ht : P.underlying t = some (.slice e)) (hinfo : (P.info? e).map (fun i => (i.zero, i.size, i.bytes)) = some (some z, A.k, bytes)) (hz : z.cells.size = A.k) (hk0 : 0 < A.k) (hb0 : 0 < bytes)
    (hbase : b ≤ W.heap.size) (hs : a.eval s = v) (hy : a.eval y = .slice (some ⟨W.heap.size, 0, none⟩) 1 1) (h1 : ∀ u ∈ us, u.oneCell' = true)
    (h : ∀ v1 w1 F1, Aside0 ((Sh.row A e).ow w1 b [v1] (xs ++ [x]) F1) → Aside0 (Below base w0 w1) → Aside0 (∀ g ∈ F1, g ∈ F ∨ g ∈ G ∨ W.heap.size ≤ g) → Aside0 (W.grownBy w1 v.ownBlock) → wpList P ops Q rest (a.put o.dst v1) w1) :
    wpList P ops Q (o :: rest) a (W.alloc (.cells us.toArray e)) := by
  obtain ⟨v', vss, Gs, hv, hr, h2, hF, h3⟩ := HO
  injection hv with hv _
  subst hv
  refine ap_lit (w0 := w0) base hgd s y t e z A.k bytes ho ht hinfo hz hk0 hb0 v xs.length 1 vss.flatten us hs hy (by rw [A.olen hx, Nat.one_mul]) h1 (own_weaken hr hbb) HB (by omega) hl ?_
  intro v1 w1 q1 q2 q3 q4
  obtain ⟨F1, r1, r2, _⟩ := row_grown h2 hF h3 hx hd (own_raise q1 fun g hg => own_at hr hbase q4 g (by simpa using hg)) q3 q4
  exact h v1 w1 F1 ⟨r1⟩ ⟨q2⟩ ⟨r2⟩ ⟨q3⟩
end
end Go.Proofs.YtmcdnpooclelgaaDoor

namespace Go.Proofs.YtmcdnpooclelgaaDoor.PAll
open Go.RowKit Go.Proofs.YtmcdnpooclelgaaDoorW.PrintWords
def Half {α : Type} (A : Sh α) (e : TypeId) (z : List Value) (w : World) (b : Nat) (v : Value) (n : Nat) (xs : List α) (Gs : List Nat) : Prop :=
  ∃ vss : List (List Value), xs.length ≤ n ∧ w.ownsRow b e A.k v n (vss.flatten ++ (List.replicate (n - xs.length) z).flatten) ∧ Els A w b vss xs Gs ∧ ∀ g ∈ v.ownBlock.toList, g ∉ Gs
theorem Half.done {α : Type} {A : Sh α} {e : TypeId} {z : List Value} {w : World} {b : Nat} {v : Value} {xs : List α} {Gs : List Nat} (h : Half A e z w b v xs.length xs Gs) : (Sh.row A e).ow w b [v] xs (v.ownBlock.toList ++ Gs) := by
  obtain ⟨vss, _, h1, h2, h3⟩ := h
  rw [Nat.sub_self] at h1
  exact ⟨v, vss, Gs, rfl, by simpa using h1, h2, rfl, h3⟩
theorem Half.below {α : Type} {A : Sh α} {e : TypeId} {z : List Value} {w w' : World} {b n : Nat} {v : Value} {xs : List α} {Gs : List Nat} (h : Half A e z w b v n xs Gs) (hb : Below w.heap.size w w') : Half A e z w' b v n xs Gs := by
  obtain ⟨vss, h0, h1, h2, h3⟩ := h
  exact ⟨vss, h0, own_move h1 (fun k hk => hb.block k (own_lt h1 k hk)), h2.below hb, h3⟩
theorem Half.cell {α : Type} {A : Sh α} {e : TypeId} {z : List Value} {w : World} {b g c n : Nat} {xs : List α} {Gs : List Nat} (h : Half A e z w b (.slice (some ⟨g, 0, none⟩) n c) n xs Gs) (hz : z.length = A.k) (hlt : xs.length < n) (i : Nat) (hi : i < A.k) : w.cell? ⟨g, xs.length * A.k + i, none⟩ = z[i]? ∧ w.frozen? ⟨g, xs.length * A.k + i, none⟩ = false := by
  obtain ⟨vss, h0, h1, h2, h3⟩ := h
  have hf : vss.flatten.length = xs.length * A.k := (Els.mem _ _ _ h2).2.2.2
  have hb : xs.length * A.k + i < n * A.k := by
    have : (xs.length + 1) * A.k ≤ n * A.k := Nat.mul_le_mul_right _ hlt
    rw [Nat.add_mul] at this
    omega
  refine ⟨?_, World.ownsRow.frozenAt h1 _⟩
  rw [World.ownsRow.cellAt h1 (xs.length * A.k + i) hb, List.getElem?_append_right (by omega), hf, Nat.add_sub_cancel_left]
  obtain ⟨m, hm⟩ : ∃ m, n - xs.length = m + 1 := ⟨n - xs.length - 1, by omega⟩
  rw [hm, List.replicate_succ, List.flatten_cons, List.getElem?_append_left (by omega)]
theorem set2 {P R : List Value} {z0 z1 u0 u1 : Value} : ((P ++ (z0 :: z1 :: R)).set P.length u0).set (P.length + 1) u1 = P ++ (u0 :: u1 :: R) := by
  rw [List.set_append_right _ _ (Nat.le_refl _), Nat.sub_self, List.set_cons_zero, List.set_append_right _ _ (by omega), Nat.add_sub_cancel_left, List.set_cons_succ, List.set_cons_zero]
theorem set3 {P R : List Value} {z0 z1 z2 u0 u1 u2 : Value} : (((P ++ (z0 :: z1 :: z2 :: R)).set P.length u0).set (P.length + 1) u1).set (P.length + 2) u2 = P ++ (u0 :: u1 :: u2 :: R) := by
  rw [List.set_append_right _ _ (Nat.le_refl _), Nat.sub_self, List.set_cons_zero, List.set_append_right _ _ (by omega), Nat.add_sub_cancel_left, List.set_cons_succ, List.set_cons_zero, List.set_append_right _ _ (by omega), Nat.add_sub_cancel_left, List.set_cons_succ, List.set_cons_succ, List.set_cons_zero]
section
variable {α : Type} {A : Sh α} {e : TypeId} {w : World} {b g c n : Nat} {xs : List α} {Gs G : List Nat} {x : α} {z0 z1 z2 u0 u1 u2 : Value}
theorem Half.step2 (h : Half A e [z0, z1] w b (.slice (some ⟨g, 0, none⟩) n c) n xs Gs) (hk : A.k = 2) (hlt : xs.length < n) (hx : A.ow w b [u0, u1] x G) (hd : ∀ y ∈ G, y ≠ g ∧ y ∉ Gs) :
    Half A e [z0, z1] ((w.setCell ⟨g, xs.length * 2, none⟩ u0).setCell ⟨g, xs.length * 2 + 1, none⟩ u1) b (.slice (some ⟨g, 0, none⟩) n c) n (xs ++ [x]) (Gs ++ G) := by
  obtain ⟨vss, h0, h1, h2, h3⟩ := h
  have hf : vss.flatten.length = xs.length * 2 := by rw [(Els.mem _ _ _ h2).2.2.2, hk]
  have hfar : ∀ y, y ≠ g → ((w.setCell ⟨g, xs.length * 2, none⟩ u0).setCell ⟨g, xs.length * 2 + 1, none⟩ u1).heap[y]? = w.heap[y]? := fun y hy => (Below.heap_setCell _ ⟨g, xs.length * 2 + 1, none⟩ u1 y hy).trans (Below.heap_setCell w ⟨g, xs.length * 2, none⟩ u0 y hy)
  obtain ⟨m, hm⟩ : ∃ m, n - xs.length = m + 1 := ⟨n - xs.length - 1, by omega⟩
  have hgs : g ∉ Gs := h3 g (by simp [Value.ownBlock])
  refine ⟨vss ++ [[u0, u1]], by simp; omega, ?_, ?_, fun y hy hy' => ?_⟩
  · have h4 := (World.ownsRow.stored (World.ownsRow.stored h1 (xs.length * 2) u0).1 (xs.length * 2 + 1) u1).1
    rw [hm, List.replicate_succ, List.flatten_cons] at h4
    rw [← hf] at h4 ⊢
    rw [show ([z0, z1] ++ (List.replicate m [z0, z1]).flatten) = z0 :: z1 :: (List.replicate m [z0, z1]).flatten from rfl, set2] at h4
    rw [show n - (xs ++ [x]).length = m by simp; omega]
    simpa using h4
  · exact Els.append _ _ _ (h2.frame fun y hy => hfar y (fun e => hgs (e ▸ hy))) ⟨G, [], by simp, A.oframe hx (fun y hy => hfar y (hd y hy).1), rfl, by simp⟩ (fun y hy hy' => (hd y hy').2 hy)
  · rcases List.mem_append.1 hy' with hy' | hy'
    · exact h3 y hy hy'
    · simp [Value.ownBlock] at hy; exact (hd y hy').1 hy
theorem Half.step3 (h : Half A e [z0, z1, z2] w b (.slice (some ⟨g, 0, none⟩) n c) n xs Gs) (hk : A.k = 3) (hlt : xs.length < n) (hx : A.ow w b [u0, u1, u2] x G) (hd : ∀ y ∈ G, y ≠ g ∧ y ∉ Gs) :
    Half A e [z0, z1, z2] (((w.setCell ⟨g, xs.length * 3, none⟩ u0).setCell ⟨g, xs.length * 3 + 1, none⟩ u1).setCell ⟨g, xs.length * 3 + 2, none⟩ u2) b (.slice (some ⟨g, 0, none⟩) n c) n (xs ++ [x]) (Gs ++ G) := by
  obtain ⟨vss, h0, h1, h2, h3⟩ := h
  have hf : vss.flatten.length = xs.length * 3 := by rw [(Els.mem _ _ _ h2).2.2.2, hk]
  have hfar : ∀ y, y ≠ g → (((w.setCell ⟨g, xs.length * 3, none⟩ u0).setCell ⟨g, xs.length * 3 + 1, none⟩ u1).setCell ⟨g, xs.length * 3 + 2, none⟩ u2).heap[y]? = w.heap[y]? := fun y hy => (Below.heap_setCell _ ⟨g, xs.length * 3 + 2, none⟩ u2 y hy).trans ((Below.heap_setCell _ ⟨g, xs.length * 3 + 1, none⟩ u1 y hy).trans (Below.heap_setCell w ⟨g, xs.length * 3, none⟩ u0 y hy))
  obtain ⟨m, hm⟩ : ∃ m, n - xs.length = m + 1 := ⟨n - xs.length - 1, by omega⟩
  have hgs : g ∉ Gs := h3 g (by simp [Value.ownBlock])
  refine ⟨vss ++ [[u0, u1, u2]], by simp; omega, ?_, ?_, fun y hy hy' => ?_⟩
  · have h4 := (World.ownsRow.stored (World.ownsRow.stored (World.ownsRow.stored h1 (xs.length * 3) u0).1 (xs.length * 3 + 1) u1).1 (xs.length * 3 + 2) u2).1
    rw [hm, List.replicate_succ, List.flatten_cons] at h4
    rw [← hf] at h4 ⊢
    rw [show ([z0, z1, z2] ++ (List.replicate m [z0, z1, z2]).flatten) = z0 :: z1 :: z2 :: (List.replicate m [z0, z1, z2]).flatten from rfl, set3] at h4
    rw [show n - (xs ++ [x]).length = m by simp; omega]
    simpa using h4
  · exact Els.append _ _ _ (h2.frame fun y hy => hfar y (fun e => hgs (e ▸ hy))) ⟨G, [], by simp, A.oframe hx (fun y hy => hfar y (hd y hy).1), rfl, by simp⟩ (fun y hy hy' => (hd y hy').2 hy)
  · rcases List.mem_append.1 hy' with hy' | hy'
    · exact h3 y hy hy'
    · simp [Value.ownBlock] at hy; exact (hd y hy').1 hy
end
theorem made_flat (z : Array Value) (n : Nat) (hk : 0 < z.size) : (madeCells z (n * z.size)).toList = (List.replicate n z.toList).flatten := by
  apply List.ext_getElem?
  intro m
  by_cases hm : m < n * z.size
  · have e : m = (m / z.size) * z.size + m % z.size := (Nat.div_add_mod' m z.size).symm
    have hd : m / z.size < n := Nat.div_lt_of_lt_mul (by rw [Nat.mul_comm]; exact hm)
    have h2 := flat_at (k := z.size) (List.replicate n z.toList) (m / z.size) z.toList (by intro vs hvs; rw [List.eq_of_mem_replicate hvs]; simp) (by rw [List.getElem?_replicate, if_pos hd]) (m % z.size) (Nat.mod_lt _ hk)
    rw [← e] at h2
    rw [h2]
    have h3 := Nat.mod_lt m hk
    unfold madeCells
    simp [hm, h3]
  · rw [List.getElem?_eq_none (by rw [Array.length_toList, size_madeCells]; omega), List.getElem?_eq_none (by simp; omega)]
theorem toStrs_any (ss : List ByteArray) (hn : ss.length ≤ 1048576) (A : Option Addr) (c : Nat) (w : World) (hr : Kd.C Kd.string w A ss.length ss) (hc : ss.length ≤ c) :
    Calls Tryd.prog 20 #[.slice A ss.length c] w fun e w' => ∃ v G, e = .returned v ∧ strsS.ow w' w.heap.size [v] ss G ∧ Below w.heap.size w w' := by
  obtain ⟨k, hk⟩ := (ev_toStringS ss (by omega)).rounds
  refine (laws_toStringS.calls k A c ss ss w hr hc hk).mono ?_
  rintro e w' ⟨v, rfl, hR, hb⟩
  exact ⟨v, _, rfl, strs_ER.2 ⟨Kd.own_of_R hR, rfl⟩, hb⟩
theorem far3 {w : World} {a b c : Addr} {u v x : Value} {g : Nat} (h1 : g ≠ a.block) (h2 : g ≠ b.block) (h3 : g ≠ c.block) : (((w.setCell a u).setCell b v).setCell c x).heap[g]? = w.heap[g]? :=
  (Below.heap_setCell _ c x g h3).trans ((Below.heap_setCell _ b v g h2).trans (Below.heap_setCell _ a u g h1))
set_option maxRecDepth 100000 in
set_option maxHeartbeats 2000000 in
theorem toLine_any (l : S155) (h : LF l) (A : Option Addr) (c : Nat) (w : World) (hr : Kd.C Kd.string w A l.f1.length l.f1) (hc : l.f1.length ≤ c) :
    Calls Tryd.prog 152 #[.agg #[.string l.f0, .slice A l.f1.length c]] w fun e w' => ∃ dv G, e = .returned (.agg #[.string l.f0, dv]) ∧ strsS.ow w' w.heap.size [dv] l.f1 G ∧ Below w.heap.size w w' := by
  have HR := Aside0.mk hr
  have HL := Aside0.mk h
  clear hr h
  go_enter Tryd.func152, Tryd.ntmps152
  go_wp2_with fail
  have b1 := blk_alloc (blk_new (w.alloc (.cells #[.string l.f0, .slice A l.f1.length c] 155)) (.cells #[.string ⟨#[]⟩, .slice none 0 0] 83)) (.cells #[.string l.f0, .slice none 0 0] 83)
  have b2 := blk_new ((w.alloc (.cells #[.string l.f0, .slice A l.f1.length c] 155)).alloc (.cells #[.string ⟨#[]⟩, .slice none 0 0] 83)) (.cells #[.string l.f0, .slice none 0 0] 83)
  have hB : Below w.heap.size w (((w.alloc (.cells #[.string l.f0, .slice A l.f1.length c] 155)).alloc (.cells #[.string ⟨#[]⟩, .slice none 0 0] 83)).alloc (.cells #[.string l.f0, .slice none 0 0] 83)) := (((Below.refl _ _).alloc (Nat.le_refl _) _).alloc (by simp) _).alloc (by simp; omega) _
  have hs : (((w.alloc (.cells #[.string l.f0, .slice A l.f1.length c] 155)).alloc (.cells #[.string ⟨#[]⟩, .slice none 0 0] 83)).alloc (.cells #[.string l.f0, .slice none 0 0] 83)).heap.size = w.heap.size + 1 + 1 + 1 := by simp
  rw [show (w.alloc (.cells #[.string l.f0, .slice A l.f1.length c] 155)).heap.size = w.heap.size + 1 by simp] at b1
  rw [show ((w.alloc (.cells #[.string l.f0, .slice A l.f1.length c] 155)).alloc (.cells #[.string ⟨#[]⟩, .slice none 0 0] 83)).heap.size = w.heap.size + 1 + 1 by simp] at b2
  generalize ((w.alloc (.cells #[.string l.f0, .slice A l.f1.length c] 155)).alloc (.cells #[.string ⟨#[]⟩, .slice none 0 0] 83)).alloc (.cells #[.string l.f0, .slice none 0 0] 83) = W3 at *
  refine (toStrs_any l.f1 HL.out.2.1 A c W3 (Kd.C_below HR.out hB) hc).mono ?_
  rintro e w4 ⟨dv, G, rfl, ho, hb⟩
  obtain ⟨D, d, rfl⟩ := own_form ho
  have HO := Aside0.mk ho
  have k1 := blk_below b1 hb
  have k2 := blk_below b2 hb
  have K1 := Aside0.mk k1
  have c10 := (blk_cell k1 0).trans rfl
  have c11 := (blk_cell k1 1).trans rfl
  have c20 := (blk_cell k2 0).trans rfl
  have c21 := (blk_cell k2 1).trans rfl
  have f10 := blk_frozen k1 0
  have f11 := blk_frozen k1 1
  have f21 := blk_frozen k2 1
  have hB4 : Aside0 (Below w.heap.size w w4) := ⟨hB.trans (hb.mono (by omega))⟩
  clear b1 b2 hB hb ho k1 k2
  go_wp2_with fail
  refine bodyPost_ret (results_cell_row rfl _ _ (w.heap.size + 1) 83 #[.string l.f0, .slice D l.f1.length d] (0, 0) _ rfl ?blk Tryd.underlying83 rfl (by kernel_rfl)) rfl ⟨_, G, rfl, ?ow, ?bel⟩
  case blk =>
    refine blk_put (cs := #[.string l.f0, .slice none 0 0]) ?_ 1 _ rfl
    refine blk_put (cs := #[.string ⟨#[]⟩, .slice none 0 0]) ?_ 0 _ rfl
    refine blk_far ?_ (show w.heap.size + 1 ≠ w.heap.size + 1 + 1 by omega) _
    exact K1.out
  case ow =>
    refine strsS.olow (strsS.oframe HO.out fun g hg => ?_) (show w.heap.size ≤ W3.heap.size by omega)
    have hgb := (strsS.oin HO.out g hg).1
    exact far3 (show g ≠ w.heap.size + 1 + 1 by omega) (show g ≠ w.heap.size + 1 by omega) (show g ≠ w.heap.size + 1 by omega)
  case bel => exact ((hB4.out.setCell (p := ⟨w.heap.size + 1 + 1, 1, none⟩) (show w.heap.size ≤ w.heap.size + 1 + 1 by omega) _).setCell (p := ⟨w.heap.size + 1, 0, none⟩) (show w.heap.size ≤ w.heap.size + 1 by omega) _).setCell (p := ⟨w.heap.size + 1, 1, none⟩) (show w.heap.size ≤ w.heap.size + 1 by omega) _
set_option maxRecDepth 100000 in
set_option maxHeartbeats 2000000 in
theorem toLines_any (ls : List S155) (h : LFs ls) (A : Option Addr) (c : Nat) (w : World) (hr : Kd.C k155 w A ls.length ls) :
    Calls Tryd.prog 138 #[.slice A ls.length c] w fun e w' => ∃ v G, e = .returned v ∧ linesS.ow w' w.heap.size [v] (ls.map cvL) G ∧ Below w.heap.size w w' := by
  have HR := Aside0.mk hr
  have HL := Aside0.mk h
  have hlen : ls.length ≤ 1048576 := h.1
  clear hr h
  obtain ⟨i0, hi, hz0, hz1, hz2⟩ := info_parts (show (Tryd.prog.info? 83).map (fun i => (i.zero, i.size, i.bytes)) = some (some (.agg #[.string ⟨#[]⟩, .slice none 0 0]), 2, 40) by kernel_rfl)
  go_enter Tryd.func138, Tryd.ntmps138
  go_wp2_with (at_make; refine wpList_make_full _ rfl _ _ 52 rfl w.heap.size 83 i0 _ 2 Tryd.underlying52 hi hz0 hz1 .i64 .i64 ls.length ls.length ls.length rfl rfl rfl rfl ?b2 ?b3 (Nat.le_refl _) ?_)
  case b2 => rw [hz2]; omega
  case b3 => unfold maxLen; omega
  intro w1 hown hg
  have hz := made_flat #[.string ⟨#[]⟩, .slice none 0 0] ls.length (by decide)
  have hH : Aside0 (∃ Gs, Half lineS 83 [.string ⟨#[]⟩, .slice none 0 0] w1 w.heap.size (.slice (some ⟨w.heap.size, 0, none⟩) ls.length ls.length) ls.length ((ls.take 0).map cvL) Gs) :=
    ⟨[], [], by simp, by have h2 := hown; rw [show ls.length * 2 = ls.length * (#[Value.string ⟨#[]⟩, .slice none 0 0] : Array Value).size from rfl] at h2; change w1.ownsRow _ _ _ _ _ (madeCells #[.string ⟨#[]⟩, .slice none 0 0] _).toList at h2; rw [hz] at h2; have h3 : w1.ownsRow w.heap.size 83 lineS.k (.slice (some ⟨w.heap.size, 0, none⟩) ls.length ls.length) ls.length (List.replicate ls.length [Value.string ⟨#[]⟩, .slice none 0 0]).flatten := h2; simpa using h3, rfl, by simp⟩
  have hB1 : Below w.heap.size w w1 := (Below.refl _ _).grown hg (Nat.le_refl _) (fun k hk => by cases hk)
  have hs1 : w.heap.size < w1.heap.size := own_lt hown _ rfl
  clear hown hg hz hi hz0 hz1 hz2
  go_wp2_with fail
  go_loopw [4] (fun v wr => ∃ j : Nat, v = .int .i64 j ∧ j ≤ ls.length ∧ Below w.heap.size w wr ∧ w.heap.size < wr.heap.size ∧ Aside0 (∃ Gs, Half lineS 83 [.string ⟨#[]⟩, .slice none 0 0] wr w.heap.size (.slice (some ⟨w.heap.size, 0, none⟩) ls.length ls.length) ls.length ((ls.take j).map cvL) Gs)) (fun v _ => ls.length - (intOf v).toNat)
  case atStart => exact ⟨0, rfl, Nat.zero_le _, hB1, hs1, hH⟩
  case round =>
    clear hH hB1 hs1
    obtain ⟨j, rfl, hj, hB, hs, hH⟩ := hrel
    by_cases hlt : j < ls.length
    · obtain ⟨ad, A1, c1, rfl, hx0, hx1, hl1, hC1⟩ := at_T155 (Kd.C_below HR.out hB) (j : Int) (by omega) (by omega)
      rw [rdLl hlt, Int.toNat_natCast] at hx0 hx1
      rw [rdLl hlt] at hl1 hC1
      have hL := HL.out.2 _ (List.getElem_mem hlt)
      have hnx : (ls.take (j + 1)).map cvL = (ls.take j).map cvL ++ [cvL ls[j]] := by rw [List.take_add_one, List.getElem?_eq_getElem hlt, List.map_append]; rfl
      have hjl : ((ls.take j).map cvL).length = j := by rw [List.length_map, List.length_take]; omega
      generalize ls[j] = l at *
      obtain ⟨f0, f1⟩ := l
      have HNX := Aside0.mk hnx
      have HJL := Aside0.mk hjl
      have HL1 := Aside0.mk hL
      have HC1 := Aside0.mk hC1
      clear hnx hjl hL hC1
      have i1 : (j : Int) < (ls.length : Int) := by omega
      go_wp2_with fail
      refine (toLine_any ⟨f0, f1⟩ HL1.out A1 c1 _ HC1.out hl1).mono ?_
      rintro e w2 ⟨dv, G, rfl, ho, hb⟩
      obtain ⟨D, d, rfl⟩ := own_form ho
      obtain ⟨Gs, hGs⟩ := hH.out
      have hG2 := hGs.below hb
      have q0 := hG2.cell rfl (by rw [HJL.out]; exact hlt) 0 (by decide)
      have q1 := hG2.cell rfl (by rw [HJL.out]; exact hlt) 1 (by decide)
      rw [HJL.out] at q0 q1
      obtain ⟨q00, q01⟩ := q0
      obtain ⟨q10, q11⟩ := q1
      have q00 : w2.cell? ⟨w.heap.size, j * 2, none⟩ = some (.string ⟨#[]⟩) := q00
      have q01 : w2.frozen? ⟨w.heap.size, j * 2, none⟩ = false := q01
      have q10 : w2.cell? ⟨w.heap.size, j * 2 + 1, none⟩ = some (.slice none 0 0) := q10
      have q11 : w2.frozen? ⟨w.heap.size, j * 2 + 1, none⟩ = false := q11
      have hst := Aside0.mk (hG2.step2 (x := cvL ⟨f0, f1⟩) rfl (by rw [HJL.out]; exact hlt) (line_ow (key := f0) (strsS.olow ho hB.size)) (fun y hy => ⟨by have := (strsS.oin ho y hy).1; omega, fun hy' => by
        have h1 := (strsS.oin ho y hy).1
        obtain ⟨vss, _, _, h2, _⟩ := hGs
        have := ((Els.mem _ _ _ h2).1 y hy').2
        omega⟩))
      have hB2 : Below w.heap.size w w2 := hB.trans (hb.mono hB.size)
      have hs2 : w.heap.size < w2.heap.size := by have := hb.size; omega
      clear hb ho hG2 hGs hx0 hx1 hB hs hH
      go_wp2_with fail
      go_roundw
      case rel => exact ⟨j + 1, by go_num, hlt, (hB2.setCell (p := ⟨w.heap.size, j * 2, none⟩) (Nat.le_refl _) _).setCell (p := ⟨w.heap.size, j * 2 + 1, none⟩) (Nat.le_refl _) _, by simpa using hs2, ⟨_, by rw [HNX.out]; have := hst.out; rw [HJL.out] at this; exact this⟩⟩
      case measure => simp [intOf]; omega
    · obtain rfl : j = ls.length := by omega
      obtain ⟨Gs, hGs⟩ := hH.out
      rw [List.take_length] at hGs
      have hd : Aside0 (linesS.ow wr w.heap.size [.slice (some ⟨w.heap.size, 0, none⟩) ls.length ls.length] (ls.map cvL) ((Value.slice (some ⟨w.heap.size, 0, none⟩) ls.length ls.length).ownBlock.toList ++ Gs)) := ⟨Half.done (by rw [List.length_map]; exact hGs)⟩
      clear hGs hH
      go_wp2
      go_ret
      exact ⟨_, _, rfl, hd.out, hB⟩
theorem far4 {w : World} {a b c d : Addr} {u v x y : Value} {g : Nat} (h1 : g ≠ a.block) (h2 : g ≠ b.block) (h3 : g ≠ c.block) (h4 : g ≠ d.block) : ((((w.setCell a u).setCell b v).setCell c x).setCell d y).heap[g]? = w.heap[g]? :=
  (Below.heap_setCell _ d y g h4).trans (far3 h1 h2 h3)
set_option maxRecDepth 100000 in
set_option maxHeartbeats 2000000 in
theorem toBlock_any (b : S128) (h : KF b) (A : Option Addr) (c : Nat) (w : World) (hr : Kd.C k155 w A b.f2.length b.f2) :
    Calls Tryd.prog 115 #[.agg #[.string b.f0, .string b.f1, .slice A b.f2.length c]] w fun e w' => ∃ lv G, e = .returned (.agg #[.string b.f0, .string b.f1, lv]) ∧ linesS.ow w' w.heap.size [lv] (b.f2.map cvL) G ∧ Below w.heap.size w w' := by
  have HR := Aside0.mk hr
  have HL := Aside0.mk h
  clear hr h
  go_enter Tryd.func115, Tryd.ntmps115
  go_wp2_with fail
  have b1 := blk_alloc (blk_new (w.alloc (.cells #[.string b.f0, .string b.f1, .slice A b.f2.length c] 128)) (.cells #[.string ⟨#[]⟩, .string ⟨#[]⟩, .slice none 0 0] 62)) (.cells #[.string b.f0, .string b.f1, .slice none 0 0] 62)
  have b2 := blk_new ((w.alloc (.cells #[.string b.f0, .string b.f1, .slice A b.f2.length c] 128)).alloc (.cells #[.string ⟨#[]⟩, .string ⟨#[]⟩, .slice none 0 0] 62)) (.cells #[.string b.f0, .string b.f1, .slice none 0 0] 62)
  have hB : Below w.heap.size w (((w.alloc (.cells #[.string b.f0, .string b.f1, .slice A b.f2.length c] 128)).alloc (.cells #[.string ⟨#[]⟩, .string ⟨#[]⟩, .slice none 0 0] 62)).alloc (.cells #[.string b.f0, .string b.f1, .slice none 0 0] 62)) := (((Below.refl _ _).alloc (Nat.le_refl _) _).alloc (by simp) _).alloc (by simp; omega) _
  have hs : (((w.alloc (.cells #[.string b.f0, .string b.f1, .slice A b.f2.length c] 128)).alloc (.cells #[.string ⟨#[]⟩, .string ⟨#[]⟩, .slice none 0 0] 62)).alloc (.cells #[.string b.f0, .string b.f1, .slice none 0 0] 62)).heap.size = w.heap.size + 1 + 1 + 1 := by simp
  rw [show (w.alloc (.cells #[.string b.f0, .string b.f1, .slice A b.f2.length c] 128)).heap.size = w.heap.size + 1 by simp] at b1
  rw [show ((w.alloc (.cells #[.string b.f0, .string b.f1, .slice A b.f2.length c] 128)).alloc (.cells #[.string ⟨#[]⟩, .string ⟨#[]⟩, .slice none 0 0] 62)).heap.size = w.heap.size + 1 + 1 by simp] at b2
  generalize ((w.alloc (.cells #[.string b.f0, .string b.f1, .slice A b.f2.length c] 128)).alloc (.cells #[.string ⟨#[]⟩, .string ⟨#[]⟩, .slice none 0 0] 62)).alloc (.cells #[.string b.f0, .string b.f1, .slice none 0 0] 62) = W3 at *
  refine (toLines_any b.f2 HL.out.2.2 A c W3 (Kd.C_below HR.out hB)).mono ?_
  rintro e w4 ⟨dv, G, rfl, ho, hb⟩
  obtain ⟨D, d, rfl⟩ := own_form ho
  rw [List.length_map] at ho
  have HO := Aside0.mk ho
  have k1 := blk_below b1 hb
  have k2 := blk_below b2 hb
  have K1 := Aside0.mk k1
  have c10 := (blk_cell k1 0).trans rfl
  have c11 := (blk_cell k1 1).trans rfl
  have c12 := (blk_cell k1 2).trans rfl
  have c20 := (blk_cell k2 0).trans rfl
  have c21 := (blk_cell k2 1).trans rfl
  have c22 := (blk_cell k2 2).trans rfl
  have f10 := blk_frozen k1 0
  have f11 := blk_frozen k1 1
  have f12 := blk_frozen k1 2
  have f22 := blk_frozen k2 2
  have hB4 : Aside0 (Below w.heap.size w w4) := ⟨hB.trans (hb.mono (by omega))⟩
  clear b1 b2 hB hb ho k1 k2
  go_wp2_with fail
  refine bodyPost_ret (results_cell_row rfl _ _ (w.heap.size + 1) 62 #[.string b.f0, .string b.f1, .slice D b.f2.length d] (0, 0) _ rfl ?blk Tryd.underlying62 rfl (by kernel_rfl)) rfl ⟨_, G, rfl, ?ow, ?bel⟩
  case blk =>
    refine blk_put (cs := #[.string b.f0, .string b.f1, .slice none 0 0]) ?_ 2 _ rfl
    refine blk_put (cs := #[.string b.f0, .string ⟨#[]⟩, .slice none 0 0]) ?_ 1 _ rfl
    refine blk_put (cs := #[.string ⟨#[]⟩, .string ⟨#[]⟩, .slice none 0 0]) ?_ 0 _ rfl
    refine blk_far ?_ (show w.heap.size + 1 ≠ w.heap.size + 1 + 1 by omega) _
    exact K1.out
  case ow =>
    refine linesS.olow (linesS.oframe HO.out fun g hg => ?_) (show w.heap.size ≤ W3.heap.size by omega)
    have hgb := (linesS.oin HO.out g hg).1
    exact far4 (show g ≠ w.heap.size + 1 + 1 by omega) (show g ≠ w.heap.size + 1 by omega) (show g ≠ w.heap.size + 1 by omega) (show g ≠ w.heap.size + 1 by omega)
  case bel => exact (((hB4.out.setCell (p := ⟨w.heap.size + 1 + 1, 2, none⟩) (show w.heap.size ≤ w.heap.size + 1 + 1 by omega) _).setCell (p := ⟨w.heap.size + 1, 0, none⟩) (show w.heap.size ≤ w.heap.size + 1 by omega) _).setCell (p := ⟨w.heap.size + 1, 1, none⟩) (show w.heap.size ≤ w.heap.size + 1 by omega) _).setCell (p := ⟨w.heap.size + 1, 2, none⟩) (show w.heap.size ≤ w.heap.size + 1 by omega) _
set_option maxRecDepth 100000 in
set_option maxHeartbeats 2000000 in
theorem toBlocks_any (ls : List S128) (h : KFs ls) (A : Option Addr) (c : Nat) (w : World) (hr : Kd.C k128 w A ls.length ls) :
    Calls Tryd.prog 74 #[.slice A ls.length c] w fun e w' => ∃ v G, e = .returned v ∧ blocksS.ow w' w.heap.size [v] (ls.map cvB) G ∧ Below w.heap.size w w' := by
  have HR := Aside0.mk hr
  have HL := Aside0.mk h
  have hlen : ls.length ≤ 1048576 := h.1
  clear hr h
  obtain ⟨i0, hi, hz0, hz1, hz2⟩ := info_parts (show (Tryd.prog.info? 62).map (fun i => (i.zero, i.size, i.bytes)) = some (some (.agg #[.string ⟨#[]⟩, .string ⟨#[]⟩, .slice none 0 0]), 3, 56) by kernel_rfl)
  go_enter Tryd.func74, Tryd.ntmps74
  go_wp2_with (at_make; refine wpList_make_full _ rfl _ _ 45 rfl w.heap.size 62 i0 _ 3 Tryd.underlying45 hi hz0 hz1 .i64 .i64 ls.length ls.length ls.length rfl rfl rfl rfl ?b2 ?b3 (Nat.le_refl _) ?_)
  case b2 => rw [hz2]; omega
  case b3 => unfold maxLen; omega
  intro w1 hown hg
  have hz := made_flat #[.string ⟨#[]⟩, .string ⟨#[]⟩, .slice none 0 0] ls.length (by decide)
  have hH : Aside0 (∃ Gs, Half blockS 62 [.string ⟨#[]⟩, .string ⟨#[]⟩, .slice none 0 0] w1 w.heap.size (.slice (some ⟨w.heap.size, 0, none⟩) ls.length ls.length) ls.length ((ls.take 0).map cvB) Gs) :=
    ⟨[], [], by simp, by have h2 := hown; rw [show ls.length * 3 = ls.length * (#[Value.string ⟨#[]⟩, .string ⟨#[]⟩, .slice none 0 0] : Array Value).size from rfl] at h2; change w1.ownsRow _ _ _ _ _ (madeCells #[.string ⟨#[]⟩, .string ⟨#[]⟩, .slice none 0 0] _).toList at h2; rw [hz] at h2; have h3 : w1.ownsRow w.heap.size 62 blockS.k (.slice (some ⟨w.heap.size, 0, none⟩) ls.length ls.length) ls.length (List.replicate ls.length [Value.string ⟨#[]⟩, .string ⟨#[]⟩, .slice none 0 0]).flatten := h2; simpa using h3, rfl, by simp⟩
  have hB1 : Below w.heap.size w w1 := (Below.refl _ _).grown hg (Nat.le_refl _) (fun k hk => by cases hk)
  have hs1 : w.heap.size < w1.heap.size := own_lt hown _ rfl
  clear hown hg hz hi hz0 hz1 hz2
  go_wp2_with fail
  go_loopw [4] (fun v wr => ∃ j : Nat, v = .int .i64 j ∧ j ≤ ls.length ∧ Below w.heap.size w wr ∧ w.heap.size < wr.heap.size ∧ Aside0 (∃ Gs, Half blockS 62 [.string ⟨#[]⟩, .string ⟨#[]⟩, .slice none 0 0] wr w.heap.size (.slice (some ⟨w.heap.size, 0, none⟩) ls.length ls.length) ls.length ((ls.take j).map cvB) Gs)) (fun v _ => ls.length - (intOf v).toNat)
  case atStart => exact ⟨0, rfl, Nat.zero_le _, hB1, hs1, hH⟩
  case round =>
    clear hH hB1 hs1
    obtain ⟨j, rfl, hj, hB, hs, hH⟩ := hrel
    by_cases hlt : j < ls.length
    · obtain ⟨ad, A1, c1, rfl, hx0, hx1, hx2, hl1, hC1⟩ := at_T128 (Kd.C_below HR.out hB) (j : Int) (by omega) (by omega)
      rw [rdBl hlt, Int.toNat_natCast] at hx0 hx1 hx2
      rw [rdBl hlt] at hl1 hC1
      have hL := HL.out.2 _ (List.getElem_mem hlt)
      have hnx : (ls.take (j + 1)).map cvB = (ls.take j).map cvB ++ [cvB ls[j]] := by rw [List.take_add_one, List.getElem?_eq_getElem hlt, List.map_append]; rfl
      have hjl : ((ls.take j).map cvB).length = j := by rw [List.length_map, List.length_take]; omega
      generalize ls[j] = l at *
      obtain ⟨f0, f1, f2⟩ := l
      have HNX := Aside0.mk hnx
      have HJL := Aside0.mk hjl
      have HL1 := Aside0.mk hL
      have HC1 := Aside0.mk hC1
      clear hnx hjl hL hC1
      have i1 : (j : Int) < (ls.length : Int) := by omega
      go_wp2_with fail
      refine (toBlock_any ⟨f0, f1, f2⟩ HL1.out A1 c1 _ HC1.out).mono ?_
      rintro e w2 ⟨dv, G, rfl, ho, hb⟩
      obtain ⟨D, d, rfl⟩ := own_form ho
      rw [List.length_map] at ho
      obtain ⟨Gs, hGs⟩ := hH.out
      have hG2 := hGs.below hb
      have q0 := hG2.cell rfl (by rw [HJL.out]; exact hlt) 0 (by decide)
      have q1 := hG2.cell rfl (by rw [HJL.out]; exact hlt) 1 (by decide)
      have q2 := hG2.cell rfl (by rw [HJL.out]; exact hlt) 2 (by decide)
      rw [HJL.out] at q0 q1 q2
      obtain ⟨q00, q01⟩ := q0
      obtain ⟨q10, q11⟩ := q1
      obtain ⟨q20, q21⟩ := q2
      have q00 : w2.cell? ⟨w.heap.size, j * 3, none⟩ = some (.string ⟨#[]⟩) := q00
      have q01 : w2.frozen? ⟨w.heap.size, j * 3, none⟩ = false := q01
      have q10 : w2.cell? ⟨w.heap.size, j * 3 + 1, none⟩ = some (.string ⟨#[]⟩) := q10
      have q20 : w2.cell? ⟨w.heap.size, j * 3 + 2, none⟩ = some (.slice none 0 0) := q20
      have q21 : w2.frozen? ⟨w.heap.size, j * 3 + 2, none⟩ = false := q21
      have q11 : w2.frozen? ⟨w.heap.size, j * 3 + 1, none⟩ = false := q11
      have hst := Aside0.mk (hG2.step3 (x := cvB ⟨f0, f1, f2⟩) rfl (by rw [HJL.out]; exact hlt) (block_ow (kind := f0) (name := f1) (linesS.olow ho hB.size)) (fun y hy => ⟨by have := (linesS.oin ho y hy).1; omega, fun hy' => by
        have h1 := (linesS.oin ho y hy).1
        obtain ⟨vss, _, _, h2, _⟩ := hGs
        have := ((Els.mem _ _ _ h2).1 y hy').2
        omega⟩))
      have hB2 : Below w.heap.size w w2 := hB.trans (hb.mono hB.size)
      have hs2 : w.heap.size < w2.heap.size := by have := hb.size; omega
      clear hb ho hG2 hGs hx0 hx1 hx2 hB hs hH
      go_wp2_with fail
      go_roundw
      case rel => exact ⟨j + 1, by go_num, hlt, ((hB2.setCell (p := ⟨w.heap.size, j * 3, none⟩) (Nat.le_refl _) _).setCell (p := ⟨w.heap.size, j * 3 + 1, none⟩) (Nat.le_refl _) _).setCell (p := ⟨w.heap.size, j * 3 + 2, none⟩) (Nat.le_refl _) _, by simpa using hs2, ⟨_, by rw [HNX.out]; have := hst.out; rw [HJL.out] at this; exact this⟩⟩
      case measure => simp [intOf]; omega
    · obtain rfl : j = ls.length := by omega
      obtain ⟨Gs, hGs⟩ := hH.out
      rw [List.take_length] at hGs
      have hd : Aside0 (blocksS.ow wr w.heap.size [.slice (some ⟨w.heap.size, 0, none⟩) ls.length ls.length] (ls.map cvB) ((Value.slice (some ⟨w.heap.size, 0, none⟩) ls.length ls.length).ownBlock.toList ++ Gs)) := ⟨Half.done (by rw [List.length_map]; exact hGs)⟩
      clear hGs hH
      go_wp2
      go_ret
      exact ⟨_, _, rfl, hd.out, hB⟩
set_option maxRecDepth 100000 in
set_option maxHeartbeats 2000000 in
theorem toSheet_any (bs : List S128) (h : KFs bs) (A : Option Addr) (c : Nat) (w : World) (hr : Kd.C k128 w A bs.length bs) :
    Calls Tryd.prog 28 #[.agg #[.slice A bs.length c]] w fun e w' => ∃ v G, e = .returned (.agg #[v]) ∧ blocksS.ow w' w.heap.size [v] (cvBs bs) G ∧ Below w.heap.size w w' := by
  have HR := Aside0.mk hr
  have HL := Aside0.mk h
  clear hr h
  go_enter Tryd.func28, Tryd.ntmps28
  go_wp2_with fail
  have b1 := blk_alloc (blk_new (w.alloc (.cells #[.slice A bs.length c] 42)) (.cells #[.slice none 0 0] 47)) (.cells #[.slice none 0 0] 47)
  have b2 := blk_new ((w.alloc (.cells #[.slice A bs.length c] 42)).alloc (.cells #[.slice none 0 0] 47)) (.cells #[.slice none 0 0] 47)
  have hB : Below w.heap.size w (((w.alloc (.cells #[.slice A bs.length c] 42)).alloc (.cells #[.slice none 0 0] 47)).alloc (.cells #[.slice none 0 0] 47)) := (((Below.refl _ _).alloc (Nat.le_refl _) _).alloc (by simp) _).alloc (by simp; omega) _
  have hs : (((w.alloc (.cells #[.slice A bs.length c] 42)).alloc (.cells #[.slice none 0 0] 47)).alloc (.cells #[.slice none 0 0] 47)).heap.size = w.heap.size + 1 + 1 + 1 := by simp
  rw [show (w.alloc (.cells #[.slice A bs.length c] 42)).heap.size = w.heap.size + 1 by simp] at b1
  rw [show ((w.alloc (.cells #[.slice A bs.length c] 42)).alloc (.cells #[.slice none 0 0] 47)).heap.size = w.heap.size + 1 + 1 by simp] at b2
  generalize ((w.alloc (.cells #[.slice A bs.length c] 42)).alloc (.cells #[.slice none 0 0] 47)).alloc (.cells #[.slice none 0 0] 47) = W3 at *
  refine (toBlocks_any bs HL.out A c W3 (Kd.C_below HR.out hB)).mono ?_
  rintro e w4 ⟨dv, G, rfl, ho, hb⟩
  obtain ⟨D, d, rfl⟩ := own_form ho
  rw [List.length_map] at ho
  have HO := Aside0.mk ho
  have k1 := blk_below b1 hb
  have k2 := blk_below b2 hb
  have K1 := Aside0.mk k1
  have c10 := (blk_cell k1 0).trans rfl
  have c20 := (blk_cell k2 0).trans rfl
  have f10 := blk_frozen k1 0
  have f20 := blk_frozen k2 0
  have hB4 : Aside0 (Below w.heap.size w w4) := ⟨hB.trans (hb.mono (by omega))⟩
  clear b1 b2 hB hb ho k1 k2
  go_wp2_with fail
  refine bodyPost_ret (results_cell_row rfl _ _ (w.heap.size + 1) 47 #[.slice D bs.length d] (0, 0) _ rfl ?blk Tryd.underlying47 rfl (by kernel_rfl)) rfl ⟨.slice D bs.length d, G, rfl, ?ow, ?bel⟩
  case blk =>
    refine blk_put (cs := #[.slice none 0 0]) ?_ 0 _ rfl
    refine blk_far ?_ (show w.heap.size + 1 ≠ w.heap.size + 1 + 1 by omega) _
    exact K1.out
  case ow =>
    refine blocksS.olow (blocksS.oframe HO.out fun g hg => ?_) (show w.heap.size ≤ W3.heap.size by omega)
    have hgb := (blocksS.oin HO.out g hg).1
    exact (Below.heap_setCell _ ⟨w.heap.size + 1, 0, none⟩ _ g (show g ≠ w.heap.size + 1 by omega)).trans (Below.heap_setCell _ ⟨w.heap.size + 1 + 1, 0, none⟩ _ g (show g ≠ w.heap.size + 1 + 1 by omega))
  case bel => exact (hB4.out.setCell (p := ⟨w.heap.size + 1 + 1, 0, none⟩) (show w.heap.size ≤ w.heap.size + 1 + 1 by omega) _).setCell (p := ⟨w.heap.size + 1, 0, none⟩) (show w.heap.size ≤ w.heap.size + 1 by omega) _
end Go.Proofs.YtmcdnpooclelgaaDoor.PAll

namespace Go.Proofs.YtmcdnpooclelgaaDoor.PAll
open Go.RowKit Go.Proofs.YtmcdnpooclelgaaDoorW.PrintWords
theorem eqStr_c (ws : List ByteArray) (hn : ws.length ≤ 1048576) (A B : Option Addr) (c d : Nat) (w : World) (ha : Kd.C Kd.string w A ws.length ws) (hc : ws.length ≤ c) (hb : Kd.C Kd.string w B ws.length ws) (hd : ws.length ≤ d) :
    Calls Tryd.prog 22 #[.slice A ws.length c, .slice B ws.length d] w fun e w' => e = .returned (.bool true) ∧ Below w.heap.size w w' := by
  have h := ev_eqStringS ws ws (by omega)
  rw [decide_eq_true rfl] at h
  obtain ⟨k, hk⟩ := h.rounds
  exact (laws_eqStringS.calls k A c ws B d ws true w ha hc hb hd hk).mono fun e w' ⟨he, hd⟩ => ⟨he, hd.below⟩
set_option maxRecDepth 100000 in
set_option maxHeartbeats 1000000 in
theorem eqLine_c (l : S83) (h : smallL l) (A B : Option Addr) (c d : Nat) (w : World) (ha : Kd.C Kd.string w A l.f1.length l.f1) (hc : l.f1.length ≤ c) (hb : Kd.C Kd.string w B l.f1.length l.f1) (hd : l.f1.length ≤ d) :
    Calls Tryd.prog 89 #[.agg #[.string l.f0, .slice A l.f1.length c], .agg #[.string l.f0, .slice B l.f1.length d]] w fun e w' => e = .returned (.bool true) ∧ Below w.heap.size w w' := by
  have HA := Aside0.mk (fun w' hb' => eqStr_c l.f1 h.2.1 A B c d w' (Kd.C_below ha hb') hc (Kd.C_below hb hb') hd)
  clear ha hb h
  go_enter Tryd.func89, Tryd.ntmps89
  go_wp2_with fail
  have hB : ∀ x y, Below w.heap.size w ((w.alloc x).alloc y) := fun x y => ((Below.refl _ _).alloc (Nat.le_refl _) _).alloc (by simp) _
  refine (HA.out _ (hB _ _)).mono ?_
  rintro e w1 ⟨rfl, hb1⟩
  have hB1 := Aside0.mk ((hB _ _).trans (hb1.mono (by simp; omega)))
  clear hb1 hB
  go_wp2_with fail
  go_ret
  exact ⟨rfl, hB1.out⟩
set_option maxRecDepth 100000 in
set_option maxHeartbeats 2000000 in
theorem eqLines_c (ls : List S83) (h : smallLs ls) (A B : Option Addr) (c d : Nat) (w : World) (ha : Kd.C k83 w A ls.length ls) (hb : Kd.C k83 w B ls.length ls) :
    Calls Tryd.prog 35 #[.slice A ls.length c, .slice B ls.length d] w fun e w' => e = .returned (.bool true) ∧ Below w.heap.size w w' := by
  have HA := Aside0.mk ha
  have HB := Aside0.mk hb
  have HS := Aside0.mk h
  have hn : ls.length ≤ 1048576 := h.1
  clear ha hb h
  go_enter Tryd.func35, Tryd.ntmps35
  go_wp2
  go_loopw [5] (fun v wr => ∃ k : Nat, v = .int .i64 k ∧ k ≤ ls.length ∧ Below w.heap.size w wr) (fun v _ => ls.length - (intOf v).toNat)
  case atStart => exact ⟨0, rfl, Nat.zero_le _, Below.refl _ _⟩
  case round =>
    obtain ⟨k, rfl, hk, hBr⟩ := hrel
    by_cases hlt : k < ls.length
    · obtain ⟨ad, A1, c1, rfl, hx0, hx1, hl1, hC1⟩ := line_at (Kd.C_below HA.out hBr) k ls[k] (List.getElem?_eq_getElem hlt)
      obtain ⟨bd, B1, d1, rfl, hy0, hy1, hm1, hD1⟩ := line_at (Kd.C_below HB.out hBr) k ls[k] (List.getElem?_eq_getElem hlt)
      have hL := HS.out.2 _ (List.getElem_mem hlt)
      generalize ls[k] = l at *
      have i1 : (k : Int) < (ls.length : Int) := by omega
      go_upto_region 6 with (fail)
      have FC := fun p : BW wr => eqLine_c l hL A1 B1 c1 d1 p.w' (Kd.C_below hC1 p.h) hl1 (Kd.C_below hD1 p.h) hm1
      have q0 := fun p : BW wr => p.cell hx0
      have q1 := fun p : BW wr => p.cell hx1
      have r0 := fun p : BW wr => p.cell hy0
      have r1 := fun p : BW wr => p.cell hy1
      clear hx0 hx1 hy0 hy1 hC1 hD1
      refine wp_region_below (by kernel_rfl) (by kernel_rfl) ?_
      repeat ((with_reducible refine wpQuiet_step ?_); (with_reducible intro K hK); go_simp; first | ((with_reducible refine hK _ ?_); clear hK K) | (apply Exists.intro; refine ⟨fun _ => ?_, hK _ ?_⟩; (first | (go_at_call 89; exact BW.calls (FC _))); clear hK K))
      with_reducible refine wpQuiet_nil ?_
      intro wn hw'
      obtain ⟨⟨_, hBn⟩, rfl⟩ := hw'
      clear FC q0 q1 r0 r1
      have hB2 := hBr.trans (hBn.mono hBr.size)
      go_wp2
      go_roundw
      case rel => exact ⟨k + 1, by go_num, hlt, hB2⟩
      case measure => simp [intOf]; omega
    · obtain rfl : k = ls.length := by omega
      go_wp2
      go_ret
      exact ⟨rfl, hBr⟩
theorem block_at {w : World} {A : Option Addr} {n : Nat} {ls : List S62} (h : Kd.C k62 w A n ls) (j : Nat) (l : S62) (hj : ls[j]? = some l) : ∃ ad A1 c1, A = some ad ∧ w.cell? (ad.add (j * 3)) = some (.string l.f0) ∧ w.cell? ⟨(ad.add (j * 3)).block, (ad.add (j * 3)).off + 1, none⟩ = some (.string l.f1) ∧ w.cell? ⟨(ad.add (j * 3)).block, (ad.add (j * 3)).off + 2, none⟩ = some (.slice A1 l.f2.length c1) ∧ l.f2.length ≤ c1 ∧ Kd.C k83 w A1 l.f2.length l.f2 := by
  have hjl := (List.getElem?_eq_some_iff.1 hj).1
  obtain ⟨ad, A1, c1, h1, h2, h3, h4, h5, h6⟩ := at_T62 h (j : Int) (by omega) (by have := h.1; omega)
  have hg : rd_T62 ls (j : Int) = l := by unfold rd_T62; rw [List.getD_eq_getElem?_getD, Int.toNat_natCast, hj]; rfl
  rw [hg] at h2 h3 h4 h5 h6
  rw [Int.toNat_natCast] at h2 h3 h4
  exact ⟨ad, A1, c1, h1, h2, h3, h4, h5, h6⟩
set_option maxRecDepth 100000 in
set_option maxHeartbeats 1000000 in
theorem eqBlock_c (l : S62) (h : smallB l) (A B : Option Addr) (c d : Nat) (w : World) (ha : Kd.C k83 w A l.f2.length l.f2) (hb : Kd.C k83 w B l.f2.length l.f2) :
    Calls Tryd.prog 118 #[.agg #[.string l.f0, .string l.f1, .slice A l.f2.length c], .agg #[.string l.f0, .string l.f1, .slice B l.f2.length d]] w fun e w' => e = .returned (.bool true) ∧ Below w.heap.size w w' := by
  have HA := Aside0.mk (fun w' hb' => eqLines_c l.f2 h.2.2 A B c d w' (Kd.C_below ha hb') (Kd.C_below hb hb'))
  clear ha hb h
  go_enter Tryd.func118, Tryd.ntmps118
  go_wp2_with fail
  have hB : ∀ x y, Below w.heap.size w ((w.alloc x).alloc y) := fun x y => ((Below.refl _ _).alloc (Nat.le_refl _) _).alloc (by simp) _
  refine (HA.out _ (hB _ _)).mono ?_
  rintro e w1 ⟨rfl, hb1⟩
  have hB1 := Aside0.mk ((hB _ _).trans (hb1.mono (by simp; omega)))
  clear hb1 hB
  go_wp2_with fail
  go_ret
  exact ⟨rfl, hB1.out⟩
set_option maxRecDepth 100000 in
set_option maxHeartbeats 2000000 in
theorem eqBlocks_c (ls : List S62) (h : smallBs ls) (A B : Option Addr) (c d : Nat) (w : World) (ha : Kd.C k62 w A ls.length ls) (hb : Kd.C k62 w B ls.length ls) :
    Calls Tryd.prog 77 #[.slice A ls.length c, .slice B ls.length d] w fun e w' => e = .returned (.bool true) ∧ Below w.heap.size w w' := by
  have HA := Aside0.mk ha
  have HB := Aside0.mk hb
  have HS := Aside0.mk h
  have hn : ls.length ≤ 1048576 := h.1
  clear ha hb h
  go_enter Tryd.func77, Tryd.ntmps77
  go_wp2
  go_loopw [5] (fun v wr => ∃ k : Nat, v = .int .i64 k ∧ k ≤ ls.length ∧ Below w.heap.size w wr) (fun v _ => ls.length - (intOf v).toNat)
  case atStart => exact ⟨0, rfl, Nat.zero_le _, Below.refl _ _⟩
  case round =>
    obtain ⟨k, rfl, hk, hBr⟩ := hrel
    by_cases hlt : k < ls.length
    · obtain ⟨ad, A1, c1, rfl, hx0, hx1, hx2, hl1, hC1⟩ := block_at (Kd.C_below HA.out hBr) k ls[k] (List.getElem?_eq_getElem hlt)
      obtain ⟨bd, B1, d1, rfl, hy0, hy1, hy2, hm1, hD1⟩ := block_at (Kd.C_below HB.out hBr) k ls[k] (List.getElem?_eq_getElem hlt)
      have hL := HS.out.2 _ (List.getElem_mem hlt)
      generalize ls[k] = l at *
      have i1 : (k : Int) < (ls.length : Int) := by omega
      go_upto_region 6 with (fail)
      have FC := fun p : BW wr => eqBlock_c l hL A1 B1 c1 d1 p.w' (Kd.C_below hC1 p.h) (Kd.C_below hD1 p.h)
      have q0 := fun p : BW wr => p.cell hx0
      have q1 := fun p : BW wr => p.cell hx1
      have q2 := fun p : BW wr => p.cell hx2
      have r2 := fun p : BW wr => p.cell hy2
      have r0 := fun p : BW wr => p.cell hy0
      have r1 := fun p : BW wr => p.cell hy1
      clear hx0 hx1 hx2 hy0 hy1 hy2 hC1 hD1
      refine wp_region_below (by kernel_rfl) (by kernel_rfl) ?_
      repeat ((with_reducible refine wpQuiet_step ?_); (with_reducible intro K hK); go_simp; first | ((with_reducible refine hK _ ?_); clear hK K) | (apply Exists.intro; refine ⟨fun _ => ?_, hK _ ?_⟩; (first | (go_at_call 118; exact BW.calls (FC _))); clear hK K))
      with_reducible refine wpQuiet_nil ?_
      intro wn hw'
      obtain ⟨⟨_, hBn⟩, rfl⟩ := hw'
      clear FC q0 q1 q2 r0 r1 r2
      have hB2 := hBr.trans (hBn.mono hBr.size)
      go_wp2
      go_roundw
      case rel => exact ⟨k + 1, by go_num, hlt, hB2⟩
      case measure => simp [intOf]; omega
    · obtain rfl : k = ls.length := by omega
      go_wp2
      go_ret
      exact ⟨rfl, hBr⟩
set_option maxRecDepth 100000 in
set_option maxHeartbeats 1000000 in
theorem eqSheet_c (bs : List S62) (h : smallBs bs) (A B : Option Addr) (c d : Nat) (w : World) (ha : Kd.C k62 w A bs.length bs) (hb : Kd.C k62 w B bs.length bs) :
    Calls Tryd.prog 30 #[.agg #[.slice A bs.length c], .agg #[.slice B bs.length d]] w fun e w' => e = .returned (.bool true) ∧ Below w.heap.size w w' := by
  have HA := Aside0.mk (fun w' hb' => eqBlocks_c bs h A B c d w' (Kd.C_below ha hb') (Kd.C_below hb hb'))
  clear ha hb h
  go_enter Tryd.func30, Tryd.ntmps30
  go_wp2_with fail
  have hB : ∀ x y, Below w.heap.size w ((w.alloc x).alloc y) := fun x y => ((Below.refl _ _).alloc (Nat.le_refl _) _).alloc (by simp) _
  refine (HA.out _ (hB _ _)).mono ?_
  rintro e w1 ⟨rfl, hb1⟩
  have hB1 := Aside0.mk ((hB _ _).trans (hb1.mono (by simp; omega)))
  clear hb1 hB
  go_wp2_with fail
  go_ret
  exact ⟨rfl, hB1.out⟩
end Go.Proofs.YtmcdnpooclelgaaDoor.PAll

namespace Go.Proofs.YtmcdnpooclelgaaDoor
open Go.RowKit Go.Proofs.YtmcdnpooclelgaaDoorW.PrintWords
section
variable {P : Program} {ops : Array Oper} {rest : List Oper} {o : Oper} {a : Act} {Q : Exit → Act → World → Prop} {K : Act → World → Prop}
theorem ap_run {W : World} (base : Nat) (ty t e : TypeId) (z : Value) (size bytes : Nat)
    (ht : P.underlying t = some (.slice e)) (hinfo : (P.info? e).map (fun i => (i.zero, i.size, i.bytes)) = some (some z, size, bytes)) (hz : z.cells.size = size) (hs0 : 0 < size) (hb0 : 0 < bytes)
    (v : Value) (n : Nat) (xs : List Value) (A : Option Addr) (m c : Nat) (news : List Value) (hA : A = none → m = 0) (hn : news.length = m * size) (hnews : ∀ ad, A = some ad → ∀ j u, news[j]? = some u → W.cell? (ad.add j) = some u) (h1 : ∀ u ∈ news, u.oneCell' = true)
    (HO : W.ownsRow base e size v n xs) (hbase : base ≤ W.heap.size) (hl : (n + m) * bytes ≤ 140737488355328) :
    ∃ v1 w1, (Builtin.append_ #[t, t] ty #[v, .slice A m c]).run P W = .ok v1 w1 ∧ w1.ownsRow base e size v1 (n + m) (xs ++ news) ∧ W.grownBy w1 v.ownBlock ∧ (v1.ownBlock = v.ownBlock ∨ ∃ b, v1.ownBlock = some b ∧ W.heap.size ≤ b) := by
  obtain ⟨i0, hi, hzz⟩ := Option.map_eq_some_iff.1 hinfo
  simp only [Prod.mk.injEq] at hzz
  obtain ⟨hz0, hz1, hz2⟩ := hzz
  have hlen : n + m ≤ 140737488355328 := Nat.le_trans (Nat.le_mul_of_pos_right _ hb0) hl
  rcases A with _ | ad
  · have h0 := hA rfl
    subst h0
    have hnn : news = [] := List.eq_nil_of_length_eq_zero (by omega)
    subst hnn
    refine ⟨v, W, ?_, by simpa using HO, World.grownBy.refl W _, .inl rfl⟩
    rcases HO.2 with ⟨rfl, hn⟩ | ⟨g, cap, cur, rfl, _, _, hnc, _⟩
    · simp [Builtin.append_, run_underlying ht, sizeOf, typeInfo, hi, Builtin.lenOf, Builtin.firstCells]
    · simp [Builtin.append_, run_underlying ht, sizeOf, typeInfo, hi, Builtin.lenOf, Builtin.firstCells, hnc, storeCells]
  · obtain ⟨v1, w1, hr, hown, hg, _, hat⟩ := run_append_own_at (P := P) W base t ty e i0 z size bytes ht hi hz0 hz1 hz2 hz hs0 v n xs HO ad m c news hn (hnews ad rfl) h1 (by simp only [maxLen]; omega) hl hbase
    refine ⟨v1, w1, hr, hown, hg, ?_⟩
    rcases hat with hat | hat
    · exact .inl hat
    · exact .inr ⟨_, hat, Nat.le_refl _⟩
theorem ap_src {w0 W : World} (base : Nat) (hgd : o.guard = none) (s x : Operand) (t e : TypeId) (z : Value) (size bytes : Nat)
    (ho : o.op = .call { callee := .builtin .append, args := #[s, x], argTypes := #[t, t] })
    (ht : P.underlying t = some (.slice e)) (hinfo : (P.info? e).map (fun i => (i.zero, i.size, i.bytes)) = some (some z, size, bytes)) (hz : z.cells.size = size) (hs0 : 0 < size) (hb0 : 0 < bytes)
    (v : Value) (n : Nat) (xs : List Value) (A : Option Addr) (m c : Nat) (news : List Value) (hs : a.eval s = v) (hx : a.eval x = .slice A m c) (hA : A = none → m = 0) (hn : news.length = m * size) (hnews : ∀ ad, A = some ad → ∀ j u, news[j]? = some u → W.cell? (ad.add j) = some u) (h1 : ∀ u ∈ news, u.oneCell' = true)
    (HO : W.ownsRow base e size v n xs) (HB : Below base w0 W) (hbase : base ≤ W.heap.size) (hl : (n + m) * bytes ≤ 140737488355328)
    (h : ∀ v1 w1, w1.ownsRow base e size v1 (n + m) (xs ++ news) → Below base w0 w1 → W.grownBy w1 v.ownBlock → (v1.ownBlock = v.ownBlock ∨ ∃ b, v1.ownBlock = some b ∧ W.heap.size ≤ b) → wpList P ops Q rest (a.put o.dst v1) w1) :
    wpList P ops Q (o :: rest) a W := by
  obtain ⟨v1, w1, hr, hown, hg, hat⟩ := ap_run (P := P) base o.type t e z size bytes ht hinfo hz hs0 hb0 v n xs A m c news hA hn hnews h1 HO hbase hl
  refine wpList_plain hgd fun K hK => ?_
  unfold Oper.wp execOp
  simp only [ho, resolve, invoke, builtin, Sem.run_bind, Sem.run_pure, Result.andThen_ok, List.map_toArray, List.map_cons, List.map_nil, hs, hx, hr]
  exact hK _ _ (h v1 w1 hown (HB.grown hg hbase (own_base HO)) hg hat)
theorem ap_src_step {w0 W : World} (base : Nat) (hw : Region.wanted o (yielded ops a.tmps) = true) (s x : Operand) (t e : TypeId) (z : Value) (size bytes : Nat)
    (ho : o.op = .call { callee := .builtin .append, args := #[s, x], argTypes := #[t, t] })
    (ht : P.underlying t = some (.slice e)) (hinfo : (P.info? e).map (fun i => (i.zero, i.size, i.bytes)) = some (some z, size, bytes)) (hz : z.cells.size = size) (hs0 : 0 < size) (hb0 : 0 < bytes)
    (v : Value) (n : Nat) (xs : List Value) (A : Option Addr) (m c : Nat) (news : List Value) (hs : a.eval s = v) (hx : a.eval x = .slice A m c) (hA : A = none → m = 0) (hn : news.length = m * size) (hnews : ∀ ad, A = some ad → ∀ j u, news[j]? = some u → W.cell? (ad.add j) = some u) (h1 : ∀ u ∈ news, u.oneCell' = true)
    (HO : W.ownsRow base e size v n xs) (HB : Below base w0 W) (hbase : base ≤ W.heap.size) (hl : (n + m) * bytes ≤ 140737488355328)
    (h : ∀ v1 w1, w1.ownsRow base e size v1 (n + m) (xs ++ news) → Below base w0 w1 → W.grownBy w1 v.ownBlock → (v1.ownBlock = v.ownBlock ∨ ∃ b, v1.ownBlock = some b ∧ W.heap.size ≤ b) → K (a.put o.dst v1) w1) :
    if Region.wanted o (yielded ops a.tmps) = true then Oper.wp P o a W K Q else K (a.put o.dst undef) W := by
  obtain ⟨v1, w1, hr, hown, hg, hat⟩ := ap_run (P := P) base o.type t e z size bytes ht hinfo hz hs0 hb0 v n xs A m c news hA hn hnews h1 HO hbase hl
  rw [if_pos hw]
  unfold Oper.wp execOp
  simp only [ho, resolve, invoke, builtin, Sem.run_bind, Sem.run_pure, Result.andThen_ok, List.map_toArray, List.map_cons, List.map_nil, hs, hx, hr]
  exact h v1 w1 hown (HB.grown hg hbase (own_base HO)) hg hat
end
theorem strs_src {w : World} {A : Option Addr} {n : Nat} {ss : List ByteArray} (h : Kd.C Kd.string w A n ss) : n = ss.length ∧ (A = none → n = 0) ∧ (ss.map Value.string).length = n * 1 ∧ (∀ ad, A = some ad → ∀ j u, (ss.map Value.string)[j]? = some u → w.cell? (ad.add j) = some u) ∧ ∀ u ∈ ss.map Value.string, u.oneCell' = true := by
  have hn : ss.length = n := h.1
  refine ⟨hn.symm, fun hA => ?_, by simp [hn], fun ad hA j u hj => ?_, fun u hu => by obtain ⟨s, _, rfl⟩ := List.mem_map.1 hu; rfl⟩
  · rcases Nat.eq_zero_or_pos n with h0 | h0
    · exact h0
    · obtain ⟨ad, h', _⟩ := Kd.at_string h 0 (Int.le_refl _) (by omega)
      rw [hA] at h'; cases h'
  · have hjl : j < ss.length := by have := (List.getElem?_eq_some_iff.1 hj).1; simpa using this
    obtain ⟨ad', h', hc⟩ := Kd.at_string h (j : Int) (by omega) (by omega)
    rw [hA] at h'
    injection h' with h'
    subst h'
    rw [Int.toNat_natCast] at hc
    rw [hc]
    rw [List.getElem?_map, List.getElem?_eq_getElem hjl] at hj
    unfold rdOf
    rw [Int.toNat_natCast, List.getD_eq_getElem?_getD, List.getElem?_eq_getElem hjl]
    exact hj
end Go.Proofs.YtmcdnpooclelgaaDoor

namespace Go.Proofs.YtmcdnpooclelgaaDoor.PAll
open Go.RowKit Go.Proofs.YtmcdnpooclelgaaDoorW.PrintWords
theorem infoStr : (Tryd.prog.info? 9).map (fun i => (i.zero, i.size, i.bytes)) = some (some (.string ⟨#[]⟩), 1, 16) := by kernel_rfl
theorem infoLine : (Tryd.prog.info? 83).map (fun i => (i.zero, i.size, i.bytes)) = some (some (.agg #[.string ⟨#[]⟩, .slice none 0 0]), 2, 40) := by kernel_rfl
theorem strs_made {w : World} {b n : Nat} {v : Value} {ss : List ByteArray} (h : w.ownsRow b 9 1 v n ([] ++ ss.map Value.string)) (hn : n = ss.length) : strsS.ow w b [v] ss v.ownBlock.toList := by
  subst hn
  exact strs_ER.2 ⟨h, rfl⟩
set_option maxRecDepth 100000 in
set_option maxHeartbeats 2000000 in
theorem cloneLines_any (ls : List S83) (h : smallLs ls) (A : Option Addr) (c : Nat) (w : World) (hr : Kd.C k83 w A ls.length ls) :
    Calls Tryd.prog 86 #[.slice A ls.length c] w fun e w' => ∃ v G, e = .returned v ∧ linesS.ow w' w.heap.size [v] ls G ∧ Below w.heap.size w w' := by
  have HR := Aside0.mk hr
  have HS := Aside0.mk h
  have hn : ls.length ≤ 1048576 := h.1
  clear hr h
  go_enter Tryd.func86, Tryd.ntmps86
  go_wp2
  go_loopw [3, 8] (fun v i wr => ∃ (j : Nat), i = .int .i64 j ∧ j ≤ ls.length ∧ Below w.heap.size w wr ∧ Aside0 (∃ F, linesS.ow wr w.heap.size [v] (ls.take j) F)) (fun _ i _ => ls.length - (intOf i).toNat)
  case atStart => exact ⟨0, rfl, Nat.zero_le _, Below.refl _ _, ⟨[], Sh.row_nil _ _ _ _⟩⟩
  case round =>
    obtain ⟨j, rfl, hj, hB, hO⟩ := hrel
    obtain ⟨F, hF⟩ := hO.out
    obtain ⟨Ad, d, rfl⟩ := own_form hF
    have HF := Aside0.mk hF
    clear hF hO
    by_cases hlt : j < ls.length
    · have hjl : (ls.take j).length = j := by rw [List.length_take]; omega
      have hnx : ls.take (j + 1) = ls.take j ++ [ls[j]] := by rw [List.take_add_one, List.getElem?_eq_getElem hlt]; rfl
      obtain ⟨ad, A1, c1, rfl, hx0, hx1, hl1, hC1⟩ := line_at (Kd.C_below HR.out hB) j ls[j] (List.getElem?_eq_getElem hlt)
      have hl := HS.out.2 _ (List.getElem_mem hlt)
      generalize ls[j] = l at *
      obtain ⟨f0, f1⟩ := l
      have HNX := Aside0.mk hnx
      have HL := Aside0.mk hl
      have HC1 := Aside0.mk hC1
      have i1 : (j : Int) < (ls.length : Int) := by omega
      clear hnx hl hC1
      obtain ⟨_, hA0, hnl, hcells, hone⟩ := strs_src (Kd.C_below HC1.out ((Below.refl _ _).alloc (Nat.le_refl wr.heap.size) (.cells #[.string f0, .slice A1 f1.length c1] 83)))
      have hsz : f1.length ≤ 1048576 := HL.out.2.1
      have b5 := blk_new wr (.cells #[.string f0, .slice A1 f1.length c1] 83)
      go_wp2_with (at_builtin; refine ap_src (w0 := wr) wr.heap.size rfl (.const (.slice none 0 0)) (.tmp 13) 27 9 (.string ⟨#[]⟩) 1 16 rfl Tryd.underlying27 infoStr rfl (by decide) (by decide) (.slice none 0 0) 0 [] A1 f1.length c1 _ rfl rfl hA0 hnl hcells hone (World.ownsRow_nil _ _ _ _) ((Below.refl _ _).alloc (Nat.le_refl _) _) (by simp) (by omega) ?_)
      intro v1 w2 ho1 hb1 hg1 hat1
      obtain ⟨B1, d1, rfl⟩ : ∃ B d, v1 = .slice B f1.length d := by
        rcases ownSl ho1 with ⟨rfl, h0⟩ | ⟨g, c, rfl⟩
        · exact ⟨_, _, by rw [h0]⟩
        · exact ⟨_, _, rfl⟩
      have hG : ∀ y ∈ (Value.slice B1 f1.length d1).ownBlock.toList, wr.heap.size < y := by
        intro y hy
        have hy : (Value.slice B1 f1.length d1).ownBlock = some y := by simpa using hy
        rcases hat1 with hat | ⟨b, hat, hb⟩
        · rw [hy] at hat; cases hat
        · rw [hy] at hat; injection hat with hat; omega
      have k5 : w2.heap[wr.heap.size]? = some (.cells #[.string f0, .slice A1 f1.length c1] 83 (0, 0)) := (hg1.block _ (by simp) (by simp [Value.ownBlock])).trans b5
      have hS := Aside0.mk (strs_ER.2 ⟨ho1, rfl⟩ : strsS.ow w2 wr.heap.size [.slice B1 f1.length d1] f1 (Value.slice B1 f1.length d1).ownBlock.toList)
      have hF2 := Aside0.mk (linesS.obelow HF.out hb1)
      have hBw := Aside0.mk (hB.trans (hb1.mono hB.size))
      have hFl := Aside0.mk (fun y hy => (linesS.oin HF.out y hy).2)
      have hs2 : wr.heap.size < w2.heap.size := by have := hg1.size; simp at this; omega
      have hs3 : w.heap.size ≤ wr.heap.size := hB.size
      have y0 := (blk_cell k5 0).trans rfl
      have y1 := (blk_cell k5 1).trans rfl
      have yf := blk_frozen k5 1
      clear hA0 hnl hcells hone b5 ho1 hb1 hg1 hat1 k5 hx0 hx1 HF hB
      go_wp2_with (at_builtin; (refine Sh.app (A := lineS) (w0 := w) (base := w.heap.size) (b := w.heap.size) (xs := ls.take j) (F := F) (G := (Value.slice B1 f1.length d1).ownBlock.toList) (x := ⟨f0, f1⟩) (us := [.string f0, .slice B1 f1.length d1]) (W := w2.setCell ⟨wr.heap.size, 1, none⟩ (.slice B1 f1.length d1)) (v := .slice Ad j d) (.agg #[.string ⟨#[]⟩, .slice none 0 0]) 40 (.tmp 16) (.tmp 18) 52 ?HO ?hx ?hd ?HB (Nat.le_refl _) ?hl rfl rfl Tryd.underlying52 infoLine rfl (by decide) (by decide) ?hbase rfl ?hy ?h1 ?_))
      case HO => rw [hjl] at hF2; exact linesS.oframe hF2.out fun g hg => Below.heap_setCell w2 ⟨wr.heap.size, 1, none⟩ _ g (fun e => by have := hFl.out g hg; have e : g = wr.heap.size := e; omega)
      case hx => exact line_ow (strsS.olow (strsS.oframe hS.out fun g hg => Below.heap_setCell w2 ⟨wr.heap.size, 1, none⟩ _ g (fun e => by have := hG g hg; have e : g = wr.heap.size := e; omega)) hs3)
      case hd => exact fun y hy hy' => by have := hG y hy; have := hFl.out y hy'; omega
      case HB => exact hBw.out.setCell (p := ⟨wr.heap.size, 1, none⟩) hs3 _
      case hl => omega
      case hbase => simp; omega
      case hy => simp [Act.eval]
      case h1 => intro u hu; simp at hu; rcases hu with rfl | rfl <;> rfl
      intro v3 w3 F3 ho3 hb3 _ _
      rw [← HNX.out] at ho3
      have hO3 : Aside0 (∃ F, linesS.ow w3 w.heap.size [v3] (ls.take (j + 1)) F) := ⟨_, ho3.out⟩
      have hB3 := hb3.out
      clear ho3 hb3 y0 y1 yf hG
      go_wp2
      go_roundw
      case rel => exact ⟨j + 1, by go_num, hlt, hB3, hO3⟩
      case measure => simp [intOf]; omega
    · obtain rfl : j = ls.length := by omega
      have HF2 := HF.out
      rw [List.take_length] at HF2
      have HF3 := Aside0.mk HF2
      clear HF HF2
      rw [List.take_length]
      go_wp2
      go_ret
      exact ⟨_, _, rfl, HF3.out, hB⟩
end Go.Proofs.YtmcdnpooclelgaaDoor.PAll

namespace Go.Proofs.YtmcdnpooclelgaaDoor.PAll
open Go.RowKit Go.Proofs.YtmcdnpooclelgaaDoorW.PrintWords
theorem look_some (kind key : ByteArray) (h : 0 ≤ placeL kind key) : ∃ r k, lookL kind key = some (r, k) ∧ (rulesL kind)[k]? = some r ∧ r.f0 = key ∧ placeL kind key = (k : Int) := by
  have hp := h
  unfold placeL at h
  cases hl : lookL kind key with
  | none => rw [hl] at h; simp at h
  | some q =>
    obtain ⟨r, k⟩ := q
    obtain ⟨_, h2, _, h4⟩ := lookFrom_mem key _ _ _ _ hl
    exact ⟨r, k, rfl, by simpa using h4, h2, by unfold placeL; rw [hl]⟩
def ofKey (key : ByteArray) (ls : List S83) : List S83 := ls.filter fun l => decide (l.f0 = key)
def defL (kind key : ByteArray) : List ByteArray := match lookL kind key with | none => [] | some (r, _) => r.f3
end Go.Proofs.YtmcdnpooclelgaaDoor.PAll

namespace Go.Proofs.YtmcdnpooclelgaaDoor.PAll
open Go.RowKit Go.Proofs.YtmcdnpooclelgaaDoorW.PrintWords
abbrev Cut2 := List Value × S83
def SrcL (w : World) (A : Option Addr) (T : List Cut2) : Prop := ∀ (j : Nat) (t : Cut2), T[j]? = some t → ∃ ad B n d, A = some ad ∧ t.1 = [.string t.2.f0, .slice B n d] ∧ w.cell? (ad.add (j * 2)) = some (.string t.2.f0) ∧ w.cell? ⟨(ad.add (j * 2)).block, (ad.add (j * 2)).off + 1, none⟩ = some (.slice B n d)
theorem SrcL.below {w w' : World} {A : Option Addr} {T : List Cut2} (h : SrcL w A T) (hb : Below w.heap.size w w') : SrcL w' A T := fun j t hj => by
  obtain ⟨ad, B, n, d, h1, h2, h3, h4⟩ := h j t hj
  exact ⟨ad, B, n, d, h1, h2, pw_cell_below hb h3, pw_cell_below hb h4⟩
theorem own_shape {w : World} {b e k n : Nat} {v : Value} {cs : List Value} (h : w.ownsRow b e k v n cs) : ∃ A m d, v = .slice A m d := by
  rcases ownSl h with ⟨rfl, _⟩ | ⟨g, c, rfl⟩
  · exact ⟨_, _, _, rfl⟩
  · exact ⟨_, _, _, rfl⟩
theorem own_shapeN {w : World} {b e k n : Nat} {v : Value} {cs : List Value} (h : w.ownsRow b e k v n cs) : ∃ A d, v = .slice A n d := by
  rcases ownSl h with ⟨rfl, rfl⟩ | ⟨g, c, rfl⟩
  · exact ⟨_, _, rfl⟩
  · exact ⟨_, _, rfl⟩
def isKey (key : ByteArray) (t : Cut2) : Bool := decide (t.2.f0 = key)
theorem take_filter (p : Cut2 → Bool) (T : List Cut2) (j : Nat) (t : Cut2) (h : T[j]? = some t) : (T.take (j + 1)).filter p = (T.take j).filter p ++ (if p t = true then [t] else []) := by
  rw [List.take_add_one, h, List.filter_append]
  congr 1
  simp only [Option.toList_some]
  cases hp : p t <;> simp [hp]
set_option maxRecDepth 100000 in
set_option maxHeartbeats 2000000 in
theorem of_c (k0 n0 key : ByteArray) (T : List Cut2) (hn : T.length ≤ 1099511627776) (A : Option Addr) (c : Nat) (w : World) (hr : SrcL w A T) :
    Calls Tryd.prog 87 #[.agg #[.string k0, .string n0, .slice A T.length c], .string key] w fun e w' => ∃ v, e = .returned v ∧ w'.ownsRow w.heap.size 83 2 v (T.filter (isKey key)).length ((T.filter (isKey key)).map Prod.fst).flatten ∧ Below w.heap.size w w' := by
  have HR := Aside0.mk hr
  clear hr
  go_enter Tryd.func87, Tryd.ntmps87
  go_wp2
  go_loopw [5, 11] (fun (v i : Value) (wr : World) => ∃ (j : Nat), i = .int .i64 j ∧ j ≤ T.length ∧ Below w.heap.size w wr ∧ Aside0 (wr.ownsRow w.heap.size 83 2 v ((T.take j).filter (isKey key)).length (((T.take j).filter (isKey key)).map Prod.fst).flatten)) (fun _ i _ => T.length - (intOf i).toNat)
  case atStart => exact ⟨0, rfl, Nat.zero_le _, (Below.refl _ _).alloc (Nat.le_refl _) _, ⟨World.ownsRow_nil _ _ _ _⟩⟩
  case round =>
    obtain ⟨j, rfl, hj, hB, hO⟩ := hrel
    obtain ⟨Ad, m, d, rfl⟩ := own_shape hO.out
    by_cases hlt : j < T.length
    · have hfl : ((T.take j).filter (isKey key)).length ≤ j := by have := List.length_filter_le (isKey key) (T.take j); rw [List.length_take] at this; omega
      obtain ⟨ad, B1, n1, d1, rfl, ht1, hx0, hx1⟩ := HR.out.below hB j T[j] (List.getElem?_eq_getElem hlt)
      have hnx := take_filter (isKey key) T j T[j] (List.getElem?_eq_getElem hlt)
      have hik : isKey key T[j] = decide (T[j].2.f0 = key) := rfl
      generalize T[j] = t at *
      obtain ⟨us, f0, f1⟩ := t
      simp only at ht1 hx0 hik
      subst ht1
      have i1 : (j : Int) < (T.length : Int) := by omega
      generalize hR : (T.take j).filter (isKey key) = R at *
      clear hR
      have hs3 : w.heap.size ≤ wr.heap.size := hB.size
      by_cases q : f0 = key
      · subst q
        rw [hik, decide_eq_true rfl, if_pos rfl] at hnx
        have HNX := Aside0.mk hnx
        clear hnx hik
        have hO2 := Aside0.mk (own_move hO.out (fun k hk => (Below.block ((Below.refl wr.heap.size wr).alloc (Nat.le_refl _) (.cells #[.string f0, .slice B1 n1 d1] 83)) k (own_lt hO.out k hk))))
        have hB2 := Aside0.mk (hB.alloc hB.size (.cells #[.string f0, .slice B1 n1 d1] 83))
        clear hO hB
        go_wp2_with (at_builtin; refine ap_lit (w0 := w) (W := wr.alloc (.cells #[.string f0, .slice B1 n1 d1] 83)) w.heap.size rfl (.tmp 19) (.tmp 21) 52 83 (.agg #[.string ⟨#[]⟩, .slice none 0 0]) 2 40 rfl Tryd.underlying52 infoLine rfl (by decide) (by decide) (.slice Ad m d) R.length 1 (R.map Prod.fst).flatten [.string f0, .slice B1 n1 d1] rfl ?hy rfl ?h1 hO2.out hB2.out ?hbase ?hl ?_)
        case hy => simp [Act.eval]
        case h1 => intro u hu; simp at hu; rcases hu with rfl | rfl <;> rfl
        case hbase => simp; omega
        case hl => omega
        intro v3 w3 ho3 hb3 _ _
        have hO3 : Aside0 (w3.ownsRow w.heap.size 83 2 v3 ((T.take (j + 1)).filter (isKey f0)).length (((T.take (j + 1)).filter (isKey f0)).map Prod.fst).flatten) := ⟨by rw [HNX.out]; simpa using ho3⟩
        clear ho3 hO2 hB2 hx0 hx1
        go_wp2
        go_roundw
        case rel => exact ⟨j + 1, by go_num, hlt, hb3, hO3⟩
        case measure => simp [intOf]; omega
      · have nq := str_ne' _ _ q
        rw [hik, decide_eq_false q] at hnx
        simp only [Bool.false_eq_true, if_false, List.append_nil] at hnx
        have hO3 : Aside0 ((wr.alloc (.cells #[.string f0, .slice B1 n1 d1] 83)).ownsRow w.heap.size 83 2 (.slice Ad m d) ((T.take (j + 1)).filter (isKey key)).length (((T.take (j + 1)).filter (isKey key)).map Prod.fst).flatten) := ⟨by
          rw [hnx]
          exact own_move hO.out (fun k hk => (Below.block ((Below.refl wr.heap.size wr).alloc (Nat.le_refl _) _) k (own_lt hO.out k hk)))⟩
        have hB2 : Below w.heap.size w (wr.alloc (.cells #[.string f0, .slice B1 n1 d1] 83)) := hB.alloc hB.size _
        clear hnx hik q hO
        go_wp2
        go_roundw
        case rel => exact ⟨j + 1, by go_num, hlt, hB2, hO3⟩
        case measure => simp [intOf]; omega
    · obtain rfl : j = T.length := by omega
      have HO2 := hO.out
      rw [List.take_length] at HO2
      have HO3 := Aside0.mk HO2
      clear HO2 hO
      go_wp2
      go_ret
      exact ⟨_, rfl, HO3.out, hB⟩
end Go.Proofs.YtmcdnpooclelgaaDoor.PAll

namespace Go.Proofs.YtmcdnpooclelgaaDoor.PAll
open Go.RowKit Go.Proofs.YtmcdnpooclelgaaDoorW.PrintWords
def findB (kind name : ByteArray) : List S62 → Nat → Int
  | [], _ => -1
  | b :: bs, i => if b.f0 = kind ∧ b.f1 = name then (i : Int) else findB kind name bs (i + 1)
set_option maxRecDepth 100000 in
set_option maxHeartbeats 1000000 in
theorem atClosure_c (f0 f1 kind name : ByteArray) (dv : Value) (B1 B2 : Nat) (w : World) (h1 : w.cell? ⟨B1, 0, none⟩ = some (.string kind)) (h2 : w.cell? ⟨B2, 0, none⟩ = some (.string name)) (hl1 : B1 < w.heap.size) (hl2 : B2 < w.heap.size) (_hd : dv.oneCell' = true) :
    Calls Tryd.prog 124 #[.agg #[.string f0, .string f1, dv], .pointer (some ⟨B1, 0, none⟩), .pointer (some ⟨B2, 0, none⟩)] w fun e w' => e = .returned (.bool (decide (f0 = kind ∧ f1 = name))) ∧ Below w.heap.size w w' := by
  by_cases q1 : f0 = kind
  · subst q1
    by_cases q2 : f1 = name
    · subst q2
      go_enter Tryd.func124, Tryd.ntmps124
      go_wp2
      go_ret
      exact ⟨by simp, (Below.refl _ _).alloc (Nat.le_refl _) _⟩
    · have n2 := str_ne' _ _ q2
      have HQ := Aside0.mk q2
      clear q2
      go_enter Tryd.func124, Tryd.ntmps124
      go_wp2
      go_ret
      exact ⟨by simp [HQ.out], (Below.refl _ _).alloc (Nat.le_refl _) _⟩
  · have n1 := str_ne' _ _ q1
    have HQ := Aside0.mk q1
    clear q1
    go_enter Tryd.func124, Tryd.ntmps124
    go_wp2
    go_ret
    exact ⟨by simp [HQ.out], (Below.refl _ _).alloc (Nat.le_refl _) _⟩
set_option maxRecDepth 100000 in
set_option maxHeartbeats 1000000 in
theorem indexFunc_c (kind name : ByteArray) (bs : List S62) (hn : bs.length ≤ 1099511627776) (A : Option Addr) (c B1 B2 : Nat) (w : World) (hr : Kd.C k62 w A bs.length bs) (h1 : w.cell? ⟨B1, 0, none⟩ = some (.string kind)) (h2 : w.cell? ⟨B2, 0, none⟩ = some (.string name)) (hl1 : B1 < w.heap.size) (hl2 : B2 < w.heap.size) :
    Calls Tryd.prog 123 #[.slice A bs.length c, .func (.func 124) #[] #[.pointer (some ⟨B1, 0, none⟩), .pointer (some ⟨B2, 0, none⟩)]] w fun e w' => e = .returned (.int .i64 (findB kind name bs 0)) ∧ Below w.heap.size w w' := by
  have eg : ∀ args w, (callFunc 124 args).run Tryd.prog w = .ok (.enter 124 args) w := enters_of Tryd.func124 (by kernel_rfl) rfl
  have HR := Aside0.mk hr
  have H1 := Aside0.mk h1
  have H2 := Aside0.mk h2
  clear hr h1 h2
  go_enter Tryd.func123, Tryd.ntmps123
  go_wp2
  go_loopw [8] (fun v wr => ∃ k : Nat, v = .int .i64 k ∧ k ≤ bs.length ∧ Below w.heap.size w wr ∧ Aside0 (findB kind name bs 0 = findB kind name (bs.drop k) k)) (fun v _ => bs.length - (intOf v).toNat)
  case atStart => exact ⟨0, rfl, Nat.zero_le _, Below.refl _ _, ⟨rfl⟩⟩
  case round =>
    obtain ⟨k, rfl, hk, hB, hf⟩ := hrel
    by_cases hlt : k < bs.length
    · obtain ⟨ad, A1, c1, rfl, hx0, hx1, hx2, hl, hC⟩ := block_at (Kd.C_below HR.out hB) k bs[k] (List.getElem?_eq_getElem hlt)
      have hst := hf.out
      rw [List.drop_eq_getElem_cons hlt, findB] at hst
      have c1 := pw_cell_below hB H1.out
      have c2 := pw_cell_below hB H2.out
      have d1 : B1 < wr.heap.size := Nat.lt_of_lt_of_le hl1 hB.size
      have d2 : B2 < wr.heap.size := Nat.lt_of_lt_of_le hl2 hB.size
      generalize bs[k] = b at *
      obtain ⟨f0, f1, ls⟩ := b
      have i1 : (k : Int) < (bs.length : Int) := by omega
      clear hf hC
      by_cases q : f0 = kind ∧ f1 = name
      · rw [if_pos q] at hst
        have HST := Aside0.mk hst
        have HQ := Aside0.mk (decide_eq_true q)
        clear hst q
        go_wp2_with fail
        refine (atClosure_c f0 f1 kind name _ B1 B2 _ c1 c2 d1 d2 rfl).mono ?_
        rw [HQ.out]
        rintro e w2 ⟨rfl, hb2⟩
        go_wp2
        go_ret
        exact ⟨retI HST.out.symm, hB.trans (hb2.mono hB.size)⟩
      · rw [if_neg q] at hst
        have HST := Aside0.mk hst
        have HQ := Aside0.mk (decide_eq_false q)
        clear hst q
        go_wp2_with fail
        refine (atClosure_c f0 f1 kind name _ B1 B2 _ c1 c2 d1 d2 rfl).mono ?_
        rw [HQ.out]
        rintro e w2 ⟨rfl, hb2⟩
        have hB2 := hB.trans (hb2.mono hB.size)
        clear hb2 c1 c2 hx0 hx1 hx2
        go_wp2
        go_roundw
        case rel => exact ⟨k + 1, by go_num, hlt, hB2, HST⟩
        case measure => simp [intOf]; omega
    · obtain rfl : k = bs.length := by omega
      have hst := hf.out
      rw [List.drop_length, findB] at hst
      have HST := Aside0.mk hst
      clear hst hf
      go_wp2
      go_ret
      exact ⟨retI HST.out.symm, hB⟩
set_option maxRecDepth 100000 in
set_option maxHeartbeats 1000000 in
theorem at_c (kind name : ByteArray) (bs : List S62) (hn : bs.length ≤ 1099511627776) (A : Option Addr) (c : Nat) (w : World) (hr : Kd.C k62 w A bs.length bs) :
    Calls Tryd.prog 85 #[.agg #[.slice A bs.length c], .string kind, .string name] w fun e w' => e = .returned (.int .i64 (findB kind name bs 0)) ∧ Below w.heap.size w w' := by
  have HR := Aside0.mk hr
  clear hr
  go_enter Tryd.func85, Tryd.ntmps85
  go_wp2_with fail
  have hB : ∀ x y z, Below w.heap.size w (((w.alloc x).alloc y).alloc z) := fun x y z => (((Below.refl _ _).alloc (Nat.le_refl _) _).alloc (by simp) _).alloc (by simp; omega) _
  refine (indexFunc_c kind name bs hn A c _ _ _ (Kd.C_below HR.out (hB _ _ _)) (by go_simp) (by go_simp) (by simp; try omega) (by simp; try omega)).mono ?_
  rintro e w1 ⟨rfl, hb1⟩
  have hB1 := Aside0.mk ((hB _ _ _).trans (hb1.mono (by simp; omega)))
  clear hb1 hB
  go_wp2
  go_ret
  exact ⟨rfl, hB1.out⟩
end Go.Proofs.YtmcdnpooclelgaaDoor.PAll

namespace Go.Proofs.YtmcdnpooclelgaaDoor.PAll
open Go.RowKit Go.Proofs.YtmcdnpooclelgaaDoorW.PrintWords
set_option maxRecDepth 100000 in
set_option maxHeartbeats 2000000 in
theorem standard_c (key : ByteArray) (a1 : Option Addr) (a2 a3 : Nat) (m : Bool) (ds : List ByteArray) (hn : ds.length ≤ 1048576) (D : Option Addr) (d : Nat) (w : World) (hr : Kd.C Kd.string w D ds.length ds) :
    Calls Tryd.prog 88 #[.agg #[.string key, .slice a1 a2 a3, .bool m, .slice D ds.length d]] w fun e w' => ∃ v G, e = .returned (.agg #[.string key, v]) ∧ strsS.ow w' w.heap.size [v] ds G ∧ Below w.heap.size w w' := by
  have HR := Aside0.mk hr
  clear hr
  go_enter Tryd.func88, Tryd.ntmps88
  go_wp2_with fail
  have b1 := blk_alloc (blk_new w (.cells #[.string key, .slice a1 a2 a3, .bool m, .slice D ds.length d] 36)) (.cells #[.string ⟨#[]⟩, .slice none 0 0] 83)
  have b2 := blk_new (w.alloc (.cells #[.string key, .slice a1 a2 a3, .bool m, .slice D ds.length d] 36)) (.cells #[.string ⟨#[]⟩, .slice none 0 0] 83)
  have hB : Below w.heap.size w ((w.alloc (.cells #[.string key, .slice a1 a2 a3, .bool m, .slice D ds.length d] 36)).alloc (.cells #[.string ⟨#[]⟩, .slice none 0 0] 83)) := ((Below.refl _ _).alloc (Nat.le_refl _) _).alloc (by simp) _
  have hs : ((w.alloc (.cells #[.string key, .slice a1 a2 a3, .bool m, .slice D ds.length d] 36)).alloc (.cells #[.string ⟨#[]⟩, .slice none 0 0] 83)).heap.size = w.heap.size + 1 + 1 := by simp
  rw [show (w.alloc (.cells #[.string key, .slice a1 a2 a3, .bool m, .slice D ds.length d] 36)).heap.size = w.heap.size + 1 by simp] at b2
  generalize (w.alloc (.cells #[.string key, .slice a1 a2 a3, .bool m, .slice D ds.length d] 36)).alloc (.cells #[.string ⟨#[]⟩, .slice none 0 0] 83) = W2 at *
  have q0 : W2.cell? ⟨w.heap.size, 0, none⟩ = some (.string key) := (blk_cell b1 0).trans rfl
  have q3 : W2.cell? ⟨w.heap.size, 3, none⟩ = some (.slice D ds.length d) := (blk_cell b1 3).trans rfl
  obtain ⟨_, hA0, hnl, hcells, hone⟩ := strs_src (Kd.C_below HR.out (below_drew hB))
  have B2 := Aside0.mk b2
  have HB := Aside0.mk hB
  clear b1 b2 hB
  have z0 : W2.cell? ⟨w.heap.size + 1, 0, none⟩ = some (.string ⟨#[]⟩) := (blk_cell B2.out 0).trans rfl
  have z1 : W2.cell? ⟨w.heap.size + 1, 1, none⟩ = some (.slice none 0 0) := (blk_cell B2.out 1).trans rfl
  have f0 := blk_frozen B2.out 0
  have f1 := blk_frozen B2.out 1
  go_region_held3 (fun w' => w'.cell? ⟨w.heap.size, 0, none⟩ = some (.string key) ∧ w'.cell? ⟨w.heap.size, 3, none⟩ = some (.slice D ds.length d)) (first | go_keep | exact ⟨pw_cell_below hb1 q0, pw_cell_below hb1 q3⟩) (first | (apply ap_src_step (P := Tryd.prog) (w0 := W2) (W := W2.drew) (base := W2.heap.size) (s := .const (.slice none 0 0)) (x := .tmp 6) (t := 27) (e := 9) (z := .string ⟨#[]⟩) (size := 1) (bytes := 16) (v := .slice none 0 0) (n := 0) (xs := []) (A := D) (m := ds.length) (c := d) (news := ds.map Value.string); (case hw => rfl); (case ho => rfl); (case ht => exact Tryd.underlying27); (case hinfo => exact infoStr); (case hz => rfl); (case hs0 => decide); (case hb0 => decide); (case hs => rfl); (case hx => rfl); (case hA => exact hA0); (case hn => exact hnl); (case hnews => exact hcells); (case h1 => exact hone); (case HO => exact World.ownsRow_nil _ _ _ _); (case HB => exact below_drew (Below.refl _ _)); (case hbase => exact Nat.le_refl _); (case hl => omega); intro v1 w3 ho1 hb1 hg1 hat1; obtain ⟨B1, d1, rfl⟩ := own_shapeN ho1; rw [Nat.zero_add] at ho1; have HO1 := Aside0.mk (strs_made ho1 rfl); have hb3 := Aside0.mk hb1; have y0 := pw_cell_below hb1 z0; have y1 := pw_cell_below hb1 z1; have g0 := (hb1.frozen (p := ⟨w.heap.size + 1, 0, none⟩) (show w.heap.size + 1 < W2.heap.size by omega)).trans f0; have g1 := (hb1.frozen (p := ⟨w.heap.size + 1, 1, none⟩) (show w.heap.size + 1 < W2.heap.size by omega)).trans f1))
  have hb5 := hb3.out
  have K1 := Aside0.mk (blk_below B2.out hb5)
  clear hb1 hg1 hat1 ho1 z0 z1 f0 f1 q0 q3 hA0 hnl hcells hone hb5
  go_wp2_with fail
  refine bodyPost_ret (results_cell_row rfl _ _ (w.heap.size + 1) 83 #[.string key, .slice B1 ds.length d1] (0, 0) _ rfl ?blk Tryd.underlying83 rfl (by kernel_rfl)) rfl ⟨.slice B1 ds.length d1, rfl, ⟨(Value.slice B1 ds.length d1).ownBlock.toList, ?ow⟩, ?bel⟩
  case blk =>
    refine blk_put (cs := #[.string key, .slice none 0 0]) ?_ 1 _ rfl
    refine blk_put (cs := #[.string ⟨#[]⟩, .slice none 0 0]) ?_ 0 _ rfl
    exact K1.out
  case ow =>
    refine strsS.olow (strsS.oframe HO1.out fun g hg => ?_) (show w.heap.size ≤ W2.heap.size by omega)
    have hgb := (strsS.oin HO1.out g hg).1
    exact (Below.heap_setCell _ ⟨w.heap.size + 1, 1, none⟩ _ g (show g ≠ w.heap.size + 1 by omega)).trans (Below.heap_setCell _ ⟨w.heap.size + 1, 0, none⟩ _ g (show g ≠ w.heap.size + 1 by omega))
  case bel => exact ((HB.out.trans (hb3.out.mono (by omega))).setCell (p := ⟨w.heap.size + 1, 0, none⟩) (show w.heap.size ≤ w.heap.size + 1 by omega) _).setCell (p := ⟨w.heap.size + 1, 1, none⟩) (show w.heap.size ≤ w.heap.size + 1 by omega) _
theorem find2_c (kind key : ByteArray) (w : World) : Calls Tryd.prog 64 #[.string kind, .string key] w fun e w' => ∃ (r1 : ByteArray) (g1 : Option Addr) (n1 c1 : Nat) (g2 : Option Addr) (c2 : Nat), e = .returned (.tuple #[.agg #[.string r1, .slice g1 n1 c1, .bool (manyL kind key), .slice g2 (defL kind key).length c2], .int .i64 (placeL kind key)]) ∧ (0 ≤ placeL kind key → r1 = key) ∧ Kd.C Kd.string w' g2 (defL kind key).length (defL kind key) ∧ Below w.heap.size w w' := by
  obtain ⟨K, hk⟩ := ev_find kind key
  have h := hk K (Nat.le_refl _)
  have e1 := many_find kind key
  have e2 := findR_place kind key
  have e3 : (findR (lookL kind key)).2.2.2.1 = defL kind key := by unfold findR defL; split <;> rename_i hq <;> rw [hq] <;> rfl
  have e4 : 0 ≤ placeL kind key → (findR (lookL kind key)).1 = key := fun hp => by
    obtain ⟨r, k, h1, _, h3, _⟩ := look_some kind key hp
    rw [h1]; exact h3
  generalize findR (lookL kind key) = fr at *
  obtain ⟨f1, f2, f3, f4, f5⟩ := fr
  simp only at e1 e2 e3 e4
  subst e3
  refine (impl_find.calls K kind key _ _ _ _ _ w h).mono ?_
  rintro e w' ⟨v1, v3, rfl, hR1, hR3, hb⟩
  obtain ⟨g1, c1, rfl⟩ := Kd.R_slice hR1
  obtain ⟨g2, c2, rfl, _, hC⟩ := Kd.R_reads hR3
  exact ⟨_, g1, _, c1, g2, c2, by rw [← e1, ← e2], e4, hC, hb⟩
end Go.Proofs.YtmcdnpooclelgaaDoor.PAll
