/- Texts of this claim, packed: contracts of functions and plain lemmas that the law is proved from. -/
import Derived.BigQuiet
import Derived.Deep.DeepCutAuto
import Derived.Deep.LoopGhost
import Derived.Deep.RegionHeld3
import Derived.Deep.RegionLaw
import Derived.HandedShaped
import Derived.LaidMore
import Derived.LaidOnce
import Derived.Laws.Cover1
import Derived.Lib.Hide
import Derived.Maps.Own
import Derived.Maps.OwnOps
import Derived.Maps.Views
import Derived.OpenShut
import Derived.ProofKit
import Derived.Shelf.LaysM
import Derived.Shelf.Slices.Empties2
import Derived.Shelf.Slices.Equal
import Derived.Shelf.Small.Strs
import Derived.Shelf.Small.Wraps
import Derived.Shelf.Strings.Builder1
import Derived.Shelf.Strings.BuilderF
import Derived.Shelf.Strings.BuilderK
import Derived.Shelf.Strings.Count
import Derived.Shelf.Strings.Prefix
import Derived.Shelf.Strings.Search1
import Derived.Shelf.Strings.Search2
import Derived.Shelf.Strings.Search3
import Derived.Shelf.Strings.Shaped
import Derived.Shelf.Strings.Split
import Derived.Shelf.Unicode.DecodeSlow
import Derived.Shelf.Vars
import Derived.Test.YtmcdnpooclelgaaDoorProg
import Derived.Test.YtmcdnpooclelgaaDoorRows
import Derived.WalkSpells
import Derived.Test.YtmcdnpooclelgaaDoorQRules21
import Derived.Test.YtmcdnpooclelgaaDoorQRules22
set_option linter.unusedVariables false
set_option linter.unusedSimpArgs false
namespace Go.Proofs.YtmcdnpooclelgaaDoor.PAll
open Go.RowKit Go.Proofs.YtmcdnpooclelgaaDoorW.PrintWords Go.Proofs.YtmcdnpooclelgaaDoorW.PrintLast Go.Proofs.YtmcdnpooclelgaaDoorW.PrintMore
attribute [local go_sem] max2_int min2_int max_two min_two max_three min_three max_four min_four   -- for this text's walks alone
def spec_l2Many.f (a0 : ByteArray) (l1 : List Int) : Option (ByteArray × List Int × Bool × List ByteArray) := (some (([] : List Int) : List Int)).bind fun y157 => (if y157.length + l1.length < 17592186044416 then (some (a0, (y157 ++ l1), true, ([] : List ByteArray))) else (none))
set_option maxHeartbeats 8000000 in
set_option maxRecDepth 100000 in
theorem spec_l2Many.calls (a0 : ByteArray) (A1 : Option Addr) (c1 : Nat) (l1 : List Int) (r1 : ByteArray) (r2 : List Int) (r3 : Bool) (r4 : List ByteArray) (w : World) (hr1 : Kd.C (Kd.int .i64) w A1 l1.length l1) (hc1 : l1.length ≤ c1) (h : spec_l2Many.f a0 l1 = some (r1, r2, r3, r4)) :
  Calls Tryd.prog 54 #[.string a0, .slice A1 l1.length c1] w fun e w' => ∃ v1_ v3_ : Value, e = .returned (.agg #[.string r1, v1_, .bool r3, v3_]) ∧ Kd.R (Kd.int .i64) 3 w' w.heap.size (fun _ => True) v1_ r2 ∧ Kd.R Kd.string 9 w' w.heap.size (fun _ => True) v3_ r4 ∧ Below w.heap.size w w' := by
 have hu36 := Tryd.underlying36
 have HR1 := Aside0.mk hr1
 have HC1 := Aside0.mk hc1
 clear hr1 hc1
 have HB := Aside0.mk (Below.refl w.heap.size w)
 have H : ((some (([] : List Int) : List Int)).bind fun y157 => (if y157.length + l1.length < 17592186044416 then (some (a0, (y157 ++ l1), true, ([] : List ByteArray))) else (none))) = some (r1, r2, r3, r4) := h
 clear h
 obtain ⟨y157, hy157⟩ : ∃ y_ : List Int, y_ = (([] : List Int)) := ⟨_, rfl⟩
 replace H : (if y157.length + l1.length < 17592186044416 then (some (a0, (y157 ++ l1), true, ([] : List ByteArray))) else (none)) = some (r1, r2, r3, r4) := by first | (rw [hy157]; with_reducible exact H) | (have H2_ := (Option.bind_some _ _).symm.trans H; rw [hy157]; with_reducible exact H2_) | (have H2_ := (Option.bind_some _ _).symm.trans H; with_reducible exact H2_) | with_reducible exact H | (rw [hy157]; exact H) | exact H
 have Ny157 := Aside0.mk hy157
 clear hy157
 by_cases c3 : y157.length + l1.length < 17592186044416
 ·rw [if_pos c3] at H
  have LMc3 := Aside0.mk c3
  clear c3
  obtain ⟨y160, hy160⟩ : ∃ y_ : List Int, y_ = (y157 ++ l1) := ⟨_, rfl⟩
  replace H : (some (a0, y160, true, ([] : List ByteArray))) = some (r1, r2, r3, r4) := by first | (rw [hy160]; with_reducible exact H) | (have H2_ := (Option.bind_some _ _).symm.trans H; rw [hy160]; with_reducible exact H2_) | (have H2_ := (Option.bind_some _ _).symm.trans H; with_reducible exact H2_) | with_reducible exact H | (rw [hy160]; exact H) | exact H
  have Ny160 := Aside0.mk hy160
  clear hy160
  simp only [Option.some.injEq, Prod.mk.injEq] at H
  obtain ⟨rfl, rfl, rfl, rfl⟩ := H
  go_enter Tryd.func54, Tryd.ntmps54
  go_wp2_with (first | ((with_reducible refine gate_dst (N := 4) rfl ?_); refine box_event ?hg (N := 4) ?hd (cs := #[.string (⟨#[]⟩ : ByteArray), .slice none 0 0, .bool false, .slice none 0 0]) (t := 36) ?hr ?_; (case hd => rfl); (case hg => rfl); (case hr => first | (go_simp; done) | (go_simp; rfl)); intro gb156 hg w4 hbox hb; have n0_ := Aside0.mk (below_step (stB HB.out) hb); have n1_ := Aside0.mk (hbox); have n2_ := Aside0.mk ((by rw [hg]; exact (below_size (stB HB.out)) : w.heap.size ≤ gb156)); have n3_ := Aside0.mk ((by rw [hg]; exact (below_size (stB HB.out)) : w.heap.size ≤ gb156)); clear HB; have HB := n0_; have BK156 := n1_; have GW156 := n2_; have GE156 := n3_; clear n0_ n1_ n2_ n3_; clear hb hbox hg) | ((with_reducible refine gate_dst (N := 6) rfl ?_); refine Kd.R_lit (Kd.int .i64) _ 3 ?hg (N := 6) ?hd (xs := ([] : List Int)) (inner := []) (ok := fun _ => True) (okp := fun _ => True) ?hr ?hp (fun _ hk => hk) trivial (Below.refl _ _) (Nat.le_refl _) (by simp) ?_; (case hd => rfl); (case hg => rfl); (case hr => first | (go_simp; done) | (go_simp; rfl)); (case hp => exact (Reps.none _ _)); intro v158 w5 ho6 hb hg_ hnew_; clear hg_ hnew_; (first | rw [← Ny157.out] at ho6 | (simp only [Int.reduceToNat] at ho6; rw [← Ny157.out] at ho6)); have n0_ := Aside0.mk (Kd.R_lower ho6 (below_size (by repeat (first | (with_reducible first | exact HB.out | apply below_alloc | apply pw_below_drewN | apply below_drew1 | refine below_set ?_ GE156.out) | exact HB.out)))); have n1_ := Aside0.mk (blk_below (g := gb156) (o := .cells #[.string (⟨#[]⟩ : ByteArray), .slice none 0 0, .bool false, .slice none 0 0] 36 (0, 0)) (by (with_reducible repeat (first | refine blk_drewN ?_ _ | refine blk_drew ?_ | refine blk_alloc ?_ _)); exact BK156.out) hb); have n2_ := Aside0.mk (below_step (by repeat (first | (with_reducible first | exact HB.out | apply below_alloc | apply pw_below_drewN | apply below_drew1 | refine below_set ?_ GE156.out) | exact HB.out)) hb); clear BK156; clear HB; have HO159 := n0_; have BK156 := n1_; have HB := n2_; clear n0_ n1_ n2_; clear hb ho6) | ((with_reducible refine gate_builtin (b := .append) (xs := #[.tmp 6, .tmp 7]) rfl ?_); at_builtin; refine Kd.R_append_rows (Kd.int .i64) (w0 := w) w.heap.size rfl (.tmp 6) (.tmp 7) 34 3 (.int .i64 0) 8 rfl Tryd.underlying34 info3 rfl (by decide) (by omega) v158 y157 l1 _ _ _ (fun _ => True) (fun _ => False) rfl rfl ?aO ?aR (fun _ _ h => h) (fun _ h => h.elim) ?aF ?aB ?aS ?aL ?_; (case aR => repeat (first | exact (Kd.C_below HR1.out HB.out) | (with_reducible refine Kd.C_alloc ?_ _) | (with_reducible refine Kd.C_drewN ?_ _) | (with_reducible refine Kd.C_drew ?_))); (case aB => exact (by repeat (first | (with_reducible first | exact HB.out | apply below_alloc | apply pw_below_drewN | apply below_drew1 | refine below_set ?_ GE156.out) | exact HB.out))); (case aF => exact (fun _ _ => trivial)); (case aO => exact (stR HO159.out)); (case aS => exact (below_size (by repeat (first | (with_reducible first | exact HB.out | apply below_alloc | apply pw_below_drewN | apply below_drew1 | refine below_set ?_ GE156.out) | exact HB.out)))); (case aL => have := LMc3.out; omega); intro v161 w7 ho hb hg hat; rw [← Ny160.out] at ho; have n0_ := Aside0.mk (blk_grown (g := gb156) (o := .cells #[.string (⟨#[]⟩ : ByteArray), .slice none 0 0, .bool false, .slice none 0 0] 36 (0, 0)) (by (with_reducible repeat (first | refine blk_drewN ?_ _ | refine blk_drew ?_ | refine blk_alloc ?_ _)); exact BK156.out) hg (Kd.R_ne HO159.out BK156.out (by decide))); have n1_ := Aside0.mk (hb); have n2_ := Aside0.mk (ho); clear BK156; clear HB; clear HO159; have BK156 := n0_; have HB := n1_; have HO162 := n2_; clear n0_ n1_ n2_; clear ho hb hg hat; obtain ⟨Ao8, co8, eo8⟩ := Kd.R_slice HO162.out; subst eo8; have hcz9_0 : w7.cell? ⟨gb156, 0, none⟩ = some (.string (⟨#[]⟩ : ByteArray)) := (blk_cell BK156.out 0).trans rfl; have hcz9_1 : w7.cell? ⟨gb156, 1, none⟩ = some (.slice none 0 0) := (blk_cell BK156.out 1).trans rfl; have hcz9_2 : w7.cell? ⟨gb156, 2, none⟩ = some (.bool false) := (blk_cell BK156.out 2).trans rfl; have hcz9_3 : w7.cell? ⟨gb156, 3, none⟩ = some (.slice none 0 0) := (blk_cell BK156.out 3).trans rfl; have hfz9_0 := blk_frozen BK156.out 0; have hfz9_1 := blk_frozen BK156.out 1; have hfz9_2 := blk_frozen BK156.out 2; have hfz9_3 := blk_frozen BK156.out 3))
  refine bodyPost_ret (results_cell_row rfl _ _ gb156 36 #[.string a0, .slice Ao8 y160.length co8, .bool true, .slice none 0 0] (0, 0) _ rfl (by (with_reducible repeat (first | refine blk_drewN ?_ _ | refine blk_drew ?_ | refine blk_alloc ?_ _)); refine blk_put (cs := #[.string a0, .slice Ao8 y160.length co8, .bool true, .slice none 0 0]) ?_ 3 _ rfl; (with_reducible repeat (first | refine blk_drewN ?_ _ | refine blk_drew ?_ | refine blk_alloc ?_ _)); refine blk_put (cs := #[.string a0, .slice Ao8 y160.length co8, .bool false, .slice none 0 0]) ?_ 2 _ rfl; (with_reducible repeat (first | refine blk_drewN ?_ _ | refine blk_drew ?_ | refine blk_alloc ?_ _)); refine blk_put (cs := #[.string a0, .slice none 0 0, .bool false, .slice none 0 0]) ?_ 1 _ rfl; (with_reducible repeat (first | refine blk_drewN ?_ _ | refine blk_drew ?_ | refine blk_alloc ?_ _)); refine blk_put (cs := #[.string (⟨#[]⟩ : ByteArray), .slice none 0 0, .bool false, .slice none 0 0]) ?_ 0 _ rfl; (with_reducible repeat (first | refine blk_drewN ?_ _ | refine blk_drew ?_ | refine blk_alloc ?_ _)); exact BK156.out) Tryd.underlying36 rfl (by kernel_rfl)) rfl ?_
  exact ⟨_, _, by first | rfl | (simp [errW_none, errW_some] <;> rfl) | (simp [*, errW_none, errW_some] <;> rfl), by (with_reducible repeat (first | apply Kd.R_alloc | apply Kd.R_drewN | apply Kd.R_drew)); exact Kd.R_mono (Kd.R_far (p := ⟨gb156, 3, none⟩) (Kd.R_far (p := ⟨gb156, 2, none⟩) (Kd.R_far (p := ⟨gb156, 1, none⟩) (Kd.R_far (p := ⟨gb156, 0, none⟩) (Kd.R_types HO162.out BK156.out (by decide)) (fun _ hk => hk.2) (.string a0)) (fun _ hk => hk.2) (.slice Ao8 y160.length co8)) (fun _ hk => hk.2) (.bool true)) (fun _ hk => hk.2) (.slice none 0 0)) (fun _ hk => trivial), by first | exact Kd.R_nil _ _ _ _ _ | exact Kd.N_nil _ _ _ _ _ | exact Kd.V_nil _ _ _ _ _ | exact Kd.Q_nil _ _ _ _ _ | exact Kd.S_nil _ _ _ _ _, by repeat (first | (with_reducible first | exact HB.out | apply below_alloc | apply pw_below_drewN | apply below_drew1 | refine below_set ?_ GE156.out) | exact HB.out)⟩
 ·rw [if_neg c3] at H
  exact absurd H (by simp)
end Go.Proofs.YtmcdnpooclelgaaDoor.PAll
namespace Go.Proofs.YtmcdnpooclelgaaDoor.PAll
open Go.RowKit Go.Proofs.YtmcdnpooclelgaaDoorW.PrintWords
def Acc {α : Type} (d : Kd α) (w : World) (b : Nat) (xs : List α) (cs : List Value) : Prop := Reps (fun x c => d.M w b (fun k => k < w.heap.size) x c) d.sz xs cs
theorem Acc.nil {α : Type} (d : Kd α) (w : World) (b : Nat) : Acc d w b [] [] := Reps.none _ _
theorem Acc.snoc {α : Type} {d : Kd α} {w w' : World} {b : Nat} {xs : List α} {cs c : List Value} {x : α} (h : Acc d w b xs cs) (hb : Below w.heap.size w w') (hx : d.M w' w.heap.size (fun _ => True) x c) (hw : b ≤ w.heap.size) : Acc d w' b (xs ++ [x]) (cs ++ c) :=
 Reps.snoc (h.imp_ (fun _ _ hp => d.M_mono (fun k hk => Nat.lt_of_lt_of_le hk hb.size) (Kd.M_step hp (fun k hk _ => hb.block k hk)))) (d.M_mono (fun k hk => hk.2.2.1) (d.M_lower hw (d.M_bound hx))) (d.K_len (d.K_of_M hx))
theorem Acc.lit {α : Type} {d : Kd α} {w : World} {b : Nat} {xs : List α} {cs : List Value} (e : TypeId) (h : Acc d w b xs cs) (hb : b ≤ w.heap.size) (hm : xs.length ≤ 9223372036854775807) :
  d.R e (w.alloc (.cells cs.toArray e)) b (fun _ => True) (.slice (some ⟨w.heap.size, 0, none⟩) xs.length xs.length) xs := by
 refine ⟨fun _ _ => trivial, OwnRow.lit w b (h.imp_ (fun _ _ hp => ?_)) hb hm⟩
 refine d.M_mono (fun k hk => ⟨trivial, fun he => ?_⟩) (Kd.M_step hp (fun k hk _ => (Below.alloc (Below.refl w.heap.size w) (Nat.le_refl _) _).block k hk))
 have : k = w.heap.size := by simpa [Value.ownBlock] using he
 omega
theorem Acc.lit' {α : Type} {d : Kd α} {w : World} {b : Nat} {xs : List α} {cs : List Value} {ca : Array Value} {g n m : Nat} (e : TypeId) (h : Acc d w b xs cs) (hb : b ≤ w.heap.size) (hm : xs.length ≤ 9223372036854775807) (hc : ca = cs.toArray) (hg : g = w.heap.size) (hn : n = xs.length) (hmm : m = xs.length) :
  d.R e (w.alloc (.cells ca e)) b (fun _ => True) (.slice (some ⟨g, 0, none⟩) n m) xs := by
 subst hc hg hn hmm
 exact Acc.lit e h hb hm
theorem ints_C (w : World) (ns : List Int) (hm : ns.length ≤ 9223372036854775807) : Kd.C (Kd.int .i64) (w.alloc (.cells (ns.map (Value.int .i64)).toArray 3)) (some ⟨w.heap.size, 0, none⟩) ns.length ns := by
 obtain ⟨A, c, he, _, hC⟩ := Kd.R_reads (Sh.row_R (A := intS) (ones_lit (Value.int .i64) (fun _ => rfl) 3 w w.heap.size ns (Nat.le_refl _) hm))
 injection he with he _ _
 subst he
 exact hC
set_option maxRecDepth 100000 in
set_option maxHeartbeats 4000000 in
theorem specRules_team (w : World) :
  Calls Tryd.prog 13 #[.string ⟨#[116, 101, 97, 109]⟩] w (fun e w' => ∃ v, e = .returned v ∧ Kd.R k36 36 w' w.heap.size (fun _ => True) v rules_team ∧ Below w.heap.size w w') := by
 have E0 : Aside0 (Acc k36 w w.heap.size [] []) := ⟨Acc.nil _ _ _⟩
 have B0 : Aside0 (Below w.heap.size w w) := ⟨Below.refl _ _⟩
 go_enter Tryd.func13, Tryd.ntmps13
 go_wp2_with fail
 refine (spec_l2One.calls 8 ⟨#[99, 111, 112, 105, 101, 115]⟩ ⟨#[49, 48, 48]⟩ _ _ [1] ⟨#[99, 111, 112, 105, 101, 115]⟩ [1] false [⟨#[49, 48, 48]⟩] _ (ints_C w [1] (by decide)) (Nat.le_refl _) (by decide +kernel)).mono ?_
 rintro e w1 ⟨av1, dv1, rfl, ha1, hd1, hc1⟩
 have hb1 := (Below.alloc (Below.refl w.heap.size w) (Nat.le_refl _) (.cells #[.int .i64 1] 3)).trans (hc1.mono (by simp))
 have ho1 := k36_mkM w1 w.heap.size (fun _ => True) ⟨⟨#[99, 111, 112, 105, 101, 115]⟩, [1], false, [⟨#[49, 48, 48]⟩]⟩ (Kd.R_lower ha1 (by simp)) (Kd.R_lower hd1 (by simp))
 have E1 := Aside0.mk (E0.out.snoc hb1 ho1 B0.out.size)
 have B1 := Aside0.mk (B0.out.trans (hb1.mono B0.out.size))
 clear hb1 ho1 ha1 hd1 hc1 E0 B0
 go_wp2_with fail
 refine (spec_l2One.calls 8 ⟨#[114, 111, 111, 109]⟩ ⟨#[49, 48, 48, 48]⟩ _ _ [1] ⟨#[114, 111, 111, 109]⟩ [1] false [⟨#[49, 48, 48, 48]⟩] _ (ints_C w1 [1] (by decide)) (Nat.le_refl _) (by decide +kernel)).mono ?_
 rintro e w2 ⟨av2, dv2, rfl, ha2, hd2, hc2⟩
 have hb2 := (Below.alloc (Below.refl w1.heap.size w1) (Nat.le_refl _) (.cells #[.int .i64 1] 3)).trans (hc2.mono (by simp))
 have ho2 := k36_mkM w2 w1.heap.size (fun _ => True) ⟨⟨#[114, 111, 111, 109]⟩, [1], false, [⟨#[49, 48, 48, 48]⟩]⟩ (Kd.R_lower ha2 (by simp)) (Kd.R_lower hd2 (by simp))
 have E2 := Aside0.mk (E1.out.snoc hb2 ho2 B1.out.size)
 have B2 := Aside0.mk (B1.out.trans (hb2.mono B1.out.size))
 clear hb2 ho2 ha2 hd2 hc2 E1 B1
 go_wp2_with fail
 go_ret
 exact ⟨_, rfl, Acc.lit' 36 E2.out B2.out.size (by decide) (by rfl) (by simp) (by rfl) (by rfl), B2.out.alloc B2.out.size _⟩
set_option maxRecDepth 100000 in
set_option maxHeartbeats 4000000 in
theorem specRules_berth (w : World) :
  Calls Tryd.prog 13 #[.string ⟨#[98, 101, 114, 116, 104]⟩] w (fun e w' => ∃ v, e = .returned v ∧ Kd.R k36 36 w' w.heap.size (fun _ => True) v rules_berth ∧ Below w.heap.size w w') := by
 have E0 : Aside0 (Acc k36 w w.heap.size [] []) := ⟨Acc.nil _ _ _⟩
 have B0 : Aside0 (Below w.heap.size w w) := ⟨Below.refl _ _⟩
 go_enter Tryd.func13, Tryd.ntmps13
 go_wp2_with fail
 refine (spec_l2One.calls 8 ⟨#[122, 111, 110, 101]⟩ ⟨#[122]⟩ _ _ [3] ⟨#[122, 111, 110, 101]⟩ [3] false [⟨#[122]⟩] _ (ints_C w [3] (by decide)) (Nat.le_refl _) (by decide +kernel)).mono ?_
 rintro e w1 ⟨av1, dv1, rfl, ha1, hd1, hc1⟩
 have hb1 := (Below.alloc (Below.refl w.heap.size w) (Nat.le_refl _) (.cells #[.int .i64 3] 3)).trans (hc1.mono (by simp))
 have ho1 := k36_mkM w1 w.heap.size (fun _ => True) ⟨⟨#[122, 111, 110, 101]⟩, [3], false, [⟨#[122]⟩]⟩ (Kd.R_lower ha1 (by simp)) (Kd.R_lower hd1 (by simp))
 have E1 := Aside0.mk (E0.out.snoc hb1 ho1 B0.out.size)
 have B1 := Aside0.mk (B0.out.trans (hb1.mono B0.out.size))
 clear hb1 ho1 ha1 hd1 hc1 E0 B0
 go_wp2_with fail
 refine (spec_l2One.calls 8 ⟨#[114, 111, 111, 109]⟩ ⟨#[49, 48, 48]⟩ _ _ [1] ⟨#[114, 111, 111, 109]⟩ [1] false [⟨#[49, 48, 48]⟩] _ (ints_C w1 [1] (by decide)) (Nat.le_refl _) (by decide +kernel)).mono ?_
 rintro e w2 ⟨av2, dv2, rfl, ha2, hd2, hc2⟩
 have hb2 := (Below.alloc (Below.refl w1.heap.size w1) (Nat.le_refl _) (.cells #[.int .i64 1] 3)).trans (hc2.mono (by simp))
 have ho2 := k36_mkM w2 w1.heap.size (fun _ => True) ⟨⟨#[114, 111, 111, 109]⟩, [1], false, [⟨#[49, 48, 48]⟩]⟩ (Kd.R_lower ha2 (by simp)) (Kd.R_lower hd2 (by simp))
 have E2 := Aside0.mk (E1.out.snoc hb2 ho2 B1.out.size)
 have B2 := Aside0.mk (B1.out.trans (hb2.mono B1.out.size))
 clear hb2 ho2 ha2 hd2 hc2 E1 B1
 go_wp2_with fail
 refine (spec_l2One.calls 8 ⟨#[104, 111, 108, 100]⟩ ⟨#[49, 48, 48]⟩ _ _ [1] ⟨#[104, 111, 108, 100]⟩ [1] false [⟨#[49, 48, 48]⟩] _ (ints_C w2 [1] (by decide)) (Nat.le_refl _) (by decide +kernel)).mono ?_
 rintro e w3 ⟨av3, dv3, rfl, ha3, hd3, hc3⟩
 have hb3 := (Below.alloc (Below.refl w2.heap.size w2) (Nat.le_refl _) (.cells #[.int .i64 1] 3)).trans (hc3.mono (by simp))
 have ho3 := k36_mkM w3 w2.heap.size (fun _ => True) ⟨⟨#[104, 111, 108, 100]⟩, [1], false, [⟨#[49, 48, 48]⟩]⟩ (Kd.R_lower ha3 (by simp)) (Kd.R_lower hd3 (by simp))
 have E3 := Aside0.mk (E2.out.snoc hb3 ho3 B2.out.size)
 have B3 := Aside0.mk (B2.out.trans (hb3.mono B2.out.size))
 clear hb3 ho3 ha3 hd3 hc3 E2 B2
 go_wp2_with fail
 refine (spec_l2Many.calls ⟨#[109, 97, 114, 107]⟩ _ _ [3] ⟨#[109, 97, 114, 107]⟩ [3] true [] _ (ints_C w3 [3] (by decide)) (Nat.le_refl _) rfl).mono ?_
 rintro e w4 ⟨av4, dv4, rfl, ha4, hd4, hc4⟩
 have hb4 := (Below.alloc (Below.refl w3.heap.size w3) (Nat.le_refl _) (.cells #[.int .i64 3] 3)).trans (hc4.mono (by simp))
 have ho4 := k36_mkM w4 w3.heap.size (fun _ => True) ⟨⟨#[109, 97, 114, 107]⟩, [3], true, []⟩ (Kd.R_lower ha4 (by simp)) (Kd.R_lower hd4 (by simp))
 have E4 := Aside0.mk (E3.out.snoc hb4 ho4 B3.out.size)
 have B4 := Aside0.mk (B3.out.trans (hb4.mono B3.out.size))
 clear hb4 ho4 ha4 hd4 hc4 E3 B3
 go_wp2_with fail
 go_ret
 exact ⟨_, rfl, Acc.lit' 36 E4.out B4.out.size (by decide) (by rfl) (by simp) (by rfl) (by rfl), B4.out.alloc B4.out.size _⟩
set_option maxRecDepth 100000 in
set_option maxHeartbeats 4000000 in
theorem specRules_service (w : World) :
  Calls Tryd.prog 13 #[.string ⟨#[115, 101, 114, 118, 105, 99, 101]⟩] w (fun e w' => ∃ v, e = .returned v ∧ Kd.R k36 36 w' w.heap.size (fun _ => True) v rules_service ∧ Below w.heap.size w w') := by
 have E0 : Aside0 (Acc k36 w w.heap.size [] []) := ⟨Acc.nil _ _ _⟩
 have B0 : Aside0 (Below w.heap.size w w) := ⟨Below.refl _ _⟩
 go_enter Tryd.func13, Tryd.ntmps13
 go_wp2_with fail
 refine (spec_l2One.calls 8 ⟨#[116, 101, 97, 109]⟩ ⟨#[99, 111, 114, 101]⟩ _ _ [3] ⟨#[116, 101, 97, 109]⟩ [3] false [⟨#[99, 111, 114, 101]⟩] _ (ints_C w [3] (by decide)) (Nat.le_refl _) (by decide +kernel)).mono ?_
 rintro e w1 ⟨av1, dv1, rfl, ha1, hd1, hc1⟩
 have hb1 := (Below.alloc (Below.refl w.heap.size w) (Nat.le_refl _) (.cells #[.int .i64 3] 3)).trans (hc1.mono (by simp))
 have ho1 := k36_mkM w1 w.heap.size (fun _ => True) ⟨⟨#[116, 101, 97, 109]⟩, [3], false, [⟨#[99, 111, 114, 101]⟩]⟩ (Kd.R_lower ha1 (by simp)) (Kd.R_lower hd1 (by simp))
 have E1 := Aside0.mk (E0.out.snoc hb1 ho1 B0.out.size)
 have B1 := Aside0.mk (B0.out.trans (hb1.mono B0.out.size))
 clear hb1 ho1 ha1 hd1 hc1 E0 B0
 go_wp2_with fail
 refine (spec_l2One.calls 8 ⟨#[105, 109, 97, 103, 101]⟩ ⟨#[49]⟩ _ _ [1] ⟨#[105, 109, 97, 103, 101]⟩ [1] false [⟨#[49]⟩] _ (ints_C w1 [1] (by decide)) (Nat.le_refl _) (by decide +kernel)).mono ?_
 rintro e w2 ⟨av2, dv2, rfl, ha2, hd2, hc2⟩
 have hb2 := (Below.alloc (Below.refl w1.heap.size w1) (Nat.le_refl _) (.cells #[.int .i64 1] 3)).trans (hc2.mono (by simp))
 have ho2 := k36_mkM w2 w1.heap.size (fun _ => True) ⟨⟨#[105, 109, 97, 103, 101]⟩, [1], false, [⟨#[49]⟩]⟩ (Kd.R_lower ha2 (by simp)) (Kd.R_lower hd2 (by simp))
 have E2 := Aside0.mk (E1.out.snoc hb2 ho2 B1.out.size)
 have B2 := Aside0.mk (B1.out.trans (hb2.mono B1.out.size))
 clear hb2 ho2 ha2 hd2 hc2 E1 B1
 go_wp2_with fail
 refine (spec_l2One.calls 8 ⟨#[119, 97, 110, 116]⟩ ⟨#[49]⟩ _ _ [1] ⟨#[119, 97, 110, 116]⟩ [1] false [⟨#[49]⟩] _ (ints_C w2 [1] (by decide)) (Nat.le_refl _) (by decide +kernel)).mono ?_
 rintro e w3 ⟨av3, dv3, rfl, ha3, hd3, hc3⟩
 have hb3 := (Below.alloc (Below.refl w2.heap.size w2) (Nat.le_refl _) (.cells #[.int .i64 1] 3)).trans (hc3.mono (by simp))
 have ho3 := k36_mkM w3 w2.heap.size (fun _ => True) ⟨⟨#[119, 97, 110, 116]⟩, [1], false, [⟨#[49]⟩]⟩ (Kd.R_lower ha3 (by simp)) (Kd.R_lower hd3 (by simp))
 have E3 := Aside0.mk (E2.out.snoc hb3 ho3 B2.out.size)
 have B3 := Aside0.mk (B2.out.trans (hb3.mono B2.out.size))
 clear hb3 ho3 ha3 hd3 hc3 E2 B2
 go_wp2_with fail
 refine (spec_l2One.calls 8 ⟨#[100, 111, 119, 110]⟩ ⟨#[49]⟩ _ _ [1] ⟨#[100, 111, 119, 110]⟩ [1] false [⟨#[49]⟩] _ (ints_C w3 [1] (by decide)) (Nat.le_refl _) (by decide +kernel)).mono ?_
 rintro e w4 ⟨av4, dv4, rfl, ha4, hd4, hc4⟩
 have hb4 := (Below.alloc (Below.refl w3.heap.size w3) (Nat.le_refl _) (.cells #[.int .i64 1] 3)).trans (hc4.mono (by simp))
 have ho4 := k36_mkM w4 w3.heap.size (fun _ => True) ⟨⟨#[100, 111, 119, 110]⟩, [1], false, [⟨#[49]⟩]⟩ (Kd.R_lower ha4 (by simp)) (Kd.R_lower hd4 (by simp))
 have E4 := Aside0.mk (E3.out.snoc hb4 ho4 B3.out.size)
 have B4 := Aside0.mk (B3.out.trans (hb4.mono B3.out.size))
 clear hb4 ho4 ha4 hd4 hc4 E3 B3
 go_wp2_with fail
 refine (spec_l2One.calls 8 ⟨#[111, 118, 101, 114]⟩ ⟨#[48]⟩ _ _ [1] ⟨#[111, 118, 101, 114]⟩ [1] false [⟨#[48]⟩] _ (ints_C w4 [1] (by decide)) (Nat.le_refl _) (by decide +kernel)).mono ?_
 rintro e w5 ⟨av5, dv5, rfl, ha5, hd5, hc5⟩
 have hb5 := (Below.alloc (Below.refl w4.heap.size w4) (Nat.le_refl _) (.cells #[.int .i64 1] 3)).trans (hc5.mono (by simp))
 have ho5 := k36_mkM w5 w4.heap.size (fun _ => True) ⟨⟨#[111, 118, 101, 114]⟩, [1], false, [⟨#[48]⟩]⟩ (Kd.R_lower ha5 (by simp)) (Kd.R_lower hd5 (by simp))
 have E5 := Aside0.mk (E4.out.snoc hb5 ho5 B4.out.size)
 have B5 := Aside0.mk (B4.out.trans (hb5.mono B4.out.size))
 clear hb5 ho5 ha5 hd5 hc5 E4 B4
 go_wp2_with fail
 refine (spec_l2One.calls 8 ⟨#[110, 101, 101, 100, 115]⟩ ⟨#[49, 32, 49]⟩ _ _ [1, 1] ⟨#[110, 101, 101, 100, 115]⟩ [1, 1] false [⟨#[49]⟩, ⟨#[49]⟩] _ (ints_C w5 [1, 1] (by decide)) (Nat.le_refl _) (by decide +kernel)).mono ?_
 rintro e w6 ⟨av6, dv6, rfl, ha6, hd6, hc6⟩
 have hb6 := (Below.alloc (Below.refl w5.heap.size w5) (Nat.le_refl _) (.cells #[.int .i64 1, .int .i64 1] 3)).trans (hc6.mono (by simp))
 have ho6 := k36_mkM w6 w5.heap.size (fun _ => True) ⟨⟨#[110, 101, 101, 100, 115]⟩, [1, 1], false, [⟨#[49]⟩, ⟨#[49]⟩]⟩ (Kd.R_lower ha6 (by simp)) (Kd.R_lower hd6 (by simp))
 have E6 := Aside0.mk (E5.out.snoc hb6 ho6 B5.out.size)
 have B6 := Aside0.mk (B5.out.trans (hb6.mono B5.out.size))
 clear hb6 ho6 ha6 hd6 hc6 E5 B5
 go_wp2_with fail
 refine (spec_l2One.calls 8 ⟨#[119, 104, 101, 114, 101]⟩ ⟨#[]⟩ _ _ [4] ⟨#[119, 104, 101, 114, 101]⟩ [4] false [⟨#[]⟩] _ (ints_C w6 [4] (by decide)) (Nat.le_refl _) (by decide +kernel)).mono ?_
 rintro e w7 ⟨av7, dv7, rfl, ha7, hd7, hc7⟩
 have hb7 := (Below.alloc (Below.refl w6.heap.size w6) (Nat.le_refl _) (.cells #[.int .i64 4] 3)).trans (hc7.mono (by simp))
 have ho7 := k36_mkM w7 w6.heap.size (fun _ => True) ⟨⟨#[119, 104, 101, 114, 101]⟩, [4], false, [⟨#[]⟩]⟩ (Kd.R_lower ha7 (by simp)) (Kd.R_lower hd7 (by simp))
 have E7 := Aside0.mk (E6.out.snoc hb7 ho7 B6.out.size)
 have B7 := Aside0.mk (B6.out.trans (hb7.mono B6.out.size))
 clear hb7 ho7 ha7 hd7 hc7 E6 B6
 go_wp2_with fail
 refine (spec_l2Many.calls ⟨#[108, 105, 107, 101]⟩ _ _ [4, 2] ⟨#[108, 105, 107, 101]⟩ [4, 2] true [] _ (ints_C w7 [4, 2] (by decide)) (Nat.le_refl _) rfl).mono ?_
 rintro e w8 ⟨av8, dv8, rfl, ha8, hd8, hc8⟩
 have hb8 := (Below.alloc (Below.refl w7.heap.size w7) (Nat.le_refl _) (.cells #[.int .i64 4, .int .i64 2] 3)).trans (hc8.mono (by simp))
 have ho8 := k36_mkM w8 w7.heap.size (fun _ => True) ⟨⟨#[108, 105, 107, 101]⟩, [4, 2], true, []⟩ (Kd.R_lower ha8 (by simp)) (Kd.R_lower hd8 (by simp))
 have E8 := Aside0.mk (E7.out.snoc hb8 ho8 B7.out.size)
 have B8 := Aside0.mk (B7.out.trans (hb8.mono B7.out.size))
 clear hb8 ho8 ha8 hd8 hc8 E7 B7
 go_wp2_with fail
 refine (spec_l2One.calls 8 ⟨#[97, 112, 97, 114, 116]⟩ ⟨#[110, 111, 110, 101]⟩ _ _ [6] ⟨#[97, 112, 97, 114, 116]⟩ [6] false [⟨#[110, 111, 110, 101]⟩] _ (ints_C w8 [6] (by decide)) (Nat.le_refl _) (by decide +kernel)).mono ?_
 rintro e w9 ⟨av9, dv9, rfl, ha9, hd9, hc9⟩
 have hb9 := (Below.alloc (Below.refl w8.heap.size w8) (Nat.le_refl _) (.cells #[.int .i64 6] 3)).trans (hc9.mono (by simp))
 have ho9 := k36_mkM w9 w8.heap.size (fun _ => True) ⟨⟨#[97, 112, 97, 114, 116]⟩, [6], false, [⟨#[110, 111, 110, 101]⟩]⟩ (Kd.R_lower ha9 (by simp)) (Kd.R_lower hd9 (by simp))
 have E9 := Aside0.mk (E8.out.snoc hb9 ho9 B8.out.size)
 have B9 := Aside0.mk (B8.out.trans (hb9.mono B8.out.size))
 clear hb9 ho9 ha9 hd9 hc9 E8 B8
 go_wp2_with fail
 refine (spec_l2One.calls 8 ⟨#[118, 111, 108, 117, 109, 101]⟩ ⟨#[110, 111]⟩ _ _ [5] ⟨#[118, 111, 108, 117, 109, 101]⟩ [5] false [⟨#[110, 111]⟩] _ (ints_C w9 [5] (by decide)) (Nat.le_refl _) (by decide +kernel)).mono ?_
 rintro e w10 ⟨av10, dv10, rfl, ha10, hd10, hc10⟩
 have hb10 := (Below.alloc (Below.refl w9.heap.size w9) (Nat.le_refl _) (.cells #[.int .i64 5] 3)).trans (hc10.mono (by simp))
 have ho10 := k36_mkM w10 w9.heap.size (fun _ => True) ⟨⟨#[118, 111, 108, 117, 109, 101]⟩, [5], false, [⟨#[110, 111]⟩]⟩ (Kd.R_lower ha10 (by simp)) (Kd.R_lower hd10 (by simp))
 have E10 := Aside0.mk (E9.out.snoc hb10 ho10 B9.out.size)
 have B10 := Aside0.mk (B9.out.trans (hb10.mono B9.out.size))
 clear hb10 ho10 ha10 hd10 hc10 E9 B9
 go_wp2_with fail
 refine (spec_l2One.calls 8 ⟨#[102, 111, 108, 108, 111, 119]⟩ ⟨#[48, 32, 48, 32, 48]⟩ _ _ [1, 1, 1] ⟨#[102, 111, 108, 108, 111, 119]⟩ [1, 1, 1] false [⟨#[48]⟩, ⟨#[48]⟩, ⟨#[48]⟩] _ (ints_C w10 [1, 1, 1] (by decide)) (Nat.le_refl _) (by decide +kernel)).mono ?_
 rintro e w11 ⟨av11, dv11, rfl, ha11, hd11, hc11⟩
 have hb11 := (Below.alloc (Below.refl w10.heap.size w10) (Nat.le_refl _) (.cells #[.int .i64 1, .int .i64 1, .int .i64 1] 3)).trans (hc11.mono (by simp))
 have ho11 := k36_mkM w11 w10.heap.size (fun _ => True) ⟨⟨#[102, 111, 108, 108, 111, 119]⟩, [1, 1, 1], false, [⟨#[48]⟩, ⟨#[48]⟩, ⟨#[48]⟩]⟩ (Kd.R_lower ha11 (by simp)) (Kd.R_lower hd11 (by simp))
 have E11 := Aside0.mk (E10.out.snoc hb11 ho11 B10.out.size)
 have B11 := Aside0.mk (B10.out.trans (hb11.mono B10.out.size))
 clear hb11 ho11 ha11 hd11 hc11 E10 B10
 go_wp2_with fail
 refine (spec_l2One.calls 8 ⟨#[112, 97, 99, 101]⟩ ⟨#[48, 32, 48, 32, 48]⟩ _ _ [1, 1, 1] ⟨#[112, 97, 99, 101]⟩ [1, 1, 1] false [⟨#[48]⟩, ⟨#[48]⟩, ⟨#[48]⟩] _ (ints_C w11 [1, 1, 1] (by decide)) (Nat.le_refl _) (by decide +kernel)).mono ?_
 rintro e w12 ⟨av12, dv12, rfl, ha12, hd12, hc12⟩
 have hb12 := (Below.alloc (Below.refl w11.heap.size w11) (Nat.le_refl _) (.cells #[.int .i64 1, .int .i64 1, .int .i64 1] 3)).trans (hc12.mono (by simp))
 have ho12 := k36_mkM w12 w11.heap.size (fun _ => True) ⟨⟨#[112, 97, 99, 101]⟩, [1, 1, 1], false, [⟨#[48]⟩, ⟨#[48]⟩, ⟨#[48]⟩]⟩ (Kd.R_lower ha12 (by simp)) (Kd.R_lower hd12 (by simp))
 have E12 := Aside0.mk (E11.out.snoc hb12 ho12 B11.out.size)
 have B12 := Aside0.mk (B11.out.trans (hb12.mono B11.out.size))
 clear hb12 ho12 ha12 hd12 hc12 E11 B11
 go_wp2_with fail
 go_ret
 exact ⟨_, rfl, Acc.lit' 36 E12.out B12.out.size (by decide) (by rfl) (by simp) (by rfl) (by rfl), B12.out.alloc B12.out.size _⟩
set_option maxRecDepth 100000 in
theorem specRules_any (kind : ByteArray) (w : World) :
  Calls Tryd.prog 13 #[.string kind] w (fun e w' => ∃ v, e = .returned v ∧ Kd.R k36 36 w' w.heap.size (fun _ => True) v (rulesL kind) ∧ Below w.heap.size w w') := by
 rcases kind_cases kind with rfl | rfl | rfl | ⟨h1, h2, h3, h4⟩
 ·rw [rulesL_team]; exact specRules_team w
 ·rw [rulesL_berth]; exact specRules_berth w
 ·rw [rulesL_service]; exact specRules_service w
 ·rw [h4]
  have n1 : (kind.toList == ([116, 101, 97, 109] : List UInt8)) = false := str_neL kind _ h1
  have n2 : (kind.toList == ([98, 101, 114, 116, 104] : List UInt8)) = false := str_neL kind _ h2
  have n3 : (kind.toList == ([115, 101, 114, 118, 105, 99, 101] : List UInt8)) = false := str_neL kind _ h3
  clear h1 h2 h3 h4
  go_enter Tryd.func13, Tryd.ntmps13
  go_wp2
  go_ret
  exact ⟨_, rfl, Acc.lit' 36 (Acc.nil k36 w w.heap.size) (Nat.le_refl _) (by decide) (by rfl) (by rfl) (by rfl) (by rfl), Below.alloc (Below.refl _ _) (Nat.le_refl _) _⟩
def spec_SheetRules.f (a0 : ByteArray) : Option (List S36) := some (rulesL a0)
theorem spec_SheetRules.calls (a0 : ByteArray) (r : List S36) (w : World) (h : spec_SheetRules.f a0 = some r) :
  Calls Tryd.prog 13 #[.string a0] w fun e w' => ∃ v0_ : Value, e = .returned (v0_) ∧ Kd.R k36 36 w' w.heap.size (fun _ => True) v0_ r ∧ Below w.heap.size w w' := by
 obtain rfl := Option.some.inj h
 exact specRules_any a0 w
end Go.Proofs.YtmcdnpooclelgaaDoor.PAll
namespace Go.Proofs.YtmcdnpooclelgaaDoor.PAll
open Go.RowKit Go.Proofs.YtmcdnpooclelgaaDoorW.PrintWords Go.Proofs.YtmcdnpooclelgaaDoorW.PrintLast Go.Proofs.YtmcdnpooclelgaaDoorW.PrintMore
attribute [local go_sem] max2_int min2_int max_two min_two max_three min_three max_four min_four   -- for this text's walks alone
def spec_l2Rule.l0 : Nat → ByteArray → List (S36) → Int → Option (Int)
 | 0, _, _, _ => none
 | k + 1, x1, x5, x6 => if x6 < (x5.length : Int) then (if 0 ≤ x6 then (if ((rd_T36 x5 x6).f0).toList = x1.toList then (some x6) else (spec_l2Rule.l0 k x1 x5 (wrap64 (x6 + 1)))) else (none)) else (some (-1))
def spec_l2Rule.f (k : Nat) (a0 : ByteArray) (a1 : ByteArray) : Option (Int) := (spec_SheetRules.f a0).bind fun t116 => (spec_l2Rule.l0 k a1 t116 0)
set_option maxHeartbeats 8000000 in
set_option maxRecDepth 100000 in
theorem spec_l2Rule.calls (k : Nat) (a0 : ByteArray) (a1 : ByteArray) (r : Int) (w : World) (h : spec_l2Rule.f k a0 a1 = some r) :
  Calls Tryd.prog 62 #[.string a0, .string a1] w fun e w' => e = .returned (.int .i64 r) ∧ Below w.heap.size w w' := by
 have HB := Aside0.mk (Below.refl w.heap.size w)
 have H : ((spec_SheetRules.f a0).bind fun t116 => (spec_l2Rule.l0 k a1 t116 0)) = some r := h
 clear h
 replace H := Option.bind_eq_some_iff.mp H
 obtain ⟨t116, A30, H⟩ := H
 replace H : (spec_l2Rule.l0 k a1 t116 0) = some r := H
 have A3 := Aside0.mk A30
 clear A30
 have H' := Aside0.mk H
 clear H
 go_enter Tryd.func62, Tryd.ntmps62
 go_wp2_with (first | ((with_reducible refine gate_callee (f := 13) rfl ?_); refine goesL_ (some 8) rfl rfl Tryd.func13 (by kernel_rfl) rfl #[.string a0] rfl (by (try simp only [List.map_toArray, List.map_cons, List.map_nil]); first | done | rfl | (simp only [List.length_drop, List.length_take]; rfl)) ?_; (with_reducible refine (spec_SheetRules.calls a0 t116 _ A3.out).mono ?_); rintro e w4 ⟨v117, rfl, ho0, hb⟩; refine ⟨_, rfl, ?_⟩; have n0_ := Aside0.mk (Kd.R_lower ho0 (below_size (stB HB.out))); have n1_ := Aside0.mk (below_step (stB HB.out) hb); clear HB; have HO118 := n0_; have HB := n1_; clear n0_ n1_; (try clear hb); (try clear hb2); (try clear hk); (try clear hi); (try clear ho0)))
 go_loopg [6] k (fun kq v6 w' => ∃ (x6_1 : Int), v6 = .int .i64 x6_1 ∧ Aside0 (spec_l2Rule.l0 kq a1 t116 x6_1 = some r) ∧ Aside0 (kq ≤ k) ∧ Aside0 (Kd.R k36 36 w' w.heap.size (fun _ => True) v117 t116) ∧ Aside0 (Below w.heap.size w w'))
 case atStart => exact ⟨(0), (by first | rfl | (simp; done) | (simp [*]; done)), H', ⟨Nat.le_refl _⟩, ⟨by (with_reducible repeat (first | apply Kd.R_alloc | apply Kd.R_drewN | apply Kd.R_drew)); exact HO118.out⟩, ⟨by repeat (first | (with_reducible first | exact HB.out | apply below_alloc | apply pw_below_drewN | apply below_drew1) | exact HB.out)⟩⟩
 case round =>
  clear H'
  try clear c1
  try clear p2
  obtain ⟨x6_1, rfl, HA, HK1, HO_5, HB⟩ := hrel
  cases gk with
  | zero => exact absurd HA.out (by simp [spec_l2Rule.l0])
  | succ k1 =>
   have H := HA.out
   clear HA
   simp only [spec_l2Rule.l0] at H
   by_cases c5 : x6_1 < (t116.length : Int)
   ·rw [if_pos c5] at H
    have c5b0 : decide (x6_1 < (t116.length : Int)) = true := decide_eq_true c5
    clear c5
    by_cases c6 : 0 ≤ x6_1
    ·rw [if_pos c6] at H
     have c6b0 : decide (0 ≤ x6_1) = true := decide_eq_true c6
     clear c6
     by_cases c7 : ((rd_T36 t116 x6_1).f0).toList = a1.toList
     ·rw [if_pos c7] at H
      have c7b0 : (((rd_T36 t116 x6_1).f0).toList == a1.toList) = true := beq_iff_eq.mpr c7
      have c7b1 : (((rd_T36 t116 x6_1).f0).toList != a1.toList) = false := bne_eq_false_iff_eq.mpr c7
      clear c7
      obtain rfl := Option.some.inj H
      obtain ⟨Ao8, co8, eo8⟩ := Kd.R_slice HO_5.out
      subst eo8
      have p119 : 0 ≤ (x6_1 : Int) := of_decide_eq_true (by first | (with_reducible assumption) | assumption)
      have q119 : x6_1 < (t116.length : Int) := of_decide_eq_true (by first | (with_reducible assumption) | assumption)
      obtain ⟨ad119, A119_1, c119_1, A119_3, c119_3, e119, hx119_0, hx119_1, hx119_2, hx119_3, hl119_1, hi119_1, hl119_3, hi119_3⟩ := at_T36 (Kd.R_reads' HO_5.out).2.2 x6_1 p119 q119
      cases e119
      obtain ⟨ce119, hce119, hMe119, hcc119⟩ := Kd.R_get HO_5.out z36 x6_1 p119 (by first | exact q119 | exact of_decide_eq_true (by first | (with_reducible assumption) | assumption) | (have e_ := (Kd.R_reads' HO_5.out).1; omega))
      obtain ⟨ve119_1, ve119_3, rfl, ge119_1, ge119_3⟩ := k36_openM hMe119
      have hv119_1 := hcc119 1 _ rfl
      rw [add_field _ _ 1 (by omega)] at hv119_1
      replace hv119_1 := Option.some.inj (hv119_1.symm.trans hx119_1)
      rw [hv119_1] at ge119_1
      have HL119_1 := Aside0.mk (show Kd.R (Kd.int .i64) 3 _ _ _ _ ((rd_T36 t116 x6_1).f1) from ge119_1)
      clear hv119_1 ge119_1
      have hv119_3 := hcc119 3 _ rfl
      rw [add_field _ _ 3 (by omega)] at hv119_3
      replace hv119_3 := Option.some.inj (hv119_3.symm.trans hx119_3)
      rw [hv119_3] at ge119_3
      have HL119_3 := Aside0.mk (show Kd.R Kd.string 9 _ _ _ _ ((rd_T36 t116 x6_1).f3) from ge119_3)
      clear hv119_3 ge119_3
      clear hcc119 hce119
      have HR119_1 := Aside0.mk hi119_1
      have HC119_1 := Aside0.mk hl119_1
      clear hi119_1 hl119_1
      have HR119_3 := Aside0.mk hi119_3
      have HC119_3 := Aside0.mk hl119_3
      clear hi119_3 hl119_3
      replace p119 := eq_true p119
      replace q119 := eq_true q119
      go_wp2
      go_ret
      exact ⟨by first | rfl | (simp [errW_none, errW_some] <;> rfl) | (simp [*, errW_none, errW_some] <;> rfl), by repeat (first | (with_reducible first | exact HB.out | apply below_alloc | apply pw_below_drewN | apply below_drew1) | exact HB.out)⟩
     ·rw [if_neg c7] at H
      have c7b0 : (((rd_T36 t116 x6_1).f0).toList == a1.toList) = false := beq_eq_false_iff_ne.mpr c7
      have c7b1 : (((rd_T36 t116 x6_1).f0).toList != a1.toList) = true := bne_iff_ne.mpr c7
      have H' := Aside0.mk H
      clear H
      obtain ⟨Ao9, co9, eo9⟩ := Kd.R_slice HO_5.out
      subst eo9
      have p119 : 0 ≤ (x6_1 : Int) := of_decide_eq_true (by first | (with_reducible assumption) | assumption)
      have q119 : x6_1 < (t116.length : Int) := of_decide_eq_true (by first | (with_reducible assumption) | assumption)
      obtain ⟨ad119, A119_1, c119_1, A119_3, c119_3, e119, hx119_0, hx119_1, hx119_2, hx119_3, hl119_1, hi119_1, hl119_3, hi119_3⟩ := at_T36 (Kd.R_reads' HO_5.out).2.2 x6_1 p119 q119
      cases e119
      obtain ⟨ce119, hce119, hMe119, hcc119⟩ := Kd.R_get HO_5.out z36 x6_1 p119 (by first | exact q119 | exact of_decide_eq_true (by first | (with_reducible assumption) | assumption) | (have e_ := (Kd.R_reads' HO_5.out).1; omega))
      obtain ⟨ve119_1, ve119_3, rfl, ge119_1, ge119_3⟩ := k36_openM hMe119
      have hv119_1 := hcc119 1 _ rfl
      rw [add_field _ _ 1 (by omega)] at hv119_1
      replace hv119_1 := Option.some.inj (hv119_1.symm.trans hx119_1)
      rw [hv119_1] at ge119_1
      have HL119_1 := Aside0.mk (show Kd.R (Kd.int .i64) 3 _ _ _ _ ((rd_T36 t116 x6_1).f1) from ge119_1)
      clear hv119_1 ge119_1
      have hv119_3 := hcc119 3 _ rfl
      rw [add_field _ _ 3 (by omega)] at hv119_3
      replace hv119_3 := Option.some.inj (hv119_3.symm.trans hx119_3)
      rw [hv119_3] at ge119_3
      have HL119_3 := Aside0.mk (show Kd.R Kd.string 9 _ _ _ _ ((rd_T36 t116 x6_1).f3) from ge119_3)
      clear hv119_3 ge119_3
      clear hcc119 hce119
      have HR119_1 := Aside0.mk hi119_1
      have HC119_1 := Aside0.mk hl119_1
      clear hi119_1 hl119_1
      have HR119_3 := Aside0.mk hi119_3
      have HC119_3 := Aside0.mk hl119_3
      clear hi119_3 hl119_3
      replace p119 := eq_true p119
      replace q119 := eq_true q119
      go_wp2
      go_roundg k1
      case measure => have := HK1.out; omega
      case rel => exact ⟨(wrap64 (x6_1 + 1)), (by first | rfl | (simp; done) | (simp [*]; done)), H', ⟨by have := HK1.out; omega⟩, ⟨by (with_reducible repeat (first | apply Kd.R_alloc | apply Kd.R_drewN | apply Kd.R_drew)); exact HO_5.out⟩, ⟨by repeat (first | (with_reducible first | exact HB.out | apply below_alloc | apply pw_below_drewN | apply below_drew1) | exact HB.out)⟩⟩
    ·rw [if_neg c6] at H
     exact absurd H (by simp)
   ·rw [if_neg c5] at H
    have c5b0 : decide (x6_1 < (t116.length : Int)) = false := decide_eq_false c5
    clear c5
    obtain rfl := Option.some.inj H
    obtain ⟨Ao10, co10, eo10⟩ := Kd.R_slice HO_5.out
    subst eo10
    go_wp2
    go_ret
    exact ⟨by first | rfl | (simp [errW_none, errW_some] <;> rfl) | (simp [*, errW_none, errW_some] <;> rfl), by repeat (first | (with_reducible first | exact HB.out | apply below_alloc | apply pw_below_drewN | apply below_drew1) | exact HB.out)⟩
end Go.Proofs.YtmcdnpooclelgaaDoor.PAll
namespace Go.Proofs
open Go.Shelf
def Tryd.lays143_ren : Go.Shelf.Ren := ⟨fun | 143 => 149 | 219 => 159 | 217 => 162 | 225 => 163 | 224 => 164 | 267 => 165 | 266 => 166 | 314 => 167 | n => n, fun | 9 => 9 | 3 => 3 | 4 => 4 | 5 => 5 | 46 => 149 | 146 => 168 | 51 => 167 | n => n, fun | 1 => 0 | n => n⟩
theorem Tryd.lays143 : Go.Proofs.Lays.n143 Tryd.prog Tryd.lays143_ren := {
 mixed := by kernel_rfl
 f143 := Tryd.func149.trans (congrArg some (by kernel_rfl))
 f217 := Tryd.func162.trans (congrArg some (by kernel_rfl))
 f219 := Tryd.func159.trans (congrArg some (by kernel_rfl))
 f224 := Tryd.func164.trans (congrArg some (by kernel_rfl))
 f225 := Tryd.func163.trans (congrArg some (by kernel_rfl))
 f266 := Tryd.func166.trans (congrArg some (by kernel_rfl))
 f267 := Tryd.func165.trans (congrArg some (by kernel_rfl))
 f314 := Tryd.func167.trans (congrArg some (by kernel_rfl))
 t3 := Tryd.underlying3
 a3 := Tryd.isAgg3
 z3 := Tryd.sizeOf3
 v3 := Tryd.zeroValue3
 t4 := Tryd.underlying4
 a4 := Tryd.isAgg4
 z4 := Tryd.sizeOf4
 v4 := Tryd.zeroValue4
 t5 := Tryd.underlying5
 a5 := Tryd.isAgg5
 z5 := Tryd.sizeOf5
 v5 := Tryd.zeroValue5
 t9 := Tryd.underlying9
 a9 := Tryd.isAgg9
 z9 := Tryd.sizeOf9
 v9 := Tryd.zeroValue9
 t46 := Tryd.underlying149
 a46 := Tryd.isAgg149
 z46 := Tryd.sizeOf149
 v46 := Tryd.zeroValue149
 t51 := Tryd.underlying167
 a51 := Tryd.isAgg167
 z51 := Tryd.sizeOf167
 v51 := Tryd.zeroValue167
 t146 := Tryd.underlying168
 a146 := Tryd.isAgg168
 z146 := Tryd.sizeOf168
 v146 := Tryd.zeroValue168
 g1 := by kernel_rfl }
open Go.RowKit Go.Lib in
/-- strings.Index: "Index returns the index of the first instance of substr in s, or -1 if substr is not present in s.": AT A substr OF ONE BYTE c: IT RETURNS 'Lib.indexByte s c'; the world is as it was. (LAID: no walk: one application.) -/
theorem Tryd.strings_Index_one (s : ByteArray) (c : UInt8) (w : World) :
  Calls Tryd.prog 149 #[.string s, .string ⟨#[c]⟩] w fun e w' => e = .returned (.int .i64 (Lib.indexByte s.data.toList c)) ∧ w' = w := Any.strings_Index_one Tryd.lays143 s c w
def Tryd.lays138_ren : Go.Shelf.Ren := ⟨fun | 138 => 148 | 195 => 156 | 218 => 158 | 143 => 149 | 219 => 159 | 217 => 162 | 225 => 163 | 224 => 164 | 267 => 165 | 266 => 166 | 314 => 167 | n => n, fun | 9 => 9 | 3 => 3 | 4 => 4 | 5 => 5 | 0 => 0 | 46 => 149 | 146 => 168 | 51 => 167 | n => n, fun | 1 => 0 | n => n⟩
theorem Tryd.lays138 : Go.Proofs.Lays.n138 Tryd.prog Tryd.lays138_ren := {
 mixed := by kernel_rfl
 f138 := Tryd.func148.trans (congrArg some (by kernel_rfl))
 f143 := Tryd.func149.trans (congrArg some (by kernel_rfl))
 f195 := Tryd.func156.trans (congrArg some (by kernel_rfl))
 f217 := Tryd.func162.trans (congrArg some (by kernel_rfl))
 f218 := Tryd.func158.trans (congrArg some (by kernel_rfl))
 f219 := Tryd.func159.trans (congrArg some (by kernel_rfl))
 f224 := Tryd.func164.trans (congrArg some (by kernel_rfl))
 f225 := Tryd.func163.trans (congrArg some (by kernel_rfl))
 f266 := Tryd.func166.trans (congrArg some (by kernel_rfl))
 f267 := Tryd.func165.trans (congrArg some (by kernel_rfl))
 f314 := Tryd.func167.trans (congrArg some (by kernel_rfl))
 t0 := Tryd.underlying0
 a0 := Tryd.isAgg0
 z0 := Tryd.sizeOf0
 v0 := Tryd.zeroValue0
 t3 := Tryd.underlying3
 a3 := Tryd.isAgg3
 z3 := Tryd.sizeOf3
 v3 := Tryd.zeroValue3
 t4 := Tryd.underlying4
 a4 := Tryd.isAgg4
 z4 := Tryd.sizeOf4
 v4 := Tryd.zeroValue4
 t5 := Tryd.underlying5
 a5 := Tryd.isAgg5
 z5 := Tryd.sizeOf5
 v5 := Tryd.zeroValue5
 t9 := Tryd.underlying9
 a9 := Tryd.isAgg9
 z9 := Tryd.sizeOf9
 v9 := Tryd.zeroValue9
 t46 := Tryd.underlying149
 a46 := Tryd.isAgg149
 z46 := Tryd.sizeOf149
 v46 := Tryd.zeroValue149
 t51 := Tryd.underlying167
 a51 := Tryd.isAgg167
 z51 := Tryd.sizeOf167
 v51 := Tryd.zeroValue167
 t146 := Tryd.underlying168
 a146 := Tryd.isAgg168
 z146 := Tryd.sizeOf168
 v146 := Tryd.zeroValue168
 g1 := by kernel_rfl }
open Go.RowKit Go.Lib in
/-- strings.Count AT A substr OF ONE BYTE ('hp'): "Count counts the number of non-overlapping instances of substr in s.": IT RETURNS 'Lib.countByte s (that byte)'; the world is as it was. ✋ NO CONTRACT HERE YET at an empty substr (utf8.RuneCountInString) or at a longer one (a loop over strings.Index). (LAID: no walk: one application.) -/
theorem Tryd.strings_Count_one (s : ByteArray) (c : UInt8) (w : World) :
  Calls Tryd.prog 148 #[.string s, .string ⟨#[c]⟩] w fun e w' => e = .returned (.int .i64 (Lib.countByte s.data.toList c)) ∧ w' = w := Any.strings_Count_one Tryd.lays138 s c w
def Tryd.lays221_ren : Go.Shelf.Ren := ⟨fun | 221 => 133 | 268 => 147 | 138 => 148 | 143 => 149 | 195 => 156 | 197 => 157 | 218 => 158 | 219 => 159 | 260 => 161 | 217 => 162 | 225 => 163 | 224 => 164 | 267 => 165 | 266 => 166 | 314 => 167 | n => n, fun | 9 => 9 | 3 => 3 | 31 => 27 | 4 => 4 | 0 => 0 | 105 => 160 | 21 => 21 | 5 => 5 | 46 => 149 | 119 => 163 | 139 => 166 | 138 => 165 | 146 => 168 | 51 => 167 | n => n, fun | 1 => 0 | 3 => 1 | 4 => 2 | n => n⟩
theorem Tryd.lays221 : Go.Proofs.Lays.n221 Tryd.prog Tryd.lays221_ren := {
 mixed := by kernel_rfl
 f138 := Tryd.func148.trans (congrArg some (by kernel_rfl))
 f143 := Tryd.func149.trans (congrArg some (by kernel_rfl))
 f195 := Tryd.func156.trans (congrArg some (by kernel_rfl))
 f197 := Tryd.func157.trans (congrArg some (by kernel_rfl))
 f217 := Tryd.func162.trans (congrArg some (by kernel_rfl))
 f218 := Tryd.func158.trans (congrArg some (by kernel_rfl))
 f219 := Tryd.func159.trans (congrArg some (by kernel_rfl))
 f221 := Tryd.func133.trans (congrArg some (by kernel_rfl))
 f224 := Tryd.func164.trans (congrArg some (by kernel_rfl))
 f225 := Tryd.func163.trans (congrArg some (by kernel_rfl))
 f260 := Tryd.func161.trans (congrArg some (by kernel_rfl))
 f266 := Tryd.func166.trans (congrArg some (by kernel_rfl))
 f267 := Tryd.func165.trans (congrArg some (by kernel_rfl))
 f268 := Tryd.func147.trans (congrArg some (by kernel_rfl))
 f314 := Tryd.func167.trans (congrArg some (by kernel_rfl))
 t0 := Tryd.underlying0
 a0 := Tryd.isAgg0
 z0 := Tryd.sizeOf0
 v0 := Tryd.zeroValue0
 t3 := Tryd.underlying3
 a3 := Tryd.isAgg3
 z3 := Tryd.sizeOf3
 v3 := Tryd.zeroValue3
 t4 := Tryd.underlying4
 a4 := Tryd.isAgg4
 z4 := Tryd.sizeOf4
 v4 := Tryd.zeroValue4
 t5 := Tryd.underlying5
 a5 := Tryd.isAgg5
 z5 := Tryd.sizeOf5
 v5 := Tryd.zeroValue5
 t9 := Tryd.underlying9
 a9 := Tryd.isAgg9
 z9 := Tryd.sizeOf9
 v9 := Tryd.zeroValue9
 t21 := Tryd.underlying21
 a21 := Tryd.isAgg21
 z21 := Tryd.sizeOf21
 v21 := Tryd.zeroValue21
 t31 := Tryd.underlying27
 a31 := Tryd.isAgg27
 z31 := Tryd.sizeOf27
 v31 := Tryd.zeroValue27
 t46 := Tryd.underlying149
 a46 := Tryd.isAgg149
 z46 := Tryd.sizeOf149
 v46 := Tryd.zeroValue149
 t51 := Tryd.underlying167
 a51 := Tryd.isAgg167
 z51 := Tryd.sizeOf167
 v51 := Tryd.zeroValue167
 t105 := Tryd.underlying160
 a105 := Tryd.isAgg160
 z105 := Tryd.sizeOf160
 v105 := Tryd.zeroValue160
 t119 := Tryd.underlying163
 a119 := Tryd.isAgg163
 z119 := Tryd.sizeOf163
 t138 := Tryd.underlying165
 a138 := Tryd.isAgg165
 z138 := Tryd.sizeOf165
 v138 := Tryd.zeroValue165
 t139 := Tryd.underlying166
 a139 := Tryd.isAgg166
 z139 := Tryd.sizeOf166
 v139 := Tryd.zeroValue166
 t146 := Tryd.underlying168
 a146 := Tryd.isAgg168
 z146 := Tryd.sizeOf168
 v146 := Tryd.zeroValue168
 g1 := by kernel_rfl
 g3 := by kernel_rfl
 g4 := by kernel_rfl }
end Go.Proofs
namespace Go.Proofs.YtmcdnpooclelgaaDoor.PAll
open Go.RowKit Go.Proofs.YtmcdnpooclelgaaDoorW.PrintWords
set_option maxHeartbeats 1000000 in
theorem split_one (s : ByteArray) (c : UInt8) (w : World) (hs : s.size < 4294967281) :
  Calls Tryd.prog 104 #[.string s, .string ⟨#[c]⟩] w fun e w' =>
   e = .returned (.slice (some ⟨w.heap.size, 0, none⟩) (Lib.countB s ⟨#[c]⟩ + 1) (Lib.countB s ⟨#[c]⟩ + 1)) ∧ w' = w.alloc (.cells ((Lib.splitB ⟨#[c]⟩ 0 (Lib.countB s ⟨#[c]⟩) s).map Value.string).toArray 9) := by
 have h1 : 1 ≤ (⟨#[c]⟩ : ByteArray).size := by show 1 ≤ 1; omega
 have hle := Lib.countB_le ⟨#[c]⟩ h1 s.size s (Nat.le_refl _)
 have hlen := Lib.splitB_all ⟨#[c]⟩ h1 0 _ s rfl
 have q := Any.strings_genSplit_core Tryd.lays221 (by kernel_rfl) s ⟨#[c]⟩ 0 (-1) (Lib.countB s ⟨#[c]⟩ + 1) w hs h1 (Nat.zero_le _)
  (fun x cc hx => (Tryd.strings_Index_one x c _).mono fun e w' ⟨he, hw⟩ => ⟨by
   rw [he]
   show _ = Ending.returned (Value.int .i64 (Lib.index x.data.toList [c]))
   rw [Lib.index_one], hw⟩)
  ((Tryd.strings_Count_one s c w).mono fun e w' ⟨he, hw⟩ => ⟨by
   rw [he]
   show _ = Ending.returned (Value.int .i64 ((Lib.count s.data.toList [c] : Nat) : Int))
   rw [Lib.count_one]
   rfl, hw⟩) (by decide) (by decide) (by rw [if_pos (by decide)]; omega)
 rw [Nat.add_sub_cancel, hlen] at q
 have e2 : Lib.cellsOf (Lib.splitB ⟨#[c]⟩ 0 (Lib.countB s ⟨#[c]⟩) s) (Lib.countB s ⟨#[c]⟩ + 1) = ((Lib.splitB ⟨#[c]⟩ 0 (Lib.countB s ⟨#[c]⟩) s).map Value.string).toArray := by rw [← hlen]; exact Lib.cellsOf_full _
 rw [e2] at q
 have Q := Aside0.mk q
 clear q e2 hlen hle h1
 go_enter Tryd.func104, Tryd.ntmps104
 go_wp2_with fail
 refine Q.out.mono ?_
 rintro e w' ⟨rfl, rfl⟩
 go_wp2_with fail
 go_ret
 exact ⟨rfl, rfl⟩
abbrev strsS : Sh (List ByteArray) := .row strS 9
abbrev intsS : Sh (List Int) := .row intS 3
def ruleS : Sh S36 := .iso (.pair strS (.pair intsS (.pair boolS strsS))) (fun x : S36 => (x.f0, x.f1, x.f2, x.f3))
theorem rule_ow {w : World} {b : Nat} {key : ByteArray} {av dv : Value} {ns : List Int} {m : Bool} {ds : List ByteArray} {G H : List Nat} (h1 : intsS.ow w b [av] ns G) (h2 : strsS.ow w b [dv] ds H) (hd : ∀ g ∈ G, g ∉ H) :
  ruleS.ow w b [.string key, av, .bool m, dv] ⟨key, ns, m, ds⟩ (G ++ H) :=
 ⟨[.string key], [av, .bool m, dv], [], G ++ H, rfl, rfl, ⟨rfl, rfl⟩, ⟨[av], [.bool m, dv], G, H, rfl, rfl, h1, ⟨[.bool m], [dv], [], H, rfl, rfl, ⟨rfl, rfl⟩, h2, by simp⟩, hd⟩, by simp⟩
def RulePost (W : World) (r : S36) (e : Ending) (w' : World) : Prop := ∃ av dv G, e = .returned (.agg #[.string r.f0, av, .bool r.f2, dv]) ∧ ruleS.ow w' W.heap.size [.string r.f0, av, .bool r.f2, dv] r G ∧ Below W.heap.size W w'
set_option maxRecDepth 100000 in
set_option maxHeartbeats 1000000 in
theorem rule_any (W : World) (g : Nat) (hg : g = W.heap.size) (key d : ByteArray) (ns : List Int) (n : Nat) (hn : n = ns.length) (hl : ns.length ≤ 100) (hd : d.size ≤ 1000) (hcb : Lib.countB d ⟨#[32]⟩ + 1 ≤ 9223372036854775807) :
  Calls Tryd.prog 55 #[.string key, .string d, .slice (some ⟨g, 0, none⟩) n n] (W.alloc (.cells (ns.map (Value.int .i64)).toArray 3)) (RulePost W ⟨key, ns, false, Lib.splitB ⟨#[32]⟩ 0 (Lib.countB d ⟨#[32]⟩) d⟩) := by
 subst hn hg
 generalize hW : W.alloc (.cells (ns.map (Value.int .i64)).toArray 3) = W1
 have hs : W1.heap.size = W.heap.size + 1 := by rw [← hW]; simp
 have hB : Below W.heap.size W W1 := by rw [← hW]; exact (Below.refl _ _).alloc (Nat.le_refl _) _
 have hA : intsS.ow W1 W.heap.size [.slice (some ⟨W.heap.size, 0, none⟩) ns.length ns.length] ns [W.heap.size] := by
  rw [← hW]; exact ones_lit (Value.int .i64) (fun _ => rfl) 3 W _ ns (Nat.le_refl _) (by omega)
 go_enter Tryd.func55, Tryd.ntmps55
 go_wp2_with fail
 refine (split_one d 32 _ (by omega)).mono ?_
 rintro e w2 ⟨rfl, rfl⟩
 have hlen : Lib.countB d ⟨#[32]⟩ + 1 = (Lib.splitB ⟨#[32]⟩ 0 (Lib.countB d ⟨#[32]⟩) d).length := (Lib.splitB_all _ (by decide) 0 _ d rfl).symm
 rw [hlen]
 have hle : (Lib.splitB ⟨#[32]⟩ 0 (Lib.countB d ⟨#[32]⟩) d).length ≤ 9223372036854775807 := by rw [← hlen]; exact hcb
 generalize Lib.splitB ⟨#[32]⟩ 0 (Lib.countB d ⟨#[32]⟩) d = ds at *
 have hA2 := Aside0.mk hA
 clear hA
 go_wp2_with fail
 generalize hvals : (#[.string key, .slice (some ⟨W.heap.size, 0, none⟩) ns.length ns.length, .bool false, .slice (some ⟨W.heap.size + 1 + 1, 0, none⟩) ds.length ds.length] : Array Value) = vals
 have hblk : ((W1.alloc (.cells vals 36)).alloc (.cells (ds.map Value.string).toArray 9)).heap[W.heap.size + 1]? = some (.cells vals 36 (0, 0)) := by
  rw [← hs]; exact blk_alloc (blk_new W1 _) _
 have hD := ones_lit Value.string (fun _ => rfl) 9 (W1.alloc (.cells vals 36)) W.heap.size ds (by simp; omega) hle
 have hsz : (W1.alloc (.cells vals 36)).heap.size = W.heap.size + 1 + 1 := by simp; omega
 rw [hsz] at hD
 subst hvals
 refine bodyPost_ret (results_cell_row rfl _ _ (W.heap.size + 1) _ #[.string key, .slice (some ⟨W.heap.size, 0, none⟩) ns.length ns.length, .bool false, .slice (some ⟨W.heap.size + 1 + 1, 0, none⟩) ds.length ds.length] (0, 0) _ rfl hblk Tryd.underlying36 rfl (by kernel_rfl)) rfl ⟨_, _, _, rfl, rule_ow (intsS.obelow hA2.out (((Below.refl _ _).alloc (Nat.le_refl _) _).alloc (by simp) _)) hD (by simp; omega), ?_⟩
 exact (hB.alloc (by omega) _).alloc (by simp; omega) _
def rulesS : Sh (List S36) := .row ruleS 36
theorem cut0 : Lib.splitB ⟨#[32]⟩ 0 (Lib.countB ⟨#[49, 48, 48]⟩ ⟨#[32]⟩) ⟨#[49, 48, 48]⟩ = [⟨#[49, 48, 48]⟩] := by decide +kernel
theorem cut1 : Lib.splitB ⟨#[32]⟩ 0 (Lib.countB ⟨#[49, 48, 48, 48]⟩ ⟨#[32]⟩) ⟨#[49, 48, 48, 48]⟩ = [⟨#[49, 48, 48, 48]⟩] := by decide +kernel
theorem cut2 : Lib.splitB ⟨#[32]⟩ 0 (Lib.countB ⟨#[122]⟩ ⟨#[32]⟩) ⟨#[122]⟩ = [⟨#[122]⟩] := by decide +kernel
theorem cut3 : Lib.splitB ⟨#[32]⟩ 0 (Lib.countB ⟨#[99, 111, 114, 101]⟩ ⟨#[32]⟩) ⟨#[99, 111, 114, 101]⟩ = [⟨#[99, 111, 114, 101]⟩] := by decide +kernel
theorem cut4 : Lib.splitB ⟨#[32]⟩ 0 (Lib.countB ⟨#[49]⟩ ⟨#[32]⟩) ⟨#[49]⟩ = [⟨#[49]⟩] := by decide +kernel
theorem cut5 : Lib.splitB ⟨#[32]⟩ 0 (Lib.countB ⟨#[48]⟩ ⟨#[32]⟩) ⟨#[48]⟩ = [⟨#[48]⟩] := by decide +kernel
theorem cut6 : Lib.splitB ⟨#[32]⟩ 0 (Lib.countB ⟨#[49, 32, 49]⟩ ⟨#[32]⟩) ⟨#[49, 32, 49]⟩ = [⟨#[49]⟩, ⟨#[49]⟩] := by decide +kernel
theorem cut7 : Lib.splitB ⟨#[32]⟩ 0 (Lib.countB ⟨#[]⟩ ⟨#[32]⟩) ⟨#[]⟩ = [⟨#[]⟩] := by decide +kernel
theorem cut8 : Lib.splitB ⟨#[32]⟩ 0 (Lib.countB ⟨#[110, 111, 110, 101]⟩ ⟨#[32]⟩) ⟨#[110, 111, 110, 101]⟩ = [⟨#[110, 111, 110, 101]⟩] := by decide +kernel
theorem cut9 : Lib.splitB ⟨#[32]⟩ 0 (Lib.countB ⟨#[110, 111]⟩ ⟨#[32]⟩) ⟨#[110, 111]⟩ = [⟨#[110, 111]⟩] := by decide +kernel
theorem cut10 : Lib.splitB ⟨#[32]⟩ 0 (Lib.countB ⟨#[48, 32, 48, 32, 48]⟩ ⟨#[32]⟩) ⟨#[48, 32, 48, 32, 48]⟩ = [⟨#[48]⟩, ⟨#[48]⟩, ⟨#[48]⟩] := by decide +kernel
set_option maxRecDepth 100000 in
set_option maxHeartbeats 4000000 in
theorem implRules_team (w : World) :
  Calls Tryd.prog 14 #[.string ⟨#[116, 101, 97, 109]⟩] w (fun e w' => ∃ v F, e = .returned v ∧ rulesS.ow w' w.heap.size [v] rules_team F ∧ Below w.heap.size w w') := by
 have E0 : Aside0 (Els ruleS w w.heap.size [] [] []) := ⟨Els.nil⟩
 have B0 : Aside0 (Below w.heap.size w w) := ⟨Below.refl _ _⟩
 go_enter Tryd.func14, Tryd.ntmps14
 go_wp2_with fail
 refine (rule_any w _ (by simp) ⟨#[99, 111, 112, 105, 101, 115]⟩ ⟨#[49, 48, 48]⟩ [1] 1 rfl (by decide) (by decide) (by decide +kernel)).mono ?_
 rw [cut0]
 rintro e w1 ⟨av1, dv1, G1, rfl, ho1, hb1⟩
 have E1 := Aside0.mk (E0.out.snoc hb1 ho1 B0.out.size)
 have B1 := Aside0.mk (B0.out.trans (hb1.mono B0.out.size))
 clear hb1 ho1 E0 B0
 go_wp2_with fail
 refine (rule_any w1 _ (by simp) ⟨#[114, 111, 111, 109]⟩ ⟨#[49, 48, 48, 48]⟩ [1] 1 rfl (by decide) (by decide) (by decide +kernel)).mono ?_
 rw [cut1]
 rintro e w2 ⟨av2, dv2, G2, rfl, ho2, hb2⟩
 have E2 := Aside0.mk (E1.out.snoc hb2 ho2 B1.out.size)
 have B2 := Aside0.mk (B1.out.trans (hb2.mono B1.out.size))
 clear hb2 ho2 E1 B1
 go_wp2_with fail
 go_ret
 exact ⟨_, _, rfl, Sh.row_lit' (e := 36) E2.out B2.out.size (by decide) (by rfl) (by simp) (by rfl) (by rfl), B2.out.alloc B2.out.size _⟩
set_option maxRecDepth 100000 in
set_option maxHeartbeats 4000000 in
theorem implRules_berth (w : World) :
  Calls Tryd.prog 14 #[.string ⟨#[98, 101, 114, 116, 104]⟩] w (fun e w' => ∃ v F, e = .returned v ∧ rulesS.ow w' w.heap.size [v] rules_berth F ∧ Below w.heap.size w w') := by
 have E0 : Aside0 (Els ruleS w w.heap.size [] [] []) := ⟨Els.nil⟩
 have B0 : Aside0 (Below w.heap.size w w) := ⟨Below.refl _ _⟩
 go_enter Tryd.func14, Tryd.ntmps14
 go_wp2_with fail
 refine (rule_any w _ (by simp) ⟨#[122, 111, 110, 101]⟩ ⟨#[122]⟩ [3] 1 rfl (by decide) (by decide) (by decide +kernel)).mono ?_
 rw [cut2]
 rintro e w1 ⟨av1, dv1, G1, rfl, ho1, hb1⟩
 have E1 := Aside0.mk (E0.out.snoc hb1 ho1 B0.out.size)
 have B1 := Aside0.mk (B0.out.trans (hb1.mono B0.out.size))
 clear hb1 ho1 E0 B0
 go_wp2_with fail
 refine (rule_any w1 _ (by simp) ⟨#[114, 111, 111, 109]⟩ ⟨#[49, 48, 48]⟩ [1] 1 rfl (by decide) (by decide) (by decide +kernel)).mono ?_
 rw [cut0]
 rintro e w2 ⟨av2, dv2, G2, rfl, ho2, hb2⟩
 have E2 := Aside0.mk (E1.out.snoc hb2 ho2 B1.out.size)
 have B2 := Aside0.mk (B1.out.trans (hb2.mono B1.out.size))
 clear hb2 ho2 E1 B1
 go_wp2_with fail
 refine (rule_any w2 _ (by simp) ⟨#[104, 111, 108, 100]⟩ ⟨#[49, 48, 48]⟩ [1] 1 rfl (by decide) (by decide) (by decide +kernel)).mono ?_
 rw [cut0]
 rintro e w3 ⟨av3, dv3, G3, rfl, ho3, hb3⟩
 have E3 := Aside0.mk (E2.out.snoc hb3 ho3 B2.out.size)
 have B3 := Aside0.mk (B2.out.trans (hb3.mono B2.out.size))
 clear hb3 ho3 E2 B2
 have ho4 := rule_ow (m := true) (key := ⟨#[109, 97, 114, 107]⟩) (ones_lit (Value.int .i64) (fun _ => rfl) 3 w3 w3.heap.size [3] (Nat.le_refl _) (by decide)) (Sh.row_nil strS 9 (w3.alloc (.cells #[.int .i64 3] 3)) _) (by simp)
 have hb4 : Below w3.heap.size w3 (w3.alloc (.cells #[.int .i64 3] 3)) := (Below.refl _ _).alloc (Nat.le_refl _) _
 have E4 := Aside0.mk (E3.out.snoc hb4 ho4 B3.out.size)
 have B4 := Aside0.mk (B3.out.trans (hb4.mono B3.out.size))
 clear hb4 ho4 E3 B3
 go_wp2_with fail
 go_ret
 exact ⟨_, _, rfl, Sh.row_lit' (e := 36) E4.out B4.out.size (by decide) (by rfl) (by simp) (by rfl) (by rfl), B4.out.alloc B4.out.size _⟩
set_option maxRecDepth 100000 in
set_option maxHeartbeats 4000000 in
theorem implRules_service (w : World) :
  Calls Tryd.prog 14 #[.string ⟨#[115, 101, 114, 118, 105, 99, 101]⟩] w (fun e w' => ∃ v F, e = .returned v ∧ rulesS.ow w' w.heap.size [v] rules_service F ∧ Below w.heap.size w w') := by
 have E0 : Aside0 (Els ruleS w w.heap.size [] [] []) := ⟨Els.nil⟩
 have B0 : Aside0 (Below w.heap.size w w) := ⟨Below.refl _ _⟩
 go_enter Tryd.func14, Tryd.ntmps14
 go_wp2_with fail
 refine (rule_any w _ (by simp) ⟨#[116, 101, 97, 109]⟩ ⟨#[99, 111, 114, 101]⟩ [3] 1 rfl (by decide) (by decide) (by decide +kernel)).mono ?_
 rw [cut3]
 rintro e w1 ⟨av1, dv1, G1, rfl, ho1, hb1⟩
 have E1 := Aside0.mk (E0.out.snoc hb1 ho1 B0.out.size)
 have B1 := Aside0.mk (B0.out.trans (hb1.mono B0.out.size))
 clear hb1 ho1 E0 B0
 go_wp2_with fail
 refine (rule_any w1 _ (by simp) ⟨#[105, 109, 97, 103, 101]⟩ ⟨#[49]⟩ [1] 1 rfl (by decide) (by decide) (by decide +kernel)).mono ?_
 rw [cut4]
 rintro e w2 ⟨av2, dv2, G2, rfl, ho2, hb2⟩
 have E2 := Aside0.mk (E1.out.snoc hb2 ho2 B1.out.size)
 have B2 := Aside0.mk (B1.out.trans (hb2.mono B1.out.size))
 clear hb2 ho2 E1 B1
 go_wp2_with fail
 refine (rule_any w2 _ (by simp) ⟨#[119, 97, 110, 116]⟩ ⟨#[49]⟩ [1] 1 rfl (by decide) (by decide) (by decide +kernel)).mono ?_
 rw [cut4]
 rintro e w3 ⟨av3, dv3, G3, rfl, ho3, hb3⟩
 have E3 := Aside0.mk (E2.out.snoc hb3 ho3 B2.out.size)
 have B3 := Aside0.mk (B2.out.trans (hb3.mono B2.out.size))
 clear hb3 ho3 E2 B2
 go_wp2_with fail
 refine (rule_any w3 _ (by simp) ⟨#[100, 111, 119, 110]⟩ ⟨#[49]⟩ [1] 1 rfl (by decide) (by decide) (by decide +kernel)).mono ?_
 rw [cut4]
 rintro e w4 ⟨av4, dv4, G4, rfl, ho4, hb4⟩
 have E4 := Aside0.mk (E3.out.snoc hb4 ho4 B3.out.size)
 have B4 := Aside0.mk (B3.out.trans (hb4.mono B3.out.size))
 clear hb4 ho4 E3 B3
 go_wp2_with fail
 refine (rule_any w4 _ (by simp) ⟨#[111, 118, 101, 114]⟩ ⟨#[48]⟩ [1] 1 rfl (by decide) (by decide) (by decide +kernel)).mono ?_
 rw [cut5]
 rintro e w5 ⟨av5, dv5, G5, rfl, ho5, hb5⟩
 have E5 := Aside0.mk (E4.out.snoc hb5 ho5 B4.out.size)
 have B5 := Aside0.mk (B4.out.trans (hb5.mono B4.out.size))
 clear hb5 ho5 E4 B4
 go_wp2_with fail
 refine (rule_any w5 _ (by simp) ⟨#[110, 101, 101, 100, 115]⟩ ⟨#[49, 32, 49]⟩ [1, 1] 2 rfl (by decide) (by decide) (by decide +kernel)).mono ?_
 rw [cut6]
 rintro e w6 ⟨av6, dv6, G6, rfl, ho6, hb6⟩
 have E6 := Aside0.mk (E5.out.snoc hb6 ho6 B5.out.size)
 have B6 := Aside0.mk (B5.out.trans (hb6.mono B5.out.size))
 clear hb6 ho6 E5 B5
 go_wp2_with fail
 refine (rule_any w6 _ (by simp) ⟨#[119, 104, 101, 114, 101]⟩ ⟨#[]⟩ [4] 1 rfl (by decide) (by decide) (by decide +kernel)).mono ?_
 rw [cut7]
 rintro e w7 ⟨av7, dv7, G7, rfl, ho7, hb7⟩
 have E7 := Aside0.mk (E6.out.snoc hb7 ho7 B6.out.size)
 have B7 := Aside0.mk (B6.out.trans (hb7.mono B6.out.size))
 clear hb7 ho7 E6 B6
 have ho8 := rule_ow (m := true) (key := ⟨#[108, 105, 107, 101]⟩) (ones_lit (Value.int .i64) (fun _ => rfl) 3 w7 w7.heap.size [4, 2] (Nat.le_refl _) (by decide)) (Sh.row_nil strS 9 (w7.alloc (.cells #[.int .i64 4, .int .i64 2] 3)) _) (by simp)
 have hb8 : Below w7.heap.size w7 (w7.alloc (.cells #[.int .i64 4, .int .i64 2] 3)) := (Below.refl _ _).alloc (Nat.le_refl _) _
 have E8 := Aside0.mk (E7.out.snoc hb8 ho8 B7.out.size)
 have B8 := Aside0.mk (B7.out.trans (hb8.mono B7.out.size))
 clear hb8 ho8 E7 B7
 go_wp2_with fail
 refine (rule_any (w7.alloc (.cells #[.int .i64 4, .int .i64 2] 3)) _ (by simp) ⟨#[97, 112, 97, 114, 116]⟩ ⟨#[110, 111, 110, 101]⟩ [6] 1 rfl (by decide) (by decide) (by decide +kernel)).mono ?_
 rw [cut8]
 rintro e w9 ⟨av9, dv9, G9, rfl, ho9, hb9⟩
 have E9 := Aside0.mk (E8.out.snoc hb9 ho9 B8.out.size)
 have B9 := Aside0.mk (B8.out.trans (hb9.mono B8.out.size))
 clear hb9 ho9 E8 B8
 go_wp2_with fail
 refine (rule_any w9 _ (by simp) ⟨#[118, 111, 108, 117, 109, 101]⟩ ⟨#[110, 111]⟩ [5] 1 rfl (by decide) (by decide) (by decide +kernel)).mono ?_
 rw [cut9]
 rintro e w10 ⟨av10, dv10, G10, rfl, ho10, hb10⟩
 have E10 := Aside0.mk (E9.out.snoc hb10 ho10 B9.out.size)
 have B10 := Aside0.mk (B9.out.trans (hb10.mono B9.out.size))
 clear hb10 ho10 E9 B9
 go_wp2_with fail
 refine (rule_any w10 _ (by simp) ⟨#[102, 111, 108, 108, 111, 119]⟩ ⟨#[48, 32, 48, 32, 48]⟩ [1, 1, 1] 3 rfl (by decide) (by decide) (by decide +kernel)).mono ?_
 rw [cut10]
 rintro e w11 ⟨av11, dv11, G11, rfl, ho11, hb11⟩
 have E11 := Aside0.mk (E10.out.snoc hb11 ho11 B10.out.size)
 have B11 := Aside0.mk (B10.out.trans (hb11.mono B10.out.size))
 clear hb11 ho11 E10 B10
 go_wp2_with fail
 refine (rule_any w11 _ (by simp) ⟨#[112, 97, 99, 101]⟩ ⟨#[48, 32, 48, 32, 48]⟩ [1, 1, 1] 3 rfl (by decide) (by decide) (by decide +kernel)).mono ?_
 rw [cut10]
 rintro e w12 ⟨av12, dv12, G12, rfl, ho12, hb12⟩
 have E12 := Aside0.mk (E11.out.snoc hb12 ho12 B11.out.size)
 have B12 := Aside0.mk (B11.out.trans (hb12.mono B11.out.size))
 clear hb12 ho12 E11 B11
 go_wp2_with fail
 go_ret
 exact ⟨_, _, rfl, Sh.row_lit' (e := 36) E12.out B12.out.size (by decide) (by rfl) (by simp) (by rfl) (by rfl), B12.out.alloc B12.out.size _⟩
set_option maxRecDepth 100000 in
theorem implRules_any (kind : ByteArray) (w : World) :
  Calls Tryd.prog 14 #[.string kind] w (fun e w' => ∃ v F, e = .returned v ∧ rulesS.ow w' w.heap.size [v] (rulesL kind) F ∧ Below w.heap.size w w') := by
 rcases kind_cases kind with rfl | rfl | rfl | ⟨h1, h2, h3, h4⟩
 ·rw [rulesL_team]; exact implRules_team w
 ·rw [rulesL_berth]; exact implRules_berth w
 ·rw [rulesL_service]; exact implRules_service w
 ·rw [h4]
  have n1 : (kind.toList == ([116, 101, 97, 109] : List UInt8)) = false := str_neL kind _ h1
  have n2 : (kind.toList == ([98, 101, 114, 116, 104] : List UInt8)) = false := str_neL kind _ h2
  have n3 : (kind.toList == ([115, 101, 114, 118, 105, 99, 101] : List UInt8)) = false := str_neL kind _ h3
  clear h1 h2 h3 h4
  go_enter Tryd.func14, Tryd.ntmps14
  go_wp2
  go_ret
  exact ⟨_, _, rfl, Sh.row_nil _ _ _ _, Below.refl _ _⟩
def impl_SheetRules.f (a0 : ByteArray) : Option (List S36) := some (rulesL a0)
theorem impl_SheetRules.calls (a0 : ByteArray) (r : List S36) (w : World) (h : impl_SheetRules.f a0 = some r) :
  Calls Tryd.prog 14 #[.string a0] w fun e w' => ∃ v0_ : Value, e = .returned (v0_) ∧ Kd.R k36 36 w' w.heap.size (fun _ => True) v0_ r ∧ Below w.heap.size w w' := by
 obtain rfl := Option.some.inj h
 refine (implRules_any a0 w).mono ?_
 rintro e w' ⟨v, F, rfl, ho, hb⟩
 exact ⟨v, rfl, Sh.row_R (A := ruleS) ho, hb⟩
end Go.Proofs.YtmcdnpooclelgaaDoor.PAll
namespace Go.Proofs.YtmcdnpooclelgaaDoor.PAll
open Go.RowKit Go.Proofs.YtmcdnpooclelgaaDoorW.PrintWords Go.Proofs.YtmcdnpooclelgaaDoorW.PrintLast Go.Proofs.YtmcdnpooclelgaaDoorW.PrintMore
attribute [local go_sem] max2_int min2_int max_two min_two max_three min_three max_four min_four   -- for this text's walks alone
def impl_find.l0 : Nat → ByteArray → List (S36) → Int → Int → Option (ByteArray × List Int × Bool × List ByteArray × Int)
 | 0, _, _, _, _ => none
 | k + 1, x1, x9, x10, x11 => if x11 < x10 then (if 0 ≤ x11 then (if x11 < (x9.length : Int) then (if ((rd_T36 x9 x11).f0).toList = x1.toList then (some ((rd_T36 x9 x11).f0, (rd_T36 x9 x11).f1, (rd_T36 x9 x11).f2, (rd_T36 x9 x11).f3, x11)) else (impl_find.l0 k x1 x9 x10 (wrap64 (x11 + 1)))) else (none)) else (none)) else (some ((⟨#[]⟩ : ByteArray), ([] : List Int), false, ([] : List ByteArray), (-1)))
def impl_find.f (k : Nat) (a0 : ByteArray) (a1 : ByteArray) : Option (ByteArray × List Int × Bool × List ByteArray × Int) := (impl_SheetRules.f a0).bind fun t164 => (impl_find.l0 k a1 t164 (t164.length : Int) 0)
set_option maxHeartbeats 8000000 in
set_option maxRecDepth 100000 in
theorem impl_find.calls (k : Nat) (a0 : ByteArray) (a1 : ByteArray) (r1 : ByteArray) (r2 : List Int) (r3 : Bool) (r4 : List ByteArray) (r5 : Int) (w : World) (h : impl_find.f k a0 a1 = some (r1, r2, r3, r4, r5)) :
  Calls Tryd.prog 64 #[.string a0, .string a1] w fun e w' => ∃ v1_ v3_ : Value, e = .returned (.tuple #[.agg #[.string r1, v1_, .bool r3, v3_], .int .i64 r5]) ∧ Kd.R (Kd.int .i64) 3 w' w.heap.size (fun _ => True) v1_ r2 ∧ Kd.R Kd.string 9 w' w.heap.size (fun _ => True) v3_ r4 ∧ Below w.heap.size w w' := by
 have hu36 := Tryd.underlying36
 have HB := Aside0.mk (Below.refl w.heap.size w)
 have H : ((impl_SheetRules.f a0).bind fun t164 => (impl_find.l0 k a1 t164 (t164.length : Int) 0)) = some (r1, r2, r3, r4, r5) := h
 clear h
 replace H := Option.bind_eq_some_iff.mp H
 obtain ⟨t164, A30, H⟩ := H
 replace H : (impl_find.l0 k a1 t164 (t164.length : Int) 0) = some (r1, r2, r3, r4, r5) := H
 have A3 := Aside0.mk A30
 clear A30
 have H' := Aside0.mk H
 clear H
 go_enter Tryd.func64, Tryd.ntmps64
 go_wp2_with (first | ((with_reducible refine gate_dst (N := 4) rfl ?_); refine box_event ?hg (N := 4) ?hd (cs := #[.string (⟨#[]⟩ : ByteArray), .slice none 0 0, .bool false, .slice none 0 0]) (t := 36) ?hr ?_; (case hd => rfl); (case hg => rfl); (case hr => first | (go_simp; done) | (go_simp; rfl)); intro gb163 hg w4 hbox hb; have n0_ := Aside0.mk (below_step (stB HB.out) hb); have n1_ := Aside0.mk (hbox); have n2_ := Aside0.mk ((by rw [hg]; exact (below_size (stB HB.out)) : w.heap.size ≤ gb163)); have n3_ := Aside0.mk ((by rw [hg]; exact (below_size (stB HB.out)) : w.heap.size ≤ gb163)); clear HB; have HB := n0_; have BK163 := n1_; have GW163 := n2_; have GE163 := n3_; clear n0_ n1_ n2_ n3_; clear hb hbox hg) | ((with_reducible refine gate_callee (f := 14) rfl ?_); refine goesL_ (some 9) rfl rfl Tryd.func14 (by kernel_rfl) rfl #[.string a0] rfl (by (try simp only [List.map_toArray, List.map_cons, List.map_nil]); first | done | rfl | (simp only [List.length_drop, List.length_take]; rfl)) ?_; (with_reducible refine (impl_SheetRules.calls a0 t164 _ A3.out).mono ?_); rintro e w5 ⟨v165, rfl, ho0, hb⟩; refine ⟨_, rfl, ?_⟩; have n0_ := Aside0.mk (Kd.R_lower (Kd.R_newB ho0 (g := gb163) (o := .cells #[.string (⟨#[]⟩ : ByteArray), .slice none 0 0, .bool false, .slice none 0 0] 36 (0, 0)) (by (with_reducible repeat (first | refine blk_drewN ?_ _ | refine blk_drew ?_ | refine blk_alloc ?_ _)); exact BK163.out)) (below_size (by repeat (first | (with_reducible first | exact HB.out | apply below_alloc | apply pw_below_drewN | apply below_drew1 | refine below_set ?_ GE163.out) | exact HB.out)))); have n1_ := Aside0.mk (blk_below (g := gb163) (o := .cells #[.string (⟨#[]⟩ : ByteArray), .slice none 0 0, .bool false, .slice none 0 0] 36 (0, 0)) (by (with_reducible repeat (first | refine blk_drewN ?_ _ | refine blk_drew ?_ | refine blk_alloc ?_ _)); exact BK163.out) hb); have n2_ := Aside0.mk (below_step (by repeat (first | (with_reducible first | exact HB.out | apply below_alloc | apply pw_below_drewN | apply below_drew1 | refine below_set ?_ GE163.out) | exact HB.out)) hb); clear BK163; clear HB; have HO166 := n0_; have BK163 := n1_; have HB := n2_; clear n0_ n1_ n2_; (try clear hb); (try clear hb2); (try clear hk); (try clear hi); (try clear ho0); obtain ⟨Ao6, co6, eo6⟩ := Kd.R_slice HO166.out; subst eo6))
 go_loopg [11] k (fun kq v11 w' => ∃ (x11_1 : Int) (x164000_1 : ByteArray) (x164002_1 : Bool), v11 = .int .i64 x11_1 ∧ Aside0 (impl_find.l0 kq a1 t164 (t164.length : Int) x11_1 = some (r1, r2, r3, r4, r5)) ∧ Aside0 (kq ≤ k) ∧ Aside0 (Kd.R k36 36 w' w.heap.size (fun k_ => k_ ≠ gb163) (.slice Ao6 t164.length co6) t164) ∧ Aside0 (w'.heap[gb163]? = some (.cells #[.string x164000_1, (.slice none 0 0), .bool x164002_1, (.slice none 0 0)] 36 (0, 0))) ∧ Aside0 (Below w.heap.size w w'))
 case atStart => exact ⟨(0), ((⟨#[]⟩ : ByteArray)), (false), (by first | rfl | (simp; done) | (simp [*]; done)), H', ⟨Nat.le_refl _⟩, ⟨by (with_reducible repeat (first | apply Kd.R_alloc | apply Kd.R_drewN | apply Kd.R_drew)); exact Kd.R_mono HO166.out (fun _ hk => hk.2)⟩, ⟨by (with_reducible repeat (first | refine blk_drewN ?_ _ | refine blk_drew ?_ | refine blk_alloc ?_ _)); exact BK163.out⟩, ⟨by repeat (first | (with_reducible first | exact HB.out | apply below_alloc | apply pw_below_drewN | apply below_drew1 | refine below_set ?_ GE163.out) | exact HB.out)⟩⟩
 case round =>
  clear H'
  try clear c1
  try clear p2
  try clear c6
  obtain ⟨x11_1, x164000_1, x164002_1, rfl, HA, HK1, HO_9, BK163, HB⟩ := hrel
  cases gk with
  | zero => exact absurd HA.out (by simp [impl_find.l0])
  | succ k1 =>
   have H := HA.out
   clear HA
   simp only [impl_find.l0] at H
   by_cases c7 : x11_1 < (t164.length : Int)
   ·rw [if_pos c7] at H
    have c7b0 : decide (x11_1 < (t164.length : Int)) = true := decide_eq_true c7
    clear c7
    by_cases c8 : 0 ≤ x11_1
    ·rw [if_pos c8] at H
     have c8b0 : decide (0 ≤ x11_1) = true := decide_eq_true c8
     clear c8
     by_cases c9 : x11_1 < (t164.length : Int)
     ·rw [if_pos c9] at H
      have c9b0 : decide (x11_1 < (t164.length : Int)) = true := decide_eq_true c9
      clear c9
      by_cases c10 : ((rd_T36 t164 x11_1).f0).toList = a1.toList
      ·rw [if_pos c10] at H
       have c10b0 : (((rd_T36 t164 x11_1).f0).toList == a1.toList) = true := beq_iff_eq.mpr c10
       have c10b1 : (((rd_T36 t164 x11_1).f0).toList != a1.toList) = false := bne_eq_false_iff_eq.mpr c10
       clear c10
       simp only [Option.some.injEq, Prod.mk.injEq] at H
       obtain ⟨rfl, rfl, rfl, rfl, rfl⟩ := H
       have p167 : 0 ≤ (x11_1 : Int) := of_decide_eq_true (by first | (with_reducible assumption) | assumption)
       have q167 : x11_1 < (t164.length : Int) := of_decide_eq_true (by first | (with_reducible assumption) | assumption)
       obtain ⟨ad167, A167_1, c167_1, A167_3, c167_3, e167, hx167_0, hx167_1, hx167_2, hx167_3, hl167_1, hi167_1, hl167_3, hi167_3⟩ := at_T36 (Kd.R_reads' HO_9.out).2.2 x11_1 p167 q167
       cases e167
       obtain ⟨ce167, hce167, hMe167, hcc167⟩ := Kd.R_get HO_9.out z36 x11_1 p167 (by first | exact q167 | exact of_decide_eq_true (by first | (with_reducible assumption) | assumption) | (have e_ := (Kd.R_reads' HO_9.out).1; omega))
       obtain ⟨ve167_1, ve167_3, rfl, ge167_1, ge167_3⟩ := k36_openM hMe167
       have hv167_1 := hcc167 1 _ rfl
       rw [add_field _ _ 1 (by omega)] at hv167_1
       replace hv167_1 := Option.some.inj (hv167_1.symm.trans hx167_1)
       rw [hv167_1] at ge167_1
       have HL167_1 := Aside0.mk (show Kd.R (Kd.int .i64) 3 _ _ _ _ ((rd_T36 t164 x11_1).f1) from ge167_1)
       clear hv167_1 ge167_1
       have hv167_3 := hcc167 3 _ rfl
       rw [add_field _ _ 3 (by omega)] at hv167_3
       replace hv167_3 := Option.some.inj (hv167_3.symm.trans hx167_3)
       rw [hv167_3] at ge167_3
       have HL167_3 := Aside0.mk (show Kd.R Kd.string 9 _ _ _ _ ((rd_T36 t164 x11_1).f3) from ge167_3)
       clear hv167_3 ge167_3
       clear hcc167 hce167
       have HR167_1 := Aside0.mk hi167_1
       have HC167_1 := Aside0.mk hl167_1
       clear hi167_1 hl167_1
       have HR167_3 := Aside0.mk hi167_3
       have HC167_3 := Aside0.mk hl167_3
       clear hi167_3 hl167_3
       replace p167 := eq_true p167
       replace q167 := eq_true q167
       go_wp2_with (first | ((with_reducible refine gate_dst (N := 7) rfl ?_); refine box_event ?hg (N := 7) ?hd (cs := #[.string (⟨#[]⟩ : ByteArray), .slice none 0 0, .bool false, .slice none 0 0]) (t := 36) ?hr ?_; (case hd => rfl); (case hg => rfl); (case hr => first | (go_simp; done) | (go_simp; rfl)); intro gb168 hg w11 hbox hb; have n0_ := Aside0.mk (Kd.R_below (Kd.R_elderB (stR HO_9.out) gb168 (Nat.le_of_eq hg.symm)) hb); have n1_ := Aside0.mk (Kd.R_below (stR HL167_1.out) hb); have n2_ := Aside0.mk (Kd.R_below (stR HL167_3.out) hb); have n3_ := Aside0.mk (blk_below (g := gb163) (o := .cells #[.string x164000_1, .slice none 0 0, .bool x164002_1, .slice none 0 0] 36 (0, 0)) (by (with_reducible repeat (first | refine blk_drewN ?_ _ | refine blk_drew ?_ | refine blk_alloc ?_ _)); exact BK163.out) hb); have n4_ := Aside0.mk (Kd.C_below (stC HR167_1.out) hb); have n5_ := Aside0.mk (Kd.C_below (stC HR167_3.out) hb); have n6_ := Aside0.mk (below_step (by repeat (first | (with_reducible first | exact HB.out | apply below_alloc | apply pw_below_drewN | apply below_drew1 | refine below_set ?_ GE163.out) | exact HB.out)) hb); have n7_ := Aside0.mk (hbox); have n8_ := Aside0.mk ((by rw [hg]; exact (below_size (by repeat (first | (with_reducible first | exact HB.out | apply below_alloc | apply pw_below_drewN | apply below_drew1 | refine below_set ?_ GE163.out) | exact HB.out))) : w.heap.size ≤ gb168)); have n9_ := Aside0.mk ((by rw [hg]; exact (below_size (by repeat (first | (with_reducible first | exact HB.out | apply below_alloc | apply pw_below_drewN | apply below_drew1 | refine below_set ?_ GE163.out) | exact HB.out))) : w.heap.size ≤ gb168)); have n10_ := Aside0.mk ((by rw [hg]; exact Nat.ne_of_lt (blk_lt (g := gb163) (o := .cells #[.string x164000_1, .slice none 0 0, .bool x164002_1, .slice none 0 0] 36 (0, 0)) (by (with_reducible repeat (first | refine blk_drewN ?_ _ | refine blk_drew ?_ | refine blk_alloc ?_ _)); exact BK163.out)) : gb163 ≠ gb168)); have n11_ := Aside0.mk ((by rw [hg]; exact Nat.ne_of_gt (blk_lt (g := gb163) (o := .cells #[.string x164000_1, .slice none 0 0, .bool x164002_1, .slice none 0 0] 36 (0, 0)) (by (with_reducible repeat (first | refine blk_drewN ?_ _ | refine blk_drew ?_ | refine blk_alloc ?_ _)); exact BK163.out)) : gb168 ≠ gb163)); clear HO_9; clear HL167_1; clear HL167_3; clear BK163; clear HR167_1; clear HR167_3; clear HB; have HO_9 := n0_; have HL167_1 := n1_; have HL167_3 := n2_; have BK163 := n3_; have HR167_1 := n4_; have HR167_3 := n5_; have HB := n6_; have BK168 := n7_; have GW168 := n8_; have GE168 := n9_; have NB163_168 := n10_; have NB168_163 := n11_; clear n0_ n1_ n2_ n3_ n4_ n5_ n6_ n7_ n8_ n9_ n10_ n11_; clear hb hbox hg; have hnb12 := NB168_163.out; have hnc12 := NB163_168.out; have hcz13_0 : w11.cell? ⟨gb168, 0, none⟩ = some (.string (⟨#[]⟩ : ByteArray)) := (blk_cell BK168.out 0).trans rfl; have hcz13_1 : w11.cell? ⟨gb168, 1, none⟩ = some (.slice none 0 0) := (blk_cell BK168.out 1).trans rfl; have hcz13_2 : w11.cell? ⟨gb168, 2, none⟩ = some (.bool false) := (blk_cell BK168.out 2).trans rfl; have hcz13_3 : w11.cell? ⟨gb168, 3, none⟩ = some (.slice none 0 0) := (blk_cell BK168.out 3).trans rfl; have hfz13_0 := blk_frozen BK168.out 0; have hfz13_1 := blk_frozen BK168.out 1; have hfz13_2 := blk_frozen BK168.out 2; have hfz13_3 := blk_frozen BK168.out 3; have hcz14_0 : w11.cell? ⟨gb163, 0, none⟩ = some (.string x164000_1) := (blk_cell BK163.out 0).trans rfl; have hcz14_1 : w11.cell? ⟨gb163, 1, none⟩ = some (.slice none 0 0) := (blk_cell BK163.out 1).trans rfl; have hcz14_2 : w11.cell? ⟨gb163, 2, none⟩ = some (.bool x164002_1) := (blk_cell BK163.out 2).trans rfl; have hcz14_3 : w11.cell? ⟨gb163, 3, none⟩ = some (.slice none 0 0) := (blk_cell BK163.out 3).trans rfl; have hfz14_0 := blk_frozen BK163.out 0; have hfz14_1 := blk_frozen BK163.out 1; have hfz14_2 := blk_frozen BK163.out 2; have hfz14_3 := blk_frozen BK163.out 3))
       refine bodyPost_ret (results_ct rfl _ _ gb163 36 #[.string ((rd_T36 t164 x11_1).f0), .slice A167_1 ((rd_T36 t164 x11_1).f1).length c167_1, .bool ((rd_T36 t164 x11_1).f2), .slice A167_3 ((rd_T36 t164 x11_1).f3).length c167_3] (0, 0) _ rfl (by (with_reducible repeat (first | refine blk_drewN ?_ _ | refine blk_drew ?_ | refine blk_alloc ?_ _)); refine blk_put (cs := #[.string ((rd_T36 t164 x11_1).f0), .slice A167_1 ((rd_T36 t164 x11_1).f1).length c167_1, .bool ((rd_T36 t164 x11_1).f2), .slice none 0 0]) ?_ 3 _ rfl; (with_reducible repeat (first | refine blk_drewN ?_ _ | refine blk_drew ?_ | refine blk_alloc ?_ _)); refine blk_put (cs := #[.string ((rd_T36 t164 x11_1).f0), .slice A167_1 ((rd_T36 t164 x11_1).f1).length c167_1, .bool x164002_1, .slice none 0 0]) ?_ 2 _ rfl; (with_reducible repeat (first | refine blk_drewN ?_ _ | refine blk_drew ?_ | refine blk_alloc ?_ _)); refine blk_put (cs := #[.string ((rd_T36 t164 x11_1).f0), .slice none 0 0, .bool x164002_1, .slice none 0 0]) ?_ 1 _ rfl; (with_reducible repeat (first | refine blk_drewN ?_ _ | refine blk_drew ?_ | refine blk_alloc ?_ _)); refine blk_put (cs := #[.string x164000_1, .slice none 0 0, .bool x164002_1, .slice none 0 0]) ?_ 0 _ rfl; (with_reducible repeat (first | refine blk_drewN ?_ _ | refine blk_drew ?_ | refine blk_alloc ?_ _)); refine blk_far ?_ NB163_168.out _; (with_reducible repeat (first | refine blk_drewN ?_ _ | refine blk_drew ?_ | refine blk_alloc ?_ _)); refine blk_far ?_ NB163_168.out _; (with_reducible repeat (first | refine blk_drewN ?_ _ | refine blk_drew ?_ | refine blk_alloc ?_ _)); refine blk_far ?_ NB163_168.out _; (with_reducible repeat (first | refine blk_drewN ?_ _ | refine blk_drew ?_ | refine blk_alloc ?_ _)); refine blk_far ?_ NB163_168.out _; (with_reducible repeat (first | refine blk_drewN ?_ _ | refine blk_drew ?_ | refine blk_alloc ?_ _)); exact BK163.out) Tryd.underlying36 rfl (by kernel_rfl)) rfl ?_
       exact ⟨_, _, by first | rfl | (simp [errW_none, errW_some] <;> rfl) | (simp [*, errW_none, errW_some] <;> rfl), by (with_reducible repeat (first | apply Kd.R_alloc | apply Kd.R_drewN | apply Kd.R_drew)); exact Kd.R_mono (Kd.R_far (p := ⟨gb163, 3, none⟩) (Kd.R_far (p := ⟨gb163, 2, none⟩) (Kd.R_far (p := ⟨gb163, 1, none⟩) (Kd.R_far (p := ⟨gb163, 0, none⟩) (Kd.R_far (p := ⟨gb168, 3, none⟩) (Kd.R_far (p := ⟨gb168, 2, none⟩) (Kd.R_far (p := ⟨gb168, 1, none⟩) (Kd.R_far (p := ⟨gb168, 0, none⟩) (Kd.R_types (Kd.R_types HL167_1.out BK168.out (by decide)) BK163.out (by decide)) (fun _ hk => hk.1.2) (.string ((rd_T36 t164 x11_1).f0))) (fun _ hk => hk.1.2) (.slice A167_1 ((rd_T36 t164 x11_1).f1).length c167_1)) (fun _ hk => hk.1.2) (.bool ((rd_T36 t164 x11_1).f2))) (fun _ hk => hk.1.2) (.slice A167_3 ((rd_T36 t164 x11_1).f3).length c167_3)) (fun _ hk => hk.2) (.string ((rd_T36 t164 x11_1).f0))) (fun _ hk => hk.2) (.slice A167_1 ((rd_T36 t164 x11_1).f1).length c167_1)) (fun _ hk => hk.2) (.bool ((rd_T36 t164 x11_1).f2))) (fun _ hk => hk.2) (.slice A167_3 ((rd_T36 t164 x11_1).f3).length c167_3)) (fun _ hk => trivial), by (with_reducible repeat (first | apply Kd.R_alloc | apply Kd.R_drewN | apply Kd.R_drew)); exact Kd.R_mono (Kd.R_far (p := ⟨gb163, 3, none⟩) (Kd.R_far (p := ⟨gb163, 2, none⟩) (Kd.R_far (p := ⟨gb163, 1, none⟩) (Kd.R_far (p := ⟨gb163, 0, none⟩) (Kd.R_far (p := ⟨gb168, 3, none⟩) (Kd.R_far (p := ⟨gb168, 2, none⟩) (Kd.R_far (p := ⟨gb168, 1, none⟩) (Kd.R_far (p := ⟨gb168, 0, none⟩) (Kd.R_types (Kd.R_types HL167_3.out BK168.out (by decide)) BK163.out (by decide)) (fun _ hk => hk.1.2) (.string ((rd_T36 t164 x11_1).f0))) (fun _ hk => hk.1.2) (.slice A167_1 ((rd_T36 t164 x11_1).f1).length c167_1)) (fun _ hk => hk.1.2) (.bool ((rd_T36 t164 x11_1).f2))) (fun _ hk => hk.1.2) (.slice A167_3 ((rd_T36 t164 x11_1).f3).length c167_3)) (fun _ hk => hk.2) (.string ((rd_T36 t164 x11_1).f0))) (fun _ hk => hk.2) (.slice A167_1 ((rd_T36 t164 x11_1).f1).length c167_1)) (fun _ hk => hk.2) (.bool ((rd_T36 t164 x11_1).f2))) (fun _ hk => hk.2) (.slice A167_3 ((rd_T36 t164 x11_1).f3).length c167_3)) (fun _ hk => trivial), by repeat (first | (with_reducible first | exact HB.out | apply below_alloc | apply pw_below_drewN | apply below_drew1 | refine below_set ?_ GE163.out | refine below_set ?_ GE168.out) | exact HB.out)⟩
      ·rw [if_neg c10] at H
       have c10b0 : (((rd_T36 t164 x11_1).f0).toList == a1.toList) = false := beq_eq_false_iff_ne.mpr c10
       have c10b1 : (((rd_T36 t164 x11_1).f0).toList != a1.toList) = true := bne_iff_ne.mpr c10
       have H' := Aside0.mk H
       clear H
       have p167 : 0 ≤ (x11_1 : Int) := of_decide_eq_true (by first | (with_reducible assumption) | assumption)
       have q167 : x11_1 < (t164.length : Int) := of_decide_eq_true (by first | (with_reducible assumption) | assumption)
       obtain ⟨ad167, A167_1, c167_1, A167_3, c167_3, e167, hx167_0, hx167_1, hx167_2, hx167_3, hl167_1, hi167_1, hl167_3, hi167_3⟩ := at_T36 (Kd.R_reads' HO_9.out).2.2 x11_1 p167 q167
       cases e167
       obtain ⟨ce167, hce167, hMe167, hcc167⟩ := Kd.R_get HO_9.out z36 x11_1 p167 (by first | exact q167 | exact of_decide_eq_true (by first | (with_reducible assumption) | assumption) | (have e_ := (Kd.R_reads' HO_9.out).1; omega))
       obtain ⟨ve167_1, ve167_3, rfl, ge167_1, ge167_3⟩ := k36_openM hMe167
       have hv167_1 := hcc167 1 _ rfl
       rw [add_field _ _ 1 (by omega)] at hv167_1
       replace hv167_1 := Option.some.inj (hv167_1.symm.trans hx167_1)
       rw [hv167_1] at ge167_1
       have HL167_1 := Aside0.mk (show Kd.R (Kd.int .i64) 3 _ _ _ _ ((rd_T36 t164 x11_1).f1) from ge167_1)
       clear hv167_1 ge167_1
       have hv167_3 := hcc167 3 _ rfl
       rw [add_field _ _ 3 (by omega)] at hv167_3
       replace hv167_3 := Option.some.inj (hv167_3.symm.trans hx167_3)
       rw [hv167_3] at ge167_3
       have HL167_3 := Aside0.mk (show Kd.R Kd.string 9 _ _ _ _ ((rd_T36 t164 x11_1).f3) from ge167_3)
       clear hv167_3 ge167_3
       clear hcc167 hce167
       have HR167_1 := Aside0.mk hi167_1
       have HC167_1 := Aside0.mk hl167_1
       clear hi167_1 hl167_1
       have HR167_3 := Aside0.mk hi167_3
       have HC167_3 := Aside0.mk hl167_3
       clear hi167_3 hl167_3
       replace p167 := eq_true p167
       replace q167 := eq_true q167
       go_wp2_with (first | ((with_reducible refine gate_dst (N := 7) rfl ?_); refine box_event ?hg (N := 7) ?hd (cs := #[.string (⟨#[]⟩ : ByteArray), .slice none 0 0, .bool false, .slice none 0 0]) (t := 36) ?hr ?_; (case hd => rfl); (case hg => rfl); (case hr => first | (go_simp; done) | (go_simp; rfl)); intro gb168 hg w15 hbox hb; have n0_ := Aside0.mk (Kd.R_below (Kd.R_elderB (stR HO_9.out) gb168 (Nat.le_of_eq hg.symm)) hb); have n1_ := Aside0.mk (Kd.R_below (stR HL167_1.out) hb); have n2_ := Aside0.mk (Kd.R_below (stR HL167_3.out) hb); have n3_ := Aside0.mk (blk_below (g := gb163) (o := .cells #[.string x164000_1, .slice none 0 0, .bool x164002_1, .slice none 0 0] 36 (0, 0)) (by (with_reducible repeat (first | refine blk_drewN ?_ _ | refine blk_drew ?_ | refine blk_alloc ?_ _)); exact BK163.out) hb); have n4_ := Aside0.mk (Kd.C_below (stC HR167_1.out) hb); have n5_ := Aside0.mk (Kd.C_below (stC HR167_3.out) hb); have n6_ := Aside0.mk (below_step (by repeat (first | (with_reducible first | exact HB.out | apply below_alloc | apply pw_below_drewN | apply below_drew1 | refine below_set ?_ GE163.out) | exact HB.out)) hb); have n7_ := Aside0.mk (hbox); have n8_ := Aside0.mk ((by rw [hg]; exact (below_size (by repeat (first | (with_reducible first | exact HB.out | apply below_alloc | apply pw_below_drewN | apply below_drew1 | refine below_set ?_ GE163.out) | exact HB.out))) : w.heap.size ≤ gb168)); have n9_ := Aside0.mk ((by rw [hg]; exact (below_size (by repeat (first | (with_reducible first | exact HB.out | apply below_alloc | apply pw_below_drewN | apply below_drew1 | refine below_set ?_ GE163.out) | exact HB.out))) : w.heap.size ≤ gb168)); have n10_ := Aside0.mk ((by rw [hg]; exact Nat.ne_of_lt (blk_lt (g := gb163) (o := .cells #[.string x164000_1, .slice none 0 0, .bool x164002_1, .slice none 0 0] 36 (0, 0)) (by (with_reducible repeat (first | refine blk_drewN ?_ _ | refine blk_drew ?_ | refine blk_alloc ?_ _)); exact BK163.out)) : gb163 ≠ gb168)); have n11_ := Aside0.mk ((by rw [hg]; exact Nat.ne_of_gt (blk_lt (g := gb163) (o := .cells #[.string x164000_1, .slice none 0 0, .bool x164002_1, .slice none 0 0] 36 (0, 0)) (by (with_reducible repeat (first | refine blk_drewN ?_ _ | refine blk_drew ?_ | refine blk_alloc ?_ _)); exact BK163.out)) : gb168 ≠ gb163)); clear HO_9; clear HL167_1; clear HL167_3; clear BK163; clear HR167_1; clear HR167_3; clear HB; have HO_9 := n0_; have HL167_1 := n1_; have HL167_3 := n2_; have BK163 := n3_; have HR167_1 := n4_; have HR167_3 := n5_; have HB := n6_; have BK168 := n7_; have GW168 := n8_; have GE168 := n9_; have NB163_168 := n10_; have NB168_163 := n11_; clear n0_ n1_ n2_ n3_ n4_ n5_ n6_ n7_ n8_ n9_ n10_ n11_; clear hb hbox hg; have hnb16 := NB168_163.out; have hnc16 := NB163_168.out; have hcz17_0 : w15.cell? ⟨gb168, 0, none⟩ = some (.string (⟨#[]⟩ : ByteArray)) := (blk_cell BK168.out 0).trans rfl; have hcz17_1 : w15.cell? ⟨gb168, 1, none⟩ = some (.slice none 0 0) := (blk_cell BK168.out 1).trans rfl; have hcz17_2 : w15.cell? ⟨gb168, 2, none⟩ = some (.bool false) := (blk_cell BK168.out 2).trans rfl; have hcz17_3 : w15.cell? ⟨gb168, 3, none⟩ = some (.slice none 0 0) := (blk_cell BK168.out 3).trans rfl; have hfz17_0 := blk_frozen BK168.out 0; have hfz17_1 := blk_frozen BK168.out 1; have hfz17_2 := blk_frozen BK168.out 2; have hfz17_3 := blk_frozen BK168.out 3))
       go_roundg k1
       case measure => have := HK1.out; omega
       case rel => exact ⟨(wrap64 (x11_1 + 1)), (x164000_1), (x164002_1), (by first | rfl | (simp; done) | (simp [*]; done)), H', ⟨by have := HK1.out; omega⟩, ⟨by (with_reducible repeat (first | apply Kd.R_alloc | apply Kd.R_drewN | apply Kd.R_drew)); exact Kd.R_mono (Kd.R_far (p := ⟨gb168, 3, none⟩) (Kd.R_far (p := ⟨gb168, 2, none⟩) (Kd.R_far (p := ⟨gb168, 1, none⟩) (Kd.R_far (p := ⟨gb168, 0, none⟩) (Kd.R_mono HO_9.out (fun k_ hk => (⟨hk, hk.2⟩ : _ ∧ k_ ≠ gb168))) (fun _ hk => hk.2) (.string ((rd_T36 t164 x11_1).f0))) (fun _ hk => hk.2) (.slice A167_1 ((rd_T36 t164 x11_1).f1).length c167_1)) (fun _ hk => hk.2) (.bool ((rd_T36 t164 x11_1).f2))) (fun _ hk => hk.2) (.slice A167_3 ((rd_T36 t164 x11_1).f3).length c167_3)) (fun _ hk => hk.1.1)⟩, ⟨by (with_reducible repeat (first | refine blk_drewN ?_ _ | refine blk_drew ?_ | refine blk_alloc ?_ _)); refine blk_far ?_ NB163_168.out _; (with_reducible repeat (first | refine blk_drewN ?_ _ | refine blk_drew ?_ | refine blk_alloc ?_ _)); refine blk_far ?_ NB163_168.out _; (with_reducible repeat (first | refine blk_drewN ?_ _ | refine blk_drew ?_ | refine blk_alloc ?_ _)); refine blk_far ?_ NB163_168.out _; (with_reducible repeat (first | refine blk_drewN ?_ _ | refine blk_drew ?_ | refine blk_alloc ?_ _)); refine blk_far ?_ NB163_168.out _; (with_reducible repeat (first | refine blk_drewN ?_ _ | refine blk_drew ?_ | refine blk_alloc ?_ _)); exact BK163.out⟩, ⟨by repeat (first | (with_reducible first | exact HB.out | apply below_alloc | apply pw_below_drewN | apply below_drew1 | refine below_set ?_ GE163.out | refine below_set ?_ GE168.out) | exact HB.out)⟩⟩
     ·rw [if_neg c9] at H
      exact absurd H (by simp)
    ·rw [if_neg c8] at H
     exact absurd H (by simp)
   ·rw [if_neg c7] at H
    have c7b0 : decide (x11_1 < (t164.length : Int)) = false := decide_eq_false c7
    clear c7
    simp only [Option.some.injEq, Prod.mk.injEq] at H
    obtain ⟨rfl, rfl, rfl, rfl, rfl⟩ := H
    have hcz18_0 : wr.cell? ⟨gb163, 0, none⟩ = some (.string x164000_1) := (blk_cell BK163.out 0).trans rfl
    have hcz18_1 : wr.cell? ⟨gb163, 1, none⟩ = some (.slice none 0 0) := (blk_cell BK163.out 1).trans rfl
    have hcz18_2 : wr.cell? ⟨gb163, 2, none⟩ = some (.bool x164002_1) := (blk_cell BK163.out 2).trans rfl
    have hcz18_3 : wr.cell? ⟨gb163, 3, none⟩ = some (.slice none 0 0) := (blk_cell BK163.out 3).trans rfl
    have hfz18_0 := blk_frozen BK163.out 0
    have hfz18_1 := blk_frozen BK163.out 1
    have hfz18_2 := blk_frozen BK163.out 2
    have hfz18_3 := blk_frozen BK163.out 3
    go_wp2
    refine bodyPost_ret (results_ct rfl _ _ gb163 36 #[.string (⟨#[]⟩ : ByteArray), .slice none 0 0, .bool false, .slice none 0 0] (0, 0) _ rfl (by (with_reducible repeat (first | refine blk_drewN ?_ _ | refine blk_drew ?_ | refine blk_alloc ?_ _)); refine blk_put (cs := #[.string (⟨#[]⟩ : ByteArray), .slice none 0 0, .bool false, .slice none 0 0]) ?_ 3 _ rfl; (with_reducible repeat (first | refine blk_drewN ?_ _ | refine blk_drew ?_ | refine blk_alloc ?_ _)); refine blk_put (cs := #[.string (⟨#[]⟩ : ByteArray), .slice none 0 0, .bool x164002_1, .slice none 0 0]) ?_ 2 _ rfl; (with_reducible repeat (first | refine blk_drewN ?_ _ | refine blk_drew ?_ | refine blk_alloc ?_ _)); refine blk_put (cs := #[.string (⟨#[]⟩ : ByteArray), .slice none 0 0, .bool x164002_1, .slice none 0 0]) ?_ 1 _ rfl; (with_reducible repeat (first | refine blk_drewN ?_ _ | refine blk_drew ?_ | refine blk_alloc ?_ _)); refine blk_put (cs := #[.string x164000_1, .slice none 0 0, .bool x164002_1, .slice none 0 0]) ?_ 0 _ rfl; (with_reducible repeat (first | refine blk_drewN ?_ _ | refine blk_drew ?_ | refine blk_alloc ?_ _)); exact BK163.out) Tryd.underlying36 rfl (by kernel_rfl)) rfl ?_
    exact ⟨_, _, by first | rfl | (simp [errW_none, errW_some] <;> rfl) | (simp [*, errW_none, errW_some] <;> rfl), by first | exact Kd.R_nil _ _ _ _ _ | exact Kd.N_nil _ _ _ _ _ | exact Kd.V_nil _ _ _ _ _ | exact Kd.Q_nil _ _ _ _ _ | exact Kd.S_nil _ _ _ _ _, by first | exact Kd.R_nil _ _ _ _ _ | exact Kd.N_nil _ _ _ _ _ | exact Kd.V_nil _ _ _ _ _ | exact Kd.Q_nil _ _ _ _ _ | exact Kd.S_nil _ _ _ _ _, by repeat (first | (with_reducible first | exact HB.out | apply below_alloc | apply pw_below_drewN | apply below_drew1 | refine below_set ?_ GE163.out) | exact HB.out)⟩
mutual
def impl_SheetFits.j0 : Nat → List ByteArray → Bool → ByteArray → List Int → Bool → List ByteArray → Option (Bool)
 | 0, _, _, _, _, _, _ => none
 | k + 1, x2, x26, x256000, x256001, x256002, x256003 => if x26 = true then (some false) else (impl_SheetFits.l0 k x2 x256001 (x256001.length : Int) 0)
def impl_SheetFits.l0 : Nat → List ByteArray → List Int → Int → Int → Option (Bool)
 | 0, _, _, _, _ => none
 | k + 1, x2, x28, x29, x30 => if x30 < x29 then (if 0 ≤ x30 then (if x30 < (x28.length : Int) then (if x30 < (x2.length : Int) then ((impl_isType.f k (rd x28 x30) (rdOf ByteArray.empty x2 x30)).bind fun t258 => (if t258 = true then (impl_SheetFits.l0 k x2 x28 x29 (wrap64 (x30 + 1))) else (some false))) else (none)) else (none)) else (none)) else (some true)
end
def impl_SheetFits.f (k : Nat) (a0 : ByteArray) (a1 : ByteArray) (l2 : List ByteArray) : Option (Bool) := (impl_find.f k a0 a1).bind fun bt246 => (if bt246.2.2.2.2 < 0 then (impl_SheetFits.j0 k l2 true bt246.1 bt246.2.1 bt246.2.2.1 bt246.2.2.2.1) else (impl_SheetFits.j0 k l2 ((l2.length : Int) != (bt246.2.1.length : Int)) bt246.1 bt246.2.1 bt246.2.2.1 bt246.2.2.2.1))
set_option maxHeartbeats 8000000 in
set_option maxRecDepth 100000 in
theorem impl_SheetFits.calls (k : Nat) (a0 : ByteArray) (a1 : ByteArray) (A2 : Option Addr) (c2 : Nat) (l2 : List ByteArray) (r : Bool) (w : World) (hr2 : Kd.C Kd.string w A2 l2.length l2) (hc2 : l2.length ≤ c2) (h : impl_SheetFits.f k a0 a1 l2 = some r) :
  Calls Tryd.prog 21 #[.string a0, .string a1, .slice A2 l2.length c2] w fun e w' => e = .returned (.bool r) ∧ Below w.heap.size w w' := by
 have hu36 := Tryd.underlying36
 have HR2 := Aside0.mk hr2
 have HC2 := Aside0.mk hc2
 clear hr2 hc2
 have HB := Aside0.mk (Below.refl w.heap.size w)
 have H : ((impl_find.f k a0 a1).bind fun bt246 => (if bt246.2.2.2.2 < 0 then (impl_SheetFits.j0 k l2 true bt246.1 bt246.2.1 bt246.2.2.1 bt246.2.2.2.1) else (impl_SheetFits.j0 k l2 ((l2.length : Int) != (bt246.2.1.length : Int)) bt246.1 bt246.2.1 bt246.2.2.1 bt246.2.2.2.1))) = some r := h
 clear h
 replace H := Option.bind_eq_some_iff.mp H
 obtain ⟨⟨t246, t247, t250, t251, t254⟩, A40, H⟩ := H
 replace H : (if t254 < 0 then (impl_SheetFits.j0 k l2 true t246 t247 t250 t251) else (impl_SheetFits.j0 k l2 ((l2.length : Int) != (t247.length : Int)) t246 t247 t250 t251)) = some r := H
 have A4 := Aside0.mk A40
 clear A40
 have HC5 := Aside0.mk H
 clear H
 go_enter Tryd.func21, Tryd.ntmps21
 go_upto_region 2 with (first | ((with_reducible refine gate_callee (f := 64) rfl ?_); refine goesL_ (some 14) rfl rfl Tryd.func64 (by kernel_rfl) rfl #[.string a0, .string a1] rfl (by (try simp only [List.map_toArray, List.map_cons, List.map_nil]); first | done | rfl | (simp only [List.length_drop, List.length_take]; rfl)) ?_; (with_reducible refine (impl_find.calls k a0 a1 t246 t247 t250 t251 t254 _ A4.out).mono ?_); rintro e w6 ⟨v248, v252, rfl, ho0, ho1, hb⟩; refine ⟨_, rfl, ?_⟩; have n0_ := Aside0.mk (Kd.R_lower ho0 (below_size (stB HB.out))); have n1_ := Aside0.mk (Kd.R_lower ho1 (below_size (stB HB.out))); have n2_ := Aside0.mk (below_step (stB HB.out) hb); clear HB; have HO249 := n0_; have HO253 := n1_; have HB := n2_; clear n0_ n1_ n2_; (try clear hb); (try clear hb2); (try clear hk); (try clear hi); (try clear ho0); (try clear ho1)) | ((with_reducible refine gate_dst (N := 7) rfl ?_); (try (refine gate_guard (by rfl) ?_; dsimp only)); refine box_event ?hg (N := 7) ?hd (cs := #[.string (⟨#[]⟩ : ByteArray), .slice none 0 0, .bool false, .slice none 0 0]) (t := 36) ?hr ?_; (case hd => rfl); (case hg => rfl); (case hr => first | (go_simp; done) | (go_simp; rfl)); intro gb255 hg w7 hbox hb; have n0_ := Aside0.mk (Kd.R_below (stR HO249.out) hb); have n1_ := Aside0.mk (Kd.R_below (stR HO253.out) hb); have n2_ := Aside0.mk (below_step (stB HB.out) hb); have n3_ := Aside0.mk (hbox); have n4_ := Aside0.mk ((by rw [hg]; exact (below_size (stB HB.out)) : w.heap.size ≤ gb255)); have n5_ := Aside0.mk ((by rw [hg]; exact (below_size (stB HB.out)) : w.heap.size ≤ gb255)); clear HO249; clear HO253; clear HB; have HO249 := n0_; have HO253 := n1_; have HB := n2_; have BK255 := n3_; have GW255 := n4_; have GE255 := n5_; clear n0_ n1_ n2_ n3_ n4_ n5_; clear hb hbox hg; have hcz8_0 : w7.cell? ⟨gb255, 0, none⟩ = some (.string (⟨#[]⟩ : ByteArray)) := (blk_cell BK255.out 0).trans rfl; have hcz8_1 : w7.cell? ⟨gb255, 1, none⟩ = some (.slice none 0 0) := (blk_cell BK255.out 1).trans rfl; have hcz8_2 : w7.cell? ⟨gb255, 2, none⟩ = some (.bool false) := (blk_cell BK255.out 2).trans rfl; have hcz8_3 : w7.cell? ⟨gb255, 3, none⟩ = some (.slice none 0 0) := (blk_cell BK255.out 3).trans rfl; have hfz8_0 := blk_frozen BK255.out 0; have hfz8_1 := blk_frozen BK255.out 1; have hfz8_2 := blk_frozen BK255.out 2; have hfz8_3 := blk_frozen BK255.out 3; obtain ⟨Ao9, co9, eo9⟩ := Kd.R_slice HO249.out; subst eo9; obtain ⟨Ao10, co10, eo10⟩ := Kd.R_slice HO253.out; subst eo10))
 (try simp only [Act.put, List.setIfInBounds_toArray, List.set_cons_zero, List.set_cons_succ])
 go_cut [26] (fun v26 wc => ∃ (kq : Nat) (x26_4 : Bool), v26 = .bool x26_4 ∧ Aside0 (impl_SheetFits.j0 kq l2 x26_4 t246 t247 t250 t251 = some r) ∧ Aside0 (kq ≤ k) ∧ Aside0 (Kd.R (Kd.int .i64) 3 wc w.heap.size (fun _ => True) (.slice Ao9 t247.length co9) t247) ∧ Aside0 (Kd.R Kd.string 9 wc w.heap.size (fun _ => True) (.slice Ao10 t251.length co10) t251) ∧ Aside0 (wc.heap[gb255]? = some (.cells #[.string t246, (.slice Ao9 t247.length co9), .bool t250, (.slice Ao10 t251.length co10)] 36 (0, 0))) ∧ Aside0 (Below w.heap.size w wc))
 case first =>
  have H := HC5.out
  clear HC5
  by_cases c11 : t254 < 0
  ·rw [if_pos c11] at H
   have c11b0 : decide (t254 < 0) = true := decide_eq_true c11
   clear c11
   (first | rw [c11b0] | (simp only [i64_w, i32_w]; rw [c11b0]) | skip)
   have H' := Aside0.mk H
   clear H
   go_wp2
   go_meet
   case rel => exact ⟨_, (true), (by first | rfl | (simp; done) | (simp [*]; done)), H', ⟨by first | omega | exact Nat.le_refl _⟩, ⟨by (with_reducible repeat (first | apply Kd.R_alloc | apply Kd.R_drewN | apply Kd.R_drew)); exact Kd.R_mono (Kd.R_far (p := ⟨gb255, 3, none⟩) (Kd.R_far (p := ⟨gb255, 2, none⟩) (Kd.R_far (p := ⟨gb255, 1, none⟩) (Kd.R_far (p := ⟨gb255, 0, none⟩) (Kd.R_types HO249.out BK255.out (by decide)) (fun _ hk => hk.2) (.string t246)) (fun _ hk => hk.2) (.slice Ao9 t247.length co9)) (fun _ hk => hk.2) (.bool t250)) (fun _ hk => hk.2) (.slice Ao10 t251.length co10)) (fun _ hk => trivial)⟩, ⟨by (with_reducible repeat (first | apply Kd.R_alloc | apply Kd.R_drewN | apply Kd.R_drew)); exact Kd.R_mono (Kd.R_far (p := ⟨gb255, 3, none⟩) (Kd.R_far (p := ⟨gb255, 2, none⟩) (Kd.R_far (p := ⟨gb255, 1, none⟩) (Kd.R_far (p := ⟨gb255, 0, none⟩) (Kd.R_types HO253.out BK255.out (by decide)) (fun _ hk => hk.2) (.string t246)) (fun _ hk => hk.2) (.slice Ao9 t247.length co9)) (fun _ hk => hk.2) (.bool t250)) (fun _ hk => hk.2) (.slice Ao10 t251.length co10)) (fun _ hk => trivial)⟩, ⟨by (with_reducible repeat (first | refine blk_drewN ?_ _ | refine blk_drew ?_ | refine blk_alloc ?_ _)); refine blk_put (cs := #[.string t246, .slice Ao9 t247.length co9, .bool t250, .slice none 0 0]) ?_ 3 _ rfl; (with_reducible repeat (first | refine blk_drewN ?_ _ | refine blk_drew ?_ | refine blk_alloc ?_ _)); refine blk_put (cs := #[.string t246, .slice Ao9 t247.length co9, .bool false, .slice none 0 0]) ?_ 2 _ rfl; (with_reducible repeat (first | refine blk_drewN ?_ _ | refine blk_drew ?_ | refine blk_alloc ?_ _)); refine blk_put (cs := #[.string t246, .slice none 0 0, .bool false, .slice none 0 0]) ?_ 1 _ rfl; (with_reducible repeat (first | refine blk_drewN ?_ _ | refine blk_drew ?_ | refine blk_alloc ?_ _)); refine blk_put (cs := #[.string (⟨#[]⟩ : ByteArray), .slice none 0 0, .bool false, .slice none 0 0]) ?_ 0 _ rfl; (with_reducible repeat (first | refine blk_drewN ?_ _ | refine blk_drew ?_ | refine blk_alloc ?_ _)); exact BK255.out⟩, ⟨by repeat (first | (with_reducible first | exact HB.out | apply below_alloc | apply pw_below_drewN | apply below_drew1 | refine below_set ?_ GE255.out) | exact HB.out)⟩⟩
  ·rw [if_neg c11] at H
   have c11b0 : decide (t254 < 0) = false := decide_eq_false c11
   clear c11
   (first | rw [c11b0] | (simp only [i64_w, i32_w]; rw [c11b0]) | skip)
   have H' := Aside0.mk H
   clear H
   have hcz12_0 : w7.cell? ⟨gb255, 0, none⟩ = some (.string (⟨#[]⟩ : ByteArray)) := (blk_cell BK255.out 0).trans rfl
   have hcz12_1 : w7.cell? ⟨gb255, 1, none⟩ = some (.slice none 0 0) := (blk_cell BK255.out 1).trans rfl
   have hcz12_2 : w7.cell? ⟨gb255, 2, none⟩ = some (.bool false) := (blk_cell BK255.out 2).trans rfl
   have hcz12_3 : w7.cell? ⟨gb255, 3, none⟩ = some (.slice none 0 0) := (blk_cell BK255.out 3).trans rfl
   have hfz12_0 := blk_frozen BK255.out 0
   have hfz12_1 := blk_frozen BK255.out 1
   have hfz12_2 := blk_frozen BK255.out 2
   have hfz12_3 := blk_frozen BK255.out 3
   go_wp2
   go_meet
   case rel => exact ⟨_, (((l2.length : Int) != (t247.length : Int))), (by first | rfl | (simp; done) | (simp [*]; done)), H', ⟨by first | omega | exact Nat.le_refl _⟩, ⟨by (with_reducible repeat (first | apply Kd.R_alloc | apply Kd.R_drewN | apply Kd.R_drew)); exact Kd.R_mono (Kd.R_far (p := ⟨gb255, 3, none⟩) (Kd.R_far (p := ⟨gb255, 2, none⟩) (Kd.R_far (p := ⟨gb255, 1, none⟩) (Kd.R_far (p := ⟨gb255, 0, none⟩) (Kd.R_types HO249.out BK255.out (by decide)) (fun _ hk => hk.2) (.string t246)) (fun _ hk => hk.2) (.slice Ao9 t247.length co9)) (fun _ hk => hk.2) (.bool t250)) (fun _ hk => hk.2) (.slice Ao10 t251.length co10)) (fun _ hk => trivial)⟩, ⟨by (with_reducible repeat (first | apply Kd.R_alloc | apply Kd.R_drewN | apply Kd.R_drew)); exact Kd.R_mono (Kd.R_far (p := ⟨gb255, 3, none⟩) (Kd.R_far (p := ⟨gb255, 2, none⟩) (Kd.R_far (p := ⟨gb255, 1, none⟩) (Kd.R_far (p := ⟨gb255, 0, none⟩) (Kd.R_types HO253.out BK255.out (by decide)) (fun _ hk => hk.2) (.string t246)) (fun _ hk => hk.2) (.slice Ao9 t247.length co9)) (fun _ hk => hk.2) (.bool t250)) (fun _ hk => hk.2) (.slice Ao10 t251.length co10)) (fun _ hk => trivial)⟩, ⟨by (with_reducible repeat (first | refine blk_drewN ?_ _ | refine blk_drew ?_ | refine blk_alloc ?_ _)); refine blk_put (cs := #[.string t246, .slice Ao9 t247.length co9, .bool t250, .slice none 0 0]) ?_ 3 _ rfl; (with_reducible repeat (first | refine blk_drewN ?_ _ | refine blk_drew ?_ | refine blk_alloc ?_ _)); refine blk_put (cs := #[.string t246, .slice Ao9 t247.length co9, .bool false, .slice none 0 0]) ?_ 2 _ rfl; (with_reducible repeat (first | refine blk_drewN ?_ _ | refine blk_drew ?_ | refine blk_alloc ?_ _)); refine blk_put (cs := #[.string t246, .slice none 0 0, .bool false, .slice none 0 0]) ?_ 1 _ rfl; (with_reducible repeat (first | refine blk_drewN ?_ _ | refine blk_drew ?_ | refine blk_alloc ?_ _)); refine blk_put (cs := #[.string (⟨#[]⟩ : ByteArray), .slice none 0 0, .bool false, .slice none 0 0]) ?_ 0 _ rfl; (with_reducible repeat (first | refine blk_drewN ?_ _ | refine blk_drew ?_ | refine blk_alloc ?_ _)); exact BK255.out⟩, ⟨by repeat (first | (with_reducible first | exact HB.out | apply below_alloc | apply pw_below_drewN | apply below_drew1 | refine below_set ?_ GE255.out) | exact HB.out)⟩⟩
 case rest =>
  clear HC5
  try clear c1
  try clear c2
  try clear p2
  try clear c6
  try clear c11
  try clear c11b0
  try clear hcz12_0
  try clear hcz12_1
  try clear hcz12_2
  try clear hcz12_3
  try clear hcz8_0
  try clear hcz8_1
  try clear hcz8_2
  try clear hcz8_3
  try clear hfz12_0
  try clear hfz12_1
  try clear hfz12_2
  try clear hfz12_3
  try clear hfz8_0
  try clear hfz8_1
  try clear hfz8_2
  try clear hfz8_3
  obtain ⟨kq, x26_4, rfl, HA, HJ4, HO_256001, HO_256003, BK255, HB⟩ := hcut
  cases kq with
  | zero => exact absurd HA.out (by simp [impl_SheetFits.j0])
  | succ kj4 =>
   have H := HA.out
   clear HA
   simp only [impl_SheetFits.j0] at H
   by_cases c13 : x26_4 = true
   ·subst c13
    have H1 : (some false) = some r := by rw [if_pos rfl] at H; exact H
    clear H
    have H := H1
    clear H1
    obtain rfl := Option.some.inj H
    go_wp2
    go_ret
    exact ⟨by first | rfl | (simp [errW_none, errW_some] <;> rfl) | (simp [*, errW_none, errW_some] <;> rfl), by repeat (first | (with_reducible first | exact HB.out | apply below_alloc | apply pw_below_drewN | apply below_drew1 | refine below_set ?_ GE255.out) | exact HB.out)⟩
   ·replace c13 := Bool.eq_false_iff.mpr c13
    subst c13
    have H1 : (impl_SheetFits.l0 kj4 l2 t247 (t247.length : Int) 0) = some r := by rw [if_neg (show ¬ (false = true) by decide)] at H; exact H
    clear H
    have H := H1
    clear H1
    have H' := Aside0.mk H
    clear H
    have hcz14_0 : wc.cell? ⟨gb255, 0, none⟩ = some (.string t246) := (blk_cell BK255.out 0).trans rfl
    have hcz14_1 : wc.cell? ⟨gb255, 1, none⟩ = some (.slice Ao9 t247.length co9) := (blk_cell BK255.out 1).trans rfl
    have hcz14_2 : wc.cell? ⟨gb255, 2, none⟩ = some (.bool t250) := (blk_cell BK255.out 2).trans rfl
    have hcz14_3 : wc.cell? ⟨gb255, 3, none⟩ = some (.slice Ao10 t251.length co10) := (blk_cell BK255.out 3).trans rfl
    have hfz14_0 := blk_frozen BK255.out 0
    have hfz14_1 := blk_frozen BK255.out 1
    have hfz14_2 := blk_frozen BK255.out 2
    have hfz14_3 := blk_frozen BK255.out 3
    go_wp2
    go_loopg [30] kj4 (fun kq v30 w' => ∃ (x30_2 : Int), v30 = .int .i64 x30_2 ∧ Aside0 (impl_SheetFits.l0 kq l2 t247 (t247.length : Int) x30_2 = some r) ∧ Aside0 (kq ≤ kj4) ∧ Aside0 (Kd.R (Kd.int .i64) 3 w' w.heap.size (fun _ => True) (.slice Ao9 t247.length co9) t247) ∧ Aside0 (Kd.R (Kd.int .i64) 3 w' w.heap.size (fun _ => True) (.slice Ao9 t247.length co9) t247) ∧ Aside0 (Kd.R Kd.string 9 w' w.heap.size (fun _ => True) (.slice Ao10 t251.length co10) t251) ∧ Aside0 (w'.heap[gb255]? = some (.cells #[.string t246, (.slice Ao9 t247.length co9), .bool t250, (.slice Ao10 t251.length co10)] 36 (0, 0))) ∧ Aside0 (Below w.heap.size w w'))
    case atStart => exact ⟨(0), (by first | rfl | (simp; done) | (simp [*]; done)), H', ⟨Nat.le_refl _⟩, ⟨by (with_reducible repeat (first | apply Kd.R_alloc | apply Kd.R_drewN | apply Kd.R_drew)); exact HO_256001.out⟩, ⟨by (with_reducible repeat (first | apply Kd.R_alloc | apply Kd.R_drewN | apply Kd.R_drew)); exact HO_256001.out⟩, ⟨by (with_reducible repeat (first | apply Kd.R_alloc | apply Kd.R_drewN | apply Kd.R_drew)); exact HO_256003.out⟩, ⟨by (with_reducible repeat (first | refine blk_drewN ?_ _ | refine blk_drew ?_ | refine blk_alloc ?_ _)); exact BK255.out⟩, ⟨by repeat (first | (with_reducible first | exact HB.out | apply below_alloc | apply pw_below_drewN | apply below_drew1 | refine below_set ?_ GE255.out) | exact HB.out)⟩⟩
    case round =>
     clear H'
     try clear c1
     try clear c2
     try clear p2
     try clear c6
     try clear c11
     try clear c11b0
     try clear c13
     try clear hcz12_0
     try clear hcz12_1
     try clear hcz12_2
     try clear hcz12_3
     try clear hcz14_0
     try clear hcz14_1
     try clear hcz14_2
     try clear hcz14_3
     try clear hcz8_0
     try clear hcz8_1
     try clear hcz8_2
     try clear hcz8_3
     try clear hfz12_0
     try clear hfz12_1
     try clear hfz12_2
     try clear hfz12_3
     try clear hfz14_0
     try clear hfz14_1
     try clear hfz14_2
     try clear hfz14_3
     try clear hfz8_0
     try clear hfz8_1
     try clear hfz8_2
     try clear hfz8_3
     try clear p2
     obtain ⟨x30_2, rfl, HA, HK2, HO_28, HO_256001, HO_256003, BK255, HB⟩ := hrel
     cases gk with
     | zero => exact absurd HA.out (by simp [impl_SheetFits.l0])
     | succ k2 =>
      have H := HA.out
      clear HA
      simp only [impl_SheetFits.l0] at H
      by_cases c15 : x30_2 < (t247.length : Int)
      ·rw [if_pos c15] at H
       have c15b0 : decide (x30_2 < (t247.length : Int)) = true := decide_eq_true c15
       clear c15
       by_cases c16 : 0 ≤ x30_2
       ·rw [if_pos c16] at H
        have c16b0 : decide (0 ≤ x30_2) = true := decide_eq_true c16
        clear c16
        by_cases c17 : x30_2 < (t247.length : Int)
        ·rw [if_pos c17] at H
         have c17b0 : decide (x30_2 < (t247.length : Int)) = true := decide_eq_true c17
         clear c17
         by_cases c18 : x30_2 < (l2.length : Int)
         ·rw [if_pos c18] at H
          have c18b0 : decide (x30_2 < (l2.length : Int)) = true := decide_eq_true c18
          clear c18
          replace H := Option.bind_eq_some_iff.mp H
          obtain ⟨t258, A190, H⟩ := H
          replace H : (if t258 = true then (impl_SheetFits.l0 k2 l2 t247 (t247.length : Int) (wrap64 (x30_2 + 1))) else (some false)) = some r := H
          have A19 := Aside0.mk A190
          clear A190
          by_cases c20 : t258 = true
          ·subst c20
           have H1 : (impl_SheetFits.l0 k2 l2 t247 (t247.length : Int) (wrap64 (x30_2 + 1))) = some r := by rw [if_pos rfl] at H; exact H
           clear H
           have H := H1
           clear H1
           have H' := Aside0.mk H
           clear H
           have p256 : 0 ≤ (x30_2 : Int) := of_decide_eq_true (by first | (with_reducible assumption) | assumption)
           have q256 : x30_2 < (t247.length : Int) := of_decide_eq_true (by first | (with_reducible assumption) | assumption)
           obtain ⟨ad256, e256, hx256_0⟩ := Kd.at_int (Kd.R_reads' HO_28.out).2.2 x30_2 p256 q256
           cases e256
           replace p256 := eq_true p256
           replace q256 := eq_true q256
           have p257 : 0 ≤ (x30_2 : Int) := of_decide_eq_true (by first | (with_reducible assumption) | assumption)
           have q257 : x30_2 < (l2.length : Int) := of_decide_eq_true (by first | (with_reducible assumption) | assumption)
           obtain ⟨ad257, e257, hx257_0⟩ := Kd.at_string HR2.out x30_2 p257 q257
           cases e257
           (try replace hx257_0 := (HB.out.cell (World.block_lt_of_cell? w _ hx257_0)).trans hx257_0)
           replace p257 := eq_true p257
           replace q257 := eq_true q257
           go_wp2_with (first | ((with_reducible refine gate_callee (f := 65) rfl ?_); refine goesL_ (some 40) rfl rfl Tryd.func65 (by kernel_rfl) rfl #[.int .i64 (rd t247 x30_2), .string (rdOf ByteArray.empty l2 x30_2)] rfl (by (try simp only [List.map_toArray, List.map_cons, List.map_nil]); first | done | rfl | (simp only [List.length_drop, List.length_take]; rfl)) ?_; (with_reducible refine (impl_isType.calls k2 (rd t247 x30_2) (rdOf ByteArray.empty l2 x30_2) true _ A19.out).mono ?_); rintro e w' ⟨rfl, ⟨nd, rfl⟩⟩; refine ⟨_, rfl, ?_⟩))
           go_roundg k2
           case measure => have := HJ4.out; have := HK2.out; omega
           case rel => exact ⟨(wrap64 (x30_2 + 1)), (by first | rfl | (simp; done) | (simp [*]; done)), H', ⟨by have := HJ4.out; have := HK2.out; omega⟩, ⟨by (with_reducible repeat (first | apply Kd.R_alloc | apply Kd.R_drewN | apply Kd.R_drew)); exact HO_28.out⟩, ⟨by (with_reducible repeat (first | apply Kd.R_alloc | apply Kd.R_drewN | apply Kd.R_drew)); exact HO_256001.out⟩, ⟨by (with_reducible repeat (first | apply Kd.R_alloc | apply Kd.R_drewN | apply Kd.R_drew)); exact HO_256003.out⟩, ⟨by (with_reducible repeat (first | refine blk_drewN ?_ _ | refine blk_drew ?_ | refine blk_alloc ?_ _)); exact BK255.out⟩, ⟨by repeat (first | (with_reducible first | exact HB.out | apply below_alloc | apply pw_below_drewN | apply below_drew1 | refine below_set ?_ GE255.out) | exact HB.out)⟩⟩
          ·replace c20 := Bool.eq_false_iff.mpr c20
           subst c20
           have H1 : (some false) = some r := by rw [if_neg (show ¬ (false = true) by decide)] at H; exact H
           clear H
           have H := H1
           clear H1
           obtain rfl := Option.some.inj H
           have p256 : 0 ≤ (x30_2 : Int) := of_decide_eq_true (by first | (with_reducible assumption) | assumption)
           have q256 : x30_2 < (t247.length : Int) := of_decide_eq_true (by first | (with_reducible assumption) | assumption)
           obtain ⟨ad256, e256, hx256_0⟩ := Kd.at_int (Kd.R_reads' HO_28.out).2.2 x30_2 p256 q256
           cases e256
           replace p256 := eq_true p256
           replace q256 := eq_true q256
           have p257 : 0 ≤ (x30_2 : Int) := of_decide_eq_true (by first | (with_reducible assumption) | assumption)
           have q257 : x30_2 < (l2.length : Int) := of_decide_eq_true (by first | (with_reducible assumption) | assumption)
           obtain ⟨ad257, e257, hx257_0⟩ := Kd.at_string HR2.out x30_2 p257 q257
           cases e257
           (try replace hx257_0 := (HB.out.cell (World.block_lt_of_cell? w _ hx257_0)).trans hx257_0)
           replace p257 := eq_true p257
           replace q257 := eq_true q257
           go_wp2_with (first | ((with_reducible refine gate_callee (f := 65) rfl ?_); refine goesL_ (some 40) rfl rfl Tryd.func65 (by kernel_rfl) rfl #[.int .i64 (rd t247 x30_2), .string (rdOf ByteArray.empty l2 x30_2)] rfl (by (try simp only [List.map_toArray, List.map_cons, List.map_nil]); first | done | rfl | (simp only [List.length_drop, List.length_take]; rfl)) ?_; (with_reducible refine (impl_isType.calls k2 (rd t247 x30_2) (rdOf ByteArray.empty l2 x30_2) false _ A19.out).mono ?_); rintro e w' ⟨rfl, ⟨nd, rfl⟩⟩; refine ⟨_, rfl, ?_⟩))
           go_ret
           exact ⟨by first | rfl | (simp [errW_none, errW_some] <;> rfl) | (simp [*, errW_none, errW_some] <;> rfl), by repeat (first | (with_reducible first | exact HB.out | apply below_alloc | apply pw_below_drewN | apply below_drew1 | refine below_set ?_ GE255.out) | exact HB.out)⟩
         ·rw [if_neg c18] at H
          exact absurd H (by simp)
        ·rw [if_neg c17] at H
         exact absurd H (by simp)
       ·rw [if_neg c16] at H
        exact absurd H (by simp)
      ·rw [if_neg c15] at H
       have c15b0 : decide (x30_2 < (t247.length : Int)) = false := decide_eq_false c15
       clear c15
       obtain rfl := Option.some.inj H
       go_wp2
       go_ret
       exact ⟨by first | rfl | (simp [errW_none, errW_some] <;> rfl) | (simp [*, errW_none, errW_some] <;> rfl), by repeat (first | (with_reducible first | exact HB.out | apply below_alloc | apply pw_below_drewN | apply below_drew1 | refine below_set ?_ GE255.out) | exact HB.out)⟩
end Go.Proofs.YtmcdnpooclelgaaDoor.PAll
namespace Go.Proofs.YtmcdnpooclelgaaDoor.PAll
open Go.RowKit Go.Proofs.YtmcdnpooclelgaaDoorW.PrintWords
def lookFrom (key : ByteArray) : List S36 → Nat → Option (S36 × Nat)
 | [], _ => none
 | r :: rs, i => if r.f0 = key then some (r, i) else lookFrom key rs (i + 1)
def lookL (kind key : ByteArray) : Option (S36 × Nat) := lookFrom key (rulesL kind) 0
def placeL (kind key : ByteArray) : Int := match lookL kind key with | none => -1 | some (_, i) => i
theorem toList_iff {a b : ByteArray} : a.toList = b.toList ↔ a = b := ⟨bytes_inj, fun h => by rw [h]⟩
theorem rd_drop {rs : List S36} {i : Nat} {r : S36} {t : List S36} (h : rs.drop i = r :: t) : rd_T36 rs (i : Int) = r ∧ i < rs.length ∧ rs.drop (i + 1) = t := by
 have hi : i < rs.length := by
  rcases Nat.lt_or_ge i rs.length with h' | h'
  ·exact h'
  ·rw [List.drop_eq_nil_of_le h'] at h; cases h
 rw [List.drop_eq_getElem_cons hi] at h
 injection h with h1 h2
 refine ⟨?_, hi, h2⟩
 unfold rd_T36
 rw [List.getD_eq_getElem?_getD, Int.toNat_natCast, List.getElem?_eq_getElem hi]
 exact h1
theorem l2Rule_l0 (key : ByteArray) (rs : List S36) (hl : rs.length ≤ 1000) : ∀ (t : List S36) (i : Nat), rs.drop i = t → i ≤ rs.length → Ev (fun k => spec_l2Rule.l0 k key rs i) (match lookFrom key t i with | none => -1 | some (_, i) => (i : Int))
 | [], i, h, hi => Ev.unf (fun _ => some (-1)) (fun k => by
   have : rs.length ≤ i := List.drop_eq_nil_iff.1 h
   simp only [spec_l2Rule.l0]; rw [if_neg (by omega)]) (Ev.now _)
 | r :: t, i, h, hi => by
  obtain ⟨h1, h2, h3⟩ := rd_drop h
  have ih := l2Rule_l0 key rs hl t (i + 1) h3 (by omega)
  have e : wrap64 ((i : Int) + 1) = ((i + 1 : Nat) : Int) := by rw [w64 (by omega) (by omega)]; rfl
  refine Ev.unf (fun k => if r.f0 = key then some (i : Int) else spec_l2Rule.l0 k key rs ((i + 1 : Nat) : Int)) (fun k => ?_) ?_
  ·simp only [spec_l2Rule.l0, toList_iff]
   rw [if_pos (by omega), if_pos (by omega), h1, e]
  ·simp only [lookFrom]
   by_cases q : r.f0 = key
   ·simp only [if_pos q]; exact Ev.now _
   ·simp only [if_neg q]; exact ih
theorem rulesL_len (kind : ByteArray) : (rulesL kind).length ≤ 12 := by
  unfold rulesL; split; · decide
  split; · decide
  split; · decide
  decide
theorem ev_l2Rule (kind key : ByteArray) : Ev (fun k => spec_l2Rule.f k kind key) (placeL kind key) := by
 have hl := rulesL_len kind
 unfold spec_l2Rule.f spec_SheetRules.f
 simp only [Option.bind_some]
 exact l2Rule_l0 key (rulesL kind) (by omega) (rulesL kind) 0 rfl (by omega)
def findR : Option (S36 × Nat) → ByteArray × List Int × Bool × List ByteArray × Int
 | none => (⟨#[]⟩, [], false, [], -1)
 | some (r, i) => (r.f0, r.f1, r.f2, r.f3, (i : Int))
theorem find_l0 (key : ByteArray) (rs : List S36) (hl : rs.length ≤ 1000) : ∀ (t : List S36) (i : Nat), rs.drop i = t → i ≤ rs.length → Ev (fun k => impl_find.l0 k key rs rs.length i) (findR (lookFrom key t i))
 | [], i, h, hi => Ev.unf (fun _ => some (findR none)) (fun k => by
   have : rs.length ≤ i := List.drop_eq_nil_iff.1 h
   simp only [impl_find.l0]; rw [if_neg (by omega)]; rfl) (Ev.now _)
 | r :: t, i, h, hi => by
  obtain ⟨h1, h2, h3⟩ := rd_drop h
  have ih := find_l0 key rs hl t (i + 1) h3 (by omega)
  have e : wrap64 ((i : Int) + 1) = ((i + 1 : Nat) : Int) := by rw [w64 (by omega) (by omega)]; rfl
  refine Ev.unf (fun k => if r.f0 = key then some (findR (some (r, i))) else impl_find.l0 k key rs rs.length ((i + 1 : Nat) : Int)) (fun k => ?_) ?_
  ·simp only [impl_find.l0, toList_iff]
   rw [if_pos (by omega), if_pos (by omega), if_pos (by omega), h1, e]
   rfl
  ·simp only [lookFrom]
   by_cases q : r.f0 = key
   ·simp only [if_pos q]; exact Ev.now _
   ·simp only [if_neg q]; exact ih
theorem ev_find (kind key : ByteArray) : Ev (fun k => impl_find.f k kind key) (findR (lookL kind key)) := by
 have hl := rulesL_len kind
 unfold impl_find.f impl_SheetRules.f
 simp only [Option.bind_some]
 exact find_l0 key (rulesL kind) (by omega) (rulesL kind) 0 rfl (by omega)
theorem lookFrom_mem (key : ByteArray) : ∀ (rs : List S36) (i : Nat) (r : S36) (j : Nat), lookFrom key rs i = some (r, j) → r ∈ rs ∧ r.f0 = key ∧ i ≤ j ∧ rs[j - i]? = some r
 | [], i, r, j, h => by cases h
 | q :: rs, i, r, j, h => by
  simp only [lookFrom] at h
  split at h
  ·injection h with h
   injection h with h1 h2
   subst h1 h2
   rename_i hk
   exact ⟨List.mem_cons_self, hk, Nat.le_refl _, by simp⟩
  ·obtain ⟨h1, h2, h3, h4⟩ := lookFrom_mem key rs (i + 1) r j h
   refine ⟨List.mem_cons_of_mem _ h1, h2, by omega, ?_⟩
   rw [show j - i = (j - (i + 1)) + 1 by omega, List.getElem?_cons_succ]
   exact h4
theorem rules_types (kind : ByteArray) : ∀ r ∈ rulesL kind, r.f1.length ≤ 3 ∧ ∀ t ∈ r.f1, 1 ≤ t ∧ t ≤ 6 := by
  unfold rulesL; split; · unfold rules_team; decide
  split; · unfold rules_berth; decide
  split; · unfold rules_service; decide
  intro r h; cases h
def fitsAll : List Int → List ByteArray → Bool
 | [], _ => true
 | _ :: _, [] => false
 | t :: ts, s :: ss => fitsP t s && fitsAll ts ss
def fitsL (kind key : ByteArray) (ws : List ByteArray) : Bool := match lookL kind key with
 | none => false
 | some (r, _) => decide (ws.length = r.f1.length) && fitsAll r.f1 ws
theorem bt_extract (s : ByteArray) (a b j : Nat) (hb : b ≤ s.size) (hj : j < b - a) : bt (s.extract a b) j = bt s ((a + j : Nat) : Int) := by
 have hs : (s.extract a b).size = b - a := by rw [ByteArray.size_extract]; omega
 unfold bt
 rw [dif_pos (show (j : Int).toNat < (s.extract a b).size by rw [hs]; simpa using hj), dif_pos (show ((a + j : Nat) : Int).toNat < s.size by rw [Int.toNat_natCast]; omega)]
 simp only [Int.toNat_natCast]
 rw [ByteArray.getElem_extract]
theorem numOk_first (s : ByteArray) (h : numOk s = true) : 1 ≤ s.size ∧ 48 ≤ bt s 0 := by
 unfold numOk at h
 simp only [Bool.and_eq_true, decide_eq_true_eq] at h
 obtain ⟨h1, h2, h3, h4⟩ := h
 obtain ⟨n, hn⟩ : ∃ n, s.size = n + 1 := ⟨s.size - 1, by omega⟩
 refine ⟨h1, ?_⟩
 rw [hn] at h4
 simp only [digsV] at h4
 by_cases hb : 48 ≤ bt s ((0 : Nat) : Int) ∧ bt s ((0 : Nat) : Int) ≤ 57
 ·exact hb.1
 ·rw [if_neg hb] at h4; cases h4
theorem prefix_iff (s : ByteArray) (h : 1 ≤ s.size) : ((s.extract 0 1).toList == (⟨#[45]⟩ : ByteArray).toList) = decide (bt s 0 = 45) := by
 rw [Bool.eq_iff_iff, beq_iff_eq, decide_eq_true_eq, toList_iff]
 have hb : bt (⟨#[45]⟩ : ByteArray) 0 = 45 := by decide +kernel
 have e := bt_extract s 0 1 0 h (by omega)
 constructor
 ·intro q; rw [q] at e; exact e.symm.trans hb
 ·intro q
  refine ba_ext (by rw [ByteArray.size_extract]; show min 1 s.size - 0 = 1; omega) (fun j hj => ?_)
  have : j = 0 := by rw [ByteArray.size_extract] at hj; omega
  subst this
  rw [e]
  exact q.trans hb.symm
theorem ev_isType (t : Int) (s : ByteArray) (h1 : 1 ≤ t) (h6 : t ≤ 6) (hs : s.size ≤ 4611686018427387904) : Ev (fun k => impl_isType.f k t s) (fitsP t s) := by
 unfold impl_isType.f fitsP
 by_cases t1 : t = 1
 ·simp only [if_pos t1]; exact Ev.bind (ev_isNumber s) (Ev.now _)
 simp only [if_neg t1]
 by_cases t2 : t = 2
 ·simp only [if_pos t2]
  unfold strings_CutPrefix.f stringslite_CutPrefix.f stringslite_HasPrefix.f
  have hz : ((⟨#[45]⟩ : ByteArray).size : Int) = 1 := rfl
  simp only [hz]
  by_cases z : 1 ≤ s.size
  ·simp only [if_pos (show (s.size : Int) ≥ 1 by omega), if_pos (show (0 : Int) ≤ 1 by omega), if_pos (show (1 : Int) ≤ (s.size : Int) by omega), Option.bind_some, show (1 : Int).toNat = 1 from rfl, prefix_iff s z]
   by_cases m : bt s 0 = 45
   ·have hn : numOk s = false := by rw [Bool.eq_false_iff]; intro h; have := (numOk_first s h).2; omega
    simp only [m, decide_true, if_true, Option.bind_some, hn, Bool.false_or, Bool.true_and]
    refine Ev.bind (ev_isNumber (s.extract 1 s.size)) ?_
    change Ev (fun k => if numOk (tailP s) = true then some (!((tailP s).toList == ([48] : List UInt8))) else some false) _
    cases hq : numOk (tailP s)
    ·simp only [Bool.false_eq_true, if_false, Bool.and_false]; exact Ev.now _
    ·have h2 : 1 < s.size := by have := (numOk_first _ hq).1; unfold tailP at this; rw [ByteArray.size_extract] at this; omega
     simp only [if_true, h2, decide_true, Bool.true_and, Bool.and_true]; exact Ev.now _
   ·simp only [m, decide_false, Bool.false_eq_true, if_false, Option.bind_some, Bool.false_and, Bool.and_false, Bool.or_false]
    refine Ev.bind (ev_isNumber s) ?_
    cases numOk s
    ·exact Ev.now _
    ·exact Ev.now _
  ·have hn : numOk s = false := by rw [Bool.eq_false_iff]; intro h; have := (numOk_first s h).1; omega
   simp only [if_neg (show ¬ (s.size : Int) ≥ 1 by omega), Option.bind_some, Bool.false_eq_true, if_false, hn, Bool.false_or, show decide (1 < s.size) = false from decide_eq_false (by omega), Bool.false_and]
   refine Ev.bind (ev_isNumber s) ?_
   rw [hn]; exact Ev.now _
 simp only [if_neg t2]
 by_cases t3 : t = 3
 ·simp only [if_pos t3]; exact Ev.bind (ev_isName s hs) (Ev.now _)
 simp only [if_neg t3]
 by_cases t4 : t = 4
 ·simp only [if_pos t4]
  rw [show decide ((s.size : Int) ≤ 200) = decide (s.size ≤ 200) by rw [Bool.eq_iff_iff]; simp; omega]
  exact Ev.now _
 simp only [if_neg t4]
 by_cases t5 : t = 5
 ·simp only [if_pos t5]
  by_cases q : s.toList = ([121, 101, 115] : List UInt8)
  ·simp only [if_pos q, q, beq_self_eq_true, Bool.true_or]; exact Ev.now _
  ·simp only [if_neg q, beq_eq_false_iff_ne.2 q, Bool.false_or]; exact Ev.now _
 simp only [if_neg t5]
 by_cases q : s.toList = ([110, 111, 110, 101] : List UInt8)
 ·simp only [if_pos q, q, beq_self_eq_true, Bool.true_or]; exact Ev.now _
 ·simp only [if_neg q, beq_eq_false_iff_ne.2 q, Bool.false_or]
  by_cases q : s.toList = ([98, 101, 114, 116, 104] : List UInt8)
  ·simp only [if_pos q, q, beq_self_eq_true, Bool.true_or]; exact Ev.now _
  ·simp only [if_neg q, beq_eq_false_iff_ne.2 q, Bool.false_or]; exact Ev.now _
theorem fits_l0 (ts : List Int) (ws : List ByteArray) (hl : ts.length ≤ 1000) (he : ws.length = ts.length) (ht : ∀ t ∈ ts, 1 ≤ t ∧ t ≤ 6) (hw : ∀ s ∈ ws, s.size ≤ 4611686018427387904) : ∀ (d i : Nat), i + d = ts.length → Ev (fun k => impl_SheetFits.l0 k ws ts ts.length i) (fitsAll (ts.drop i) (ws.drop i))
 | 0, i, h => by
  refine Ev.unf (fun _ => some true) (fun k => by simp only [impl_SheetFits.l0]; rw [if_neg (by omega)]) ?_
  rw [List.drop_eq_nil_of_le (by omega)]; exact Ev.now _
 | d + 1, i, h => by
  have ih := fits_l0 ts ws hl he ht hw d (i + 1) (by omega)
  have e : wrap64 ((i : Int) + 1) = ((i + 1 : Nat) : Int) := by rw [w64 (by omega) (by omega)]; rfl
  have e1 : rd ts (i : Int) = ts[i]'(by omega) := by unfold rd; rw [List.getD_eq_getElem?_getD, Int.toNat_natCast, List.getElem?_eq_getElem (by omega)]; rfl
  have e2 : rdOf ByteArray.empty ws (i : Int) = ws[i]'(by omega) := by unfold rdOf; rw [List.getD_eq_getElem?_getD, Int.toNat_natCast, List.getElem?_eq_getElem (by omega)]; rfl
  rw [List.drop_eq_getElem_cons (show i < ts.length by omega), List.drop_eq_getElem_cons (show i < ws.length by omega)]
  have hT := ht _ (List.getElem_mem (show i < ts.length by omega))
  have hW := hw _ (List.getElem_mem (show i < ws.length by omega))
  generalize ts[i]'(by omega) = t at *
  generalize ws[i]'(by omega) = s at *
  refine Ev.unf (fun k => (impl_isType.f k t s).bind fun b => if b = true then impl_SheetFits.l0 k ws ts ts.length ((i + 1 : Nat) : Int) else some false) (fun k => ?_) ?_
  ·simp only [impl_SheetFits.l0]
   rw [if_pos (by omega), if_pos (by omega), if_pos (by omega), if_pos (by omega), e1, e2, e]
  ·refine Ev.bind (ev_isType t s hT.1 hT.2 hW) ?_
   simp only [fitsAll]
   cases fitsP t s
   ·exact Ev.now _
   ·simp only [if_true, Bool.true_and]; exact ih
theorem ev_implFits (kind key : ByteArray) (ws : List ByteArray) (hw : ∀ s ∈ ws, s.size ≤ 4611686018427387904) : Ev (fun k => impl_SheetFits.f k kind key ws) (fitsL kind key ws) := by
 unfold impl_SheetFits.f
 refine Ev.bind (ev_find kind key) ?_
 unfold fitsL
 cases hk : lookL kind key with
 | none =>
  change Ev (fun k => if (-1 : Int) < 0 then impl_SheetFits.j0 k ws true ⟨#[]⟩ [] false [] else impl_SheetFits.j0 k ws ((ws.length : Int) != (([] : List Int).length : Int)) ⟨#[]⟩ [] false []) false
  simp only [if_pos (show (-1 : Int) < 0 by omega)]
  exact Ev.unf (fun _ => some false) (fun k => by simp only [impl_SheetFits.j0, if_true]) (Ev.now _)
 | some q =>
  obtain ⟨r, i⟩ := q
  obtain ⟨hm, _⟩ := lookFrom_mem key _ _ _ _ hk
  obtain ⟨hl, ht⟩ := rules_types kind r hm
  change Ev (fun k => if (i : Int) < 0 then impl_SheetFits.j0 k ws true r.f0 r.f1 r.f2 r.f3 else impl_SheetFits.j0 k ws ((ws.length : Int) != (r.f1.length : Int)) r.f0 r.f1 r.f2 r.f3) _
  simp only [if_neg (show ¬ (i : Int) < 0 by omega)]
  by_cases he : ws.length = r.f1.length
  ·have hb : ((ws.length : Int) != (r.f1.length : Int)) = false := by simp [he]
   rw [hb]
   refine Ev.unf (fun k => impl_SheetFits.l0 k ws r.f1 r.f1.length ((0 : Nat) : Int)) (fun k => by simp only [impl_SheetFits.j0, Bool.false_eq_true, if_false]; rfl) ?_
   simp only [he, decide_true, Bool.true_and]
   exact fits_l0 r.f1 ws (by omega) he ht hw r.f1.length 0 (by omega)
  ·have hb : ((ws.length : Int) != (r.f1.length : Int)) = true := by simp; omega
   rw [hb]
   simp only [he, decide_false, Bool.false_and]
   exact Ev.unf (fun _ => some false) (fun k => by simp only [impl_SheetFits.j0, if_true]) (Ev.now _)
set_option maxRecDepth 100000 in
set_option maxHeartbeats 2000000 in
theorem specFits_any (kind key : ByteArray) (A : Option Addr) (c : Nat) (ws : List ByteArray) (w : World) (hr : Kd.C Kd.string w A ws.length ws) :
  Calls Tryd.prog 19 #[.string kind, .string key, .slice A ws.length c] w fun e w' => e = .returned (.bool (fitsL kind key ws)) ∧ Below w.heap.size w w' := by
 obtain ⟨K1, hk1⟩ := ev_l2Rule kind key
 have hlen := rulesL_len kind
 have HR := Aside0.mk hr
 have hwl : ws.length ≤ 9223372036854775807 := hr.2.1
 clear hr
 have HK1 := Aside0.mk (hk1 K1 (Nat.le_refl _))
 clear hk1
 cases hk : lookL kind key with
 | none =>
  have HF : Aside0 (fitsL kind key ws = false) := ⟨by unfold fitsL; rw [hk]⟩
  have HP : Aside0 (placeL kind key = -1) := ⟨by unfold placeL; rw [hk]⟩
  clear hk
  go_enter Tryd.func19, Tryd.ntmps19
  go_wp2_with fail
  refine (spec_l2Rule.calls K1 kind key _ _ HK1.out).mono ?_
  rw [HP.out]
  rintro e w1 ⟨rfl, hb1⟩
  go_wp2
  go_ret
  exact ⟨retB HF.out.symm, hb1⟩
 | some q =>
  obtain ⟨r, i⟩ := q
  obtain ⟨hm, _, _, hget⟩ := lookFrom_mem key _ _ _ _ hk
  obtain ⟨hl3, ht⟩ := rules_types kind r hm
  have hil : i < (rulesL kind).length := by have := (List.getElem?_eq_some_iff.1 hget).1; omega
  have HF : Aside0 (fitsL kind key ws = (decide (ws.length = r.f1.length) && fitsAll r.f1 ws)) := ⟨by unfold fitsL; rw [hk]⟩
  have HP : Aside0 (placeL kind key = (i : Int)) := ⟨by unfold placeL; rw [hk]⟩
  have HG : Aside0 (rd_T36 (rulesL kind) (i : Int) = r) := ⟨by unfold rd_T36; rw [List.getD_eq_getElem?_getD, Int.toNat_natCast, show (rulesL kind)[i]? = some r by simpa using hget]; rfl⟩
  clear hk hget hm
  go_enter Tryd.func19, Tryd.ntmps19
  go_wp2_with fail
  refine (spec_l2Rule.calls K1 kind key _ _ HK1.out).mono ?_
  rw [HP.out]
  rintro e w1 ⟨rfl, hb1⟩
  go_wp2_with fail
  refine (spec_SheetRules.calls kind _ _ rfl).mono ?_
  rintro e w2 ⟨v, rfl, ho, hb2⟩
  obtain ⟨A2, c2, rfl, _, hC⟩ := Kd.R_reads ho
  generalize rulesL kind = rs at *
  obtain ⟨ad, A1, c1, A3, c3, rfl, hx0, hx1, hx2, hx3, hl1, hC1, hl3', hC3⟩ := at_T36 hC (i : Int) (by omega) (by omega)
  rw [HG.out, Int.toNat_natCast] at hx1
  rw [HG.out] at hl1 hC1
  have HC1 := Aside0.mk hC1
  have B2 := Aside0.mk (hb1.trans (hb2.mono hb1.size))
  clear hC1 hC3 hx0 hx2 hx3 hl3' hl1 ho hb1 hb2 hC
  obtain ⟨ts, hts⟩ : ∃ ts, ts = r.f1 := ⟨_, rfl⟩
  rw [← hts] at hx1 HC1 hl3 ht HF
  have HT := Aside0.mk ht
  clear ht hts HG HK1 HP
  by_cases he : ws.length = ts.length
  ·have e1 : ((ts.length : Int) != (ws.length : Int)) = false := by simp [he]
   have e2 : (ts.length != ws.length) = false := by simp [he]
   have HE := Lib.hid he
   clear he
   go_wp2
   go_loopw [9] (fun v wr => ∃ k : Nat, v = .int .i64 k ∧ k ≤ ts.length ∧ Below w.heap.size w wr ∧ Aside0 (Below w2.heap.size w2 wr) ∧ Aside0 (fitsAll ts ws = fitsAll (ts.drop k) (ws.drop k))) (fun v _ => ts.length - (intOf v).toNat)
   case atStart => exact ⟨0, rfl, Nat.zero_le _, B2.out, ⟨Below.refl _ _⟩, ⟨rfl⟩⟩
   case round =>
    obtain ⟨k, rfl, hk, hB, hB2, hf⟩ := hrel
    by_cases hlt : k < ts.length
    ·have hlt2 : k < ws.length := by rw [HE.out]; exact hlt
     have i1 : (k : Int) < (ws.length : Int) := by omega
     have hB3 := hB2.out
     obtain ⟨ad1, rfl, hc1⟩ := Kd.at_int (Kd.C_below HC1.out hB3) (k : Int) (by omega) (by omega)
     obtain ⟨ad2, rfl, hc2⟩ := Kd.at_string (Kd.C_below (Kd.C_below HR.out B2.out) hB3) (k : Int) (by omega) (by omega)
     rw [Int.toNat_natCast] at hc1 hc2
     have g1 : rd ts (k : Int) = ts[k] := by unfold rd; rw [List.getD_eq_getElem?_getD, Int.toNat_natCast, List.getElem?_eq_getElem hlt]; rfl
     have g2 : rdOf ByteArray.empty ws (k : Int) = ws[k] := by unfold rdOf; rw [List.getD_eq_getElem?_getD, Int.toNat_natCast, List.getElem?_eq_getElem hlt2]; rfl
     rw [g1] at hc1
     rw [g2] at hc2
     have hT := HT.out _ (List.getElem_mem hlt)
     have hstep := hf.out
     rw [List.drop_eq_getElem_cons hlt, List.drop_eq_getElem_cons hlt2] at hstep
     simp only [fitsAll] at hstep
     generalize ts[k] = t at *
     generalize ws[k] = x at *
     obtain ⟨K2, hk2⟩ := ev_l2Fits t x hT.1 hT.2
     have HK2 := Aside0.mk (hk2 K2 (Nat.le_refl _))
     clear hk2 g1 g2 hf hT
     cases hb : fitsP t x
     all_goals
      rw [hb] at hstep HK2
      have hstep := Aside0.mk hstep
      rename_i hstep0
      clear hstep0 hb
      go_wp2_with fail
      go_region_held3 (fun w' => w'.cell? (ad1.add k) = some (.int .i64 t) ∧ w'.cell? (ad2.add k) = some (.string x)) (first | go_keep | exact ⟨pw_cell_below hbl (by simpa using hc1), pw_cell_below hbl (by simpa using hc2)⟩) (first | (go_at_call 63; refine (spec_l2Fits.calls K2 t x _ _ HK2.out).mono ?_; rintro e w3 ⟨rfl, hbl⟩))
      have hBn : Below w.heap.size w w3 := (below_drew hB).trans (hbl.mono hB.size)
     ·have HF2 : Aside0 (fitsL kind key ws = false) := ⟨by rw [HF.out, hstep.out]; simp⟩
      go_wp2
      go_ret
      exact ⟨retB HF2.out.symm, hBn⟩
     ·have hBm := Aside0.mk ((below_drew hB3).trans (hbl.mono hB3.size))
      have hS : Aside0 (fitsAll ts ws = fitsAll (ts.drop (k + 1)) (ws.drop (k + 1))) := ⟨by rw [hstep.out, Bool.true_and]⟩
      go_wp2
      go_roundw
      case rel => exact ⟨k + 1, by go_num, hlt, hBn, hBm, hS⟩
      case measure => simp [intOf]; omega
    ·obtain rfl : k = ts.length := by omega
     have HF2 : Aside0 (fitsL kind key ws = true) := ⟨by rw [HF.out, hf.out, List.drop_length, HE.out]; simp [fitsAll]⟩
     go_wp2
     go_ret
     exact ⟨retB HF2.out.symm, hB⟩
  ·have e1 : ((ts.length : Int) != (ws.length : Int)) = true := by simp; omega
   have e2 : (ts.length != ws.length) = true := by simp; omega
   have HF2 : Aside0 (fitsL kind key ws = false) := ⟨by rw [HF.out, decide_eq_false he]; rfl⟩
   clear he
   go_wp2
   go_ret
   exact ⟨retB HF2.out.symm, B2.out⟩
theorem inc {i : Nat} (h : i < 9223372036854775807) : wrap64 ((i : Int) + 1) = ((i + 1 : Nat) : Int) := by rw [w64 (by omega) (by omega)]; rfl
theorem ones_cells {α : Type} {enc : α → Value} {h1 : ∀ x, (enc x).oneCell' = true} {w : World} {b : Nat} : ∀ (vss : List (List Value)) (xs : List α) (F : List Nat), Els (.one enc h1) w b vss xs F → vss = xs.map (fun x => [enc x]) ∧ F = []
 | [], [], F, h => ⟨rfl, h⟩
 | vs :: vss, x :: xs, F, h => by
  obtain ⟨G, H, rfl, ⟨h1, h2⟩, h3, _⟩ := h
  obtain ⟨h4, h5⟩ := ones_cells vss xs H h3
  exact ⟨by rw [h1, h4]; rfl, by rw [h2, h5]; rfl⟩
theorem ones_ER {α : Type} {enc : α → Value} {h1 : ∀ x, (enc x).oneCell' = true} {e : TypeId} {w : World} {b : Nat} {v : Value} {xs : List α} {F : List Nat} : (Sh.row (.one enc h1) e).ow w b [v] xs F ↔ ER enc w b e v xs ∧ F = v.ownBlock.toList := by
 constructor
 ·rintro ⟨v', vss, Gs, hv, ho, he, rfl, _⟩
  injection hv with hv _
  subst hv
  obtain ⟨rfl, rfl⟩ := ones_cells _ _ _ he
  rw [ones_flat] at ho
  exact ⟨ho, by simp⟩
 ·rintro ⟨ho, rfl⟩
  exact ⟨v, _, [], rfl, by rw [ones_flat]; exact ho, Els.ones enc h1 w b xs, by simp, by simp⟩
theorem strs_ER {w : World} {b : Nat} {v : Value} {xs : List ByteArray} {F : List Nat} : strsS.ow w b [v] xs F ↔ ER Value.string w b 9 v xs ∧ F = v.ownBlock.toList := ones_ER
theorem own_form {α : Type} {A : Sh α} {e : TypeId} {w : World} {b : Nat} {v : Value} {xs : List α} {F : List Nat} (h : (Sh.row A e).ow w b [v] xs F) : ∃ Ad c, v = .slice Ad xs.length c := by
 obtain ⟨Ad, c, hv, _⟩ := (Sh.row A e).ord h
 injection hv with hv _
 exact ⟨Ad, c, hv⟩
section
variable {w w' : World} {b : Nat} {v av dv : Value} {ys : List S36} {F : List Nat} {j g c : Nat} {s0 : ByteArray} {n0 : List Int} {m0 : Bool} {d0 : List ByteArray} {G : List Nat}
end
theorem upd_in {F bs : List Nat} {w w1 w2 : World} (h : Upd F w w1) (k : Upd bs w1 w2) (hb : ∀ y ∈ bs, y ∈ F) : Upd F w w2 := h.trans k (fun y hy _ => hb y hy)
def lineS : Sh S83 := .iso (.pair strS strsS) (fun x : S83 => (x.f0, x.f1))
section
variable {w w' : World} {b : Nat} {v dv lv : Value} {ys : List S83} {bs : List S62} {F : List Nat} {j g c : Nat} {s0 s1 : ByteArray} {d0 : List ByteArray} {l0 : List S83} {G : List Nat}
end
def cntKey (key : ByteArray) : List S83 → Nat
 | [] => 0
 | l :: ls => (if l.f0 = key then 1 else 0) + cntKey key ls
structure BW (w : World) where
 w' : World
 h : Below w.heap.size w w'
instance (w : World) : Nonempty (BW w) := ⟨⟨w, Below.refl _ _⟩⟩
theorem wp_region_below {P : Program} {id : Nat} {Q : Exit → Act → World → Prop} {a : Act} {w : World} {l : List Oper} (hm : P.follows .mixedOrders = true) (hB : Region.lexB .any l.toArray = true)
  (h : wpQuiet P l.toArray (fun w' => ∃ p : BW w, w' = p.w') (fun a' => ∀ w', (∃ p : BW w, w' = p.w') → Q .normal a' w') l a) : (Code.region id l.toArray true).wp P Q a w :=
 wp_region_quiet (C := fun w' => ∃ p : BW w, w' = p.w') hm hB ⟨⟨w.drew, below_drew (Below.refl _ _)⟩, rfl⟩ (by simpa using h)
theorem quiet_off {c : Prop} [Decidable c] {A B : Prop} (h : c → (none : Option Bool) = some true) (b : B) : if c then A else B := by rw [if_neg (fun x => nomatch h x)]; exact b
theorem BW.cell {w : World} {a : Addr} {v : Value} (h : w.cell? a = some v) (p : BW w) : p.w'.cell? a = some v := pw_cell_below p.h h
theorem BW.calls {P : Program} {f : FuncId} {args : Array Value} {w : World} {p : BW w} {v : Value} (h : Calls P f args p.w' fun e w' => e = .returned v ∧ Below p.w'.heap.size p.w' w') : Calls P f args p.w' fun e w'' => e = .returned v ∧ ∃ q : BW w, w'' = q.w' :=
 h.mono fun _ w'' ⟨he, hb⟩ => ⟨he, ⟨w'', p.h.trans (hb.mono p.h.size)⟩, rfl⟩
end Go.Proofs.YtmcdnpooclelgaaDoor.PAll
namespace Go.Proofs.YtmcdnpooclelgaaDoor.PAll
open Go.RowKit Go.Proofs.YtmcdnpooclelgaaDoorW.PrintWords
open Go.WideMaps Go.Maps
def fitB (ls : List S83) : Prop := ls.length ≤ 1099511627776 ∧ ∀ l ∈ ls, l.f0.size ≤ 1099511627776 ∧ l.f1.length ≤ 1099511627776 ∧ ∀ s ∈ l.f1, s.size ≤ 1099511627776
def CntAt (w : World) (b n : Nat) (D : DataW Unit) (ls : List S83) : Prop := w.ownsMap Tryd.prog 9 (plainElem Tryd.prog 3) b n D ∧ IsMap D ∧ ∀ s : ByteArray, s.size ≤ 1099511627776 → D.atKey (.string s.data.toList) (.lit (.int .i64 0)) = .lit (.int .i64 (cntKey s ls))
theorem dataList_inj {a b : ByteArray} (h : a.data.toList = b.data.toList) : a = b := by
 cases a; cases b
 simp only [Array.toList_inj] at h
 rw [h]
theorem CntAt.put {w w' : World} {b n : Nat} {D : DataW Unit} {ls ls' : List S83} {key : ByteArray} {c : Nat} (h : CntAt w b n D ls) (hc : c = cntKey key ls + 1) (hl : ∀ s, cntKey s ls' = cntKey s ls + if key = s then 1 else 0)
  (ho : w'.ownsMap Tryd.prog 9 (plainElem Tryd.prog 3) b (n + 1) (D.put (.string key.data.toList) (.lit (.int .i64 c)))) : CntAt w' b (n + 1) (D.put (.string key.data.toList) (.lit (.int .i64 c))) ls' := by
 obtain ⟨_, h2, h3⟩ := h
 refine ⟨ho, h2.put _ _, fun s hs => ?_⟩
 by_cases q : key = s
 ·subst q
  rw [atKey_put_same h2 (by trivial), hl, hc, if_pos rfl]
 ·rw [atKey_put_other (by intro e; injection e with e; exact q (dataList_inj e).symm), h3 s hs, hl, if_neg q, Nat.add_zero]
theorem CntAt.below {w w' : World} {b n : Nat} {D : DataW Unit} {ls : List S83} (h : CntAt w b n D ls) (hb : Below w.heap.size w w') : CntAt w' b n D ls := by
 obtain ⟨⟨es, cl, h1, h2, h3, h4⟩, h5⟩ := h
 exact ⟨⟨es, cl, by rw [hb.block _ (blk_lt h1)]; exact h1, h2, h3, h4⟩, h5⟩
theorem fits_c (kind key : ByteArray) (A : Option Addr) (c : Nat) (ws : List ByteArray) (w : World) (hr : Kd.string.C w A ws.length ws) (hc : ws.length ≤ c) (hw : ∀ s ∈ ws, s.size ≤ 1099511627776) : Calls Tryd.prog 21 #[.string kind, .string key, .slice A ws.length c] w fun e w' => e = .returned (.bool (fitsL kind key ws)) ∧ Below w.heap.size w w' := by
 obtain ⟨K, hk⟩ := ev_implFits kind key ws (fun s hs => by have := hw s hs; omega)
 exact impl_SheetFits.calls K kind key A c ws _ w hr hc (hk K (Nat.le_refl _))
instance (ls : List S83) : Decidable (fitB ls) := by unfold fitB; infer_instance
end Go.Proofs.YtmcdnpooclelgaaDoor.PAll
namespace Go.Proofs.YtmcdnpooclelgaaDoor.PAll
open Go.RowKit Go.Proofs.YtmcdnpooclelgaaDoorW.PrintWords
def fitBB (bs : List S62) : Prop := ∀ b ∈ bs, b.f0.size ≤ 1099511627776 ∧ b.f1.size ≤ 1099511627776 ∧ fitB b.f2
theorem toList_data (a : ByteArray) : a.toList = a.data.toList := by
 rw [ByteArray.toList_eq]
instance (bs : List S62) : Decidable (fitBB bs) := by unfold fitBB; infer_instance
def ofKey (key : ByteArray) (ls : List S83) : List S83 := ls.filter fun l => decide (l.f0 = key)
def stdLine (r : S36) : S83 := ⟨r.f0, r.f3⟩
def fillR (ls : List S83) (r : S36) : List S83 := if (!r.f2 && (ofKey r.f0 ls).isEmpty) = true then [stdLine r] else ofKey r.f0 ls
abbrev Cut2 := List Value × S83
def SrcL (w : World) (A : Option Addr) (T : List Cut2) : Prop := ∀ (j : Nat) (t : Cut2), T[j]? = some t → ∃ ad B n d, A = some ad ∧ t.1 = [.string t.2.f0, .slice B n d] ∧ w.cell? (ad.add (j * 2)) = some (.string t.2.f0) ∧ w.cell? ⟨(ad.add (j * 2)).block, (ad.add (j * 2)).off + 1, none⟩ = some (.slice B n d)
theorem SrcL.below {w w' : World} {A : Option Addr} {T : List Cut2} (h : SrcL w A T) (hb : Below w.heap.size w w') : SrcL w' A T := fun j t hj => by
 obtain ⟨ad, B, n, d, h1, h2, h3, h4⟩ := h j t hj
 exact ⟨ad, B, n, d, h1, h2, pw_cell_below hb h3, pw_cell_below hb h4⟩
theorem own_shapeN {w : World} {b e k n : Nat} {v : Value} {cs : List Value} (h : w.ownsRow b e k v n cs) : ∃ A d, v = .slice A n d := by
 rcases ownSl h with ⟨rfl, rfl⟩ | ⟨g, c, rfl⟩
 ·exact ⟨_, _, rfl⟩
 ·exact ⟨_, _, rfl⟩
def Half {α : Type} (A : Sh α) (e : TypeId) (z : List Value) (w : World) (b : Nat) (v : Value) (n : Nat) (xs : List α) (Gs : List Nat) : Prop :=
 ∃ vss : List (List Value), xs.length ≤ n ∧ w.ownsRow b e A.k v n (vss.flatten ++ (List.replicate (n - xs.length) z).flatten) ∧ Els A w b vss xs Gs ∧ ∀ g ∈ v.ownBlock.toList, g ∉ Gs
theorem Half.done {α : Type} {A : Sh α} {e : TypeId} {z : List Value} {w : World} {b : Nat} {v : Value} {xs : List α} {Gs : List Nat} (h : Half A e z w b v xs.length xs Gs) : (Sh.row A e).ow w b [v] xs (v.ownBlock.toList ++ Gs) := by
 obtain ⟨vss, _, h1, h2, h3⟩ := h
 rw [Nat.sub_self] at h1
 exact ⟨v, vss, Gs, rfl, by simpa using h1, h2, rfl, h3⟩
theorem Half.below {α : Type} {A : Sh α} {e : TypeId} {z : List Value} {w w' : World} {b n : Nat} {v : Value} {xs : List α} {Gs : List Nat} (h : Half A e z w b v n xs Gs) (hb : Below w.heap.size w w') : Half A e z w' b v n xs Gs := by
 obtain ⟨vss, h0, h1, h2, h3⟩ := h
 exact ⟨vss, h0, own_move h1 (fun k hk => hb.block k (own_lt h1 k hk)), h2.below hb, h3⟩
theorem Half.cell {α : Type} {A : Sh α} {e : TypeId} {z : List Value} {w : World} {b g c n : Nat} {xs : List α} {Gs : List Nat} (h : Half A e z w b (.slice (some ⟨g, 0, none⟩) n c) n xs Gs) (hz : z.length = A.k) (hlt : xs.length < n) (i : Nat) (hi : i < A.k) : w.cell? ⟨g, xs.length * A.k + i, none⟩ = z[i]? ∧ w.frozen? ⟨g, xs.length * A.k + i, none⟩ = false := by
 obtain ⟨vss, h0, h1, h2, h3⟩ := h
 have hf : vss.flatten.length = xs.length * A.k := (Els.mem _ _ _ h2).2.2.2
 have hb : xs.length * A.k + i < n * A.k := by
  have : (xs.length + 1) * A.k ≤ n * A.k := Nat.mul_le_mul_right _ hlt
  rw [Nat.add_mul] at this
  omega
 refine ⟨?_, World.ownsRow.frozenAt h1 _⟩
 rw [World.ownsRow.cellAt h1 (xs.length * A.k + i) hb, List.getElem?_append_right (by omega), hf, Nat.add_sub_cancel_left]
 obtain ⟨m, hm⟩ : ∃ m, n - xs.length = m + 1 := ⟨n - xs.length - 1, by omega⟩
 rw [hm, List.replicate_succ, List.flatten_cons, List.getElem?_append_left (by omega)]
section
variable {α : Type} {A : Sh α} {e : TypeId} {w : World} {b g c n : Nat} {xs : List α} {Gs G : List Nat} {x : α} {z0 z1 z2 u0 u1 u2 : Value}
end
theorem rules_small (kind : ByteArray) : ∀ r ∈ rulesL kind, r.f3.length ≤ 16 := by
 have h1 : rules_team.all (fun r => decide (r.f3.length ≤ 16)) = true := by decide
 have h2 : rules_berth.all (fun r => decide (r.f3.length ≤ 16)) = true := by decide
 have h3 : rules_service.all (fun r => decide (r.f3.length ≤ 16)) = true := by decide
 intro r hr
 unfold rulesL at hr
 split at hr
 ·simpa using List.all_eq_true.1 h1 r hr
 ·split at hr
  ·simpa using List.all_eq_true.1 h2 r hr
  ·split at hr
   ·simpa using List.all_eq_true.1 h3 r hr
   ·cases hr
theorem rdRuleAt {ls : List S36} {i : Nat} {r : S36} (h : ls[i]? = some r) : rd_T36 ls (i : Int) = r := by unfold rd_T36; rw [List.getD_eq_getElem?_getD, Int.toNat_natCast, h]; rfl
theorem rules_words (kind : ByteArray) : ∀ r ∈ rulesL kind, ∀ s ∈ r.f3, s.size ≤ 1048576 := by
 have h1 : rules_team.all (fun r => r.f3.all fun s => decide (s.size ≤ 1048576)) = true := by decide
 have h2 : rules_berth.all (fun r => r.f3.all fun s => decide (s.size ≤ 1048576)) = true := by decide
 have h3 : rules_service.all (fun r => r.f3.all fun s => decide (s.size ≤ 1048576)) = true := by decide
 intro r hr s hs
 unfold rulesL at hr
 split at hr
 ·exact of_decide_eq_true (List.all_eq_true.1 (List.all_eq_true.1 h1 r hr) s hs)
 ·split at hr
  ·exact of_decide_eq_true (List.all_eq_true.1 (List.all_eq_true.1 h2 r hr) s hs)
  ·split at hr
   ·exact of_decide_eq_true (List.all_eq_true.1 (List.all_eq_true.1 h3 r hr) s hs)
   ·cases hr
theorem C_nil {α : Type} (d : Kd α) (w : World) (A : Option Addr) : d.C w A 0 [] := ⟨rfl, by omega, fun hp => absurd hp (by omega)⟩
abbrev PartL := Part S83
def restL (kind : ByteArray) (T : List PartL) (k : Nat) : List PartL := T.filter fun t => decide ((k : Int) ≤ placeL kind t.x.f0)
structure FillAt (w : World) (b : Nat) (kind : ByteArray) (ls : List S83) (T : List PartL) (k : Nat) (v : Value) (N : List PartL) : Prop where
 row : w.ownsRow b 83 2 v N.length (N.map Part.us).flatten
 xs : N.map Part.x = ((rulesL kind).take k).flatMap (fillR ls)
 parts : Parts lineS w b (N ++ restL kind T k)
 away : ∀ g, v.ownBlock = some g → g ∉ (N ++ restL kind T k).flatMap Part.G
theorem parts_move {α : Type} {A : Sh α} {w w' : World} {b : Nat} {T : List (Part α)} (h : Parts A w b T) (hf : ∀ g ∈ T.flatMap Part.G, w'.heap[g]? = w.heap[g]?) : Parts A w' b T :=
 ⟨fun t ht => A.oframe (h.1 t ht) fun g hg => hf g (List.mem_flatMap.2 ⟨t, ht, hg⟩), h.2⟩
theorem parts_lt {α : Type} {A : Sh α} {w : World} {b : Nat} {T : List (Part α)} (h : Parts A w b T) : ∀ g ∈ T.flatMap Part.G, b ≤ g ∧ g < w.heap.size := fun g hg => by
 obtain ⟨t, ht, hg⟩ := List.mem_flatMap.1 hg
 exact A.oin (h.1 t ht) g hg
theorem FillAt.below {w w' : World} {b : Nat} {kind : ByteArray} {ls : List S83} {T : List PartL} {k : Nat} {v : Value} {N : List PartL} (h : FillAt w b kind ls T k v N) (hb : Below w.heap.size w w') : FillAt w' b kind ls T k v N :=
 ⟨own_move h.row (fun g hg => hb.block g (own_lt h.row g hg)), h.xs, parts_move h.parts (fun g hg => hb.block g (parts_lt h.parts g hg).2), h.away⟩
theorem FillAt.step {w w1 : World} {b : Nat} {kind : ByteArray} {ls : List S83} {T : List PartL} {k : Nat} {v v1 : Value} {N : List PartL} (h : FillAt w b kind ls T k v N) {r : S36} (hr : (rulesL kind)[k]? = some r) (Pc : List PartL) (hx : Pc.map Part.x = fillR ls r) (hp : Parts lineS w b (N ++ Pc ++ restL kind T (k + 1))) (haw : ∀ g, v.ownBlock = some g → g ∉ (N ++ Pc ++ restL kind T (k + 1)).flatMap Part.G)
  (ho : w1.ownsRow b 83 2 v1 (N.length + Pc.length) ((N.map Part.us).flatten ++ (Pc.map Part.us).flatten)) (hg : w.grownBy w1 v.ownBlock) (hat : v1.ownBlock = v.ownBlock ∨ ∃ g, v1.ownBlock = some g ∧ w.heap.size ≤ g) : FillAt w1 b kind ls T (k + 1) v1 (N ++ Pc) := by
 refine ⟨by simpa using ho, ?_, parts_move hp (fun g hgm => hg.block g (parts_lt hp g hgm).2 (fun e => haw g e.symm hgm)), fun g hg1 hgm => ?_⟩
 ·rw [List.map_append, h.xs, hx, List.take_add_one, hr, List.flatMap_append]
  simp
 ·rcases hat with hat | ⟨g', hat, hge⟩
  ·exact haw g (by rw [← hat, hg1]) hgm
  ·rw [hg1] at hat
   injection hat with hat
   have := (parts_lt hp g hgm).2
   omega
theorem rules_reads {w : World} {b : Nat} {A : Option Addr} {n c : Nat} {xs : List S36} {F : List Nat} (h : rulesS.ow w b [.slice A n c] xs F) : n = xs.length ∧ xs.length ≤ c ∧ Kd.C k36 w A xs.length xs := by
 obtain ⟨A', c', hv, hl, hC⟩ := rulesS.ord h
 injection hv with hv _
 injection hv with h1 h2 h3
 subst h1 h3
 exact ⟨h2, hl, hC⟩
end Go.Proofs.YtmcdnpooclelgaaDoor.PAll
namespace Go.Proofs.YtmcdnpooclelgaaDoor.PAll
open Go.RowKit Go.Proofs.YtmcdnpooclelgaaDoorW.PrintWords Go.Proofs.YtmcdnpooclelgaaDoorW.PrintLast Go.Proofs.YtmcdnpooclelgaaDoorW.PrintMore
theorem R_some {α : Type} {d : Kd α} {e n c base : Nat} {ok : Nat → Prop} {w : World} {A : Option Addr} {xs : List α} (h : d.R e w base ok (.slice A n c) xs) (hn : 0 < n) : ∃ g, A = some ⟨g, 0, none⟩ ∧ base ≤ g ∧ g < w.heap.size ∧ ∃ cells, w.heap[g]? = some (.cells cells e (0, 0)) := by
 obtain ⟨inner, ho⟩ := Kd.R_own h
 rcases ownSl ho with ⟨hv, h0⟩ | ⟨g, c', hv⟩
 ·injection hv with _ hv _
  omega
 ·injection hv with h1 h2 h3
  subst h1
  exact ⟨g, rfl, own_base ho g rfl, own_lt ho g rfl, own_typed ho g rfl⟩
end Go.Proofs.YtmcdnpooclelgaaDoor.PAll
namespace Go.Proofs.YtmcdnpooclelgaaDoor.PAll
open Go.RowKit Go.Proofs.YtmcdnpooclelgaaDoorW.PrintWords
theorem blk_upd {w w' : World} {F : List Nat} {g : Nat} {o : Obj} (h : w.heap[g]? = some o) (hu : Upd F w w') (hn : g ∉ F) : w'.heap[g]? = some o := (hu.block g (blk_lt h) hn).trans h
theorem blk_up {w w' : World} {N g : Nat} {o : Obj} (h : w.heap[g]? = some o) (hb : Below N w w') (hn : g < N) : w'.heap[g]? = some o := (hb.block g hn).trans h
end Go.Proofs.YtmcdnpooclelgaaDoor.PAll
namespace Go.Proofs.YtmcdnpooclelgaaDoor.PAll
open Go.RowKit Go.Proofs.YtmcdnpooclelgaaDoorW.PrintWords Go.Proofs.YtmcdnpooclelgaaDoorW.PrintLast Go.Proofs.YtmcdnpooclelgaaDoorW.PrintMore
abbrev LinePost (w0 w : World) (g : Nat) (Q : Int) (e : Ending) (w' : World) : Prop := ∃ (key : ByteArray) (v : Value) (ws : List ByteArray), e = .returned (.agg #[.string key, v]) ∧ ws.length ≤ 20 ∧ (∀ s ∈ ws, s.size ≤ 1048576) ∧ ER Value.string w' w.heap.size 9 v ws ∧ Rdr w0 w' g Q ∧ Upd [g] w w'
theorem rules_args (kind : ByteArray) : ∀ r ∈ rulesL kind, r.f1.length ≤ 16 := by
 have h1 : rules_team.all (fun r => decide (r.f1.length ≤ 16)) = true := by decide
 have h2 : rules_berth.all (fun r => decide (r.f1.length ≤ 16)) = true := by decide
 have h3 : rules_service.all (fun r => decide (r.f1.length ≤ 16)) = true := by decide
 intro r hr
 unfold rulesL at hr
 split at hr
 ·exact of_decide_eq_true (List.all_eq_true.1 h1 r hr)
 ·split at hr
  ·exact of_decide_eq_true (List.all_eq_true.1 h2 r hr)
  ·split at hr
   ·exact of_decide_eq_true (List.all_eq_true.1 h3 r hr)
   ·cases hr
theorem rdr_updN {w0 w w1 : World} {g : Nat} {P : Int} {bs : List Nat} (h : Rdr w0 w g P) (hu : Upd bs w w1) (hg : g ∉ bs) (hb : ∀ x ∈ bs, w0.heap.size ≤ x) : Rdr w0 w1 g P := by
 obtain ⟨A, c, zs, p, hb', hr, hz, hl, hp0, hp1, hg', hB⟩ := h
 have hlt : g < w.heap.size := (Array.getElem?_eq_some_iff.1 hb').1
 exact ⟨A, c, zs, p, (hu.block g hlt hg).trans hb', hr, hz, hl, hp0, hp1, hg', hB.trans (hu.below hB.size hb)⟩
theorem rdr_below {w0 w w1 : World} {g N : Nat} {P : Int} (h : Rdr w0 w g P) (hb : Below N w w1) (hg : g < N) (hN : w0.heap.size ≤ N) : Rdr w0 w1 g P := by
 obtain ⟨A, c, zs, p, hb', hr, hz, hl, hp0, hp1, hg', hB⟩ := h
 exact ⟨A, c, zs, p, (hb.block g hg).trans hb', hr, hz, hl, hp0, hp1, hg', hB.trans (hb.mono hN)⟩
theorem rdr_w0 {w0 w : World} {g : Nat} {P : Int} (h : Rdr w0 w g P) : w0.heap.size ≤ w.heap.size := h.below.size
theorem addr_at (g k : Nat) : (⟨g, 0, none⟩ : Addr).add k = ⟨g, k, none⟩ := by
 unfold Addr.add
 split
 ·rename_i h; subst h; rfl
 ·simp
theorem infoStr1 : (Tryd.prog.info? 9).map (fun i => (i.zero, i.size, i.bytes)) = some (some (.string ⟨#[]⟩), 1, 16) := by kernel_rfl
set_option maxRecDepth 100000 in
set_option maxHeartbeats 8000000 in
theorem l2Line_any (w0 w : World) (g : Nat) (P : Int) (kind : ByteArray) (h : Rdr w0 w g P) (hP : P ≤ 900000) (hP0 : 0 ≤ P) (hk : 0 < (rulesL kind).length) :
  Calls Tryd.prog 68 #[.pointer (some ⟨g, 0, none⟩), .string kind] w (LinePost w0 w g (P + 60)) := by
 have hlt := h.lt
 have hw0 := rdr_w0 h
 have hrl := rulesL_len kind
 have a1 : Below w.heap.size w (w.alloc (.cells #[.string ⟨#[]⟩, .slice none 0 0] 83)) := (Below.refl _ _).alloc (Nat.le_refl _) _
 have k4 := blk_new w (.cells #[.string ⟨#[]⟩, .slice none 0 0] 83)
 go_enter Tryd.func68, Tryd.ntmps68
 go_wp2_with fail
 refine (specRules_any kind _).mono ?_
 rintro e w2 ⟨v2, rfl, hR2, hb2⟩
 obtain ⟨A7, d7, rfl⟩ := Kd.R_slice hR2
 rw [World.size_alloc] at hR2
 have k42 := Aside0.mk (blk_below k4 hb2)
 have H2 := Aside0.mk ((h.upd (Upd.of_below a1 [])).upd (Upd.of_below hb2 []))
 have u2 := Aside0.mk (Upd.of_below (a1.trans (hb2.mono a1.size)) [g])
 have R2 := Aside0.mk (Kd.R_bound hR2)
 have hN : w.heap.size + 1 ≤ w2.heap.size := by have := hb2.size; simpa using this
 clear a1 k4 hb2 hR2 h
 go_wp2_with fail
 refine (pick_any w0 w2 g P _ H2.out (by omega) (by omega)).mono ?_
 rintro e w3 ⟨b, rfl, b0, b1, -, hR3, hU3⟩
 have b1 := b1 (by omega)
 obtain ⟨q, rfl⟩ := Int.eq_ofNat_of_zero_le b0
 have hq : q < (rulesL kind).length := by omega
 have R3 := Kd.R_step R2.out (fun k hk hlt => hU3.block k hlt (fun hm => by simp at hm; have := hk.2.1; omega))
 obtain ⟨g7, rfl, hg7, hg7l, _⟩ := R_some R3 hk
 obtain ⟨cs, hcl, hM, hcc, hfz⟩ := Kd.R_elem R3 (rulesL kind)[q] (q : Int) (by omega) (by omega)
 rw [Int.toNat_natCast, List.getD_eq_getElem?_getD, List.getElem?_eq_getElem hq] at hM
 simp only [Option.getD_some] at hM
 rw [Int.toNat_natCast] at hcc
 have hra := rules_args kind _ (List.getElem_mem hq)
 have hrs := rules_small kind _ (List.getElem_mem hq)
 have hrw := rules_words kind _ (List.getElem_mem hq)
 generalize (rulesL kind)[q] = r at *
 obtain ⟨r0, r1, r2, r3⟩ := r
 obtain ⟨v1, v3, rfl, hr1, hr3⟩ := k36_openM hM
 simp only at *
 obtain ⟨A6, c6, rfl⟩ := Kd.R_slice hr1
 obtain ⟨A8, c8, rfl⟩ := Kd.R_slice hr3
 have y0 : w3.cell? ⟨g7, q * 4, none⟩ = some (.string r0) := hcc 0 _ rfl
 have y1 : w3.cell? ⟨g7, q * 4 + 1, none⟩ = some (.slice A6 r1.length c6) := hcc 1 _ rfl
 have y2 : w3.cell? ⟨g7, q * 4 + 2, none⟩ = some (.bool r2) := hcc 2 _ rfl
 have y3 : w3.cell? ⟨g7, q * 4 + 3, none⟩ = some (.slice A8 r3.length c8) := hcc 3 _ rfl
 have hr1' := Aside0.mk (Kd.R_mono hr1 (fun k hk => And.intro hk.1.2.1 hk.1.2.2.1))
 have hr3' := Aside0.mk (Kd.R_mono hr3 (fun k hk => And.intro hk.1.2.1 hk.1.2.2.1))
 have h23 : w2.heap.size ≤ w3.heap.size := hU3.size
 have k43 := blk_upd k42.out hU3 (fun hm => by simp at hm; omega)
 have u3 := Upd.trans u2.out hU3 (fun _ h _ => h)
 have i2 : (q : Int) < ((rulesL kind).length : Int) := by omega
 have a5 : Below w3.heap.size w3 ((w3.alloc (.cells #[.string r0, .slice A6 r1.length c6, .bool r2, .slice A8 r3.length c8] 36)).alloc (.cells #[.string r0, .slice none 0 0] 83)) := ((Below.refl _ _).alloc (Nat.le_refl _) _).alloc (by simp) _
 have k6 := blk_alloc (blk_new w3 (.cells #[.string r0, .slice A6 r1.length c6, .bool r2, .slice A8 r3.length c8] 36)) (.cells #[.string r0, .slice none 0 0] 83)
 have k7 := blk_new (w3.alloc (.cells #[.string r0, .slice A6 r1.length c6, .bool r2, .slice A8 r3.length c8] 36)) (.cells #[.string r0, .slice none 0 0] 83)
 rw [World.size_alloc] at k7
 have s5 : ((w3.alloc (.cells #[.string r0, .slice A6 r1.length c6, .bool r2, .slice A8 r3.length c8] 36)).alloc (.cells #[.string r0, .slice none 0 0] 83)).heap.size = w3.heap.size + 2 := by simp
 have HR5 := Aside0.mk (rdr_updN hR3 (Upd.of_below a5 []) (by simp) (by simp))
 have U5 := Aside0.mk (Upd.trans u3 (Upd.of_below a5 []) (fun _ h _ => by cases h))
 have K45 := Aside0.mk (blk_below k43 a5)
 have KP5 : Aside0 (∀ k, w.heap.size + 1 ≤ k → k < w2.heap.size → ((w3.alloc (.cells #[.string r0, .slice A6 r1.length c6, .bool r2, .slice A8 r3.length c8] 36)).alloc (.cells #[.string r0, .slice none 0 0] 83)).heap[k]? = w3.heap[k]?) := ⟨fun k _ hk => a5.block k (by omega)⟩
 clear hcc hfz hM hcl hr1 hr3 R3 R2 hR3 hU3 a5 u3 k43 u2 H2 k42 hg7 hg7l b1 b0
 go_upto_region 4 with (fail)
 clear y0 y1 y2 y3
 generalize (w3.alloc (.cells #[.string r0, .slice A6 r1.length c6, .bool r2, .slice A8 r3.length c8] 36)).alloc (.cells #[.string r0, .slice none 0 0] 83) = w5 at *
 generalize hN6 : w3.heap.size = N6 at *
 clear hN6
 have K6 := Aside0.mk k6
 have K7 := Aside0.mk k7
 clear k6 k7
 have z2 : w5.cell? ⟨N6, 2, none⟩ = some (.bool r2) := (blk_cell K6.out 2).trans rfl
 cases r2 with
 | true =>
  have HRD := HR5
  have KX4 := K45
  have KX6 := K6
  have KX7 := K7
  have UX := U5
  have KPX := KP5
  clear HR5 K45 K6 K7 U5 KP5
  go_wp2
  go_loopw [8] (fun (i : Value) (wr : World) => ∃ (k : Nat) (v : Value) (ws : List ByteArray), i = .int .i64 k ∧ k ≤ r1.length ∧ ws.length = k ∧ Aside0 (∀ s ∈ ws, s.size ≤ 1048576) ∧ Aside0 (Rdr w0 wr g (P + 2 + 2 * k)) ∧ Aside0 (wr.heap[w.heap.size]? = some (.cells #[.string ⟨#[]⟩, .slice none 0 0] 83 (0, 0))) ∧ Aside0 (wr.heap[N6]? = some (.cells #[.string r0, .slice A6 r1.length c6, .bool true, .slice A8 r3.length c8] 36 (0, 0))) ∧ Aside0 (wr.heap[N6 + 1]? = some (.cells #[.string r0, v] 83 (0, 0))) ∧ Aside0 (ER Value.string wr (N6 + 2) 9 v ws) ∧ Aside0 (Upd [g] w wr) ∧ Aside0 (∀ k, w.heap.size + 1 ≤ k → k < w2.heap.size → wr.heap[k]? = w3.heap[k]?)) (fun i _ => r1.length - (intOf i).toNat)
  case atStart => exact ⟨0, _, [], rfl, Nat.zero_le _, rfl, ⟨fun s hs => by cases hs⟩, ⟨by have := HRD.out; exact this.mono (by omega)⟩, KX4, KX6, KX7, ⟨ER.nil _ _ _ _⟩, UX, KPX⟩
  case round =>
   clear HRD KX4 KX6 KX7 UX KPX
   obtain ⟨k, v, ws, rfl, hk, hwl, hws, hRd, k4, k6, k7, hE, hU, hKp⟩ := hrel
   obtain ⟨Av, cv, hv, _⟩ := ER.form hE.out
   subst hv
   rw [hwl] at k7 hE
   have x1 : wr.cell? ⟨N6, 1, none⟩ = some (.slice A6 r1.length c6) := (blk_cell k6.out 1).trans rfl
   by_cases hkl : k < r1.length
   ·have RI := Kd.R_move hr1'.out (fun k hk => hKp.out k hk.1 hk.2)
    obtain ⟨g6, hA6, hg6, hg6l, _⟩ := R_some RI (by omega)
    subst hA6
    have hg62 := (RI.1 g6 rfl).2
    obtain ⟨ad, hAd, hy⟩ := Kd.at_int (Kd.R_reads' RI).2.2 (k : Int) (by omega) (by omega)
    injection hAd with hAd
    subst hAd
    rw [Int.toNat_natCast] at hy
    have i3 : (k : Int) < (r1.length : Int) := by omega
    obtain ⟨ty, hty⟩ : ∃ ty, ty = rd r1 (k : Int) := ⟨_, rfl⟩
    rw [← hty] at hy
    replace hy : wr.cell? ⟨g6, k, none⟩ = some (.int .i64 ty) := by rw [addr_at] at hy; exact hy
    clear hty RI
    go_upto_region 10 with (fail)
    have dd : Below wr.heap.size wr wr.drew := below_drew (Below.refl _ _)
    have U0 : wr.drew.cell? ⟨N6 + 1, 1, none⟩ = some (.slice Av k cv) := (blk_cell k7.out 1).trans rfl
    have U1 : wr.drew.cell? ⟨N6, 1, none⟩ = some (.slice (some ⟨g6, 0, none⟩) r1.length c6) := (blk_cell k6.out 1).trans rfl
    have U2 : wr.drew.cell? ⟨g6, k, none⟩ = some (.int .i64 ty) := hy
    have Rd0 := Aside0.mk (rdr_updN hRd.out (Upd.of_below dd []) (by simp) (by simp))
    have k4d := Aside0.mk (blk_below k4.out dd)
    have k6d := Aside0.mk (blk_below k6.out dd)
    have k7d := Aside0.mk (blk_below k7.out dd)
    have Ed := Aside0.mk (hE.out.below dd)
    have Ud := Aside0.mk (Upd.trans hU.out (Upd.of_below dd []) (fun _ h _ => by cases h))
    have Kd' : Aside0 (∀ k, w.heap.size + 1 ≤ k → k < w2.heap.size → wr.drew.heap[k]? = w3.heap[k]?) := ⟨hKp.out⟩
    have sd : N6 + 1 < wr.drew.heap.size := blk_lt k7d.out
    have sg : g6 < wr.drew.heap.size := hg6l
    have hEl := Aside0.mk (own_lt hE.out)
    clear dd hRd k4 k6 k7 hE hU hKp hy x1
    refine start_ (n := 13) (S := (fun w' => w'.cell? ⟨N6 + 1, 1, none⟩ = some (.slice Av k cv) ∧ w'.cell? ⟨N6, 1, none⟩ = some (.slice (some ⟨g6, 0, none⟩) r1.length c6) ∧ w'.cell? ⟨g6, k, none⟩ = some (.int .i64 ty))) (ds := [12]) (bz_ 13 0) (by kernel_rfl) rfl rfl ⟨U0, U1, U2⟩ (fun hHeld => ?_)
    generalize wr.drew = u at *
    refine pure_ (i := 0) (N := some 43) (v := ?_) (a' := ?_) (bz_ 13 1) rfl rfl (by kernel_rfl) (fun _ _ _ h => h) (Or.inl ⟨by rfl, ?_⟩) ?_ ?_
    rotate_left
    ·intro w'
     go_simp
     with_reducible rfl
    rotate_left
    ·simp only [Act.put, List.setIfInBounds_toArray, List.set_cons_zero, List.set_cons_succ, i64_w, i32_w]
     rfl
    refine take_ (i := 1) (N := some 44) (v := ?_) (a' := ?_) (bz_ 13 3) rfl rfl (by kernel_rfl) (fun _ _ _ h => h) (Or.inl ⟨by rfl, ?_⟩) hHeld ?_ ?_
    rotate_left
    ·rintro w' ⟨s0, s1, s2⟩
     go_simp
     with_reducible rfl
    rotate_left
    ·simp only [Act.put, List.setIfInBounds_toArray, List.set_cons_zero, List.set_cons_succ, i64_w, i32_w]
     rfl
    refine pure_ (i := 2) (N := some 45) (v := ?_) (a' := ?_) (bz_ 13 7) rfl rfl (by kernel_rfl) (fun _ _ _ h => h) (Or.inl ⟨by rfl, ?_⟩) ?_ ?_
    rotate_left
    ·intro w'
     go_simp
     with_reducible rfl
    rotate_left
    ·simp only [Act.put, List.setIfInBounds_toArray, List.set_cons_zero, List.set_cons_succ, i64_w, i32_w]
     rfl
    refine pure_ (i := 3) (N := some 46) (v := ?_) (a' := ?_) (bz_ 13 15) rfl rfl (by kernel_rfl) (fun _ _ _ h => h) (Or.inl ⟨by rfl, ?_⟩) ?_ ?_
    rotate_left
    ·intro w'
     go_simp
     with_reducible rfl
    rotate_left
    ·simp only [Act.put, List.setIfInBounds_toArray, List.set_cons_zero, List.set_cons_succ, i64_w, i32_w]
     rfl
    refine take_ (i := 4) (N := some 47) (v := ?_) (a' := ?_) (bz_ 13 31) rfl rfl (by kernel_rfl) (fun _ _ _ h => h) (Or.inl ⟨by rfl, ?_⟩) hHeld ?_ ?_
    rotate_left
    ·rintro w' ⟨s0, s1, s2⟩
     go_simp
     with_reducible rfl
    rotate_left
    ·simp only [Act.put, List.setIfInBounds_toArray, List.set_cons_zero, List.set_cons_succ, i64_w, i32_w]
     rfl
    refine pure_ (i := 5) (N := some 48) (v := ?_) (a' := ?_) (bz_ 13 63) rfl rfl (by kernel_rfl) (fun _ _ _ h => h) (Or.inl ⟨by rfl, ?_⟩) ?_ ?_
    rotate_left
    ·intro w'
     go_simp
     with_reducible rfl
    rotate_left
    ·simp only [Act.put, List.setIfInBounds_toArray, List.set_cons_zero, List.set_cons_succ, i64_w, i32_w]
     rfl
    refine pure_ (i := 6) (N := some 49) (v := ?_) (a' := ?_) (bz_ 13 127) rfl rfl (by kernel_rfl) (fun _ _ _ h => h) (Or.inl ⟨by rfl, ?_⟩) ?_ ?_
    rotate_left
    ·intro w'
     go_simp
     with_reducible rfl
    rotate_left
    ·simp only [Act.put, List.setIfInBounds_toArray, List.set_cons_zero, List.set_cons_succ, i64_w, i32_w]
     rfl
    refine take_ (i := 7) (N := some 50) (v := ?_) (a' := ?_) (bz_ 13 255) rfl rfl (by kernel_rfl) (fun _ _ _ h => h) (Or.inl ⟨by rfl, ?_⟩) hHeld ?_ ?_
    rotate_left
    ·rintro w' ⟨s0, s1, s2⟩
     go_simp
     with_reducible rfl
    rotate_left
    ·simp only [Act.put, List.setIfInBounds_toArray, List.set_cons_zero, List.set_cons_succ, i64_w, i32_w]
     rfl
    refine one_ (i := 8) (N := some 51) (bz_ 13 511) rfl rfl (by kernel_rfl) (by decide) (fun K hK => ?_)
    refine goes_ Tryd.func110 (by kernel_rfl) rfl #[.pointer (some ⟨g, 0, none⟩), .int .i64 ty] (by rfl) rfl rfl (by (try simp only [List.map_toArray, List.map_cons, List.map_nil]); first | done | rfl) ?_
    with_reducible refine (l2Word_any w0 u g (P + 2 + 2 * k) ty Rd0.out (by omega)).mono ?_
    rintro e w7 ⟨s, rfl, hs, hR7, hU7⟩
    refine ⟨_, rfl, ?_⟩
    have Rd7 := Aside0.mk hR7
    have k47 := Aside0.mk (blk_upd k4d.out hU7 (fun hm => by simp at hm; omega))
    have k67 := Aside0.mk (blk_upd k6d.out hU7 (fun hm => by simp at hm; omega))
    have k77 := Aside0.mk (blk_upd k7d.out hU7 (fun hm => by simp at hm; omega))
    have E7 := Aside0.mk (Ed.out.upd hU7 (fun x hx hm => by have := own_base Ed.out x hx; simp at hm; omega))
    have U7 := Aside0.mk (Upd.trans Ud.out hU7 (fun _ h _ => h))
    have K7' : Aside0 (∀ k, w.heap.size + 1 ≤ k → k < w2.heap.size → w7.heap[k]? = w3.heap[k]?) := ⟨fun k h1 h2 => (hU7.block k (by omega) (fun hm => by simp at hm; omega)).trans (Kd'.out k h1 h2)⟩
    have c7 : w7.cell? ⟨g6, k, none⟩ = some (.int .i64 ty) := by rw [World.cell?_of_block (a := ⟨g6, k, none⟩) (hU7.block g6 sg (fun hm => by simp at hm; omega))]; exact U2
    have s7 : N6 + 1 < w7.heap.size := Nat.lt_of_lt_of_le sd hU7.size
    refine hK.out _ _ ⟨(blk_cell k77.out 1).trans rfl, (blk_cell k67.out 1).trans rfl, c7⟩ (fun hHeld => ?_)
    clear hK K hHeld hR7 hU7 Rd0 k4d k6d k7d Ed Ud Kd' U0 U1 U2
    refine norm_ (a' := ?_) ?_ ?_
    rotate_left
    ·show Act.put _ (some 51) _ = _
     simp only [putAll, Act.put, List.setIfInBounds_toArray, List.set_cons_zero, List.set_cons_succ, i64_w, i32_w]
     rfl
    refine one_ (i := 9) (N := some 52) (bz_ 13 1023) rfl rfl (by kernel_rfl) (by decide) (fun K hK => ?_)
    refine value_ (w1 := ?_) (v := ?_) (by rfl) rfl ?_ ?_
    rotate_left 2
    ·go_simp
     constructor
     ·rfl
     ·rfl
    have a8 : Below w7.heap.size w7 (w7.alloc (.cells #[.string s] 9)) := (Below.refl _ _).alloc (Nat.le_refl _) _
    refine hK.out _ _ ⟨(blk_cell (blk_below k77.out a8) 1).trans rfl, (blk_cell (blk_below k67.out a8) 1).trans rfl, pw_cell_below a8 c7⟩ (fun hHeld => ?_)
    clear hK K hHeld a8
    refine norm_ (a' := ?_) ?_ ?_
    rotate_left
    ·show Act.put _ (some 52) _ = _
     simp only [putAll, Act.put, List.setIfInBounds_toArray, List.set_cons_zero, List.set_cons_succ, i64_w, i32_w]
     rfl
    refine one_ (i := 10) (N := some 53) (bz_ 13 2047) rfl rfl (by kernel_rfl) (by decide) (fun K hK => ?_)
    refine ER.app_step (w0 := w7) (base := N6 + 2) (v := .slice Av k cv) (xs := ws) (fun _ => rfl) (.string ⟨#[]⟩) 16 [s] (.tmp 44) (.tmp 52) 27 9 E7.out (Below.refl _ _) (by simp; omega) (by rfl) rfl Tryd.underlying27 infoStr1 rfl (by decide) (by decide) (by omega) (by rfl) (by rfl) ?_
    intro v1 w8 ho8 hb8 hg8 hat8
    obtain ⟨A1, c1', hv1, _⟩ := ER.form ho8.out
    rw [show (ws ++ [s]).length = k + 1 by simp; omega] at hv1
    subst hv1
    have hob : ∀ x, (Value.slice Av k cv).ownBlock = some x → N6 + 2 ≤ x := fun x hx => own_base E7.out x hx
    have k48 := Aside0.mk (blk_up k47.out hb8 (by omega))
    have k68 := Aside0.mk (blk_up k67.out hb8 (by omega))
    have k78 := Aside0.mk (blk_up k77.out hb8 (by omega))
    have Rd8 := Aside0.mk (rdr_below Rd7.out hb8 (by omega) (by omega))
    have U8 := Aside0.mk (Upd.trans U7.out (Upd.of_grown hg8.out) (fun x hx hl => by simp at hx; have := hob x hx; omega))
    have K8 : Aside0 (∀ k, w.heap.size + 1 ≤ k → k < w2.heap.size → w8.heap[k]? = w3.heap[k]?) := ⟨fun k h1 h2 => (hb8.block k (by omega)).trans (K7'.out k h1 h2)⟩
    have c8' : w8.cell? ⟨g6, k, none⟩ = some (.int .i64 ty) := by rw [World.cell?_of_block (a := ⟨g6, k, none⟩) (hb8.block g6 (by omega))]; exact c7
    refine hK.out _ _ ⟨(blk_cell k78.out 1).trans rfl, (blk_cell k68.out 1).trans rfl, c8'⟩ (fun hHeld => ?_)
    clear hK K hHeld hb8 hg8 hat8 hob k47 k67 k77 Rd7 U7 K7' E7 c7 s7
    refine norm_ (a' := ?_) ?_ ?_
    rotate_left
    ·show Act.put _ (some 53) _ = _
     simp only [putAll, Act.put, List.setIfInBounds_toArray, List.set_cons_zero, List.set_cons_succ, i64_w, i32_w]
     rfl
    refine pure_ (i := 11) (N := some 54) (v := ?_) (a' := ?_) (bz_ 13 4095) rfl rfl (by kernel_rfl) (fun _ _ _ h => h) (Or.inl ⟨by rfl, ?_⟩) ?_ ?_
    rotate_left
    ·intro w'
     go_simp
     with_reducible rfl
    rotate_left
    ·simp only [Act.put, List.setIfInBounds_toArray, List.set_cons_zero, List.set_cons_succ, i64_w, i32_w]
     rfl
    refine last_ (i := 12) (N := none) (bz_ 13 8191) rfl rfl (by kernel_rfl) (by decide) (fun K hK => ?_)
    have q1 : w8.cell? ⟨N6 + 1, 1, none⟩ = some (.slice Av k cv) := (blk_cell k78.out 1).trans rfl
    have qf := blk_frozen k78.out 1
    refine skip_ (w1 := ?_) (by rfl) rfl ?_ ?_
    rotate_left
    ·go_simp
     rfl
    have uc := upd_cell w8 (N6 + 1) 1 (.slice A1 (k + 1) c1')
    have k49 := Aside0.mk (blk_upd k48.out uc (fun hm => by simp at hm; omega))
    have k69 := Aside0.mk (blk_upd k68.out uc (fun hm => by simp at hm))
    have k79 := Aside0.mk (blk_put k78.out 1 (.slice A1 (k + 1) c1') rfl)
    have Rd9 := Aside0.mk ((rdr_updN Rd8.out uc (fun hm => by simp at hm; omega) (fun x hx => by simp at hx; omega)).mono (Q := P + 2 + 2 * ((k + 1 : Nat) : Int)) (by omega))
    have E9 := Aside0.mk (ho8.out.far (p := ⟨N6 + 1, 1, none⟩) (show N6 + 1 < N6 + 2 by omega) (.slice A1 (k + 1) c1'))
    have U9 := Aside0.mk (Upd.trans U8.out uc (fun x hx hl => by simp at hx; omega))
    have K9 : Aside0 (∀ x, w.heap.size + 1 ≤ x → x < w2.heap.size → (w8.setCell ⟨N6 + 1, 1, none⟩ (.slice A1 (k + 1) c1')).heap[x]? = w3.heap[x]?) := ⟨fun x h1 h2 => (uc.block x (by have := uc.size; have h4 := blk_lt k78.out; omega) (fun hm => by simp at hm; omega)).trans (K8.out x h1 h2)⟩
    have W9 : Aside0 (∀ y ∈ ws ++ [s], y.size ≤ 1048576) := ⟨fun y hy => by
     rcases List.mem_append.1 hy with h | h
     ·exact hws.out y h
     ·have := List.mem_singleton.1 h; subst this; omega⟩
    refine hK.out _ _ ?_
    clear hK K q1 qf uc k48 k68 k78 Rd8 ho8 U8 K8 c8' hws
    refine done_ (by kernel_rfl) ?_
    go_wp2
    go_roundw
    case rel => exact ⟨k + 1, (.slice A1 (k + 1) c1'), ws ++ [s], by go_num, hkl, by simp; omega, W9, Rd9, k49, k69, k79, E9, U9, K9⟩
    case measure => simp [intOf]; omega
   ·obtain rfl : k = r1.length := by omega
    have z0 : wr.cell? ⟨N6 + 1, 0, none⟩ = some (.string r0) := (blk_cell k7.out 0).trans rfl
    have z1 : wr.cell? ⟨N6 + 1, 1, none⟩ = some (.slice Av r1.length cv) := (blk_cell k7.out 1).trans rfl
    have p0 : wr.cell? ⟨w.heap.size, 0, none⟩ = some (.string ⟨#[]⟩) := (blk_cell k4.out 0).trans rfl
    have p1 : wr.cell? ⟨w.heap.size, 1, none⟩ = some (.slice none 0 0) := (blk_cell k4.out 1).trans rfl
    have pf0 := blk_frozen k4.out 0
    have pf1 := blk_frozen k4.out 1
    have UU := Aside0.mk (upd_in (upd_cell wr w.heap.size 0 (.string r0)) (upd_cell _ w.heap.size 1 (.slice Av r1.length cv)) (fun _ h => h))
    have BB := Aside0.mk (blk_put (blk_put k4.out 0 (.string r0) rfl) 1 (.slice Av r1.length cv) rfl)
    have EE := Aside0.mk (ER.lower ((hE.out.far (p := ⟨w.heap.size, 0, none⟩) (show w.heap.size < N6 + 2 by omega) (.string r0)).far (p := ⟨w.heap.size, 1, none⟩) (show w.heap.size < N6 + 2 by omega) (.slice Av r1.length cv)) (show w.heap.size ≤ N6 + 2 by omega))
    have RR := Aside0.mk ((rdr_updN hRd.out UU.out (by simp; omega) (fun x hx => by simp at hx; omega)).mono (Q := P + 60) (by omega))
    have UF := Aside0.mk (Upd.trans hU.out UU.out (fun x hx hl => by simp at hx; omega))
    clear hRd k4 k6 k7 hE hU hKp
    go_wp2
    refine bodyPost_ret (results_cell_row rfl _ _ w.heap.size 83 #[.string r0, .slice Av r1.length cv] (0, 0) _ rfl (by exact BB.out) Tryd.underlying83 rfl (by kernel_rfl)) rfl ⟨r0, .slice Av r1.length cv, ws, rfl, by omega, hws.out, EE.out, RR.out, UF.out⟩
 | false =>
  have z0 : w5.cell? ⟨N6, 2, none⟩ = some (.bool false) := z2
  go_wp2_with fail
  refine (pick_any w0 w5 g (P + 1) 4 HR5.out (by omega) (by omega)).mono ?_
  rintro e w6 ⟨b, rfl, b0, b1, -, hR6, hU6⟩
  have b1 := b1 (by omega)
  have HR6 := Aside0.mk hR6
  have K66 := Aside0.mk (blk_upd K6.out hU6 (fun hm => by simp at hm; omega))
  have K76 := Aside0.mk (blk_upd K7.out hU6 (fun hm => by simp at hm; omega))
  have K46 := Aside0.mk (blk_upd K45.out hU6 (fun hm => by simp at hm; omega))
  have U6 := Aside0.mk (Upd.trans U5.out hU6 (fun _ h _ => h))
  have KP6 : Aside0 (∀ k, w.heap.size + 1 ≤ k → k < w2.heap.size → w6.heap[k]? = w3.heap[k]?) := ⟨fun k h1 h2 => (hU6.block k (by omega) (fun hm => by simp at hm; omega)).trans (KP5.out k h1 h2)⟩
  have s6 : w5.heap.size ≤ w6.heap.size := hU6.size
  clear hR6 hU6 z0 z2 HR5 K6 K7 K45 U5 KP5
  by_cases hb : b = 0
  ·subst hb
   have RS := Kd.R_move hr3'.out (fun k hk => KP6.out k hk.1 hk.2)
   obtain ⟨_, hA0, hnl, hcells, hone⟩ := strs_src (Kd.R_reads' RS).2.2
   have z1 : w6.cell? ⟨N6 + 1, 1, none⟩ = some (.slice none 0 0) := (blk_cell K76.out 1).trans rfl
   have z3 : w6.cell? ⟨N6, 3, none⟩ = some (.slice A8 r3.length c8) := (blk_cell K66.out 3).trans rfl
   have s66 : N6 + 1 < w6.heap.size := blk_lt K76.out
   go_upto_region 6 with ((with_reducible refine gate_dst (N := 33) rfl ?_); apply ap_src (P := Tryd.prog) (w0 := w6) (base := w6.heap.size) (s := .tmp 30) (x := .tmp 32) (t := 27) (e := 9) (z := .string ⟨#[]⟩) (size := 1) (bytes := 16) (v := .slice none 0 0) (n := 0) (xs := []) (A := A8) (m := r3.length) (c := c8) (news := r3.map Value.string); (case hgd => rfl); (case ho => rfl); (case ht => exact Tryd.underlying27); (case hinfo => exact infoStr1); (case hz => rfl); (case hs0 => decide); (case hb0 => decide); (case hs => first | rfl | (go_simp; done)); (case hx => first | rfl | (go_simp; done)); (case hA => exact hA0); (case hn => exact hnl); (case hnews => exact hcells); (case h1 => exact hone); (case HO => exact own_nil _ _ _ _); (case HB => exact Below.refl _ _); (case hbase => exact Nat.le_refl _); (case hl => omega); intro v1 w7 ho1 hb1 hg1 hat1; obtain ⟨B1, d1, rfl⟩ := own_shapeN ho1; rw [Nat.zero_add] at ho1; rw [Nat.zero_add]; have HO1 := Aside0.mk ho1; have HB7 := Aside0.mk hb1; have k77 := Aside0.mk (blk_below K76.out hb1); have q1 : w7.cell? ⟨N6 + 1, 1, none⟩ = some (.slice none 0 0) := (blk_cell k77.out 1).trans rfl; have qf1 := blk_frozen k77.out 1; clear ho1 hb1 hg1 hat1)
   have K78 := Aside0.mk (blk_put k77.out 1 (.slice B1 r3.length d1) rfl)
   have uc := upd_cell w7 (N6 + 1) 1 (.slice B1 r3.length d1)
   have K48 := Aside0.mk (blk_upd (blk_below K46.out HB7.out) uc (fun hm => by simp at hm; omega))
   have R8 := Aside0.mk (rdr_updN (rdr_updN HR6.out (Upd.of_below HB7.out []) (by simp) (by simp)) uc (fun hm => by simp at hm; omega) (fun x hx => by simp at hx; omega))
   have U8 := Aside0.mk (Upd.trans (Upd.trans U6.out (Upd.of_below HB7.out []) (fun _ h _ => by cases h)) uc (fun x hx hl => by simp at hx; omega))
   have E8 : Aside0 (ER Value.string (w7.setCell ⟨N6 + 1, 1, none⟩ (.slice B1 r3.length d1)) w6.heap.size 9 (.slice B1 r3.length d1) r3) := ⟨ER.far (show ER Value.string w7 w6.heap.size 9 (.slice B1 r3.length d1) r3 from by unfold ER; simpa using HO1.out) (p := ⟨N6 + 1, 1, none⟩) (show N6 + 1 < w6.heap.size by omega) _⟩
   clear HO1 HB7 k77 q1 qf1 uc z1 z3 RS hA0 hnl hcells hone HR6 K46 K66 K76 U6 KP6
   generalize w7.setCell ⟨N6 + 1, 1, none⟩ (.slice B1 r3.length d1) = w8 at *
   have z0 : w8.cell? ⟨N6 + 1, 0, none⟩ = some (.string r0) := (blk_cell K78.out 0).trans rfl
   have z1 : w8.cell? ⟨N6 + 1, 1, none⟩ = some (.slice B1 r3.length d1) := (blk_cell K78.out 1).trans rfl
   have p0 : w8.cell? ⟨w.heap.size, 0, none⟩ = some (.string ⟨#[]⟩) := (blk_cell K48.out 0).trans rfl
   have p1 : w8.cell? ⟨w.heap.size, 1, none⟩ = some (.slice none 0 0) := (blk_cell K48.out 1).trans rfl
   have pf0 := blk_frozen K48.out 0
   have pf1 := blk_frozen K48.out 1
   have UU := Aside0.mk (upd_in (upd_cell w8 w.heap.size 0 (.string r0)) (upd_cell _ w.heap.size 1 (.slice B1 r3.length d1)) (fun _ h => h))
   have BB := Aside0.mk (blk_put (blk_put K48.out 0 (.string r0) rfl) 1 (.slice B1 r3.length d1) rfl)
   have EE := Aside0.mk (ER.lower ((E8.out.far (p := ⟨w.heap.size, 0, none⟩) (show w.heap.size < w6.heap.size by omega) (.string r0)).far (p := ⟨w.heap.size, 1, none⟩) (show w.heap.size < w6.heap.size by omega) (.slice B1 r3.length d1)) (show w.heap.size ≤ w6.heap.size by omega))
   have RR := Aside0.mk ((rdr_updN R8.out UU.out (by simp; omega) (fun x hx => by simp at hx; omega)).mono (Q := P + 60) (by omega))
   have UF := Aside0.mk (Upd.trans U8.out UU.out (fun x hx hl => by simp at hx; omega))
   clear R8 U8 E8 K78 K48
   go_wp2
   refine bodyPost_ret (results_cell_row rfl _ _ w.heap.size 83 #[.string r0, .slice B1 r3.length d1] (0, 0) _ rfl (by exact BB.out) Tryd.underlying83 rfl (by kernel_rfl)) rfl ⟨r0, .slice B1 r3.length d1, r3, rfl, by omega, hrw, EE.out, RR.out, UF.out⟩
  ·have HRD := HR6
   have KX4 := K46
   have KX6 := K66
   have KX7 := K76
   have UX := U6
   have KPX := KP6
   clear HR6 K46 K66 K76 U6 KP6
   go_wp2
   go_loopw [8] (fun (i : Value) (wr : World) => ∃ (k : Nat) (v : Value) (ws : List ByteArray), i = .int .i64 k ∧ k ≤ r1.length ∧ ws.length = k ∧ Aside0 (∀ s ∈ ws, s.size ≤ 1048576) ∧ Aside0 (Rdr w0 wr g (P + 2 + 2 * k)) ∧ Aside0 (wr.heap[w.heap.size]? = some (.cells #[.string ⟨#[]⟩, .slice none 0 0] 83 (0, 0))) ∧ Aside0 (wr.heap[N6]? = some (.cells #[.string r0, .slice A6 r1.length c6, .bool false, .slice A8 r3.length c8] 36 (0, 0))) ∧ Aside0 (wr.heap[N6 + 1]? = some (.cells #[.string r0, v] 83 (0, 0))) ∧ Aside0 (ER Value.string wr (N6 + 2) 9 v ws) ∧ Aside0 (Upd [g] w wr) ∧ Aside0 (∀ k, w.heap.size + 1 ≤ k → k < w2.heap.size → wr.heap[k]? = w3.heap[k]?)) (fun i _ => r1.length - (intOf i).toNat)
   case atStart => exact ⟨0, _, [], rfl, Nat.zero_le _, rfl, ⟨fun s hs => by cases hs⟩, ⟨by have := HRD.out; exact this.mono (by omega)⟩, KX4, KX6, KX7, ⟨ER.nil _ _ _ _⟩, UX, KPX⟩
   case round =>
    clear HRD KX4 KX6 KX7 UX KPX
    obtain ⟨k, v, ws, rfl, hk, hwl, hws, hRd, k4, k6, k7, hE, hU, hKp⟩ := hrel
    obtain ⟨Av, cv, hv, _⟩ := ER.form hE.out
    subst hv
    rw [hwl] at k7 hE
    have x1 : wr.cell? ⟨N6, 1, none⟩ = some (.slice A6 r1.length c6) := (blk_cell k6.out 1).trans rfl
    by_cases hkl : k < r1.length
    ·have RI := Kd.R_move hr1'.out (fun k hk => hKp.out k hk.1 hk.2)
     obtain ⟨g6, hA6, hg6, hg6l, _⟩ := R_some RI (by omega)
     subst hA6
     have hg62 := (RI.1 g6 rfl).2
     obtain ⟨ad, hAd, hy⟩ := Kd.at_int (Kd.R_reads' RI).2.2 (k : Int) (by omega) (by omega)
     injection hAd with hAd
     subst hAd
     rw [Int.toNat_natCast] at hy
     have i3 : (k : Int) < (r1.length : Int) := by omega
     obtain ⟨ty, hty⟩ : ∃ ty, ty = rd r1 (k : Int) := ⟨_, rfl⟩
     rw [← hty] at hy
     replace hy : wr.cell? ⟨g6, k, none⟩ = some (.int .i64 ty) := by rw [addr_at] at hy; exact hy
     clear hty RI
     go_upto_region 10 with (fail)
     have dd : Below wr.heap.size wr wr.drew := below_drew (Below.refl _ _)
     have U0 : wr.drew.cell? ⟨N6 + 1, 1, none⟩ = some (.slice Av k cv) := (blk_cell k7.out 1).trans rfl
     have U1 : wr.drew.cell? ⟨N6, 1, none⟩ = some (.slice (some ⟨g6, 0, none⟩) r1.length c6) := (blk_cell k6.out 1).trans rfl
     have U2 : wr.drew.cell? ⟨g6, k, none⟩ = some (.int .i64 ty) := hy
     have Rd0 := Aside0.mk (rdr_updN hRd.out (Upd.of_below dd []) (by simp) (by simp))
     have k4d := Aside0.mk (blk_below k4.out dd)
     have k6d := Aside0.mk (blk_below k6.out dd)
     have k7d := Aside0.mk (blk_below k7.out dd)
     have Ed := Aside0.mk (hE.out.below dd)
     have Ud := Aside0.mk (Upd.trans hU.out (Upd.of_below dd []) (fun _ h _ => by cases h))
     have Kd' : Aside0 (∀ k, w.heap.size + 1 ≤ k → k < w2.heap.size → wr.drew.heap[k]? = w3.heap[k]?) := ⟨hKp.out⟩
     have sd : N6 + 1 < wr.drew.heap.size := blk_lt k7d.out
     have sg : g6 < wr.drew.heap.size := hg6l
     have hEl := Aside0.mk (own_lt hE.out)
     clear dd hRd k4 k6 k7 hE hU hKp hy x1
     refine start_ (n := 13) (S := (fun w' => w'.cell? ⟨N6 + 1, 1, none⟩ = some (.slice Av k cv) ∧ w'.cell? ⟨N6, 1, none⟩ = some (.slice (some ⟨g6, 0, none⟩) r1.length c6) ∧ w'.cell? ⟨g6, k, none⟩ = some (.int .i64 ty))) (ds := [12]) (bz_ 13 0) (by kernel_rfl) rfl rfl ⟨U0, U1, U2⟩ (fun hHeld => ?_)
     generalize wr.drew = u at *
     refine pure_ (i := 0) (N := some 43) (v := ?_) (a' := ?_) (bz_ 13 1) rfl rfl (by kernel_rfl) (fun _ _ _ h => h) (Or.inl ⟨by rfl, ?_⟩) ?_ ?_
     rotate_left
     ·intro w'
      go_simp
      with_reducible rfl
     rotate_left
     ·simp only [Act.put, List.setIfInBounds_toArray, List.set_cons_zero, List.set_cons_succ, i64_w, i32_w]
      rfl
     refine take_ (i := 1) (N := some 44) (v := ?_) (a' := ?_) (bz_ 13 3) rfl rfl (by kernel_rfl) (fun _ _ _ h => h) (Or.inl ⟨by rfl, ?_⟩) hHeld ?_ ?_
     rotate_left
     ·rintro w' ⟨s0, s1, s2⟩
      go_simp
      with_reducible rfl
     rotate_left
     ·simp only [Act.put, List.setIfInBounds_toArray, List.set_cons_zero, List.set_cons_succ, i64_w, i32_w]
      rfl
     refine pure_ (i := 2) (N := some 45) (v := ?_) (a' := ?_) (bz_ 13 7) rfl rfl (by kernel_rfl) (fun _ _ _ h => h) (Or.inl ⟨by rfl, ?_⟩) ?_ ?_
     rotate_left
     ·intro w'
      go_simp
      with_reducible rfl
     rotate_left
     ·simp only [Act.put, List.setIfInBounds_toArray, List.set_cons_zero, List.set_cons_succ, i64_w, i32_w]
      rfl
     refine pure_ (i := 3) (N := some 46) (v := ?_) (a' := ?_) (bz_ 13 15) rfl rfl (by kernel_rfl) (fun _ _ _ h => h) (Or.inl ⟨by rfl, ?_⟩) ?_ ?_
     rotate_left
     ·intro w'
      go_simp
      with_reducible rfl
     rotate_left
     ·simp only [Act.put, List.setIfInBounds_toArray, List.set_cons_zero, List.set_cons_succ, i64_w, i32_w]
      rfl
     refine take_ (i := 4) (N := some 47) (v := ?_) (a' := ?_) (bz_ 13 31) rfl rfl (by kernel_rfl) (fun _ _ _ h => h) (Or.inl ⟨by rfl, ?_⟩) hHeld ?_ ?_
     rotate_left
     ·rintro w' ⟨s0, s1, s2⟩
      go_simp
      with_reducible rfl
     rotate_left
     ·simp only [Act.put, List.setIfInBounds_toArray, List.set_cons_zero, List.set_cons_succ, i64_w, i32_w]
      rfl
     refine pure_ (i := 5) (N := some 48) (v := ?_) (a' := ?_) (bz_ 13 63) rfl rfl (by kernel_rfl) (fun _ _ _ h => h) (Or.inl ⟨by rfl, ?_⟩) ?_ ?_
     rotate_left
     ·intro w'
      go_simp
      with_reducible rfl
     rotate_left
     ·simp only [Act.put, List.setIfInBounds_toArray, List.set_cons_zero, List.set_cons_succ, i64_w, i32_w]
      rfl
     refine pure_ (i := 6) (N := some 49) (v := ?_) (a' := ?_) (bz_ 13 127) rfl rfl (by kernel_rfl) (fun _ _ _ h => h) (Or.inl ⟨by rfl, ?_⟩) ?_ ?_
     rotate_left
     ·intro w'
      go_simp
      with_reducible rfl
     rotate_left
     ·simp only [Act.put, List.setIfInBounds_toArray, List.set_cons_zero, List.set_cons_succ, i64_w, i32_w]
      rfl
     refine take_ (i := 7) (N := some 50) (v := ?_) (a' := ?_) (bz_ 13 255) rfl rfl (by kernel_rfl) (fun _ _ _ h => h) (Or.inl ⟨by rfl, ?_⟩) hHeld ?_ ?_
     rotate_left
     ·rintro w' ⟨s0, s1, s2⟩
      go_simp
      with_reducible rfl
     rotate_left
     ·simp only [Act.put, List.setIfInBounds_toArray, List.set_cons_zero, List.set_cons_succ, i64_w, i32_w]
      rfl
     refine one_ (i := 8) (N := some 51) (bz_ 13 511) rfl rfl (by kernel_rfl) (by decide) (fun K hK => ?_)
     refine goes_ Tryd.func110 (by kernel_rfl) rfl #[.pointer (some ⟨g, 0, none⟩), .int .i64 ty] (by rfl) rfl rfl (by (try simp only [List.map_toArray, List.map_cons, List.map_nil]); first | done | rfl) ?_
     with_reducible refine (l2Word_any w0 u g (P + 2 + 2 * k) ty Rd0.out (by omega)).mono ?_
     rintro e w7 ⟨s, rfl, hs, hR7, hU7⟩
     refine ⟨_, rfl, ?_⟩
     have Rd7 := Aside0.mk hR7
     have k47 := Aside0.mk (blk_upd k4d.out hU7 (fun hm => by simp at hm; omega))
     have k67 := Aside0.mk (blk_upd k6d.out hU7 (fun hm => by simp at hm; omega))
     have k77 := Aside0.mk (blk_upd k7d.out hU7 (fun hm => by simp at hm; omega))
     have E7 := Aside0.mk (Ed.out.upd hU7 (fun x hx hm => by have := own_base Ed.out x hx; simp at hm; omega))
     have U7 := Aside0.mk (Upd.trans Ud.out hU7 (fun _ h _ => h))
     have K7' : Aside0 (∀ k, w.heap.size + 1 ≤ k → k < w2.heap.size → w7.heap[k]? = w3.heap[k]?) := ⟨fun k h1 h2 => (hU7.block k (by omega) (fun hm => by simp at hm; omega)).trans (Kd'.out k h1 h2)⟩
     have c7 : w7.cell? ⟨g6, k, none⟩ = some (.int .i64 ty) := by rw [World.cell?_of_block (a := ⟨g6, k, none⟩) (hU7.block g6 sg (fun hm => by simp at hm; omega))]; exact U2
     have s7 : N6 + 1 < w7.heap.size := Nat.lt_of_lt_of_le sd hU7.size
     refine hK.out _ _ ⟨(blk_cell k77.out 1).trans rfl, (blk_cell k67.out 1).trans rfl, c7⟩ (fun hHeld => ?_)
     clear hK K hHeld hR7 hU7 Rd0 k4d k6d k7d Ed Ud Kd' U0 U1 U2
     refine norm_ (a' := ?_) ?_ ?_
     rotate_left
     ·show Act.put _ (some 51) _ = _
      simp only [putAll, Act.put, List.setIfInBounds_toArray, List.set_cons_zero, List.set_cons_succ, i64_w, i32_w]
      rfl
     refine one_ (i := 9) (N := some 52) (bz_ 13 1023) rfl rfl (by kernel_rfl) (by decide) (fun K hK => ?_)
     refine value_ (w1 := ?_) (v := ?_) (by rfl) rfl ?_ ?_
     rotate_left 2
     ·go_simp
      constructor
      ·rfl
      ·rfl
     have a8 : Below w7.heap.size w7 (w7.alloc (.cells #[.string s] 9)) := (Below.refl _ _).alloc (Nat.le_refl _) _
     refine hK.out _ _ ⟨(blk_cell (blk_below k77.out a8) 1).trans rfl, (blk_cell (blk_below k67.out a8) 1).trans rfl, pw_cell_below a8 c7⟩ (fun hHeld => ?_)
     clear hK K hHeld a8
     refine norm_ (a' := ?_) ?_ ?_
     rotate_left
     ·show Act.put _ (some 52) _ = _
      simp only [putAll, Act.put, List.setIfInBounds_toArray, List.set_cons_zero, List.set_cons_succ, i64_w, i32_w]
      rfl
     refine one_ (i := 10) (N := some 53) (bz_ 13 2047) rfl rfl (by kernel_rfl) (by decide) (fun K hK => ?_)
     refine ER.app_step (w0 := w7) (base := N6 + 2) (v := .slice Av k cv) (xs := ws) (fun _ => rfl) (.string ⟨#[]⟩) 16 [s] (.tmp 44) (.tmp 52) 27 9 E7.out (Below.refl _ _) (by simp; omega) (by rfl) rfl Tryd.underlying27 infoStr1 rfl (by decide) (by decide) (by omega) (by rfl) (by rfl) ?_
     intro v1 w8 ho8 hb8 hg8 hat8
     obtain ⟨A1, c1', hv1, _⟩ := ER.form ho8.out
     rw [show (ws ++ [s]).length = k + 1 by simp; omega] at hv1
     subst hv1
     have hob : ∀ x, (Value.slice Av k cv).ownBlock = some x → N6 + 2 ≤ x := fun x hx => own_base E7.out x hx
     have k48 := Aside0.mk (blk_up k47.out hb8 (by omega))
     have k68 := Aside0.mk (blk_up k67.out hb8 (by omega))
     have k78 := Aside0.mk (blk_up k77.out hb8 (by omega))
     have Rd8 := Aside0.mk (rdr_below Rd7.out hb8 (by omega) (by omega))
     have U8 := Aside0.mk (Upd.trans U7.out (Upd.of_grown hg8.out) (fun x hx hl => by simp at hx; have := hob x hx; omega))
     have K8 : Aside0 (∀ k, w.heap.size + 1 ≤ k → k < w2.heap.size → w8.heap[k]? = w3.heap[k]?) := ⟨fun k h1 h2 => (hb8.block k (by omega)).trans (K7'.out k h1 h2)⟩
     have c8' : w8.cell? ⟨g6, k, none⟩ = some (.int .i64 ty) := by rw [World.cell?_of_block (a := ⟨g6, k, none⟩) (hb8.block g6 (by omega))]; exact c7
     refine hK.out _ _ ⟨(blk_cell k78.out 1).trans rfl, (blk_cell k68.out 1).trans rfl, c8'⟩ (fun hHeld => ?_)
     clear hK K hHeld hb8 hg8 hat8 hob k47 k67 k77 Rd7 U7 K7' E7 c7 s7
     refine norm_ (a' := ?_) ?_ ?_
     rotate_left
     ·show Act.put _ (some 53) _ = _
      simp only [putAll, Act.put, List.setIfInBounds_toArray, List.set_cons_zero, List.set_cons_succ, i64_w, i32_w]
      rfl
     refine pure_ (i := 11) (N := some 54) (v := ?_) (a' := ?_) (bz_ 13 4095) rfl rfl (by kernel_rfl) (fun _ _ _ h => h) (Or.inl ⟨by rfl, ?_⟩) ?_ ?_
     rotate_left
     ·intro w'
      go_simp
      with_reducible rfl
     rotate_left
     ·simp only [Act.put, List.setIfInBounds_toArray, List.set_cons_zero, List.set_cons_succ, i64_w, i32_w]
      rfl
     refine last_ (i := 12) (N := none) (bz_ 13 8191) rfl rfl (by kernel_rfl) (by decide) (fun K hK => ?_)
     have q1 : w8.cell? ⟨N6 + 1, 1, none⟩ = some (.slice Av k cv) := (blk_cell k78.out 1).trans rfl
     have qf := blk_frozen k78.out 1
     refine skip_ (w1 := ?_) (by rfl) rfl ?_ ?_
     rotate_left
     ·go_simp
      rfl
     have uc := upd_cell w8 (N6 + 1) 1 (.slice A1 (k + 1) c1')
     have k49 := Aside0.mk (blk_upd k48.out uc (fun hm => by simp at hm; omega))
     have k69 := Aside0.mk (blk_upd k68.out uc (fun hm => by simp at hm))
     have k79 := Aside0.mk (blk_put k78.out 1 (.slice A1 (k + 1) c1') rfl)
     have Rd9 := Aside0.mk ((rdr_updN Rd8.out uc (fun hm => by simp at hm; omega) (fun x hx => by simp at hx; omega)).mono (Q := P + 2 + 2 * ((k + 1 : Nat) : Int)) (by omega))
     have E9 := Aside0.mk (ho8.out.far (p := ⟨N6 + 1, 1, none⟩) (show N6 + 1 < N6 + 2 by omega) (.slice A1 (k + 1) c1'))
     have U9 := Aside0.mk (Upd.trans U8.out uc (fun x hx hl => by simp at hx; omega))
     have K9 : Aside0 (∀ x, w.heap.size + 1 ≤ x → x < w2.heap.size → (w8.setCell ⟨N6 + 1, 1, none⟩ (.slice A1 (k + 1) c1')).heap[x]? = w3.heap[x]?) := ⟨fun x h1 h2 => (uc.block x (by have := uc.size; have h4 := blk_lt k78.out; omega) (fun hm => by simp at hm; omega)).trans (K8.out x h1 h2)⟩
     have W9 : Aside0 (∀ y ∈ ws ++ [s], y.size ≤ 1048576) := ⟨fun y hy => by
      rcases List.mem_append.1 hy with h | h
      ·exact hws.out y h
      ·have := List.mem_singleton.1 h; subst this; omega⟩
     refine hK.out _ _ ?_
     clear hK K q1 qf uc k48 k68 k78 Rd8 ho8 U8 K8 c8' hws
     refine done_ (by kernel_rfl) ?_
     go_wp2
     go_roundw
     case rel => exact ⟨k + 1, (.slice A1 (k + 1) c1'), ws ++ [s], by go_num, hkl, by simp; omega, W9, Rd9, k49, k69, k79, E9, U9, K9⟩
     case measure => simp [intOf]; omega
    ·obtain rfl : k = r1.length := by omega
     have z0 : wr.cell? ⟨N6 + 1, 0, none⟩ = some (.string r0) := (blk_cell k7.out 0).trans rfl
     have z1 : wr.cell? ⟨N6 + 1, 1, none⟩ = some (.slice Av r1.length cv) := (blk_cell k7.out 1).trans rfl
     have p0 : wr.cell? ⟨w.heap.size, 0, none⟩ = some (.string ⟨#[]⟩) := (blk_cell k4.out 0).trans rfl
     have p1 : wr.cell? ⟨w.heap.size, 1, none⟩ = some (.slice none 0 0) := (blk_cell k4.out 1).trans rfl
     have pf0 := blk_frozen k4.out 0
     have pf1 := blk_frozen k4.out 1
     have UU := Aside0.mk (upd_in (upd_cell wr w.heap.size 0 (.string r0)) (upd_cell _ w.heap.size 1 (.slice Av r1.length cv)) (fun _ h => h))
     have BB := Aside0.mk (blk_put (blk_put k4.out 0 (.string r0) rfl) 1 (.slice Av r1.length cv) rfl)
     have EE := Aside0.mk (ER.lower ((hE.out.far (p := ⟨w.heap.size, 0, none⟩) (show w.heap.size < N6 + 2 by omega) (.string r0)).far (p := ⟨w.heap.size, 1, none⟩) (show w.heap.size < N6 + 2 by omega) (.slice Av r1.length cv)) (show w.heap.size ≤ N6 + 2 by omega))
     have RR := Aside0.mk ((rdr_updN hRd.out UU.out (by simp; omega) (fun x hx => by simp at hx; omega)).mono (Q := P + 60) (by omega))
     have UF := Aside0.mk (Upd.trans hU.out UU.out (fun x hx hl => by simp at hx; omega))
     clear hRd k4 k6 k7 hE hU hKp
     go_wp2
     refine bodyPost_ret (results_cell_row rfl _ _ w.heap.size 83 #[.string r0, .slice Av r1.length cv] (0, 0) _ rfl (by exact BB.out) Tryd.underlying83 rfl (by kernel_rfl)) rfl ⟨r0, .slice Av r1.length cv, ws, rfl, by omega, hws.out, EE.out, RR.out, UF.out⟩
theorem kinds_at (w1 : World) (b : Int) (b0 : 0 ≤ b) (b1 : b < 3) : ∃ kd : ByteArray, 0 < (rulesL kd).length ∧ (w1.alloc (.cells #[.string ⟨#[116, 101, 97, 109]⟩, .string ⟨#[98, 101, 114, 116, 104]⟩, .string ⟨#[115, 101, 114, 118, 105, 99, 101]⟩] 9)).cell? ⟨w1.heap.size, b.toNat, none⟩ = some (.string kd) := by
 have hc := blk_cell (blk_new w1 (.cells #[.string ⟨#[116, 101, 97, 109]⟩, .string ⟨#[98, 101, 114, 116, 104]⟩, .string ⟨#[115, 101, 114, 118, 105, 99, 101]⟩] 9))
 have h3 : b = 0 ∨ b = 1 ∨ b = 2 := by omega
 rcases h3 with rfl | rfl | rfl
 ·exact ⟨_, by decide +kernel, (hc 0).trans rfl⟩
 ·exact ⟨_, by decide +kernel, (hc 1).trans rfl⟩
 ·exact ⟨_, by decide +kernel, (hc 2).trans rfl⟩
abbrev FitsPost (w : World) (e : Ending) (w' : World) : Prop := ∃ (kd key : ByteArray) (ws : List ByteArray) (B : Option Addr) (d : Nat), e = .returned (.tuple #[.string kd, .string key, .slice B ws.length d]) ∧ ws.length ≤ 21 ∧ ws.length ≤ d ∧ (∀ s ∈ ws, s.size ≤ 1048576) ∧ Kd.C Kd.string w' B ws.length ws ∧ Below w.heap.size w w'
theorem er_C {w : World} {b c : Nat} {A : Option Addr} {n : Nat} {ws : List ByteArray} (h : ER Value.string w b 9 (.slice A n c) ws) : ws.length ≤ c ∧ n = ws.length ∧ Kd.C Kd.string w A ws.length ws := by
 obtain ⟨A', c', hv, hl, hC⟩ := strsS.ord (strs_ER.2 ⟨h, rfl⟩)
 injection hv with hv _
 injection hv with h1 h2 h3
 subst h1 h3
 exact ⟨hl, h2, hC⟩
set_option maxRecDepth 100000 in
set_option maxHeartbeats 8000000 in
theorem drawFits_any (w : World) (A : Option Addr) (len cap : Nat) (zs : List Int) (hr : Rd (Value.int .u8) w A zs) (hz : ∀ z ∈ zs, 0 ≤ z ∧ z ≤ 255) (hl : zs.length = len) (hc : len ≤ cap) (hc2 : cap ≤ 9223372036854775807) :
  Calls Tryd.prog 25 #[.slice A len cap] w (FitsPost w) := by
 go_enter Tryd.func25, Tryd.ntmps25
 go_wp2_with fail
 refine (l1Open_any w A len cap zs hr hz hl hc hc2).mono ?_
 rintro e w1 ⟨rfl, hR, hb1⟩
 have hlt := hR.lt
 have K10 := kinds_at w1
 have H1 := Aside0.mk (hR.upd (Upd.of_below ((Below.refl w1.heap.size w1).alloc (Nat.le_refl _) (.cells #[.string ⟨#[116, 101, 97, 109]⟩, .string ⟨#[98, 101, 114, 116, 104]⟩, .string ⟨#[115, 101, 114, 118, 105, 99, 101]⟩] 9)) []))
 clear hr hz hl hc hc2 hb1 hR
 go_wp2_with fail
 refine (pick_any w _ w.heap.size 0 3 H1.out (by omega) (by omega)).mono ?_
 rintro e w2 ⟨b, rfl, b0, b1, -, hR2, hU2⟩
 have b1 := b1 (by omega)
 obtain ⟨kd, hkd, hck⟩ := K10 b b0 b1
 have hck2 : w2.cell? ⟨w1.heap.size, b.toNat, none⟩ = some (.string kd) := by rw [World.cell?_of_block (a := ⟨w1.heap.size, b.toNat, none⟩) (hU2.block w1.heap.size (by simp) (fun hm => by simp at hm; omega))]; exact hck
 have H2 := Aside0.mk hR2
 have s2 : w1.heap.size + 1 ≤ w2.heap.size := by have := hU2.size; simpa using this
 clear hck K10 H1 hU2 hR2
 go_upto_region 3 with (fail)
 clear hck2
 go_wp2_with fail
 refine (l2Line_any w w2 w.heap.size (0 + 1) kd H2.out (by omega) (by omega) hkd).mono ?_
 rintro e w3 ⟨key, v, ws, rfl, hwl, hws, hE, hR3, hU3⟩
 obtain ⟨Av, cv, hv, _⟩ := ER.form hE
 subst hv
 have a4 : Below w3.heap.size w3 (w3.alloc (.cells #[.string key, .slice Av ws.length cv] 83)) := (Below.refl _ _).alloc (Nat.le_refl _) _
 have K7 := Aside0.mk (blk_new w3 (.cells #[.string key, .slice Av ws.length cv] 83))
 have H4 := Aside0.mk (hR3.upd (Upd.of_below a4 []))
 have E4 := Aside0.mk (hE.below a4)
 have hOl := Aside0.mk (own_lt hE)
 have hOb := Aside0.mk (own_base hE)
 have HWS := Aside0.mk hws
 have s3 : w2.heap.size ≤ w3.heap.size := hU3.size
 have s4 : (w3.alloc (.cells #[.string key, .slice Av ws.length cv] 83)).heap.size = w3.heap.size + 1 := by simp
 clear hE hR3 hU3 a4 hws H2
 go_upto_region 4 with (fail)
 generalize w3.alloc (.cells #[.string key, .slice Av ws.length cv] 83) = w4 at *
 generalize hN7 : w3.heap.size = N7 at *
 clear hN7
 go_wp2_with fail
 refine (pick_any w w4 w.heap.size _ 2 H4.out (by omega) (by omega)).mono ?_
 rintro e w5 ⟨a, rfl, a0, a1, -, hR5, hU5⟩
 have a1 := a1 (by omega)
 have K75 := Aside0.mk (blk_upd K7.out hU5 (fun hm => by simp at hm; omega))
 have H5 := Aside0.mk hR5
 have E5 := Aside0.mk (E4.out.upd hU5 (fun x hx hm => by have := hOb.out x hx; simp at hm; omega))
 have s5 : N7 < w5.heap.size := blk_lt K75.out
 have z1 : w5.cell? ⟨N7, 1, none⟩ = some (.slice Av ws.length cv) := (blk_cell K75.out 1).trans rfl
 clear hR5 hU5 K7 H4 E4
 by_cases ha : a = 0
 ·subst ha
  by_cases hlw : 0 < ws.length
  ·obtain ⟨A1, c1', hv1, hfo⟩ := ER.form E5.out
   injection hv1 with hv1 _ hv2
   obtain ⟨g8, hA8, hg8, hg8l, _, _⟩ := hfo hlw
   subst hA8
   subst hv1
   subst hv2
   have i0 : (0 : Int) < ((ws.length : Nat) : Int) := by omega
   have hN8 : g8 < N7 := hOl.out g8 (by simp [Value.ownBlock])
   have hlw1 : ((ws.length : Nat) : Int) > 0 := i0
   go_upto_region 5 with (fail)
   have dd : Below w5.heap.size w5 w5.drew := below_drew (Below.refl _ _)
   have U0 : w5.drew.cell? ⟨N7, 0, none⟩ = some (.string key) := (blk_cell K75.out 0).trans rfl
   have U1 : w5.drew.cell? ⟨N7, 1, none⟩ = some (.slice (some ⟨g8, 0, none⟩) ws.length cv) := (blk_cell K75.out 1).trans rfl
   have Hd := Aside0.mk (H5.out.upd (Upd.of_below dd []))
   have Kd0 := Aside0.mk (blk_below K75.out dd)
   have Ed := Aside0.mk (E5.out.below dd)
   have sd : N7 < w5.drew.heap.size := s5
   clear dd H5 K75 E5 z1
   refine start_ (n := 11) (S := (fun w' => w'.cell? ⟨N7, 0, none⟩ = some (.string key) ∧ w'.cell? ⟨N7, 1, none⟩ = some (.slice (some ⟨g8, 0, none⟩) ws.length cv))) (ds := [10]) (bz_ 11 0) (by kernel_rfl) rfl rfl ⟨U0, U1⟩ (fun hHeld => ?_)
   generalize w5.drew = u at *
   refine pure_ (i := 0) (N := some 27) (v := ?_) (a' := ?_) (bz_ 11 1) rfl rfl (by kernel_rfl) (fun _ _ _ h => h) (Or.inl ⟨by rfl, ?_⟩) ?_ ?_
   rotate_left
   ·intro w'
    go_simp
    with_reducible rfl
   rotate_left
   ·simp only [Act.put, List.setIfInBounds_toArray, List.set_cons_zero, List.set_cons_succ, i64_w, i32_w]
    rfl
   refine take_ (i := 1) (N := some 28) (v := ?_) (a' := ?_) (bz_ 11 3) rfl rfl (by kernel_rfl) (fun _ _ _ h => h) (Or.inl ⟨by rfl, ?_⟩) hHeld ?_ ?_
   rotate_left
   ·rintro w' ⟨s0, s1⟩
    go_simp
    with_reducible rfl
   rotate_left
   ·simp only [Act.put, List.setIfInBounds_toArray, List.set_cons_zero, List.set_cons_succ, i64_w, i32_w]
    rfl
   refine pure_ (i := 2) (N := some 29) (v := ?_) (a' := ?_) (bz_ 11 7) rfl rfl (by kernel_rfl) (fun _ _ _ h => h) (Or.inl ⟨by rfl, ?_⟩) ?_ ?_
   rotate_left
   ·intro w'
    go_simp
    with_reducible rfl
   rotate_left
   ·simp only [Act.put, List.setIfInBounds_toArray, List.set_cons_zero, List.set_cons_succ, i64_w, i32_w]
    rfl
   refine pure_ (i := 3) (N := some 30) (v := ?_) (a' := ?_) (bz_ 11 15) rfl rfl (by kernel_rfl) (fun _ _ _ h => h) (Or.inl ⟨by rfl, ?_⟩) ?_ ?_
   rotate_left
   ·intro w'
    go_simp
    with_reducible rfl
   rotate_left
   ·simp only [Act.put, List.setIfInBounds_toArray, List.set_cons_zero, List.set_cons_succ, i64_w, i32_w]
    rfl
   refine take_ (i := 4) (N := some 31) (v := ?_) (a' := ?_) (bz_ 11 31) rfl rfl (by kernel_rfl) (fun _ _ _ h => h) (Or.inl ⟨by rfl, ?_⟩) hHeld ?_ ?_
   rotate_left
   ·rintro w' ⟨s0, s1⟩
    go_simp
    with_reducible rfl
   rotate_left
   ·simp only [Act.put, List.setIfInBounds_toArray, List.set_cons_zero, List.set_cons_succ, i64_w, i32_w]
    rfl
   refine pure_ (i := 5) (N := some 32) (v := ?_) (a' := ?_) (bz_ 11 63) rfl rfl (by kernel_rfl) (fun _ _ _ h => h) (Or.inl ⟨by rfl, ?_⟩) ?_ ?_
   rotate_left
   ·intro w'
    go_simp
    with_reducible rfl
   rotate_left
   ·simp only [Act.put, List.setIfInBounds_toArray, List.set_cons_zero, List.set_cons_succ, i64_w, i32_w]
    rfl
   refine pure_ (i := 7) (N := some 34) (v := ?_) (a' := ?_) (bz_ 11 191) rfl rfl (by kernel_rfl) (fun _ _ _ h => h) (Or.inl ⟨by rfl, ?_⟩) ?_ ?_
   rotate_left
   ·intro w'
    go_simp
    with_reducible rfl
   rotate_left
   ·simp only [Act.put, List.setIfInBounds_toArray, List.set_cons_zero, List.set_cons_succ, i64_w, i32_w]
    rfl
   refine one_ (i := 6) (N := some 33) (bz_ 11 255) rfl rfl (by kernel_rfl) (by decide) (fun K hK => ?_)
   refine goes_ Tryd.func67 (by kernel_rfl) rfl #[.pointer (some ⟨w.heap.size, 0, none⟩), .int .i64 ws.length] (by rfl) rfl rfl (by (try simp only [List.map_toArray, List.map_cons, List.map_nil]); first | done | rfl) ?_
   with_reducible refine (pick_any w u w.heap.size _ (ws.length : Nat) Hd.out (by omega) (by omega)).mono ?_
   rintro e w6 ⟨b6, rfl, b60, b61, -, hR6, hU6⟩
   have b61 := b61 (by omega)
   refine ⟨_, rfl, ?_⟩
   have K6 := Aside0.mk (blk_upd Kd0.out hU6 (fun hm => by simp at hm; omega))
   have H6 := Aside0.mk hR6
   have E6 := Aside0.mk (Ed.out.upd hU6 (fun x hx hm => by have := hOb.out x hx; simp at hm; omega))
   refine hK.out _ _ ⟨(blk_cell K6.out 0).trans rfl, (blk_cell K6.out 1).trans rfl⟩ (fun hHeld => ?_)
   clear hK K hHeld hR6 hU6 Kd0 Hd Ed U0 U1
   refine norm_ (a' := ?_) ?_ ?_
   rotate_left
   ·show Act.put _ (some 33) _ = _
    simp only [putAll, Act.put, List.setIfInBounds_toArray, List.set_cons_zero, List.set_cons_succ, i64_w, i32_w]
    rfl
   refine one_ (i := 8) (N := some 35) (bz_ 11 511) rfl rfl (by kernel_rfl) (by decide) (fun K hK => ?_)
   refine goes_ Tryd.func69 (by kernel_rfl) rfl #[.pointer (some ⟨w.heap.size, 0, none⟩)] (by rfl) rfl rfl (by (try simp only [List.map_toArray, List.map_cons, List.map_nil]); first | done | rfl) ?_
   with_reducible refine (l2Odd_any w w6 w.heap.size _ H6.out (by omega)).mono ?_
   rintro e w7 ⟨so, rfl, hso, hR7, hU7⟩
   refine ⟨_, rfl, ?_⟩
   have K7 := Aside0.mk (blk_upd K6.out hU7 (fun hm => by simp at hm; omega))
   have H7 := Aside0.mk hR7
   have E7 := Aside0.mk (E6.out.upd hU7 (fun x hx hm => by have := hOb.out x hx; simp at hm; omega))
   refine hK.out _ _ ⟨(blk_cell K7.out 0).trans rfl, (blk_cell K7.out 1).trans rfl⟩ (fun hHeld => ?_)
   clear hK K hHeld hR7 hU7 K6 H6 E6
   refine norm_ (a' := ?_) ?_ ?_
   rotate_left
   ·show Act.put _ (some 35) _ = _
    simp only [putAll, Act.put, List.setIfInBounds_toArray, List.set_cons_zero, List.set_cons_succ, i64_w, i32_w]
    rfl
   refine pure_ (i := 9) (N := some 36) (v := ?_) (a' := ?_) (bz_ 11 1023) rfl rfl (by kernel_rfl) (fun _ _ _ h => h) (Or.inl ⟨by rfl, ?_⟩) ?_ ?_
   rotate_left
   ·intro w'
    go_simp
    with_reducible rfl
   rotate_left
   ·simp only [Act.put, List.setIfInBounds_toArray, List.set_cons_zero, List.set_cons_succ, i64_w, i32_w]
    rfl
   refine last_ (i := 10) (N := none) (bz_ 11 2047) rfl rfl (by kernel_rfl) (by decide) (fun K hK => ?_)
   obtain ⟨k6, rfl⟩ := Int.eq_ofNat_of_zero_le b60
   have hk6 : k6 < ws.length := by omega
   obtain ⟨A9, c9, hv9, hfo9⟩ := ER.form E7.out
   injection hv9 with hv9 _ hv92
   subst hv9
   subst hv92
   obtain ⟨g9, hg9, _, _, hfr, hce⟩ := hfo9 (by omega)
   injection hg9 with hg9
   injection hg9 with hg9 _ _
   subst hg9
   have q1 : w7.cell? ⟨g8, k6, none⟩ = some (.string ws[k6]) := hce k6 _ (List.getElem?_eq_getElem hk6)
   have qf : w7.frozen? ⟨g8, k6, none⟩ = false := hfr k6
   refine skip_ (w1 := ?_) (by rfl) rfl ?_ ?_
   rotate_left
   ·go_simp
    rfl
   have hST := ER.set E7.out k6 so
   have e9 := hST.1
   simp only [List.length_set] at e9
   have uc := upd_cell w7 g8 k6 (.string so)
   have Kq := Aside0.mk (blk_upd K7.out uc (fun hm => by simp at hm; omega))
   have Hq := Aside0.mk ((rdr_updN H7.out uc (fun hm => by simp at hm; omega) (fun x hx => by simp at hx; omega)).mono (Q := 80) (by omega))
   have Eq' := Aside0.mk e9
   have HW2 : Aside0 (∀ s ∈ ws.set k6 so, s.size ≤ 1048576) := ⟨fun s hs => by
    rcases List.mem_or_eq_of_mem_set hs with h | h
    ·exact HWS.out s h
    ·subst h; omega⟩
   have hl2 : (ws.set k6 so).length = ws.length := List.length_set
   refine hK.out _ _ ?_
   clear hK K q1 qf hST e9 uc K7 H7 E7 hce hfr hfo9 HWS
   generalize w7.setCell ⟨g8, k6, none⟩ (.string so) = wq at *
   generalize ws.set k6 so = wz at *
   rw [← hl2] at Kq Eq' hOb hOl
   refine done_ (by kernel_rfl) ?_
   have hwl2 : wz.length ≤ 20 := by omega
   clear hlw hlw1 i0 hl2
   go_wp2_with fail
   refine (pick_any w wq w.heap.size 80 10 Hq.out (by omega) (by omega)).mono ?_
   rintro e wt ⟨ct, rfl, c0, c1, -, hRt, hUt⟩
   have c1 := c1 (by omega)
   have Kt := Aside0.mk (blk_upd Kq.out hUt (fun hm => by simp at hm; omega))
   have Ht := Aside0.mk hRt
   have Et := Aside0.mk (Eq'.out.upd hUt (fun x hx hm => by have := hOb.out x hx; simp at hm; omega))
   have st : N7 < wt.heap.size := blk_lt Kt.out
   have y0 : wt.cell? ⟨N7, 0, none⟩ = some (.string key) := (blk_cell Kt.out 0).trans rfl
   have y1 : wt.cell? ⟨N7, 1, none⟩ = some (.slice (some ⟨g8, 0, none⟩) wz.length cv) := (blk_cell Kt.out 1).trans rfl
   have yf0 := blk_frozen Kt.out 0
   have yf1 := blk_frozen Kt.out 1
   clear hRt hUt Kq Hq Eq'
   have hcase : ct = 0 ∨ ct = 1 ∨ ct = 2 ∨ 3 ≤ ct := by omega
   rcases hcase with rfl | rfl | rfl | hct
   ·go_wp2_with (at_builtin; (refine ER.app (w0 := wt) (base := w2.heap.size) (v := .slice (some ⟨g8, 0, none⟩) wz.length cv) (xs := wz) (fun _ => rfl) (.string ⟨#[]⟩) 16 [(⟨#[49]⟩ : ByteArray)] (.tmp 42) (.tmp 43) 27 9 Et.out (Below.refl _ _) (by simp; omega) rfl rfl Tryd.underlying27 infoStr1 rfl (by decide) (by decide) (by omega) rfl (by simp [Act.eval]) ?_))
    intro v1 wu ho hb hg hat
    obtain ⟨A1, c1', hv1, _⟩ := ER.form ho.out
    rw [show (wz ++ [(⟨#[49]⟩ : ByteArray)]).length = wz.length + 1 by simp] at hv1
    subst hv1
    have Ku := Aside0.mk (blk_grown Kt.out hg.out (fun e => by have := hOl.out N7 e.symm; omega))
    have x1 : wu.cell? ⟨N7, 1, none⟩ = some (.slice (some ⟨g8, 0, none⟩) wz.length cv) := (blk_cell Ku.out 1).trans rfl
    have xf1 := blk_frozen Ku.out 1
    have su : N7 < wu.heap.size := blk_lt Ku.out
    have Kv := Aside0.mk (blk_put Ku.out 1 (.slice A1 (wz.length + 1) c1') rfl)
    have hob1 : ∀ x, (Value.slice A1 (wz.length + 1) c1').ownBlock = some x → x ≠ N7 := fun x hx e => by
     rcases hat.out with h | ⟨y, h, hy⟩
     ·have := hOl.out x (h ▸ hx); omega
     ·rw [h] at hx; injection hx with hx; omega
    have Ev := Aside0.mk (ho.out.upd (upd_cell wu N7 1 (.slice A1 (wz.length + 1) c1')) (fun x hx hm => hob1 x hx (by simpa using hm)))
    have Bv := Aside0.mk ((Ht.out.below.trans (hb.mono (show w.heap.size ≤ w2.heap.size by omega))).setCell (p := ⟨N7, 1, none⟩) (show w.heap.size ≤ N7 by omega) (.slice A1 (wz.length + 1) c1'))
    have WW : Aside0 (∀ s ∈ wz ++ [(⟨#[49]⟩ : ByteArray)], s.size ≤ 1048576) := ⟨fun s hs => by
     rcases List.mem_append.1 hs with h | h
     ·exact HW2.out s h
     ·have := List.mem_singleton.1 h; subst this; decide⟩
    clear ho hb hg hat hob1 Kt Et Ht y0 y1 yf0 yf1 Ku
    go_upto_region 13 with (fail)
    generalize wu.setCell ⟨N7, 1, none⟩ (.slice A1 (wz.length + 1) c1') = wv at *
    have x0 : wv.cell? ⟨N7, 0, none⟩ = some (.string key) := (blk_cell Kv.out 0).trans rfl
    have x1 : wv.cell? ⟨N7, 1, none⟩ = some (.slice A1 (wz.length + 1) c1') := (blk_cell Kv.out 1).trans rfl
    have CC := Aside0.mk (er_C Ev.out)
    clear Kv Ev
    go_wp2
    go_quiet (fail)
    go_wp2
    go_ret3
    refine ⟨kd, key, wz ++ [(⟨#[49]⟩ : ByteArray)], A1, c1', by simp, by simp; omega, CC.out.1, WW.out, CC.out.2.2, pw_below_drewN Bv.out _⟩
   ·go_upto_region 10 with (fail)
    have dd : Below wt.heap.size wt wt.drew := below_drew (Below.refl _ _)
    have U0 : wt.drew.cell? ⟨N7, 0, none⟩ = some (.string key) := y0
    have U1 : wt.drew.cell? ⟨N7, 1, none⟩ = some (.slice (some ⟨g8, 0, none⟩) wz.length cv) := y1
    have Hd := Aside0.mk (Ht.out.upd (Upd.of_below dd []))
    have Kd0 := Aside0.mk (blk_below Kt.out dd)
    have Ed := Aside0.mk (Et.out.below dd)
    have sd : N7 < wt.drew.heap.size := st
    clear dd Ht Kt Et y0 y1 yf0 yf1
    refine start_ (n := 12) (S := (fun w' => w'.cell? ⟨N7, 0, none⟩ = some (.string key) ∧ w'.cell? ⟨N7, 1, none⟩ = some (.slice (some ⟨g8, 0, none⟩) wz.length cv))) (ds := []) (bz_ 12 0) (by kernel_rfl) rfl rfl ⟨U0, U1⟩ (fun hHeld => ?_)
    generalize wt.drew = u at *
    refine pure_ (i := 1) (N := some 49) (v := ?_) (a' := ?_) (bz_ 12 2) rfl rfl (by kernel_rfl) (fun _ _ _ h => h) (Or.inl ⟨by rfl, ?_⟩) ?_ ?_
    rotate_left
    ·intro w'
     go_simp
     with_reducible rfl
    rotate_left
    ·simp only [Act.put, List.setIfInBounds_toArray, List.set_cons_zero, List.set_cons_succ, i64_w, i32_w]
     rfl
    refine pure_ (i := 5) (N := some 53) (v := ?_) (a' := ?_) (bz_ 12 34) rfl rfl (by kernel_rfl) (fun _ _ _ h => h) (Or.inl ⟨by rfl, ?_⟩) ?_ ?_
    rotate_left
    ·intro w'
     go_simp
     with_reducible rfl
    rotate_left
    ·simp only [Act.put, List.setIfInBounds_toArray, List.set_cons_zero, List.set_cons_succ, i64_w, i32_w]
     rfl
    refine take_ (i := 6) (N := some 54) (v := ?_) (a' := ?_) (bz_ 12 98) rfl rfl (by kernel_rfl) (fun _ _ _ h => h) (Or.inl ⟨by rfl, ?_⟩) hHeld ?_ ?_
    rotate_left
    ·rintro w' ⟨s0, s1⟩
     go_simp
     with_reducible rfl
    rotate_left
    ·simp only [Act.put, List.setIfInBounds_toArray, List.set_cons_zero, List.set_cons_succ, i64_w, i32_w]
     rfl
    refine pure_ (i := 7) (N := some 55) (v := ?_) (a' := ?_) (bz_ 12 226) rfl rfl (by kernel_rfl) (fun _ _ _ h => h) (Or.inl ⟨by rfl, ?_⟩) ?_ ?_
    rotate_left
    ·intro w'
     go_simp
     with_reducible rfl
    rotate_left
    ·simp only [Act.put, List.setIfInBounds_toArray, List.set_cons_zero, List.set_cons_succ, i64_w, i32_w]
     rfl
    refine take_ (i := 8) (N := some 56) (v := ?_) (a' := ?_) (bz_ 12 482) rfl rfl (by kernel_rfl) (fun _ _ _ h => h) (Or.inl ⟨by rfl, ?_⟩) hHeld ?_ ?_
    rotate_left
    ·rintro w' ⟨s0, s1⟩
     go_simp
     with_reducible rfl
    rotate_left
    ·simp only [Act.put, List.setIfInBounds_toArray, List.set_cons_zero, List.set_cons_succ, i64_w, i32_w]
     rfl
    refine join_ (σ := Value × Value) 5 (bz_ 12 487) (fun s => [(48, s.1), (50, s.2)]) (fun s w' => ∃ g10 b, s.1 = .slice (some ⟨g10, 0, none⟩) 2 2 ∧ s.2 = .int .i64 b ∧ 0 ≤ b ∧ b < 2 ∧ w'.heap[g10]? = some (.cells #[.string ⟨#[110, 111, 110, 101]⟩, .string ⟨#[]⟩] 9 (0, 0)) ∧ Upd [w.heap.size] u w') ?_ ?_
    rotate_left
    ·intro hCont
     refine two_ (i := 0) (j := 2) (Ni := some 48) (Nj := some 50) (bz_ 12 483) (bz_ 12 486) rfl rfl rfl rfl (by kernel_rfl) (by decide) (by decide) (fun K hK => ?_) (fun K hK => ?_)
     ·skip
      refine value_ (w1 := ?_) (v := ?_) (by rfl) rfl ?_ ?_
      rotate_left 2
      ·go_simp
       constructor
       ·rfl
       ·rfl
      have a1 : Below u.heap.size u (u.alloc (.cells #[.string ⟨#[110, 111, 110, 101]⟩, .string ⟨#[]⟩] 9)) := (Below.refl _ _).alloc (Nat.le_refl _) _
      have bz := blk_new u (.cells #[.string ⟨#[110, 111, 110, 101]⟩, .string ⟨#[]⟩] 9)
      refine hK.out _ _ ⟨pw_cell_below a1 U0, pw_cell_below a1 U1⟩ (fun hHeld => ?_)
      clear hK K hHeld
      refine norm_ (a' := ?_) ?_ ?_
      rotate_left
      ·show Act.put _ (some 48) _ = _
       simp only [putAll, Act.put, List.setIfInBounds_toArray, List.set_cons_zero, List.set_cons_succ, i64_w, i32_w]
       rfl
      refine one_ (i := 2) (N := some 50) (bz_ 12 487) rfl rfl (by kernel_rfl) (by decide) (fun K hK => ?_)
      refine goes_ Tryd.func67 (by kernel_rfl) rfl #[.pointer (some ⟨w.heap.size, 0, none⟩), .int .i64 2] (by rfl) rfl rfl (by (try simp only [List.map_toArray, List.map_cons, List.map_nil]); first | done | rfl) ?_
      with_reducible refine (pick_any w (u.alloc (.cells #[.string ⟨#[110, 111, 110, 101]⟩, .string ⟨#[]⟩] 9)) w.heap.size _ 2 (Hd.out.upd (Upd.of_below a1 [])) (by omega) (by omega)).mono ?_
      rintro e x2 ⟨du, rfl, d0, d1, -, hRu, hUu⟩
      have d1 := d1 (by omega)
      refine ⟨_, rfl, ?_⟩
      have k2 := blk_upd (blk_below Kd0.out a1) hUu (fun hm => by simp at hm; omega)
      refine hK.out _ _ ⟨(blk_cell k2 0).trans rfl, (blk_cell k2 1).trans rfl⟩ (fun hHeld => ?_)
      clear hK K hHeld
      exact norm_ (by show Act.put _ (some 50) _ = _; first | (simp only [putAll, Act.put, List.setIfInBounds_toArray, List.set_cons_zero, List.set_cons_succ, World.size_alloc, i64_w, i32_w]; done) | (simp only [putAll, Act.put, List.setIfInBounds_toArray, List.set_cons_zero, List.set_cons_succ, World.size_alloc, i64_w, i32_w]; rfl)) (hCont (.slice (some ⟨u.heap.size, 0, none⟩) 2 2, .int .i64 du) _ ⟨u.heap.size, du, rfl, rfl, d0, d1, blk_upd bz hUu (fun hm => by simp at hm; omega), Upd.trans (Upd.of_below a1 [w.heap.size]) hUu (fun _ h _ => h)⟩)
     ·skip
      refine goes_ Tryd.func67 (by kernel_rfl) rfl #[.pointer (some ⟨w.heap.size, 0, none⟩), .int .i64 2] (by rfl) rfl rfl (by (try simp only [List.map_toArray, List.map_cons, List.map_nil]); first | done | rfl) ?_
      with_reducible refine (pick_any w u w.heap.size _ 2 Hd.out (by omega) (by omega)).mono ?_
      rintro e x1 ⟨du, rfl, d0, d1, -, hRu, hUu⟩
      have d1 := d1 (by omega)
      refine ⟨_, rfl, ?_⟩
      have k1 := blk_upd Kd0.out hUu (fun hm => by simp at hm; omega)
      refine hK.out _ _ ⟨(blk_cell k1 0).trans rfl, (blk_cell k1 1).trans rfl⟩ (fun hHeld => ?_)
      clear hK K hHeld
      refine norm_ (a' := ?_) ?_ ?_
      rotate_left
      ·show Act.put _ (some 50) _ = _
       simp only [putAll, Act.put, List.setIfInBounds_toArray, List.set_cons_zero, List.set_cons_succ, i64_w, i32_w]
       rfl
      refine one_ (i := 0) (N := some 48) (bz_ 12 487) rfl rfl (by kernel_rfl) (by decide) (fun K hK => ?_)
      refine value_ (w1 := ?_) (v := ?_) (by rfl) rfl ?_ ?_
      rotate_left 2
      ·go_simp
       constructor
       ·rfl
       ·rfl
      have a2 : Below x1.heap.size x1 (x1.alloc (.cells #[.string ⟨#[110, 111, 110, 101]⟩, .string ⟨#[]⟩] 9)) := (Below.refl _ _).alloc (Nat.le_refl _) _
      have bz := blk_new x1 (.cells #[.string ⟨#[110, 111, 110, 101]⟩, .string ⟨#[]⟩] 9)
      refine hK.out _ _ ⟨(blk_cell (blk_below k1 a2) 0).trans rfl, (blk_cell (blk_below k1 a2) 1).trans rfl⟩ (fun hHeld => ?_)
      clear hK K hHeld
      exact norm_ (by show Act.put _ (some 48) _ = _; first | (simp only [putAll, Act.put, List.setIfInBounds_toArray, List.set_cons_zero, List.set_cons_succ, World.size_alloc, i64_w, i32_w]; done) | (simp only [putAll, Act.put, List.setIfInBounds_toArray, List.set_cons_zero, List.set_cons_succ, World.size_alloc, i64_w, i32_w]; rfl)) (hCont (.slice (some ⟨x1.heap.size, 0, none⟩) 2 2, .int .i64 du) _ ⟨x1.heap.size, du, rfl, rfl, d0, d1, bz, Upd.trans hUu (Upd.of_below a2 []) (fun _ h _ => by cases h)⟩)
    rintro ⟨v48, v50⟩ wu ⟨g10, du, e1, e2, d0, d1, hz10, hUu⟩
    simp only at e1 e2
    subst e1 e2
    refine norm_ (a' := ?_) ?_ ?_
    rotate_left
    ·show putAll _ _ = _
     simp only [putAll, Act.put, List.setIfInBounds_toArray, List.set_cons_zero, List.set_cons_succ, i64_w, i32_w]
     rfl
    have hdu : ∃ xk : ByteArray, wu.cell? ⟨g10, du.toNat, none⟩ = some (.string xk) := by
     have h2 : du = 0 ∨ du = 1 := by omega
     rcases h2 with rfl | rfl
     ·exact ⟨_, (blk_cell hz10 0).trans rfl⟩
     ·exact ⟨_, (blk_cell hz10 1).trans rfl⟩
    obtain ⟨xk, hxk⟩ := hdu
    refine pure_ (i := 3) (N := some 51) (v := ?_) (a' := ?_) (bz_ 12 495) rfl rfl (by kernel_rfl) (fun _ _ _ h => h) (Or.inl ⟨by rfl, ?_⟩) ?_ ?_
    rotate_left
    ·intro w'
     go_simp
     with_reducible rfl
    rotate_left
    ·simp only [Act.put, List.setIfInBounds_toArray, List.set_cons_zero, List.set_cons_succ, i64_w, i32_w]
     rfl
    refine one_ (i := 4) (N := some 52) (bz_ 12 511) rfl rfl (by kernel_rfl) (by decide) (fun K hK => ?_)
    refine value_ (w1 := ?_) (v := ?_) (by rfl) rfl ?_ ?_
    rotate_left 2
    ·go_simp
     constructor
     ·rfl
     ·rfl
    have ku := blk_upd Kd0.out hUu (fun hm => by simp at hm; omega)
    refine hK.out _ _ ⟨(blk_cell ku 0).trans rfl, (blk_cell ku 1).trans rfl⟩ (fun hHeld => ?_)
    clear hK K hHeld
    refine norm_ (a' := ?_) ?_ ?_
    rotate_left
    ·show Act.put _ (some 52) _ = _
     simp only [putAll, Act.put, List.setIfInBounds_toArray, List.set_cons_zero, List.set_cons_succ, i64_w, i32_w]
     rfl
    refine pure_ (i := 9) (N := some 2) (v := ?_) (a' := ?_) (bz_ 12 1023) rfl rfl (by kernel_rfl) (fun _ _ _ h => h) (Or.inl ⟨by rfl, ?_⟩) ?_ ?_
    rotate_left
    ·intro w'
     go_simp
     with_reducible rfl
    rotate_left
    ·simp only [Act.put, List.setIfInBounds_toArray, List.set_cons_zero, List.set_cons_succ, i64_w, i32_w]
     rfl
    refine pure_ (i := 10) (N := some 3) (v := ?_) (a' := ?_) (bz_ 12 2047) rfl rfl (by kernel_rfl) (fun _ _ _ h => h) (Or.inl ⟨by rfl, ?_⟩) ?_ ?_
    rotate_left
    ·intro w'
     go_simp
     with_reducible rfl
    rotate_left
    ·simp only [Act.put, List.setIfInBounds_toArray, List.set_cons_zero, List.set_cons_succ, i64_w, i32_w]
     rfl
    refine pure_ (i := 11) (N := some 4) (v := ?_) (a' := ?_) (bz_ 12 4095) rfl rfl (by kernel_rfl) (fun _ _ _ h => h) (Or.inl ⟨by rfl, ?_⟩) ?_ ?_
    rotate_left
    ·intro w'
     go_simp
     with_reducible rfl
    rotate_left
    ·simp only [Act.put, List.setIfInBounds_toArray, List.set_cons_zero, List.set_cons_succ, i64_w, i32_w]
     rfl
    refine done_ (by kernel_rfl) ?_
    have CC := Aside0.mk (er_C (Ed.out.upd hUu (fun x hx hm => by have := hOb.out x hx; simp at hm; omega)))
    have Bu := Aside0.mk (Hd.out.below.trans (hUu.below Hd.out.below.size (fun x hx => by simp at hx; omega)))
    clear hUu hz10 hxk ku Hd Kd0 Ed U0 U1
    go_wp2
    go_ret3
    exact ⟨xk, key, wz, (some ⟨g8, 0, none⟩), cv, rfl, by omega, CC.out.1, HW2.out, CC.out.2.2, Bu.out⟩
   ·go_wp2_with fail
    refine (pick_any w _ w.heap.size _ 4 (Ht.out.upd (Upd.of_below ((Below.refl wt.heap.size wt).alloc (Nat.le_refl _) _) [])) (by omega) (by omega)).mono ?_
    rintro e wu ⟨du, rfl, d0, d1, -, hRu, hUu⟩
    have d1 := d1 (by omega)
    obtain ⟨xk, hxk, hcx⟩ := lit_at (N := 200) hUu (fun k hk => by simp at hk; omega) (by simp [strOk]; decide) du d0 (by simpa using d1)
    have Ku := Aside0.mk (blk_upd (blk_below Kt.out ((Below.refl wt.heap.size wt).alloc (Nat.le_refl _) _)) hUu (fun hm => by simp at hm; omega))
    have Eu := Aside0.mk ((Et.out.below ((Below.refl wt.heap.size wt).alloc (Nat.le_refl _) _)).upd hUu (fun x hx hm => by have := hOb.out x hx; simp at hm; omega))
    have Hu := Aside0.mk hRu.below
    have x0 : wu.cell? ⟨N7, 0, none⟩ = some (.string key) := (blk_cell Ku.out 0).trans rfl
    have xf0 := blk_frozen Ku.out 0
    have Kv := Aside0.mk (blk_put Ku.out 0 (.string xk) rfl)
    have Ev := Aside0.mk (Eu.out.upd (upd_cell wu N7 0 (.string xk)) (fun x hx hm => by have := hOl.out x hx; simp at hm; omega))
    have Bv := Aside0.mk (Hu.out.setCell (p := ⟨N7, 0, none⟩) (show w.heap.size ≤ N7 by omega) (.string xk))
    clear hRu hUu Kt Et Ht y0 y1 yf0 yf1 Ku Eu Hu
    go_upto_region 13 with (fail)
    generalize wu.setCell ⟨N7, 0, none⟩ (.string xk) = wv at *
    have x0 : wv.cell? ⟨N7, 0, none⟩ = some (.string xk) := (blk_cell Kv.out 0).trans rfl
    have x1 : wv.cell? ⟨N7, 1, none⟩ = some (.slice (some ⟨g8, 0, none⟩) wz.length cv) := (blk_cell Kv.out 1).trans rfl
    have CC := Aside0.mk (er_C Ev.out)
    clear Kv Ev
    go_wp2
    go_quiet (fail)
    go_wp2
    go_ret3
    exact ⟨kd, xk, wz, (some ⟨g8, 0, none⟩), cv, rfl, by omega, CC.out.1, HW2.out, CC.out.2.2, pw_below_drewN Bv.out _⟩
   ·have CC := Aside0.mk (er_C Et.out)
    have Bt := Aside0.mk Ht.out.below
    clear Kt Et Ht
    go_wp2
    go_quiet (fail)
    go_wp2
    go_ret3
    exact ⟨kd, key, wz, (some ⟨g8, 0, none⟩), cv, rfl, by omega, CC.out.1, HW2.out, CC.out.2.2, pw_below_drewN Bt.out _⟩
  ·have hlw0 : ¬ ((ws.length : Nat) : Int) > 0 := by omega
   obtain ⟨wq, hwq⟩ : ∃ x, x = w5 := ⟨_, rfl⟩
   subst hwq
   have Hq := Aside0.mk (H5.out.mono (Q := 80) (by omega))
   have Kq := K75
   have Eq' := E5
   clear H5 K75 E5
   go_wp2_with fail
   refine (pick_any w wq w.heap.size 80 10 Hq.out (by omega) (by omega)).mono ?_
   rintro e wt ⟨ct, rfl, c0, c1, -, hRt, hUt⟩
   have c1 := c1 (by omega)
   have Kt := Aside0.mk (blk_upd Kq.out hUt (fun hm => by simp at hm; omega))
   have Ht := Aside0.mk hRt
   have Et := Aside0.mk (Eq'.out.upd hUt (fun x hx hm => by have := hOb.out x hx; simp at hm; omega))
   have st : N7 < wt.heap.size := blk_lt Kt.out
   have y0 : wt.cell? ⟨N7, 0, none⟩ = some (.string key) := (blk_cell Kt.out 0).trans rfl
   have y1 : wt.cell? ⟨N7, 1, none⟩ = some (.slice Av ws.length cv) := (blk_cell Kt.out 1).trans rfl
   have yf0 := blk_frozen Kt.out 0
   have yf1 := blk_frozen Kt.out 1
   clear hRt hUt Kq Hq Eq'
   have hcase : ct = 0 ∨ ct = 1 ∨ ct = 2 ∨ 3 ≤ ct := by omega
   rcases hcase with rfl | rfl | rfl | hct
   ·go_wp2_with (at_builtin; (refine ER.app (w0 := wt) (base := w2.heap.size) (v := .slice Av ws.length cv) (xs := ws) (fun _ => rfl) (.string ⟨#[]⟩) 16 [(⟨#[49]⟩ : ByteArray)] (.tmp 42) (.tmp 43) 27 9 Et.out (Below.refl _ _) (by simp; omega) rfl rfl Tryd.underlying27 infoStr1 rfl (by decide) (by decide) (by omega) rfl (by simp [Act.eval]) ?_))
    intro v1 wu ho hb hg hat
    obtain ⟨A1, c1', hv1, _⟩ := ER.form ho.out
    rw [show (ws ++ [(⟨#[49]⟩ : ByteArray)]).length = ws.length + 1 by simp] at hv1
    subst hv1
    have Ku := Aside0.mk (blk_grown Kt.out hg.out (fun e => by have := hOl.out N7 e.symm; omega))
    have x1 : wu.cell? ⟨N7, 1, none⟩ = some (.slice Av ws.length cv) := (blk_cell Ku.out 1).trans rfl
    have xf1 := blk_frozen Ku.out 1
    have su : N7 < wu.heap.size := blk_lt Ku.out
    have Kv := Aside0.mk (blk_put Ku.out 1 (.slice A1 (ws.length + 1) c1') rfl)
    have hob1 : ∀ x, (Value.slice A1 (ws.length + 1) c1').ownBlock = some x → x ≠ N7 := fun x hx e => by
     rcases hat.out with h | ⟨y, h, hy⟩
     ·have := hOl.out x (h ▸ hx); omega
     ·rw [h] at hx; injection hx with hx; omega
    have Ev := Aside0.mk (ho.out.upd (upd_cell wu N7 1 (.slice A1 (ws.length + 1) c1')) (fun x hx hm => hob1 x hx (by simpa using hm)))
    have Bv := Aside0.mk ((Ht.out.below.trans (hb.mono (show w.heap.size ≤ w2.heap.size by omega))).setCell (p := ⟨N7, 1, none⟩) (show w.heap.size ≤ N7 by omega) (.slice A1 (ws.length + 1) c1'))
    have WW : Aside0 (∀ s ∈ ws ++ [(⟨#[49]⟩ : ByteArray)], s.size ≤ 1048576) := ⟨fun s hs => by
     rcases List.mem_append.1 hs with h | h
     ·exact HWS.out s h
     ·have := List.mem_singleton.1 h; subst this; decide⟩
    clear ho hb hg hat hob1 Kt Et Ht y0 y1 yf0 yf1 Ku
    go_upto_region 13 with (fail)
    generalize wu.setCell ⟨N7, 1, none⟩ (.slice A1 (ws.length + 1) c1') = wv at *
    have x0 : wv.cell? ⟨N7, 0, none⟩ = some (.string key) := (blk_cell Kv.out 0).trans rfl
    have x1 : wv.cell? ⟨N7, 1, none⟩ = some (.slice A1 (ws.length + 1) c1') := (blk_cell Kv.out 1).trans rfl
    have CC := Aside0.mk (er_C Ev.out)
    clear Kv Ev
    go_wp2
    go_quiet (fail)
    go_wp2
    go_ret3
    refine ⟨kd, key, ws ++ [(⟨#[49]⟩ : ByteArray)], A1, c1', by simp, by simp; omega, CC.out.1, WW.out, CC.out.2.2, pw_below_drewN Bv.out _⟩
   ·go_upto_region 10 with (fail)
    have dd : Below wt.heap.size wt wt.drew := below_drew (Below.refl _ _)
    have U0 : wt.drew.cell? ⟨N7, 0, none⟩ = some (.string key) := y0
    have U1 : wt.drew.cell? ⟨N7, 1, none⟩ = some (.slice Av ws.length cv) := y1
    have Hd := Aside0.mk (Ht.out.upd (Upd.of_below dd []))
    have Kd0 := Aside0.mk (blk_below Kt.out dd)
    have Ed := Aside0.mk (Et.out.below dd)
    have sd : N7 < wt.drew.heap.size := st
    clear dd Ht Kt Et y0 y1 yf0 yf1
    refine start_ (n := 12) (S := (fun w' => w'.cell? ⟨N7, 0, none⟩ = some (.string key) ∧ w'.cell? ⟨N7, 1, none⟩ = some (.slice Av ws.length cv))) (ds := []) (bz_ 12 0) (by kernel_rfl) rfl rfl ⟨U0, U1⟩ (fun hHeld => ?_)
    generalize wt.drew = u at *
    refine pure_ (i := 1) (N := some 49) (v := ?_) (a' := ?_) (bz_ 12 2) rfl rfl (by kernel_rfl) (fun _ _ _ h => h) (Or.inl ⟨by rfl, ?_⟩) ?_ ?_
    rotate_left
    ·intro w'
     go_simp
     with_reducible rfl
    rotate_left
    ·simp only [Act.put, List.setIfInBounds_toArray, List.set_cons_zero, List.set_cons_succ, i64_w, i32_w]
     rfl
    refine pure_ (i := 5) (N := some 53) (v := ?_) (a' := ?_) (bz_ 12 34) rfl rfl (by kernel_rfl) (fun _ _ _ h => h) (Or.inl ⟨by rfl, ?_⟩) ?_ ?_
    rotate_left
    ·intro w'
     go_simp
     with_reducible rfl
    rotate_left
    ·simp only [Act.put, List.setIfInBounds_toArray, List.set_cons_zero, List.set_cons_succ, i64_w, i32_w]
     rfl
    refine take_ (i := 6) (N := some 54) (v := ?_) (a' := ?_) (bz_ 12 98) rfl rfl (by kernel_rfl) (fun _ _ _ h => h) (Or.inl ⟨by rfl, ?_⟩) hHeld ?_ ?_
    rotate_left
    ·rintro w' ⟨s0, s1⟩
     go_simp
     with_reducible rfl
    rotate_left
    ·simp only [Act.put, List.setIfInBounds_toArray, List.set_cons_zero, List.set_cons_succ, i64_w, i32_w]
     rfl
    refine pure_ (i := 7) (N := some 55) (v := ?_) (a' := ?_) (bz_ 12 226) rfl rfl (by kernel_rfl) (fun _ _ _ h => h) (Or.inl ⟨by rfl, ?_⟩) ?_ ?_
    rotate_left
    ·intro w'
     go_simp
     with_reducible rfl
    rotate_left
    ·simp only [Act.put, List.setIfInBounds_toArray, List.set_cons_zero, List.set_cons_succ, i64_w, i32_w]
     rfl
    refine take_ (i := 8) (N := some 56) (v := ?_) (a' := ?_) (bz_ 12 482) rfl rfl (by kernel_rfl) (fun _ _ _ h => h) (Or.inl ⟨by rfl, ?_⟩) hHeld ?_ ?_
    rotate_left
    ·rintro w' ⟨s0, s1⟩
     go_simp
     with_reducible rfl
    rotate_left
    ·simp only [Act.put, List.setIfInBounds_toArray, List.set_cons_zero, List.set_cons_succ, i64_w, i32_w]
     rfl
    refine join_ (σ := Value × Value) 5 (bz_ 12 487) (fun s => [(48, s.1), (50, s.2)]) (fun s w' => ∃ g10 b, s.1 = .slice (some ⟨g10, 0, none⟩) 2 2 ∧ s.2 = .int .i64 b ∧ 0 ≤ b ∧ b < 2 ∧ w'.heap[g10]? = some (.cells #[.string ⟨#[110, 111, 110, 101]⟩, .string ⟨#[]⟩] 9 (0, 0)) ∧ Upd [w.heap.size] u w') ?_ ?_
    rotate_left
    ·intro hCont
     refine two_ (i := 0) (j := 2) (Ni := some 48) (Nj := some 50) (bz_ 12 483) (bz_ 12 486) rfl rfl rfl rfl (by kernel_rfl) (by decide) (by decide) (fun K hK => ?_) (fun K hK => ?_)
     ·skip
      refine value_ (w1 := ?_) (v := ?_) (by rfl) rfl ?_ ?_
      rotate_left 2
      ·go_simp
       constructor
       ·rfl
       ·rfl
      have a1 : Below u.heap.size u (u.alloc (.cells #[.string ⟨#[110, 111, 110, 101]⟩, .string ⟨#[]⟩] 9)) := (Below.refl _ _).alloc (Nat.le_refl _) _
      have bz := blk_new u (.cells #[.string ⟨#[110, 111, 110, 101]⟩, .string ⟨#[]⟩] 9)
      refine hK.out _ _ ⟨pw_cell_below a1 U0, pw_cell_below a1 U1⟩ (fun hHeld => ?_)
      clear hK K hHeld
      refine norm_ (a' := ?_) ?_ ?_
      rotate_left
      ·show Act.put _ (some 48) _ = _
       simp only [putAll, Act.put, List.setIfInBounds_toArray, List.set_cons_zero, List.set_cons_succ, i64_w, i32_w]
       rfl
      refine one_ (i := 2) (N := some 50) (bz_ 12 487) rfl rfl (by kernel_rfl) (by decide) (fun K hK => ?_)
      refine goes_ Tryd.func67 (by kernel_rfl) rfl #[.pointer (some ⟨w.heap.size, 0, none⟩), .int .i64 2] (by rfl) rfl rfl (by (try simp only [List.map_toArray, List.map_cons, List.map_nil]); first | done | rfl) ?_
      with_reducible refine (pick_any w (u.alloc (.cells #[.string ⟨#[110, 111, 110, 101]⟩, .string ⟨#[]⟩] 9)) w.heap.size _ 2 (Hd.out.upd (Upd.of_below a1 [])) (by omega) (by omega)).mono ?_
      rintro e x2 ⟨du, rfl, d0, d1, -, hRu, hUu⟩
      have d1 := d1 (by omega)
      refine ⟨_, rfl, ?_⟩
      have k2 := blk_upd (blk_below Kd0.out a1) hUu (fun hm => by simp at hm; omega)
      refine hK.out _ _ ⟨(blk_cell k2 0).trans rfl, (blk_cell k2 1).trans rfl⟩ (fun hHeld => ?_)
      clear hK K hHeld
      exact norm_ (by show Act.put _ (some 50) _ = _; first | (simp only [putAll, Act.put, List.setIfInBounds_toArray, List.set_cons_zero, List.set_cons_succ, World.size_alloc, i64_w, i32_w]; done) | (simp only [putAll, Act.put, List.setIfInBounds_toArray, List.set_cons_zero, List.set_cons_succ, World.size_alloc, i64_w, i32_w]; rfl)) (hCont (.slice (some ⟨u.heap.size, 0, none⟩) 2 2, .int .i64 du) _ ⟨u.heap.size, du, rfl, rfl, d0, d1, blk_upd bz hUu (fun hm => by simp at hm; omega), Upd.trans (Upd.of_below a1 [w.heap.size]) hUu (fun _ h _ => h)⟩)
     ·skip
      refine goes_ Tryd.func67 (by kernel_rfl) rfl #[.pointer (some ⟨w.heap.size, 0, none⟩), .int .i64 2] (by rfl) rfl rfl (by (try simp only [List.map_toArray, List.map_cons, List.map_nil]); first | done | rfl) ?_
      with_reducible refine (pick_any w u w.heap.size _ 2 Hd.out (by omega) (by omega)).mono ?_
      rintro e x1 ⟨du, rfl, d0, d1, -, hRu, hUu⟩
      have d1 := d1 (by omega)
      refine ⟨_, rfl, ?_⟩
      have k1 := blk_upd Kd0.out hUu (fun hm => by simp at hm; omega)
      refine hK.out _ _ ⟨(blk_cell k1 0).trans rfl, (blk_cell k1 1).trans rfl⟩ (fun hHeld => ?_)
      clear hK K hHeld
      refine norm_ (a' := ?_) ?_ ?_
      rotate_left
      ·show Act.put _ (some 50) _ = _
       simp only [putAll, Act.put, List.setIfInBounds_toArray, List.set_cons_zero, List.set_cons_succ, i64_w, i32_w]
       rfl
      refine one_ (i := 0) (N := some 48) (bz_ 12 487) rfl rfl (by kernel_rfl) (by decide) (fun K hK => ?_)
      refine value_ (w1 := ?_) (v := ?_) (by rfl) rfl ?_ ?_
      rotate_left 2
      ·go_simp
       constructor
       ·rfl
       ·rfl
      have a2 : Below x1.heap.size x1 (x1.alloc (.cells #[.string ⟨#[110, 111, 110, 101]⟩, .string ⟨#[]⟩] 9)) := (Below.refl _ _).alloc (Nat.le_refl _) _
      have bz := blk_new x1 (.cells #[.string ⟨#[110, 111, 110, 101]⟩, .string ⟨#[]⟩] 9)
      refine hK.out _ _ ⟨(blk_cell (blk_below k1 a2) 0).trans rfl, (blk_cell (blk_below k1 a2) 1).trans rfl⟩ (fun hHeld => ?_)
      clear hK K hHeld
      exact norm_ (by show Act.put _ (some 48) _ = _; first | (simp only [putAll, Act.put, List.setIfInBounds_toArray, List.set_cons_zero, List.set_cons_succ, World.size_alloc, i64_w, i32_w]; done) | (simp only [putAll, Act.put, List.setIfInBounds_toArray, List.set_cons_zero, List.set_cons_succ, World.size_alloc, i64_w, i32_w]; rfl)) (hCont (.slice (some ⟨x1.heap.size, 0, none⟩) 2 2, .int .i64 du) _ ⟨x1.heap.size, du, rfl, rfl, d0, d1, bz, Upd.trans hUu (Upd.of_below a2 []) (fun _ h _ => by cases h)⟩)
    rintro ⟨v48, v50⟩ wu ⟨g10, du, e1, e2, d0, d1, hz10, hUu⟩
    simp only at e1 e2
    subst e1 e2
    refine norm_ (a' := ?_) ?_ ?_
    rotate_left
    ·show putAll _ _ = _
     simp only [putAll, Act.put, List.setIfInBounds_toArray, List.set_cons_zero, List.set_cons_succ, i64_w, i32_w]
     rfl
    have hdu : ∃ xk : ByteArray, wu.cell? ⟨g10, du.toNat, none⟩ = some (.string xk) := by
     have h2 : du = 0 ∨ du = 1 := by omega
     rcases h2 with rfl | rfl
     ·exact ⟨_, (blk_cell hz10 0).trans rfl⟩
     ·exact ⟨_, (blk_cell hz10 1).trans rfl⟩
    obtain ⟨xk, hxk⟩ := hdu
    refine pure_ (i := 3) (N := some 51) (v := ?_) (a' := ?_) (bz_ 12 495) rfl rfl (by kernel_rfl) (fun _ _ _ h => h) (Or.inl ⟨by rfl, ?_⟩) ?_ ?_
    rotate_left
    ·intro w'
     go_simp
     with_reducible rfl
    rotate_left
    ·simp only [Act.put, List.setIfInBounds_toArray, List.set_cons_zero, List.set_cons_succ, i64_w, i32_w]
     rfl
    refine one_ (i := 4) (N := some 52) (bz_ 12 511) rfl rfl (by kernel_rfl) (by decide) (fun K hK => ?_)
    refine value_ (w1 := ?_) (v := ?_) (by rfl) rfl ?_ ?_
    rotate_left 2
    ·go_simp
     constructor
     ·rfl
     ·rfl
    have ku := blk_upd Kd0.out hUu (fun hm => by simp at hm; omega)
    refine hK.out _ _ ⟨(blk_cell ku 0).trans rfl, (blk_cell ku 1).trans rfl⟩ (fun hHeld => ?_)
    clear hK K hHeld
    refine norm_ (a' := ?_) ?_ ?_
    rotate_left
    ·show Act.put _ (some 52) _ = _
     simp only [putAll, Act.put, List.setIfInBounds_toArray, List.set_cons_zero, List.set_cons_succ, i64_w, i32_w]
     rfl
    refine pure_ (i := 9) (N := some 2) (v := ?_) (a' := ?_) (bz_ 12 1023) rfl rfl (by kernel_rfl) (fun _ _ _ h => h) (Or.inl ⟨by rfl, ?_⟩) ?_ ?_
    rotate_left
    ·intro w'
     go_simp
     with_reducible rfl
    rotate_left
    ·simp only [Act.put, List.setIfInBounds_toArray, List.set_cons_zero, List.set_cons_succ, i64_w, i32_w]
     rfl
    refine pure_ (i := 10) (N := some 3) (v := ?_) (a' := ?_) (bz_ 12 2047) rfl rfl (by kernel_rfl) (fun _ _ _ h => h) (Or.inl ⟨by rfl, ?_⟩) ?_ ?_
    rotate_left
    ·intro w'
     go_simp
     with_reducible rfl
    rotate_left
    ·simp only [Act.put, List.setIfInBounds_toArray, List.set_cons_zero, List.set_cons_succ, i64_w, i32_w]
     rfl
    refine pure_ (i := 11) (N := some 4) (v := ?_) (a' := ?_) (bz_ 12 4095) rfl rfl (by kernel_rfl) (fun _ _ _ h => h) (Or.inl ⟨by rfl, ?_⟩) ?_ ?_
    rotate_left
    ·intro w'
     go_simp
     with_reducible rfl
    rotate_left
    ·simp only [Act.put, List.setIfInBounds_toArray, List.set_cons_zero, List.set_cons_succ, i64_w, i32_w]
     rfl
    refine done_ (by kernel_rfl) ?_
    have CC := Aside0.mk (er_C (Ed.out.upd hUu (fun x hx hm => by have := hOb.out x hx; simp at hm; omega)))
    have Bu := Aside0.mk (Hd.out.below.trans (hUu.below Hd.out.below.size (fun x hx => by simp at hx; omega)))
    clear hUu hz10 hxk ku Hd Kd0 Ed U0 U1
    go_wp2
    go_ret3
    exact ⟨xk, key, ws, Av, cv, rfl, by omega, CC.out.1, HWS.out, CC.out.2.2, Bu.out⟩
   ·go_wp2_with fail
    refine (pick_any w _ w.heap.size _ 4 (Ht.out.upd (Upd.of_below ((Below.refl wt.heap.size wt).alloc (Nat.le_refl _) _) [])) (by omega) (by omega)).mono ?_
    rintro e wu ⟨du, rfl, d0, d1, -, hRu, hUu⟩
    have d1 := d1 (by omega)
    obtain ⟨xk, hxk, hcx⟩ := lit_at (N := 200) hUu (fun k hk => by simp at hk; omega) (by simp [strOk]; decide) du d0 (by simpa using d1)
    have Ku := Aside0.mk (blk_upd (blk_below Kt.out ((Below.refl wt.heap.size wt).alloc (Nat.le_refl _) _)) hUu (fun hm => by simp at hm; omega))
    have Eu := Aside0.mk ((Et.out.below ((Below.refl wt.heap.size wt).alloc (Nat.le_refl _) _)).upd hUu (fun x hx hm => by have := hOb.out x hx; simp at hm; omega))
    have Hu := Aside0.mk hRu.below
    have x0 : wu.cell? ⟨N7, 0, none⟩ = some (.string key) := (blk_cell Ku.out 0).trans rfl
    have xf0 := blk_frozen Ku.out 0
    have Kv := Aside0.mk (blk_put Ku.out 0 (.string xk) rfl)
    have Ev := Aside0.mk (Eu.out.upd (upd_cell wu N7 0 (.string xk)) (fun x hx hm => by have := hOl.out x hx; simp at hm; omega))
    have Bv := Aside0.mk (Hu.out.setCell (p := ⟨N7, 0, none⟩) (show w.heap.size ≤ N7 by omega) (.string xk))
    clear hRu hUu Kt Et Ht y0 y1 yf0 yf1 Ku Eu Hu
    go_upto_region 13 with (fail)
    generalize wu.setCell ⟨N7, 0, none⟩ (.string xk) = wv at *
    have x0 : wv.cell? ⟨N7, 0, none⟩ = some (.string xk) := (blk_cell Kv.out 0).trans rfl
    have x1 : wv.cell? ⟨N7, 1, none⟩ = some (.slice Av ws.length cv) := (blk_cell Kv.out 1).trans rfl
    have CC := Aside0.mk (er_C Ev.out)
    clear Kv Ev
    go_wp2
    go_quiet (fail)
    go_wp2
    go_ret3
    exact ⟨kd, xk, ws, Av, cv, rfl, by omega, CC.out.1, HWS.out, CC.out.2.2, pw_below_drewN Bv.out _⟩
   ·have CC := Aside0.mk (er_C Et.out)
    have Bt := Aside0.mk Ht.out.below
    clear Kt Et Ht
    go_wp2
    go_quiet (fail)
    go_wp2
    go_ret3
    exact ⟨kd, key, ws, Av, cv, rfl, by omega, CC.out.1, HWS.out, CC.out.2.2, pw_below_drewN Bt.out _⟩
 ·obtain ⟨wq, hwq⟩ : ∃ x, x = w5 := ⟨_, rfl⟩
  subst hwq
  have Hq := Aside0.mk (H5.out.mono (Q := 80) (by omega))
  have Kq := K75
  have Eq' := E5
  clear H5 K75 E5
  go_wp2_with fail
  refine (pick_any w wq w.heap.size 80 10 Hq.out (by omega) (by omega)).mono ?_
  rintro e wt ⟨ct, rfl, c0, c1, -, hRt, hUt⟩
  have c1 := c1 (by omega)
  have Kt := Aside0.mk (blk_upd Kq.out hUt (fun hm => by simp at hm; omega))
  have Ht := Aside0.mk hRt
  have Et := Aside0.mk (Eq'.out.upd hUt (fun x hx hm => by have := hOb.out x hx; simp at hm; omega))
  have st : N7 < wt.heap.size := blk_lt Kt.out
  have y0 : wt.cell? ⟨N7, 0, none⟩ = some (.string key) := (blk_cell Kt.out 0).trans rfl
  have y1 : wt.cell? ⟨N7, 1, none⟩ = some (.slice Av ws.length cv) := (blk_cell Kt.out 1).trans rfl
  have yf0 := blk_frozen Kt.out 0
  have yf1 := blk_frozen Kt.out 1
  clear hRt hUt Kq Hq Eq'
  have hcase : ct = 0 ∨ ct = 1 ∨ ct = 2 ∨ 3 ≤ ct := by omega
  rcases hcase with rfl | rfl | rfl | hct
  ·go_wp2_with (at_builtin; (refine ER.app (w0 := wt) (base := w2.heap.size) (v := .slice Av ws.length cv) (xs := ws) (fun _ => rfl) (.string ⟨#[]⟩) 16 [(⟨#[49]⟩ : ByteArray)] (.tmp 42) (.tmp 43) 27 9 Et.out (Below.refl _ _) (by simp; omega) rfl rfl Tryd.underlying27 infoStr1 rfl (by decide) (by decide) (by omega) rfl (by simp [Act.eval]) ?_))
   intro v1 wu ho hb hg hat
   obtain ⟨A1, c1', hv1, _⟩ := ER.form ho.out
   rw [show (ws ++ [(⟨#[49]⟩ : ByteArray)]).length = ws.length + 1 by simp] at hv1
   subst hv1
   have Ku := Aside0.mk (blk_grown Kt.out hg.out (fun e => by have := hOl.out N7 e.symm; omega))
   have x1 : wu.cell? ⟨N7, 1, none⟩ = some (.slice Av ws.length cv) := (blk_cell Ku.out 1).trans rfl
   have xf1 := blk_frozen Ku.out 1
   have su : N7 < wu.heap.size := blk_lt Ku.out
   have Kv := Aside0.mk (blk_put Ku.out 1 (.slice A1 (ws.length + 1) c1') rfl)
   have hob1 : ∀ x, (Value.slice A1 (ws.length + 1) c1').ownBlock = some x → x ≠ N7 := fun x hx e => by
    rcases hat.out with h | ⟨y, h, hy⟩
    ·have := hOl.out x (h ▸ hx); omega
    ·rw [h] at hx; injection hx with hx; omega
   have Ev := Aside0.mk (ho.out.upd (upd_cell wu N7 1 (.slice A1 (ws.length + 1) c1')) (fun x hx hm => hob1 x hx (by simpa using hm)))
   have Bv := Aside0.mk ((Ht.out.below.trans (hb.mono (show w.heap.size ≤ w2.heap.size by omega))).setCell (p := ⟨N7, 1, none⟩) (show w.heap.size ≤ N7 by omega) (.slice A1 (ws.length + 1) c1'))
   have WW : Aside0 (∀ s ∈ ws ++ [(⟨#[49]⟩ : ByteArray)], s.size ≤ 1048576) := ⟨fun s hs => by
    rcases List.mem_append.1 hs with h | h
    ·exact HWS.out s h
    ·have := List.mem_singleton.1 h; subst this; decide⟩
   clear ho hb hg hat hob1 Kt Et Ht y0 y1 yf0 yf1 Ku
   go_upto_region 13 with (fail)
   generalize wu.setCell ⟨N7, 1, none⟩ (.slice A1 (ws.length + 1) c1') = wv at *
   have x0 : wv.cell? ⟨N7, 0, none⟩ = some (.string key) := (blk_cell Kv.out 0).trans rfl
   have x1 : wv.cell? ⟨N7, 1, none⟩ = some (.slice A1 (ws.length + 1) c1') := (blk_cell Kv.out 1).trans rfl
   have CC := Aside0.mk (er_C Ev.out)
   clear Kv Ev
   go_wp2
   go_quiet (fail)
   go_wp2
   go_ret3
   refine ⟨kd, key, ws ++ [(⟨#[49]⟩ : ByteArray)], A1, c1', by simp, by simp; omega, CC.out.1, WW.out, CC.out.2.2, pw_below_drewN Bv.out _⟩
  ·go_upto_region 10 with (fail)
   have dd : Below wt.heap.size wt wt.drew := below_drew (Below.refl _ _)
   have U0 : wt.drew.cell? ⟨N7, 0, none⟩ = some (.string key) := y0
   have U1 : wt.drew.cell? ⟨N7, 1, none⟩ = some (.slice Av ws.length cv) := y1
   have Hd := Aside0.mk (Ht.out.upd (Upd.of_below dd []))
   have Kd0 := Aside0.mk (blk_below Kt.out dd)
   have Ed := Aside0.mk (Et.out.below dd)
   have sd : N7 < wt.drew.heap.size := st
   clear dd Ht Kt Et y0 y1 yf0 yf1
   refine start_ (n := 12) (S := (fun w' => w'.cell? ⟨N7, 0, none⟩ = some (.string key) ∧ w'.cell? ⟨N7, 1, none⟩ = some (.slice Av ws.length cv))) (ds := []) (bz_ 12 0) (by kernel_rfl) rfl rfl ⟨U0, U1⟩ (fun hHeld => ?_)
   generalize wt.drew = u at *
   refine pure_ (i := 1) (N := some 49) (v := ?_) (a' := ?_) (bz_ 12 2) rfl rfl (by kernel_rfl) (fun _ _ _ h => h) (Or.inl ⟨by rfl, ?_⟩) ?_ ?_
   rotate_left
   ·intro w'
    go_simp
    with_reducible rfl
   rotate_left
   ·simp only [Act.put, List.setIfInBounds_toArray, List.set_cons_zero, List.set_cons_succ, i64_w, i32_w]
    rfl
   refine pure_ (i := 5) (N := some 53) (v := ?_) (a' := ?_) (bz_ 12 34) rfl rfl (by kernel_rfl) (fun _ _ _ h => h) (Or.inl ⟨by rfl, ?_⟩) ?_ ?_
   rotate_left
   ·intro w'
    go_simp
    with_reducible rfl
   rotate_left
   ·simp only [Act.put, List.setIfInBounds_toArray, List.set_cons_zero, List.set_cons_succ, i64_w, i32_w]
    rfl
   refine take_ (i := 6) (N := some 54) (v := ?_) (a' := ?_) (bz_ 12 98) rfl rfl (by kernel_rfl) (fun _ _ _ h => h) (Or.inl ⟨by rfl, ?_⟩) hHeld ?_ ?_
   rotate_left
   ·rintro w' ⟨s0, s1⟩
    go_simp
    with_reducible rfl
   rotate_left
   ·simp only [Act.put, List.setIfInBounds_toArray, List.set_cons_zero, List.set_cons_succ, i64_w, i32_w]
    rfl
   refine pure_ (i := 7) (N := some 55) (v := ?_) (a' := ?_) (bz_ 12 226) rfl rfl (by kernel_rfl) (fun _ _ _ h => h) (Or.inl ⟨by rfl, ?_⟩) ?_ ?_
   rotate_left
   ·intro w'
    go_simp
    with_reducible rfl
   rotate_left
   ·simp only [Act.put, List.setIfInBounds_toArray, List.set_cons_zero, List.set_cons_succ, i64_w, i32_w]
    rfl
   refine take_ (i := 8) (N := some 56) (v := ?_) (a' := ?_) (bz_ 12 482) rfl rfl (by kernel_rfl) (fun _ _ _ h => h) (Or.inl ⟨by rfl, ?_⟩) hHeld ?_ ?_
   rotate_left
   ·rintro w' ⟨s0, s1⟩
    go_simp
    with_reducible rfl
   rotate_left
   ·simp only [Act.put, List.setIfInBounds_toArray, List.set_cons_zero, List.set_cons_succ, i64_w, i32_w]
    rfl
   refine join_ (σ := Value × Value) 5 (bz_ 12 487) (fun s => [(48, s.1), (50, s.2)]) (fun s w' => ∃ g10 b, s.1 = .slice (some ⟨g10, 0, none⟩) 2 2 ∧ s.2 = .int .i64 b ∧ 0 ≤ b ∧ b < 2 ∧ w'.heap[g10]? = some (.cells #[.string ⟨#[110, 111, 110, 101]⟩, .string ⟨#[]⟩] 9 (0, 0)) ∧ Upd [w.heap.size] u w') ?_ ?_
   rotate_left
   ·intro hCont
    refine two_ (i := 0) (j := 2) (Ni := some 48) (Nj := some 50) (bz_ 12 483) (bz_ 12 486) rfl rfl rfl rfl (by kernel_rfl) (by decide) (by decide) (fun K hK => ?_) (fun K hK => ?_)
    ·skip
     refine value_ (w1 := ?_) (v := ?_) (by rfl) rfl ?_ ?_
     rotate_left 2
     ·go_simp
      constructor
      ·rfl
      ·rfl
     have a1 : Below u.heap.size u (u.alloc (.cells #[.string ⟨#[110, 111, 110, 101]⟩, .string ⟨#[]⟩] 9)) := (Below.refl _ _).alloc (Nat.le_refl _) _
     have bz := blk_new u (.cells #[.string ⟨#[110, 111, 110, 101]⟩, .string ⟨#[]⟩] 9)
     refine hK.out _ _ ⟨pw_cell_below a1 U0, pw_cell_below a1 U1⟩ (fun hHeld => ?_)
     clear hK K hHeld
     refine norm_ (a' := ?_) ?_ ?_
     rotate_left
     ·show Act.put _ (some 48) _ = _
      simp only [putAll, Act.put, List.setIfInBounds_toArray, List.set_cons_zero, List.set_cons_succ, i64_w, i32_w]
      rfl
     refine one_ (i := 2) (N := some 50) (bz_ 12 487) rfl rfl (by kernel_rfl) (by decide) (fun K hK => ?_)
     refine goes_ Tryd.func67 (by kernel_rfl) rfl #[.pointer (some ⟨w.heap.size, 0, none⟩), .int .i64 2] (by rfl) rfl rfl (by (try simp only [List.map_toArray, List.map_cons, List.map_nil]); first | done | rfl) ?_
     with_reducible refine (pick_any w (u.alloc (.cells #[.string ⟨#[110, 111, 110, 101]⟩, .string ⟨#[]⟩] 9)) w.heap.size _ 2 (Hd.out.upd (Upd.of_below a1 [])) (by omega) (by omega)).mono ?_
     rintro e x2 ⟨du, rfl, d0, d1, -, hRu, hUu⟩
     have d1 := d1 (by omega)
     refine ⟨_, rfl, ?_⟩
     have k2 := blk_upd (blk_below Kd0.out a1) hUu (fun hm => by simp at hm; omega)
     refine hK.out _ _ ⟨(blk_cell k2 0).trans rfl, (blk_cell k2 1).trans rfl⟩ (fun hHeld => ?_)
     clear hK K hHeld
     exact norm_ (by show Act.put _ (some 50) _ = _; first | (simp only [putAll, Act.put, List.setIfInBounds_toArray, List.set_cons_zero, List.set_cons_succ, World.size_alloc, i64_w, i32_w]; done) | (simp only [putAll, Act.put, List.setIfInBounds_toArray, List.set_cons_zero, List.set_cons_succ, World.size_alloc, i64_w, i32_w]; rfl)) (hCont (.slice (some ⟨u.heap.size, 0, none⟩) 2 2, .int .i64 du) _ ⟨u.heap.size, du, rfl, rfl, d0, d1, blk_upd bz hUu (fun hm => by simp at hm; omega), Upd.trans (Upd.of_below a1 [w.heap.size]) hUu (fun _ h _ => h)⟩)
    ·skip
     refine goes_ Tryd.func67 (by kernel_rfl) rfl #[.pointer (some ⟨w.heap.size, 0, none⟩), .int .i64 2] (by rfl) rfl rfl (by (try simp only [List.map_toArray, List.map_cons, List.map_nil]); first | done | rfl) ?_
     with_reducible refine (pick_any w u w.heap.size _ 2 Hd.out (by omega) (by omega)).mono ?_
     rintro e x1 ⟨du, rfl, d0, d1, -, hRu, hUu⟩
     have d1 := d1 (by omega)
     refine ⟨_, rfl, ?_⟩
     have k1 := blk_upd Kd0.out hUu (fun hm => by simp at hm; omega)
     refine hK.out _ _ ⟨(blk_cell k1 0).trans rfl, (blk_cell k1 1).trans rfl⟩ (fun hHeld => ?_)
     clear hK K hHeld
     refine norm_ (a' := ?_) ?_ ?_
     rotate_left
     ·show Act.put _ (some 50) _ = _
      simp only [putAll, Act.put, List.setIfInBounds_toArray, List.set_cons_zero, List.set_cons_succ, i64_w, i32_w]
      rfl
     refine one_ (i := 0) (N := some 48) (bz_ 12 487) rfl rfl (by kernel_rfl) (by decide) (fun K hK => ?_)
     refine value_ (w1 := ?_) (v := ?_) (by rfl) rfl ?_ ?_
     rotate_left 2
     ·go_simp
      constructor
      ·rfl
      ·rfl
     have a2 : Below x1.heap.size x1 (x1.alloc (.cells #[.string ⟨#[110, 111, 110, 101]⟩, .string ⟨#[]⟩] 9)) := (Below.refl _ _).alloc (Nat.le_refl _) _
     have bz := blk_new x1 (.cells #[.string ⟨#[110, 111, 110, 101]⟩, .string ⟨#[]⟩] 9)
     refine hK.out _ _ ⟨(blk_cell (blk_below k1 a2) 0).trans rfl, (blk_cell (blk_below k1 a2) 1).trans rfl⟩ (fun hHeld => ?_)
     clear hK K hHeld
     exact norm_ (by show Act.put _ (some 48) _ = _; first | (simp only [putAll, Act.put, List.setIfInBounds_toArray, List.set_cons_zero, List.set_cons_succ, World.size_alloc, i64_w, i32_w]; done) | (simp only [putAll, Act.put, List.setIfInBounds_toArray, List.set_cons_zero, List.set_cons_succ, World.size_alloc, i64_w, i32_w]; rfl)) (hCont (.slice (some ⟨x1.heap.size, 0, none⟩) 2 2, .int .i64 du) _ ⟨x1.heap.size, du, rfl, rfl, d0, d1, bz, Upd.trans hUu (Upd.of_below a2 []) (fun _ h _ => by cases h)⟩)
   rintro ⟨v48, v50⟩ wu ⟨g10, du, e1, e2, d0, d1, hz10, hUu⟩
   simp only at e1 e2
   subst e1 e2
   refine norm_ (a' := ?_) ?_ ?_
   rotate_left
   ·show putAll _ _ = _
    simp only [putAll, Act.put, List.setIfInBounds_toArray, List.set_cons_zero, List.set_cons_succ, i64_w, i32_w]
    rfl
   have hdu : ∃ xk : ByteArray, wu.cell? ⟨g10, du.toNat, none⟩ = some (.string xk) := by
    have h2 : du = 0 ∨ du = 1 := by omega
    rcases h2 with rfl | rfl
    ·exact ⟨_, (blk_cell hz10 0).trans rfl⟩
    ·exact ⟨_, (blk_cell hz10 1).trans rfl⟩
   obtain ⟨xk, hxk⟩ := hdu
   refine pure_ (i := 3) (N := some 51) (v := ?_) (a' := ?_) (bz_ 12 495) rfl rfl (by kernel_rfl) (fun _ _ _ h => h) (Or.inl ⟨by rfl, ?_⟩) ?_ ?_
   rotate_left
   ·intro w'
    go_simp
    with_reducible rfl
   rotate_left
   ·simp only [Act.put, List.setIfInBounds_toArray, List.set_cons_zero, List.set_cons_succ, i64_w, i32_w]
    rfl
   refine one_ (i := 4) (N := some 52) (bz_ 12 511) rfl rfl (by kernel_rfl) (by decide) (fun K hK => ?_)
   refine value_ (w1 := ?_) (v := ?_) (by rfl) rfl ?_ ?_
   rotate_left 2
   ·go_simp
    constructor
    ·rfl
    ·rfl
   have ku := blk_upd Kd0.out hUu (fun hm => by simp at hm; omega)
   refine hK.out _ _ ⟨(blk_cell ku 0).trans rfl, (blk_cell ku 1).trans rfl⟩ (fun hHeld => ?_)
   clear hK K hHeld
   refine norm_ (a' := ?_) ?_ ?_
   rotate_left
   ·show Act.put _ (some 52) _ = _
    simp only [putAll, Act.put, List.setIfInBounds_toArray, List.set_cons_zero, List.set_cons_succ, i64_w, i32_w]
    rfl
   refine pure_ (i := 9) (N := some 2) (v := ?_) (a' := ?_) (bz_ 12 1023) rfl rfl (by kernel_rfl) (fun _ _ _ h => h) (Or.inl ⟨by rfl, ?_⟩) ?_ ?_
   rotate_left
   ·intro w'
    go_simp
    with_reducible rfl
   rotate_left
   ·simp only [Act.put, List.setIfInBounds_toArray, List.set_cons_zero, List.set_cons_succ, i64_w, i32_w]
    rfl
   refine pure_ (i := 10) (N := some 3) (v := ?_) (a' := ?_) (bz_ 12 2047) rfl rfl (by kernel_rfl) (fun _ _ _ h => h) (Or.inl ⟨by rfl, ?_⟩) ?_ ?_
   rotate_left
   ·intro w'
    go_simp
    with_reducible rfl
   rotate_left
   ·simp only [Act.put, List.setIfInBounds_toArray, List.set_cons_zero, List.set_cons_succ, i64_w, i32_w]
    rfl
   refine pure_ (i := 11) (N := some 4) (v := ?_) (a' := ?_) (bz_ 12 4095) rfl rfl (by kernel_rfl) (fun _ _ _ h => h) (Or.inl ⟨by rfl, ?_⟩) ?_ ?_
   rotate_left
   ·intro w'
    go_simp
    with_reducible rfl
   rotate_left
   ·simp only [Act.put, List.setIfInBounds_toArray, List.set_cons_zero, List.set_cons_succ, i64_w, i32_w]
    rfl
   refine done_ (by kernel_rfl) ?_
   have CC := Aside0.mk (er_C (Ed.out.upd hUu (fun x hx hm => by have := hOb.out x hx; simp at hm; omega)))
   have Bu := Aside0.mk (Hd.out.below.trans (hUu.below Hd.out.below.size (fun x hx => by simp at hx; omega)))
   clear hUu hz10 hxk ku Hd Kd0 Ed U0 U1
   go_wp2
   go_ret3
   exact ⟨xk, key, ws, Av, cv, rfl, by omega, CC.out.1, HWS.out, CC.out.2.2, Bu.out⟩
  ·go_wp2_with fail
   refine (pick_any w _ w.heap.size _ 4 (Ht.out.upd (Upd.of_below ((Below.refl wt.heap.size wt).alloc (Nat.le_refl _) _) [])) (by omega) (by omega)).mono ?_
   rintro e wu ⟨du, rfl, d0, d1, -, hRu, hUu⟩
   have d1 := d1 (by omega)
   obtain ⟨xk, hxk, hcx⟩ := lit_at (N := 200) hUu (fun k hk => by simp at hk; omega) (by simp [strOk]; decide) du d0 (by simpa using d1)
   have Ku := Aside0.mk (blk_upd (blk_below Kt.out ((Below.refl wt.heap.size wt).alloc (Nat.le_refl _) _)) hUu (fun hm => by simp at hm; omega))
   have Eu := Aside0.mk ((Et.out.below ((Below.refl wt.heap.size wt).alloc (Nat.le_refl _) _)).upd hUu (fun x hx hm => by have := hOb.out x hx; simp at hm; omega))
   have Hu := Aside0.mk hRu.below
   have x0 : wu.cell? ⟨N7, 0, none⟩ = some (.string key) := (blk_cell Ku.out 0).trans rfl
   have xf0 := blk_frozen Ku.out 0
   have Kv := Aside0.mk (blk_put Ku.out 0 (.string xk) rfl)
   have Ev := Aside0.mk (Eu.out.upd (upd_cell wu N7 0 (.string xk)) (fun x hx hm => by have := hOl.out x hx; simp at hm; omega))
   have Bv := Aside0.mk (Hu.out.setCell (p := ⟨N7, 0, none⟩) (show w.heap.size ≤ N7 by omega) (.string xk))
   clear hRu hUu Kt Et Ht y0 y1 yf0 yf1 Ku Eu Hu
   go_upto_region 13 with (fail)
   generalize wu.setCell ⟨N7, 0, none⟩ (.string xk) = wv at *
   have x0 : wv.cell? ⟨N7, 0, none⟩ = some (.string xk) := (blk_cell Kv.out 0).trans rfl
   have x1 : wv.cell? ⟨N7, 1, none⟩ = some (.slice Av ws.length cv) := (blk_cell Kv.out 1).trans rfl
   have CC := Aside0.mk (er_C Ev.out)
   clear Kv Ev
   go_wp2
   go_quiet (fail)
   go_wp2
   go_ret3
   exact ⟨kd, xk, ws, Av, cv, rfl, by omega, CC.out.1, HWS.out, CC.out.2.2, pw_below_drewN Bv.out _⟩
  ·have CC := Aside0.mk (er_C Et.out)
   have Bt := Aside0.mk Ht.out.below
   clear Kt Et Ht
   go_wp2
   go_quiet (fail)
   go_wp2
   go_ret3
   exact ⟨kd, key, ws, Av, cv, rfl, by omega, CC.out.1, HWS.out, CC.out.2.2, pw_below_drewN Bt.out _⟩
end Go.Proofs.YtmcdnpooclelgaaDoor.PAll
namespace Go.Proofs.YtmcdnpooclelgaaDoor.PAll
open Go.RowKit Go.Proofs.YtmcdnpooclelgaaDoorW.PrintWords Go.Proofs.YtmcdnpooclelgaaDoorW.PrintLast Go.Proofs.YtmcdnpooclelgaaDoorW.PrintMore
attribute [local go_sem] max2_int min2_int max_two min_two max_three min_three max_four min_four   -- for this text's walks alone
def laws_wWords.l0 : Nat → List ByteArray → List ByteArray → Int → Option (Bool)
 | 0, _, _, _ => none
 | k + 1, x0, x1, x5 => if x5 < (x0.length : Int) then (if 0 ≤ x5 then (if x5 < (x1.length : Int) then (if (rdOf ByteArray.empty x0 x5).toList = (rdOf ByteArray.empty x1 x5).toList then (laws_wWords.l0 k x0 x1 (wrap64 (x5 + 1))) else (some false)) else (none)) else (none)) else (some true)
def laws_wWords.f (k : Nat) (l0 : List ByteArray) (l1 : List ByteArray) : Option (Bool) := if (l0.length : Int) = (l1.length : Int) then (laws_wWords.l0 k l0 l1 0) else (some false)
set_option maxHeartbeats 8000000 in
set_option maxRecDepth 100000 in
theorem laws_wWords.calls (k : Nat) (A0 : Option Addr) (c0 : Nat) (l0 : List ByteArray) (A1 : Option Addr) (c1 : Nat) (l1 : List ByteArray) (r : Bool) (w : World) (hr0 : Kd.C Kd.string w A0 l0.length l0) (hc0 : l0.length ≤ c0) (hr1 : Kd.C Kd.string w A1 l1.length l1) (hc1 : l1.length ≤ c1) (h : laws_wWords.f k l0 l1 = some r) :
  Calls Tryd.prog 24 #[.slice A0 l0.length c0, .slice A1 l1.length c1] w fun e w' => e = .returned (.bool r) ∧ Drawn0 w w' := by
 have HR0 := Aside0.mk hr0
 have HC0 := Aside0.mk hc0
 clear hr0 hc0
 have HR1 := Aside0.mk hr1
 have HC1 := Aside0.mk hc1
 clear hr1 hc1
 have H : (if (l0.length : Int) = (l1.length : Int) then (laws_wWords.l0 k l0 l1 0) else (some false)) = some r := h
 clear h
 by_cases c3 : (l0.length : Int) = (l1.length : Int)
 ·rw [if_pos c3] at H
  have c3b0 : ((l0.length : Int) == (l1.length : Int)) = true := beq_iff_eq.mpr c3
  have c3b1 : ((l0.length : Int) != (l1.length : Int)) = false := bne_eq_false_iff_eq.mpr c3
  have c3b2 : (l0.length == l1.length) = true := by first | simpa using c3 | (simp at c3 ⊢; omega)
  clear c3
  have H' := Aside0.mk H
  clear H
  go_enter Tryd.func24, Tryd.ntmps24
  go_wp2
  repeat (go_quiet (fail); try go_wp2)
  go_loopg [5] k (fun kq v5 w' => ∃ (x5_1 : Int), v5 = .int .i64 x5_1 ∧ Aside0 (laws_wWords.l0 kq l0 l1 x5_1 = some r) ∧ Aside0 (kq ≤ k) ∧ Drawn0 w w')
  case atStart => exact ⟨(0), (by first | rfl | (simp; done) | (simp [*]; done)), H', ⟨Nat.le_refl _⟩, by repeat (first | exact Drawn0.refl _ | apply Drawn0.step)⟩
  case round =>
   clear H'
   try clear c1
   try clear c2
   try clear p2
   try clear c3
   try clear c3b0
   try clear c3b1
   try clear c3b2
   obtain ⟨x5_1, rfl, HA, HK1, ⟨m1, rfl⟩⟩ := hrel
   cases gk with
   | zero => exact absurd HA.out (by simp [laws_wWords.l0])
   | succ k1 =>
    have H := HA.out
    clear HA
    simp only [laws_wWords.l0] at H
    by_cases c4 : x5_1 < (l0.length : Int)
    ·rw [if_pos c4] at H
     have c4b0 : decide (x5_1 < (l0.length : Int)) = true := decide_eq_true c4
     clear c4
     by_cases c5 : 0 ≤ x5_1
     ·rw [if_pos c5] at H
      have c5b0 : decide (0 ≤ x5_1) = true := decide_eq_true c5
      clear c5
      by_cases c6 : x5_1 < (l1.length : Int)
      ·rw [if_pos c6] at H
       have c6b0 : decide (x5_1 < (l1.length : Int)) = true := decide_eq_true c6
       clear c6
       by_cases c7 : (rdOf ByteArray.empty l0 x5_1).toList = (rdOf ByteArray.empty l1 x5_1).toList
       ·rw [if_pos c7] at H
        have c7b0 : ((rdOf ByteArray.empty l0 x5_1).toList == (rdOf ByteArray.empty l1 x5_1).toList) = true := beq_iff_eq.mpr c7
        have c7b1 : ((rdOf ByteArray.empty l0 x5_1).toList != (rdOf ByteArray.empty l1 x5_1).toList) = false := bne_eq_false_iff_eq.mpr c7
        clear c7
        have H' := Aside0.mk H
        clear H
        have p287 : 0 ≤ (x5_1 : Int) := of_decide_eq_true (by first | (with_reducible assumption) | assumption)
        have q287 : x5_1 < (l0.length : Int) := of_decide_eq_true (by first | (with_reducible assumption) | assumption)
        obtain ⟨ad287, e287, hx287_0⟩ := Kd.at_string HR0.out x5_1 p287 q287
        cases e287
        replace p287 := eq_true p287
        replace q287 := eq_true q287
        have p288 : 0 ≤ (x5_1 : Int) := of_decide_eq_true (by first | (with_reducible assumption) | assumption)
        have q288 : x5_1 < (l1.length : Int) := of_decide_eq_true (by first | (with_reducible assumption) | assumption)
        obtain ⟨ad288, e288, hx288_0⟩ := Kd.at_string HR1.out x5_1 p288 q288
        cases e288
        replace p288 := eq_true p288
        replace q288 := eq_true q288
        go_wp2
        repeat (go_quiet (fail); try go_wp2)
        go_roundg k1
        case measure => have := HK1.out; omega
        case rel => exact ⟨(wrap64 (x5_1 + 1)), (by first | rfl | (simp; done) | (simp [*]; done)), H', ⟨by have := HK1.out; omega⟩, by repeat (first | exact Drawn0.refl _ | apply Drawn0.step)⟩
       ·rw [if_neg c7] at H
        have c7b0 : ((rdOf ByteArray.empty l0 x5_1).toList == (rdOf ByteArray.empty l1 x5_1).toList) = false := beq_eq_false_iff_ne.mpr c7
        have c7b1 : ((rdOf ByteArray.empty l0 x5_1).toList != (rdOf ByteArray.empty l1 x5_1).toList) = true := bne_iff_ne.mpr c7
        obtain rfl := Option.some.inj H
        have p287 : 0 ≤ (x5_1 : Int) := of_decide_eq_true (by first | (with_reducible assumption) | assumption)
        have q287 : x5_1 < (l0.length : Int) := of_decide_eq_true (by first | (with_reducible assumption) | assumption)
        obtain ⟨ad287, e287, hx287_0⟩ := Kd.at_string HR0.out x5_1 p287 q287
        cases e287
        replace p287 := eq_true p287
        replace q287 := eq_true q287
        have p288 : 0 ≤ (x5_1 : Int) := of_decide_eq_true (by first | (with_reducible assumption) | assumption)
        have q288 : x5_1 < (l1.length : Int) := of_decide_eq_true (by first | (with_reducible assumption) | assumption)
        obtain ⟨ad288, e288, hx288_0⟩ := Kd.at_string HR1.out x5_1 p288 q288
        cases e288
        replace p288 := eq_true p288
        replace q288 := eq_true q288
        go_wp2
        repeat (go_quiet (fail); try go_wp2)
        go_ret
        exact ⟨by first | rfl | (simp; done) | (simp [*]; done), by repeat (first | exact Drawn0.refl _ | apply Drawn0.step)⟩
      ·rw [if_neg c6] at H
       exact absurd H (by simp)
     ·rw [if_neg c5] at H
      exact absurd H (by simp)
    ·rw [if_neg c4] at H
     have c4b0 : decide (x5_1 < (l0.length : Int)) = false := decide_eq_false c4
     clear c4
     obtain rfl := Option.some.inj H
     go_wp2
     repeat (go_quiet (fail); try go_wp2)
     go_ret
     exact ⟨by first | rfl | (simp; done) | (simp [*]; done), by repeat (first | exact Drawn0.refl _ | apply Drawn0.step)⟩
 ·rw [if_neg c3] at H
  have c3b0 : ((l0.length : Int) == (l1.length : Int)) = false := beq_eq_false_iff_ne.mpr c3
  have c3b1 : ((l0.length : Int) != (l1.length : Int)) = true := bne_iff_ne.mpr c3
  have c3b2 : (l0.length == l1.length) = false := by first | simpa using c3 | (simp at c3 ⊢; omega)
  obtain rfl := Option.some.inj H
  go_enter Tryd.func24, Tryd.ntmps24
  go_wp2
  repeat (go_quiet (fail); try go_wp2)
  go_ret
  exact ⟨by first | rfl | (simp; done) | (simp [*]; done), by repeat (first | exact Drawn0.refl _ | apply Drawn0.step)⟩
end Go.Proofs.YtmcdnpooclelgaaDoor.PAll
namespace Go.Proofs.YtmcdnpooclelgaaDoor
open Go.ChangeShapes Go.WideShapes Go.ChangeAt Go.RowKit
theorem deep_of_change {H : Type} {enc : TypeId × Value → H} {a : Assume} {C : Checked} {os : Os} {f : FuncId} {fn : Func} {s : ChangeSpec} {conds : List PathCond} {apart fresh handsOn again : Bool} {X : World → Array Value → Prop}
    (own : ownKnob C.prog.godebug = none) (started : os.Started) (noInit : C.prog.inits.idxOf? f = none) (hfn : C.prog.funcs[f]? = some fn)
    (witness : ∃ (w : World) (tape : Tape) (i : Input), w.os = os ∧ (w.forCall tape i).Shaped C.prog ∧ i.vars = [] ∧ Input.okWide C.prog (w.forCall tape i) .any w.heap.size f i ∧
      ((s.pre enc C.prog fn conds apart (w.forCall tape i).memory i.args ∧ X (w.forCall tape i).memory i.args) ∧ sizedMet enc C.prog fn (OpenSpec.ofChange s) apart (w.forCall tape i).memory i.args) ∧ a.holds C.prog (lone (Frame.enter C.prog f i.args .normal) [] (w.forCall tape i)))
    (contract : ∀ (W : World) (base : Nat) (args : Array Value) (ds gs : List (DataW H)) (before : List MemPlace),
      (∀ (j : Nat) t v, fn.params[j]? = some t → args[j]? = some v → Value.okWide C.prog W .any base t v) →
      DataW.Whole enc C.prog fn.params.toList s.vars apart W args.toList ds gs before →
      conds.all (PathCond.test C.prog ⟨fn.params.toList, ds, s.plain.varTypes C.prog, gs⟩) = true →
      (DataW.weightsEach C.prog (fn.params.toList ++ s.plain.varTypes C.prog) (ds ++ gs)).all (· ≤ reachBytes) = true →
      W.ShapedOpen C.prog →
      a.holds C.prog (lone (Frame.enter C.prog f args .normal) [] W) →
      Calls C.prog f args W fun e W' => ∃ v, e = .returned v ∧ s.post enc C.prog fn apart fresh handsOn again W args v W') :
    ReturnsInHanded a C os f .any (fun w args => (s.pre enc C.prog fn conds apart w args ∧ X w args) ∧ sizedMet enc C.prog fn (OpenSpec.ofChange s) apart w args) (s.post enc C.prog fn apart fresh handsOn again) := by
  refine returnsInHanded_of_calls own started noInit witness ?_
  intro w tape i _ hsh _ hok hpre hholds
  obtain ⟨_, _, _, fn', hfn', _, _, _, _, hval⟩ := hok
  have e : fn' = fn := Option.some.inj (hfn'.symm.trans hfn)
  subst e
  obtain ⟨⟨⟨ds, gs, before, hw, hc⟩, _⟩, hz⟩ := hpre
  have hw' := DataW.Whole.of_heap (w' := w.forCall tape i) (by rfl) hw
  refine (contract (w.forCall tape i) w.heap.size i.args ds gs before hval hw' hc (hz.weights hw) hsh hholds).mono fun e W' ⟨v, he, hp⟩ => ?_
  subst he
  exact ChangeSpec.post_blind hp
end Go.Proofs.YtmcdnpooclelgaaDoor
