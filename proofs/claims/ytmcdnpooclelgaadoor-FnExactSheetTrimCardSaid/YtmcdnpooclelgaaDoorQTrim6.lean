/- Texts of this claim, packed: contracts of functions and plain lemmas that the law is proved from. -/
import Derived.HandedShaped
import Derived.LaidMore
import Derived.LaidOnce
import Derived.OpenShut
import Derived.ProofKit
import Derived.Shelf.Vars
import Derived.Test.YtmcdnpooclelgaaDoorRows
import Derived.Test.YtmcdnpooclelgaaDoorQTrim1
import Derived.Test.YtmcdnpooclelgaaDoorQTrim2
import Derived.Test.YtmcdnpooclelgaaDoorQTrim3
import Derived.Test.YtmcdnpooclelgaaDoorQTrim4
import Derived.Test.YtmcdnpooclelgaaDoorQTrim5
set_option linter.unusedVariables false
set_option linter.unusedSimpArgs false
namespace Go.Proofs.YtmcdnpooclelgaaDoor.PAll
open Go.RowKit Go.Proofs.YtmcdnpooclelgaaDoorW.PrintWords Go.Proofs.YtmcdnpooclelgaaDoorW.PrintLast Go.Proofs.YtmcdnpooclelgaaDoorW.PrintMore
attribute [local go_sem] max2_int min2_int max_two min_two max_three min_three max_four min_four   -- for this text's walks alone
set_option linter.unusedVariables false
set_option linter.unusedSimpArgs false
def slices_Equal_string_string.l0 : Nat → List ByteArray → List ByteArray → Int → Int → Option (Bool)
 | 0, _, _, _, _ => none
 | k + 1, x0, x1, x12, x13 => if x13 < x12 then (if 0 ≤ x13 then (if x13 < (x0.length : Int) then (if x13 < (x1.length : Int) then (if (rdOf ByteArray.empty x0 x13).toList = (rdOf ByteArray.empty x1 x13).toList then (slices_Equal_string_string.l0 k x0 x1 x12 (wrap64 (x13 + 1))) else (some false)) else (none)) else (none)) else (none)) else (some true)
def slices_Equal_string_string.f (k : Nat) (l0 : List ByteArray) (l1 : List ByteArray) : Option (Bool) := if (l0.length : Int) = (l1.length : Int) then (slices_Equal_string_string.l0 k l0 l1 (l0.length : Int) 0) else (some false)
set_option maxHeartbeats 8000000 in
set_option maxRecDepth 100000 in
theorem slices_Equal_string_string.calls (k : Nat) (A0 : Option Addr) (c0 : Nat) (l0 : List ByteArray) (A1 : Option Addr) (c1 : Nat) (l1 : List ByteArray) (r : Bool) (w : World) (hr0 : Kd.C Kd.string w A0 l0.length l0) (hc0 : l0.length ≤ c0) (hr1 : Kd.C Kd.string w A1 l1.length l1) (hc1 : l1.length ≤ c1) (h : slices_Equal_string_string.f k l0 l1 = some r) :
  Calls Tryd.prog 98 #[.slice A0 l0.length c0, .slice A1 l1.length c1] w fun e w' => e = .returned (.bool r) ∧ Drawn0 w w' := by
 have HR0 := Aside0.mk hr0
 have HC0 := Aside0.mk hc0
 clear hr0 hc0
 have HR1 := Aside0.mk hr1
 have HC1 := Aside0.mk hc1
 clear hr1 hc1
 have H : (if (l0.length : Int) = (l1.length : Int) then (slices_Equal_string_string.l0 k l0 l1 (l0.length : Int) 0) else (some false)) = some r := h
 clear h
 by_cases c3 : (l0.length : Int) = (l1.length : Int)
 ·rw [if_pos c3] at H
  have c3b0 : ((l0.length : Int) == (l1.length : Int)) = true := beq_iff_eq.mpr c3
  have c3b1 : ((l0.length : Int) != (l1.length : Int)) = false := bne_eq_false_iff_eq.mpr c3
  have c3b2 : (l0.length == l1.length) = true := by first | simpa using c3 | (simp at c3 ⊢; omega)
  clear c3
  have H' := Aside0.mk H
  clear H
  go_enter Tryd.func98, Tryd.ntmps98
  go_wp2
  repeat (go_quiet (fail); try go_wp2)
  go_loopg [13] k (fun kq v13 w' => ∃ (x13_1 : Int), v13 = .int .i64 x13_1 ∧ Aside0 (slices_Equal_string_string.l0 kq l0 l1 (l0.length : Int) x13_1 = some r) ∧ Aside0 (kq ≤ k) ∧ Drawn0 w w')
  case atStart => exact ⟨(0), (by first | rfl | (simp; done) | (simp [*]; done)), H', ⟨Nat.le_refl _⟩, by repeat (first | exact Drawn0.refl _ | apply Drawn0.step)⟩
  case round =>
   clear H'
   try clear c1
   try clear p2
   try clear c3
   try clear c3b0
   try clear c3b1
   try clear c3b2
   obtain ⟨x13_1, rfl, HA, HK1, ⟨m1, rfl⟩⟩ := hrel
   cases gk with
   | zero => exact absurd HA.out (by simp [slices_Equal_string_string.l0])
   | succ k1 =>
    have H := HA.out
    clear HA
    simp only [slices_Equal_string_string.l0] at H
    by_cases c4 : x13_1 < (l0.length : Int)
    ·rw [if_pos c4] at H
     have c4b0 : decide (x13_1 < (l0.length : Int)) = true := decide_eq_true c4
     clear c4
     by_cases c5 : 0 ≤ x13_1
     ·rw [if_pos c5] at H
      have c5b0 : decide (0 ≤ x13_1) = true := decide_eq_true c5
      clear c5
      by_cases c6 : x13_1 < (l0.length : Int)
      ·rw [if_pos c6] at H
       have c6b0 : decide (x13_1 < (l0.length : Int)) = true := decide_eq_true c6
       clear c6
       by_cases c7 : x13_1 < (l1.length : Int)
       ·rw [if_pos c7] at H
        have c7b0 : decide (x13_1 < (l1.length : Int)) = true := decide_eq_true c7
        clear c7
        by_cases c8 : (rdOf ByteArray.empty l0 x13_1).toList = (rdOf ByteArray.empty l1 x13_1).toList
        ·rw [if_pos c8] at H
         have c8b0 : ((rdOf ByteArray.empty l0 x13_1).toList == (rdOf ByteArray.empty l1 x13_1).toList) = true := beq_iff_eq.mpr c8
         have c8b1 : ((rdOf ByteArray.empty l0 x13_1).toList != (rdOf ByteArray.empty l1 x13_1).toList) = false := bne_eq_false_iff_eq.mpr c8
         clear c8
         have H' := Aside0.mk H
         clear H
         have p182 : 0 ≤ (x13_1 : Int) := of_decide_eq_true (by first | (with_reducible assumption) | assumption)
         have q182 : x13_1 < (l0.length : Int) := of_decide_eq_true (by first | (with_reducible assumption) | assumption)
         obtain ⟨ad182, e182, hx182_0⟩ := Kd.at_string HR0.out x13_1 p182 q182
         cases e182
         replace p182 := eq_true p182
         replace q182 := eq_true q182
         have p183 : 0 ≤ (x13_1 : Int) := of_decide_eq_true (by first | (with_reducible assumption) | assumption)
         have q183 : x13_1 < (l1.length : Int) := of_decide_eq_true (by first | (with_reducible assumption) | assumption)
         obtain ⟨ad183, e183, hx183_0⟩ := Kd.at_string HR1.out x13_1 p183 q183
         cases e183
         replace p183 := eq_true p183
         replace q183 := eq_true q183
         go_wp2
         repeat (go_quiet (fail); try go_wp2)
         go_roundg k1
         case measure => have := HK1.out; omega
         case rel => exact ⟨(wrap64 (x13_1 + 1)), (by first | rfl | (simp; done) | (simp [*]; done)), H', ⟨by have := HK1.out; omega⟩, by repeat (first | exact Drawn0.refl _ | apply Drawn0.step)⟩
        ·rw [if_neg c8] at H
         have c8b0 : ((rdOf ByteArray.empty l0 x13_1).toList == (rdOf ByteArray.empty l1 x13_1).toList) = false := beq_eq_false_iff_ne.mpr c8
         have c8b1 : ((rdOf ByteArray.empty l0 x13_1).toList != (rdOf ByteArray.empty l1 x13_1).toList) = true := bne_iff_ne.mpr c8
         obtain rfl := Option.some.inj H
         have p182 : 0 ≤ (x13_1 : Int) := of_decide_eq_true (by first | (with_reducible assumption) | assumption)
         have q182 : x13_1 < (l0.length : Int) := of_decide_eq_true (by first | (with_reducible assumption) | assumption)
         obtain ⟨ad182, e182, hx182_0⟩ := Kd.at_string HR0.out x13_1 p182 q182
         cases e182
         replace p182 := eq_true p182
         replace q182 := eq_true q182
         have p183 : 0 ≤ (x13_1 : Int) := of_decide_eq_true (by first | (with_reducible assumption) | assumption)
         have q183 : x13_1 < (l1.length : Int) := of_decide_eq_true (by first | (with_reducible assumption) | assumption)
         obtain ⟨ad183, e183, hx183_0⟩ := Kd.at_string HR1.out x13_1 p183 q183
         cases e183
         replace p183 := eq_true p183
         replace q183 := eq_true q183
         go_wp2
         repeat (go_quiet (fail); try go_wp2)
         go_ret
         exact ⟨by first | rfl | (simp; done) | (simp [*]; done), by repeat (first | exact Drawn0.refl _ | apply Drawn0.step)⟩
       ·rw [if_neg c7] at H
        exact absurd H (by simp)
      ·rw [if_neg c6] at H
       exact absurd H (by simp)
     ·rw [if_neg c5] at H
      exact absurd H (by simp)
    ·rw [if_neg c4] at H
     have c4b0 : decide (x13_1 < (l0.length : Int)) = false := decide_eq_false c4
     clear c4
     obtain rfl := Option.some.inj H
     go_wp2
     repeat (go_quiet (fail); try go_wp2)
     go_ret
     exact ⟨by first | rfl | (simp; done) | (simp [*]; done), by repeat (first | exact Drawn0.refl _ | apply Drawn0.step)⟩
 ·rw [if_neg c3] at H
  have c3b0 : ((l0.length : Int) == (l1.length : Int)) = false := beq_eq_false_iff_ne.mpr c3
  have c3b1 : ((l0.length : Int) != (l1.length : Int)) = true := bne_iff_ne.mpr c3
  have c3b2 : (l0.length == l1.length) = false := by first | simpa using c3 | (simp at c3 ⊢; omega)
  obtain rfl := Option.some.inj H
  go_enter Tryd.func98, Tryd.ntmps98
  go_wp2
  repeat (go_quiet (fail); try go_wp2)
  go_ret
  exact ⟨by first | rfl | (simp; done) | (simp [*]; done), by repeat (first | exact Drawn0.refl _ | apply Drawn0.step)⟩
end Go.Proofs.YtmcdnpooclelgaaDoor.PAll

namespace Go.Proofs.YtmcdnpooclelgaaDoor.PAll
open Go.RowKit Go.Proofs.YtmcdnpooclelgaaDoorW.PrintWords Go.Proofs.YtmcdnpooclelgaaDoorW.PrintLast Go.Proofs.YtmcdnpooclelgaaDoorW.PrintMore
theorem equalS_l0 (xs ys : List ByteArray) (hl : xs.length = ys.length) (hn : xs.length ≤ 1099511627776) : ∀ (d i : Nat), i + d = xs.length → Ev (fun k => slices_Equal_string_string.l0 k xs ys (xs.length : Int) (i : Int)) (decide (xs.drop i = ys.drop i))
  | 0, i, h => Ev.unf (fun _ => some true) (fun k => by simp only [slices_Equal_string_string.l0]; rw [if_neg (by omega)]) (by rw [List.drop_eq_nil_of_le (by omega), List.drop_eq_nil_of_le (by omega)]; exact Ev.now _)
  | d + 1, i, h => by
    have h1 : i < xs.length := by omega
    have h2 : i < ys.length := by omega
    have ih := equalS_l0 xs ys hl hn d (i + 1) (by omega)
    have g1 : rdOf ByteArray.empty xs (i : Int) = xs[i] := by unfold rdOf; rw [List.getD_eq_getElem?_getD, Int.toNat_natCast, List.getElem?_eq_getElem h1]; rfl
    have g2 : rdOf ByteArray.empty ys (i : Int) = ys[i] := by unfold rdOf; rw [List.getD_eq_getElem?_getD, Int.toNat_natCast, List.getElem?_eq_getElem h2]; rfl
    refine Ev.unf (fun k => if xs[i] = ys[i] then slices_Equal_string_string.l0 k xs ys (xs.length : Int) ((i + 1 : Nat) : Int) else some false) (fun k => ?_) ?_
    · simp only [slices_Equal_string_string.l0]
      rw [if_pos (by omega), if_pos (by omega), if_pos (by omega), if_pos (by omega), g1, g2, inc (by omega)]
      simp only [toList_iff]
    · rw [List.drop_eq_getElem_cons h1, List.drop_eq_getElem_cons h2]
      by_cases q : xs[i] = ys[i]
      · simp only [if_pos q]
        rw [q]
        rw [show decide (ys[i] :: xs.drop (i + 1) = ys[i] :: ys.drop (i + 1)) = decide (xs.drop (i + 1) = ys.drop (i + 1)) from decide_eq_decide.2 ⟨fun e => by injection e, fun e => by rw [e]⟩]
        exact ih
      · simp only [if_neg q]
        rw [decide_eq_false (fun e => q (by injection e))]
        exact Ev.now _
theorem equalS_c (a b : List ByteArray) (ha : a.length ≤ 1099511627776) (A B : Option Addr) (c d : Nat) (w : World) (hA : Kd.C Kd.string w A a.length a) (hc : a.length ≤ c) (hB : Kd.C Kd.string w B b.length b) (hd : b.length ≤ d) :
    Calls Tryd.prog 98 #[.slice A a.length c, .slice B b.length d] w fun e w' => e = .returned (.bool (decide (a = b))) ∧ Below w.heap.size w w' := by
  have hev : Ev (fun k => slices_Equal_string_string.f k a b) (decide (a = b)) := by
    unfold slices_Equal_string_string.f
    by_cases q : a.length = b.length
    · simp only [if_pos (show (a.length : Int) = (b.length : Int) by omega)]
      exact equalS_l0 a b q ha a.length 0 (by omega)
    · simp only [if_neg (show ¬ (a.length : Int) = (b.length : Int) by omega)]
      rw [decide_eq_false (fun e => q (by rw [e]))]
      exact Ev.now _
  obtain ⟨K, hk⟩ := hev.rounds
  refine (slices_Equal_string_string.calls K A c a B d b _ w hA hc hB hd hk).mono ?_
  rintro e w' ⟨rfl, n, rfl⟩
  exact ⟨rfl, pw_below_drewN (Below.refl _ _) n⟩
theorem find3_c (kind key : ByteArray) (w : World) : Calls Tryd.prog 64 #[.string kind, .string key] w fun e w' => ∃ (r1 : ByteArray) (g1 : Option Addr) (n1 c1 : Nat) (g2 : Option Addr) (c2 : Nat), e = .returned (.tuple #[.agg #[.string r1, .slice g1 n1 c1, .bool (manyL kind key), .slice g2 (defL kind key).length c2], .int .i64 (placeL kind key)]) ∧ Kd.R Kd.string 9 w' 0 (fun _ => True) (.slice g2 (defL kind key).length c2) (defL kind key) ∧ Below w.heap.size w w' := by
  obtain ⟨K, hk⟩ := ev_find kind key
  have h := hk K (Nat.le_refl _)
  have e1 := many_find kind key
  have e2 := findR_place kind key
  have e3 : (findR (lookL kind key)).2.2.2.1 = defL kind key := by unfold findR defL; split <;> rename_i hq <;> rw [hq] <;> rfl
  generalize findR (lookL kind key) = fr at *
  obtain ⟨f1, f2, f3, f4, f5⟩ := fr
  simp only at e1 e2 e3
  subst e3
  refine (impl_find.calls K kind key _ _ _ _ _ w h).mono ?_
  rintro e w' ⟨v1, v3, rfl, hR1, hR3, hb⟩
  obtain ⟨g1, c1, rfl⟩ := Kd.R_slice hR1
  obtain ⟨g2, c2, rfl⟩ := Kd.R_slice hR3
  exact ⟨_, g1, _, c1, g2, c2, by rw [← e1, ← e2], Kd.R_lower (Kd.R_mono hR3 (fun _ _ => trivial)) (Nat.zero_le _), hb⟩
set_option linter.unusedSimpArgs false
set_option linter.unusedVariables false
set_option maxRecDepth 100000 in
set_option maxHeartbeats 4000000 in
theorem trimClosure_c (kind l0 : ByteArray) (l1 : List ByteArray) (A1 : Option Addr) (d1 B1 g o : Nat) (w : World) (hptr : w.cell? ⟨B1, 0, none⟩ = some (.pointer (some ⟨g, o, none⟩))) (hk : w.cell? ⟨g, o, none⟩ = some (.string kind)) (hC : Kd.C Kd.string w A1 l1.length l1) (hc : l1.length ≤ d1) (hn : l1.length ≤ 1099511627776) :
    Calls Tryd.prog 97 #[.agg #[.string l0, .slice A1 l1.length d1], .pointer (some ⟨B1, 0, none⟩)] w fun e w' => e = .returned (.bool (!keepT kind ⟨l0, l1⟩)) ∧ Below w.heap.size w w' := by
  have a1 : Below w.heap.size w (w.alloc (.cells #[.string l0, .slice A1 l1.length d1] 83)) := (Below.refl _ _).alloc (Nat.le_refl _) _
  have K1 := blk_new w (.cells #[.string l0, .slice A1 l1.length d1] 83)
  have U0 : (w.alloc (.cells #[.string l0, .slice A1 l1.length d1] 83)).drew.cell? ⟨B1, 0, none⟩ = some (.pointer (some ⟨g, o, none⟩)) := pw_cell_below a1 hptr
  have U1 : (w.alloc (.cells #[.string l0, .slice A1 l1.length d1] 83)).drew.cell? ⟨g, o, none⟩ = some (.string kind) := pw_cell_below a1 hk
  have U2 : (w.alloc (.cells #[.string l0, .slice A1 l1.length d1] 83)).drew.cell? ⟨w.heap.size, 0, none⟩ = some (.string l0) := (blk_cell K1 0).trans rfl
  have U3 : (w.alloc (.cells #[.string l0, .slice A1 l1.length d1] 83)).drew.cell? ⟨w.heap.size, 1, none⟩ = some (.slice A1 l1.length d1) := (blk_cell K1 1).trans rfl
  have HBu : Aside0 (Below w.heap.size w (w.alloc (.cells #[.string l0, .slice A1 l1.length d1] 83)).drew) := ⟨below_drew a1⟩
  have HC1 : Aside0 (Kd.C Kd.string (w.alloc (.cells #[.string l0, .slice A1 l1.length d1] 83)).drew A1 l1.length l1) := ⟨Kd.C_below hC (below_drew a1)⟩
  have FC := Aside0.mk (fun w => find3_c kind l0 w)
  have HK : Aside0 ((!keepT kind ⟨l0, l1⟩) = (!(manyL kind l0 || !decide (l1 = defL kind l0)))) := ⟨rfl⟩
  generalize manyL kind l0 = mm at *
  generalize defL kind l0 = df at *
  generalize placeL kind l0 = pl at *
  clear hptr hk hC a1 K1
  go_enter Tryd.func97, Tryd.ntmps97
  go_wp2_with fail
  refine start_ (n := 13) (S := (fun w' => w'.cell? ⟨B1, 0, none⟩ = some (.pointer (some ⟨g, o, none⟩)) ∧ w'.cell? ⟨g, o, none⟩ = some (.string kind) ∧ w'.cell? ⟨w.heap.size, 0, none⟩ = some (.string l0))) (ds := [11]) #[false, false, false, false, false, false, false, false, false, false, false, false, false] (by kernel_rfl) rfl rfl ⟨U0, U1, U2⟩ (fun hHeld => ?_)
  generalize (w.alloc (.cells #[.string l0, .slice A1 l1.length d1] 83)).drew = u at U0 U1 U2 U3 HBu HC1 hHeld ⊢
  refine take_ (i := 0) (N := some 7) (v := ?_) (a' := ?_) #[true, false, false, false, false, false, false, false, false, false, false, false, false] rfl rfl (by kernel_rfl) (fun _ _ _ h => h) (Or.inl ⟨by rfl, ?_⟩) hHeld ?_ ?_
  rotate_left
  · rintro w' ⟨s0, s1, s2⟩
    go_simp
    with_reducible rfl
  rotate_left
  · simp only [Act.put, List.setIfInBounds_toArray, List.set_cons_zero, List.set_cons_succ, i64_w, i32_w]
    rfl
  refine pure_ (i := 1) (N := some 8) (v := ?_) (a' := ?_) #[true, true, false, false, false, false, false, false, false, false, false, false, false] rfl rfl (by kernel_rfl) (fun _ _ _ h => h) (Or.inl ⟨by rfl, ?_⟩) ?_ ?_
  rotate_left
  · intro w'
    go_simp
    with_reducible rfl
  rotate_left
  · simp only [Act.put, List.setIfInBounds_toArray, List.set_cons_zero, List.set_cons_succ, i64_w, i32_w]
    rfl
  refine pure_ (i := 2) (N := some 9) (v := ?_) (a' := ?_) #[true, true, true, false, false, false, false, false, false, false, false, false, false] rfl rfl (by kernel_rfl) (fun _ _ _ h => h) (Or.inl ⟨by rfl, ?_⟩) ?_ ?_
  rotate_left
  · intro w'
    go_simp
    with_reducible rfl
  rotate_left
  · simp only [Act.put, List.setIfInBounds_toArray, List.set_cons_zero, List.set_cons_succ, i64_w, i32_w]
    rfl
  refine take_ (i := 3) (N := some 10) (v := ?_) (a' := ?_) #[true, true, true, true, false, false, false, false, false, false, false, false, false] rfl rfl (by kernel_rfl) (fun _ _ _ h => h) (Or.inl ⟨by rfl, ?_⟩) hHeld ?_ ?_
  rotate_left
  · rintro w' ⟨s0, s1, s2⟩
    go_simp
    with_reducible rfl
  rotate_left
  · simp only [Act.put, List.setIfInBounds_toArray, List.set_cons_zero, List.set_cons_succ, i64_w, i32_w]
    rfl
  refine pure_ (i := 4) (N := some 11) (v := ?_) (a' := ?_) #[true, true, true, true, true, false, false, false, false, false, false, false, false] rfl rfl (by kernel_rfl) (fun _ _ _ h => h) (Or.inl ⟨by rfl, ?_⟩) ?_ ?_
  rotate_left
  · intro w'
    go_simp
    with_reducible rfl
  rotate_left
  · simp only [Act.put, List.setIfInBounds_toArray, List.set_cons_zero, List.set_cons_succ, i64_w, i32_w]
    rfl
  refine take_ (i := 5) (N := some 12) (v := ?_) (a' := ?_) #[true, true, true, true, true, true, false, false, false, false, false, false, false] rfl rfl (by kernel_rfl) (fun _ _ _ h => h) (Or.inl ⟨by rfl, ?_⟩) hHeld ?_ ?_
  rotate_left
  · rintro w' ⟨s0, s1, s2⟩
    go_simp
    with_reducible rfl
  rotate_left
  · simp only [Act.put, List.setIfInBounds_toArray, List.set_cons_zero, List.set_cons_succ, i64_w, i32_w]
    rfl
  refine join_ (σ := Value × Value × Value) 2 #[true, true, true, true, true, true, true, true, true, true, true, false, false] (fun s => [(13, s.1), (6, s.1), (14, s.2.1), (15, .int .i64 pl), (4, s.2.2)]) (fun s w' => ∃ r1 g1 n1 c1 g2 c2 g8, s.1 = .tuple #[.agg #[.string r1, .slice g1 n1 c1, .bool mm, .slice g2 df.length c2], .int .i64 pl] ∧ s.2.1 = .agg #[.string r1, .slice g1 n1 c1, .bool mm, .slice g2 df.length c2] ∧ s.2.2 = .pointer (some ⟨g8, 0, none⟩) ∧ w'.heap[g8]? = some (.cells #[.string ⟨#[]⟩, .slice none 0 0, .bool false, .slice none 0 0] 36 (0, 0)) ∧ u.heap.size ≤ g8 ∧ Kd.R Kd.string 9 w' 0 (fun _ => True) (.slice g2 df.length c2) df ∧ Below u.heap.size u w') ?_ ?_
  rotate_left
  · intro hCont
    refine two_ (i := 6) (j := 10) (Ni := some 13) (Nj := some 4) #[true, true, true, true, true, true, true, false, false, false, false, false, false] #[true, true, true, true, true, true, false, false, false, false, true, false, false] rfl rfl rfl rfl (by kernel_rfl) (by decide) (by decide) (fun K hK => ?_) (fun K hK => ?_)
    · skip
      refine goes_ Tryd.func64 (by kernel_rfl) rfl #[.string kind, .string l0] (by rfl) rfl rfl (by (try simp only [List.map_toArray, List.map_cons, List.map_nil]); first | done | rfl) ?_
      with_reducible refine (FC.out u).mono ?_
      rintro e x1 ⟨r1, g1, n1, c1, g2, c2, rfl, hR8, hb1⟩
      refine ⟨_, rfl, ?_⟩
      refine hK.out _ _ ⟨pw_cell_below hb1 U0, pw_cell_below hb1 U1, pw_cell_below hb1 U2⟩ (fun hHeld => ?_)
      clear hK K
      refine norm_ (a' := ?_) ?_ ?_
      rotate_left
      · show Act.put _ (some 13) _ = _
        simp only [putAll, Act.put, List.setIfInBounds_toArray, List.set_cons_zero, List.set_cons_succ, i64_w, i32_w]
        rfl
      refine pure_ (i := 7) (N := some 6) (v := ?_) (a' := ?_) #[true, true, true, true, true, true, true, true, false, false, false, false, false] rfl rfl (by kernel_rfl) (fun _ _ _ h => h) (Or.inl ⟨by rfl, ?_⟩) ?_ ?_
      rotate_left
      · intro w'
        go_simp
        with_reducible rfl
      rotate_left
      · simp only [Act.put, List.setIfInBounds_toArray, List.set_cons_zero, List.set_cons_succ, i64_w, i32_w]
        rfl
      refine pure_ (i := 8) (N := some 14) (v := ?_) (a' := ?_) #[true, true, true, true, true, true, true, true, true, false, false, false, false] rfl rfl (by kernel_rfl) (fun _ _ _ h => h) (Or.inl ⟨by rfl, ?_⟩) ?_ ?_
      rotate_left
      · intro w'
        go_simp
        with_reducible rfl
      rotate_left
      · simp only [Act.put, List.setIfInBounds_toArray, List.set_cons_zero, List.set_cons_succ, i64_w, i32_w]
        rfl
      refine pure_ (i := 9) (N := some 15) (v := ?_) (a' := ?_) #[true, true, true, true, true, true, true, true, true, true, false, false, false] rfl rfl (by kernel_rfl) (fun _ _ _ h => h) (Or.inl ⟨by rfl, ?_⟩) ?_ ?_
      rotate_left
      · intro w'
        go_simp
        with_reducible rfl
      rotate_left
      · simp only [Act.put, List.setIfInBounds_toArray, List.set_cons_zero, List.set_cons_succ, i64_w, i32_w]
        rfl
      refine one_ (i := 10) (N := some 4) #[true, true, true, true, true, true, true, true, true, true, true, false, false] rfl rfl (by kernel_rfl) (by decide) (fun K hK => ?_)
      refine value_ (w1 := ?_) (v := ?_) (by rfl) rfl ?_ ?_
      rotate_left 2
      · go_simp
        constructor
        · rfl
        · rfl
      have hb2 : Below x1.heap.size x1 (x1.alloc (.cells #[.string ⟨#[]⟩, .slice none 0 0, .bool false, .slice none 0 0] 36)) := (Below.refl _ _).alloc (Nat.le_refl _) _
      have H2 := hb1.trans (hb2.mono hb1.size)
      refine hK.out _ _ ⟨pw_cell_below H2 U0, pw_cell_below H2 U1, pw_cell_below H2 U2⟩ (fun hHeld => ?_)
      clear hK K
      exact norm_ (by show Act.put _ (some 4) _ = _; first | (simp only [putAll, Act.put, List.setIfInBounds_toArray, List.set_cons_zero, List.set_cons_succ, i64_w, i32_w]; done) | (simp only [putAll, Act.put, List.setIfInBounds_toArray, List.set_cons_zero, List.set_cons_succ, i64_w, i32_w]; rfl)) (hCont (.tuple #[.agg #[.string r1, .slice g1 n1 c1, .bool mm, .slice g2 df.length c2], .int .i64 pl], .agg #[.string r1, .slice g1 n1 c1, .bool mm, .slice g2 df.length c2], .pointer (some ⟨x1.heap.size, 0, none⟩)) _ ⟨r1, g1, n1, c1, g2, c2, x1.heap.size, rfl, rfl, rfl, blk_new x1 _, hb1.size, Kd.R_below hR8 hb2, H2⟩)
    · skip
      refine value_ (w1 := ?_) (v := ?_) (by rfl) rfl ?_ ?_
      rotate_left 2
      · go_simp
        constructor
        · rfl
        · rfl
      have hb0 : Below u.heap.size u (u.alloc (.cells #[.string ⟨#[]⟩, .slice none 0 0, .bool false, .slice none 0 0] 36)) := (Below.refl _ _).alloc (Nat.le_refl _) _
      have bz0 := blk_new u (.cells #[.string ⟨#[]⟩, .slice none 0 0, .bool false, .slice none 0 0] 36)
      generalize u.alloc (.cells #[.string ⟨#[]⟩, .slice none 0 0, .bool false, .slice none 0 0] 36) = x0 at *
      refine hK.out _ _ ⟨pw_cell_below hb0 U0, pw_cell_below hb0 U1, pw_cell_below hb0 U2⟩ (fun hHeld => ?_)
      clear hK K
      refine norm_ (a' := ?_) ?_ ?_
      rotate_left
      · show Act.put _ (some 4) _ = _
        simp only [putAll, Act.put, List.setIfInBounds_toArray, List.set_cons_zero, List.set_cons_succ, i64_w, i32_w]
        rfl
      refine one_ (i := 6) (N := some 13) #[true, true, true, true, true, true, true, false, false, false, true, false, false] rfl rfl (by kernel_rfl) (by decide) (fun K hK => ?_)
      refine goes_ Tryd.func64 (by kernel_rfl) rfl #[.string kind, .string l0] (by rfl) rfl rfl (by (try simp only [List.map_toArray, List.map_cons, List.map_nil]); first | done | rfl) ?_
      with_reducible refine (FC.out x0).mono ?_
      rintro e x1 ⟨r1, g1, n1, c1, g2, c2, rfl, hR8, hb1⟩
      refine ⟨_, rfl, ?_⟩
      have H1 := hb0.trans (hb1.mono hb0.size)
      refine hK.out _ _ ⟨pw_cell_below H1 U0, pw_cell_below H1 U1, pw_cell_below H1 U2⟩ (fun hHeld => ?_)
      clear hK K
      refine norm_ (a' := ?_) ?_ ?_
      rotate_left
      · show Act.put _ (some 13) _ = _
        simp only [putAll, Act.put, List.setIfInBounds_toArray, List.set_cons_zero, List.set_cons_succ, i64_w, i32_w]
        rfl
      refine pure_ (i := 7) (N := some 6) (v := ?_) (a' := ?_) #[true, true, true, true, true, true, true, true, false, false, true, false, false] rfl rfl (by kernel_rfl) (fun _ _ _ h => h) (Or.inl ⟨by rfl, ?_⟩) ?_ ?_
      rotate_left
      · intro w'
        go_simp
        with_reducible rfl
      rotate_left
      · simp only [Act.put, List.setIfInBounds_toArray, List.set_cons_zero, List.set_cons_succ, i64_w, i32_w]
        rfl
      refine pure_ (i := 8) (N := some 14) (v := ?_) (a' := ?_) #[true, true, true, true, true, true, true, true, true, false, true, false, false] rfl rfl (by kernel_rfl) (fun _ _ _ h => h) (Or.inl ⟨by rfl, ?_⟩) ?_ ?_
      rotate_left
      · intro w'
        go_simp
        with_reducible rfl
      rotate_left
      · simp only [Act.put, List.setIfInBounds_toArray, List.set_cons_zero, List.set_cons_succ, i64_w, i32_w]
        rfl
      refine pure_ (i := 9) (N := some 15) (v := ?_) (a' := ?_) #[true, true, true, true, true, true, true, true, true, true, true, false, false] rfl rfl (by kernel_rfl) (fun _ _ _ h => h) (Or.inl ⟨by rfl, ?_⟩) ?_ ?_
      rotate_left
      · intro w'
        go_simp
        with_reducible rfl
      rotate_left
      · simp only [Act.put, List.setIfInBounds_toArray, List.set_cons_zero, List.set_cons_succ, i64_w, i32_w]
        rfl
      exact norm_ (by first | (simp only [putAll, Act.put, List.setIfInBounds_toArray, List.set_cons_zero, List.set_cons_succ, i64_w, i32_w]; done) | (simp only [putAll, Act.put, List.setIfInBounds_toArray, List.set_cons_zero, List.set_cons_succ, i64_w, i32_w]; rfl)) (hCont (.tuple #[.agg #[.string r1, .slice g1 n1 c1, .bool mm, .slice g2 df.length c2], .int .i64 pl], .agg #[.string r1, .slice g1 n1 c1, .bool mm, .slice g2 df.length c2], .pointer (some ⟨u.heap.size, 0, none⟩)) _ ⟨r1, g1, n1, c1, g2, c2, u.heap.size, rfl, rfl, rfl, blk_below bz0 hb1, Nat.le_refl _, hR8, H1⟩)
  rintro ⟨v13, v14, v4⟩ w8 ⟨r1, g1, n1, c1, g2, c2, g8, e1, e2, e3, bz, hg8, hR8, hb8⟩
  simp only at e1 e2 e3
  subst e1 e2 e3
  refine norm_ (a' := ?_) ?_ ?_
  rotate_left
  · show putAll _ _ = _
    simp only [putAll, Act.put, List.setIfInBounds_toArray, List.set_cons_zero, List.set_cons_succ, i64_w, i32_w]
    rfl
  refine last_ (i := 11) (N := none) #[true, true, true, true, true, true, true, true, true, true, true, true, false] rfl rfl (by kernel_rfl) (by decide) (fun K hK => ?_)
  have zc0 : w8.cell? ⟨g8, 0, none⟩ = some (.string ⟨#[]⟩) := (blk_cell bz 0).trans rfl
  have zf0 := blk_frozen bz 0
  have zc1 : w8.cell? ⟨g8, 1, none⟩ = some (.slice none 0 0) := (blk_cell bz 1).trans rfl
  have zf1 := blk_frozen bz 1
  have zc2 : w8.cell? ⟨g8, 2, none⟩ = some (.bool false) := (blk_cell bz 2).trans rfl
  have zf2 := blk_frozen bz 2
  have zc3 : w8.cell? ⟨g8, 3, none⟩ = some (.slice none 0 0) := (blk_cell bz 3).trans rfl
  have zf3 := blk_frozen bz 3
  refine skip_ (w1 := ?_) (by rfl) rfl ?_ ?_
  rotate_left
  · go_simp
    rfl
  refine hK.out _ _ ?_
  clear hK K
  refine pure_ (i := 12) (N := some 5) (v := ?_) (a' := ?_) #[true, true, true, true, true, true, true, true, true, true, true, true, true] rfl rfl (by kernel_rfl) (fun _ _ _ h => h) (Or.inl ⟨by rfl, ?_⟩) ?_ ?_
  rotate_left
  · intro w'
    go_simp
    with_reducible rfl
  rotate_left
  · simp only [Act.put, List.setIfInBounds_toArray, List.set_cons_zero, List.set_cons_succ, i64_w, i32_w]
    rfl
  refine done_ (by kernel_rfl) ?_
  have b1 := blk_put bz 0 (.string r1) rfl
  have b2 := blk_put b1 1 (.slice g1 n1 c1) rfl
  have b3 := blk_put b2 2 (.bool mm) rfl
  have K8 := Aside0.mk (blk_put b3 3 (.slice g2 df.length c2) rfl)
  have HR8 := Aside0.mk (Kd.R_reads' (Kd.R_set (Kd.R_set (Kd.R_set (Kd.R_set hR8 bz (by decide) 0 (.string r1)) b1 (by decide) 1 (.slice g1 n1 c1)) b2 (by decide) 2 (.bool mm)) b3 (by decide) 3 (.slice g2 df.length c2)))
  have B10 := Aside0.mk ((((hb8.setCell (p := ⟨g8, 0, none⟩) hg8 (.string r1)).setCell (p := ⟨g8, 1, none⟩) hg8 (.slice g1 n1 c1)).setCell (p := ⟨g8, 2, none⟩) hg8 (.bool mm)).setCell (p := ⟨g8, 3, none⟩) hg8 (.slice g2 df.length c2))
  clear zc0 zc1 zc2 zc3 zf0 zf1 zf2 zf3 bz b1 b2 b3 hR8 hb8 hg8 hHeld FC
  generalize (((w8.setCell ⟨g8, 0, none⟩ (.string r1)).setCell ⟨g8, 1, none⟩ (.slice g1 n1 c1)).setCell ⟨g8, 2, none⟩ (.bool mm)).setCell ⟨g8, 3, none⟩ (.slice g2 df.length c2) = w10 at *
  have y2 : w10.cell? ⟨g8, 2, none⟩ = some (.bool mm) := (blk_cell K8.out 2).trans rfl
  have y3 : w10.cell? ⟨g8, 3, none⟩ = some (.slice g2 df.length c2) := (blk_cell K8.out 3).trans rfl
  have V3 := pw_cell_below B10.out U3
  have HB10 := Aside0.mk (HBu.out.trans (B10.out.mono HBu.out.size))
  have HC10 := Aside0.mk (Kd.C_below HC1.out B10.out)
  clear U0 U1 U2 U3 HBu HC1 B10
  cases mm with
  | true =>
    go_wp2
    go_ret
    exact ⟨retB (by rw [HK.out]; rfl), HB10.out⟩
  | false =>
    go_wp2_with fail
    refine (equalS_c l1 df hn A1 g2 d1 c2 w10 HC10.out hc HR8.out.2.2 HR8.out.2.1).mono ?_
    rintro e w11 ⟨rfl, hb11⟩
    have HB11 := Aside0.mk (HB10.out.trans (hb11.mono HB10.out.size))
    clear hb11 y2 y3 V3
    go_wp2
    go_ret
    exact ⟨retB (by rw [HK.out]; simp), HB11.out⟩
end Go.Proofs.YtmcdnpooclelgaaDoor.PAll

namespace Go.Proofs.YtmcdnpooclelgaaDoor.PAll
open Go.RowKit Go.Proofs.YtmcdnpooclelgaaDoorW.PrintWords
def LineF (w : World) (gl : Nat) (t : PartL) : Prop := ∃ B d, t.us = [.string t.x.f0, .slice B t.x.f1.length d] ∧ t.x.f1.length ≤ d ∧ t.x.f1.length ≤ 1099511627776 ∧ Kd.F Kd.string w (fun k => k ≠ gl) B t.x.f1.length t.x.f1
def findT (kind : ByteArray) : List PartL → Nat → Int
  | [], _ => -1
  | t :: T, i => if keepT kind t.x = true then findT kind T (i + 1) else (i : Int)
theorem findT_spec (kind : ByteArray) : ∀ (T : List PartL) (i : Nat), (findT kind T i = -1 ∧ T.filter (fun t => keepT kind t.x) = T) ∨ ∃ n, findT kind T i = ((i + n : Nat) : Int) ∧ n < T.length ∧ (T.take (n + 1)).filter (fun t => keepT kind t.x) = T.take n
  | [], _ => .inl ⟨rfl, rfl⟩
  | t :: T, i => by
    rw [findT]
    cases hk : keepT kind t.x with
    | true =>
      simp only [if_true]
      rcases findT_spec kind T (i + 1) with ⟨h1, h2⟩ | ⟨n, h1, h2, h3⟩
      · exact .inl ⟨h1, by rw [List.filter_cons_of_pos (by simpa using hk), h2]⟩
      · exact .inr ⟨n + 1, by rw [h1]; congr 1; omega, by simpa using h2, by rw [List.take_succ_cons, List.filter_cons_of_pos (by simpa using hk), h3, List.take_succ_cons]⟩
    | false =>
      simp only [Bool.false_eq_true, if_false]
      exact .inr ⟨0, rfl, by simp, by simp [hk]⟩
theorem us_two' {w : World} {gl : Nat} {T : List PartL} (h : ∀ t ∈ T, LineF w gl t) : (T.map Part.us).flatten.length = T.length * 2 ∧ (∀ vs ∈ T.map Part.us, vs.length = 2) ∧ ∀ u ∈ (T.map Part.us).flatten, u.oneCell' = true := by
  refine ⟨?_, ?_, ?_⟩
  · induction T with
    | nil => rfl
    | cons t T ih =>
      obtain ⟨B, d, e, _⟩ := h t List.mem_cons_self
      rw [List.map_cons, List.flatten_cons, List.length_append, ih (fun s hs => h s (List.mem_cons_of_mem _ hs)), e, List.length_cons]
      simp; omega
  · intro vs hvs
    obtain ⟨t, ht, rfl⟩ := List.mem_map.1 hvs
    obtain ⟨B, d, e, _⟩ := h t ht
    rw [e]; rfl
  · intro u hu
    obtain ⟨vs, hvs, hu⟩ := List.mem_flatten.1 hu
    obtain ⟨t, ht, rfl⟩ := List.mem_map.1 hvs
    obtain ⟨B, d, e, _⟩ := h t ht
    rw [e] at hu
    simp at hu
    rcases hu with rfl | rfl <;> rfl
theorem LineF.step {w w' : World} {gl : Nat} {t : PartL} (h : LineF w gl t) (hm : ∀ y, y ≠ gl → y < w.heap.size → w'.heap[y]? = w.heap[y]?) : LineF w' gl t := by
  obtain ⟨B, d, h1, h2, h3, h4⟩ := h
  exact ⟨B, d, h1, h2, h3, Kd.F_step h4 hm⟩
set_option maxRecDepth 100000 in
set_option maxHeartbeats 2000000 in
theorem indexTrim_c (kind : ByteArray) (T : List PartL) (hn : T.length ≤ 1099511627776) (gl cl B1 g o : Nat) (w : World) (hc : ∀ j t, T[j]? = some t → w.cell? ⟨gl, j * 2, none⟩ = t.us[0]? ∧ w.cell? ⟨gl, j * 2 + 1, none⟩ = t.us[1]?) (hF : ∀ t ∈ T, LineF w gl t) (hptr : w.cell? ⟨B1, 0, none⟩ = some (.pointer (some ⟨g, o, none⟩))) (hk : w.cell? ⟨g, o, none⟩ = some (.string kind)) :
    Calls Tryd.prog 127 #[.slice (some ⟨gl, 0, none⟩) T.length cl, .func (.func 97) #[] #[.pointer (some ⟨B1, 0, none⟩)]] w fun e w' => e = .returned (.int .i64 (findT kind T 0)) ∧ Below w.heap.size w w' := by
  have eg : ∀ args w, (callFunc 97 args).run Tryd.prog w = .ok (.enter 97 args) w := enters_of Tryd.func97 (by kernel_rfl) rfl
  have HC := Aside0.mk hc
  have HF := Aside0.mk hF
  have H1 := Aside0.mk hptr
  have H2 := Aside0.mk hk
  clear hc hF hptr hk
  go_enter Tryd.func127, Tryd.ntmps127
  go_wp2
  go_loopw [8] (fun v wr => ∃ k : Nat, v = .int .i64 k ∧ k ≤ T.length ∧ Aside0 (Below w.heap.size w wr) ∧ Aside0 (findT kind T 0 = findT kind (T.drop k) k)) (fun v _ => T.length - (intOf v).toNat)
  case atStart => exact ⟨0, rfl, Nat.zero_le _, ⟨Below.refl _ _⟩, ⟨rfl⟩⟩
  case round =>
    obtain ⟨k, rfl, hk, HB, hf⟩ := hrel
    by_cases hlt : k < T.length
    · have hst := hf.out
      rw [List.drop_eq_getElem_cons hlt, findT] at hst
      obtain ⟨c0, c1⟩ := HC.out k T[k] (List.getElem?_eq_getElem hlt)
      have hL := HF.out _ (List.getElem_mem hlt)
      generalize T[k] = t at *
      obtain ⟨us, ⟨l0, l1⟩, G⟩ := t
      obtain ⟨B, d, hus, hd, hl, hFl⟩ := hL
      simp only at *
      subst hus
      have x0 : wr.cell? ⟨gl, k * 2, none⟩ = some (.string l0) := pw_cell_below HB.out c0
      have x1 : wr.cell? ⟨gl, k * 2 + 1, none⟩ = some (.slice B l1.length d) := pw_cell_below HB.out c1
      have CL := Aside0.mk (trimClosure_c kind l0 l1 B d B1 g o wr (pw_cell_below HB.out H1.out) (pw_cell_below HB.out H2.out) (Kd.C_below (Kd.F_now hFl) HB.out) hd hl)
      have i1 : (k : Int) < (T.length : Int) := by omega
      clear hf c0 c1 hFl
      cases hkp : keepT kind ⟨l0, l1⟩ with
      | false =>
        rw [hkp] at CL
        rw [hkp] at hst
        simp only [Bool.false_eq_true, if_false] at hst
        have HST := Aside0.mk hst
        clear hst hkp
        go_wp2_with fail
        refine CL.out.mono ?_
        rintro e w2 ⟨rfl, hb2⟩
        have B2 := Aside0.mk (HB.out.trans (hb2.mono HB.out.size))
        clear hb2 x0 x1
        go_wp2
        go_ret
        exact ⟨retI HST.out.symm, B2.out⟩
      | true =>
        rw [hkp] at CL
        rw [hkp] at hst
        simp only [if_true] at hst
        have HST := Aside0.mk hst
        clear hst hkp
        go_wp2_with fail
        refine CL.out.mono ?_
        rintro e w2 ⟨rfl, hb2⟩
        have B2 := Aside0.mk (HB.out.trans (hb2.mono HB.out.size))
        clear hb2 x0 x1
        go_wp2
        go_roundw
        case rel => exact ⟨k + 1, by go_num, hlt, B2, HST⟩
        case measure => simp [intOf]; omega
    · obtain rfl : k = T.length := by omega
      have hst := hf.out
      rw [List.drop_length, findT] at hst
      have HST := Aside0.mk hst
      clear hst hf
      go_wp2
      go_ret
      exact ⟨retI HST.out.symm, HB.out⟩
theorem step_list (K D us : List Value) (i : Nat) (hK : K.length = i * 2) (hu : us.length = 2) : (K ++ D.drop (i * 2)).take (i * 2) ++ us ++ (K ++ D.drop (i * 2)).drop (i * 2 + us.length) = (K ++ us) ++ D.drop ((i + 1) * 2) := by
  rw [List.take_left' hK, hu, List.drop_append, hK]
  rw [List.drop_eq_nil_of_le (by omega), List.nil_append, List.drop_drop]
  congr 2
  omega
theorem run_clear2 (W : World) (gl i n c : Nat) (hn : 0 < n) (cur : Array Value) (h : W.heap[gl]? = some (.cells cur 83 (0, 0))) (hl : i * 2 + n * 2 ≤ cur.size) : ∃ zs : List Value, zs.length = n * 2 ∧ ∀ ty, (Builtin.clear_ #[52] ty #[.slice (some ⟨gl, i * 2, none⟩) n c]).run Tryd.prog W = .ok (.tuple #[]) (W.setCells gl (i * 2) zs) := by
  have hv : ∀ w, (zeroValue 83).run Tryd.prog w = .ok (.agg #[.string ⟨#[]⟩, .slice none 0 0]) w := fun w => by kernel_rfl
  refine ⟨(Builtin.zeroCells (Value.agg #[.string ⟨#[]⟩, .slice none 0 0]).cells n).toList, by simp [Builtin.zeroCells, Value.cells], ?_⟩
  have hlz : ((Builtin.zeroCells (Value.agg #[.string ⟨#[]⟩, .slice none 0 0]).cells n).toList).length = n * 2 := by simp [Builtin.zeroCells, Value.cells]
  have hst := run_storeCells_cells (P := Tryd.prog) gl (i * 2) ((Builtin.zeroCells (Value.agg #[.string ⟨#[]⟩, .slice none 0 0]).cells n).toList) 0 W
    (fun j hj => by rw [Nat.add_zero, blk_cell h]; rw [hlz] at hj; simp; omega) (fun j _ => blk_frozen h _) (fun v hv' => by
      simp only [Builtin.zeroCells, Array.toList_map, List.mem_map] at hv'
      obtain ⟨q, _, rfl⟩ := hv'
      have hc : (Value.agg #[.string ⟨#[]⟩, .slice none 0 0]).cells = #[.string ⟨#[]⟩, .slice none 0 0] := rfl
      rw [hc]
      have : q % 2 = 0 ∨ q % 2 = 1 := by omega
      rcases this with h | h <;> simp [h] <;> rfl)
  simp only [Nat.add_zero] at hst
  intro ty
  obtain ⟨m, rfl⟩ : ∃ m, n = m + 1 := ⟨n - 1, by omega⟩
  simp [Builtin.clear_, run_underlying Tryd.underlying52, hv, hst]
theorem flat_takes {k : Nat} : ∀ (vss : List (List Value)) (n : Nat), (∀ vs ∈ vss, vs.length = k) → (vss.take n).flatten = vss.flatten.take (n * k)
  | [], n, _ => by simp
  | vs :: vss, 0, _ => by simp
  | vs :: vss, n + 1, h => by
    have h1 := h vs List.mem_cons_self
    rw [List.take_succ_cons, List.flatten_cons, List.flatten_cons, flat_takes vss n (fun x hx => h x (List.mem_cons_of_mem _ hx)), List.take_append, h1, List.take_of_length_le (show vs.length ≤ (n + 1) * k by rw [h1, Nat.add_mul]; omega)]
    congr 2
    rw [Nat.add_mul]; omega
theorem late_cell (K D : List Value) (m k : Nat) (hK : K.length = m * 2) (h : m * 2 ≤ k) : (K ++ D.drop (m * 2))[k]? = D[k]? := by
  rw [List.getElem?_append_right (by omega), hK, List.getElem?_drop]
  congr 1
  omega
set_option linter.unusedVariables false
set_option maxRecDepth 100000 in
set_option maxHeartbeats 4000000 in
theorem deleteTrim_c (kind : ByteArray) (T : List PartL) (hn : T.length ≤ 1099511627776) (gl cl B1 g o b tp tb : Nat) (csb : Array Value) (w : World) (hown : w.ownsRow b 83 2 (.slice (some ⟨gl, 0, none⟩) T.length cl) T.length (T.map Part.us).flatten) (hF : ∀ t ∈ T, LineF w gl t) (kp : w.heap[B1]? = some (.cells #[.pointer (some ⟨g, o, none⟩)] tp (0, 0))) (kb : w.heap[g]? = some (.cells csb tb (0, 0))) (hko : csb[o]? = some (.string kind)) (hB1 : B1 ≠ gl) (hg : g ≠ gl) :
    Calls Tryd.prog 96 #[.slice (some ⟨gl, 0, none⟩) T.length cl, .func (.func 97) #[] #[.pointer (some ⟨B1, 0, none⟩)]] w fun e w' => e = .returned (.slice (some ⟨gl, 0, none⟩) (T.filter (fun t => keepT kind t.x)).length cl) ∧ w'.ownsRow b 83 2 (.slice (some ⟨gl, 0, none⟩) (T.filter (fun t => keepT kind t.x)).length cl) (T.filter (fun t => keepT kind t.x)).length ((T.filter (fun t => keepT kind t.x)).map Part.us).flatten ∧ Upd [gl] w w' := by
  have eg : ∀ args w, (callFunc 97 args).run Tryd.prog w = .ok (.enter 97 args) w := enters_of Tryd.func97 (by kernel_rfl) rfl
  have HO := Aside0.mk hown
  obtain ⟨hul, hu2, hu1⟩ := us_two' hF
  have hcells : ∀ j t, T[j]? = some t → ∀ i, i < 2 → (T.map Part.us).flatten[j * 2 + i]? = t.us[i]? := fun j t hj i hi => flat_at (T.map Part.us) j t.us hu2 (by rw [List.getElem?_map, hj]; rfl) i hi
  have hC : ∀ j t, T[j]? = some t → w.cell? ⟨gl, j * 2, none⟩ = t.us[0]? ∧ w.cell? ⟨gl, j * 2 + 1, none⟩ = t.us[1]? := fun j t hj => by
    have hjl := (List.getElem?_eq_some_iff.1 hj).1
    have e0 := World.ownsRow.cellAt hown (j * 2 + 0) (by omega)
    have e1 := World.ownsRow.cellAt hown (j * 2 + 1) (by omega)
    rw [hcells j t hj 0 (by omega)] at e0
    rw [hcells j t hj 1 (by omega)] at e1
    exact ⟨e0, e1⟩
  obtain ⟨_, hcase⟩ := hown
  rcases hcase with ⟨hv, _⟩ | ⟨gg, cap, cur0, hv, hb, h0, hnc, hcm, hcs, htk⟩
  · cases hv
  injection hv with ha _ hcap
  injection ha with ha
  injection ha with ha
  subst ha hcap
  have hptr : w.cell? ⟨B1, 0, none⟩ = some (.pointer (some ⟨g, o, none⟩)) := (blk_cell kp 0).trans rfl
  have hk : w.cell? ⟨g, o, none⟩ = some (.string kind) := (blk_cell kb o).trans hko
  have IX := Aside0.mk (indexTrim_c kind T hn gl cl B1 g o w hC hF hptr hk)
  have HF := Aside0.mk hF
  have HCL := Aside0.mk hcells
  have HTK := Aside0.mk htk
  have H0 := Aside0.mk h0
  have KP := Aside0.mk kp
  have KB := Aside0.mk kb
  have HU1 := Aside0.mk hu1
  have HU2 := Aside0.mk hu2
  have hcm2 : cl ≤ 9223372036854775807 := hcm
  have hlt1 := blk_lt kp
  have hlt2 := blk_lt kb
  have hsp := findT_spec kind T 0
  clear hF hul hu2 hu1 hcells hC htk h0 kp kb hptr hk hcm
  go_enter Tryd.func96, Tryd.ntmps96
  go_wp2_with fail
  refine IX.out.mono ?_
  rintro e w1 ⟨rfl, hb1⟩
  have U1 := Aside0.mk (Upd.of_below hb1 [gl])
  have O1 := Aside0.mk (own_move HO.out (fun y hy => hb1.block y (own_lt HO.out y hy)))
  have K01 := Aside0.mk (blk_below H0.out hb1)
  clear hb1 IX
  rcases hsp with ⟨hf, hall⟩ | ⟨n, hf, hnl, hpre⟩
  · rw [hf]
    have HALL := Aside0.mk hall
    clear hf hall
    go_wp2
    go_ret
    rw [HALL.out]
    exact ⟨rfl, O1.out, U1.out⟩
  · rw [hf, Nat.zero_add]
    have hne : ((n : Int) == -1) = false := by rw [beq_eq_false_iff_ne]; omega
    have HPRE := Aside0.mk hpre
    clear hf hpre
    go_wp2
    go_loopw [5, 6] (fun v5 v6 wr => ∃ (j : Nat) (cur : Array Value), v5 = .int .i64 (((T.take j).filter (fun t => keepT kind t.x)).length : Nat) ∧ v6 = .int .i64 j ∧ j ≤ T.length ∧ ((T.take j).filter (fun t => keepT kind t.x)).length < j ∧ Aside0 (Upd [gl] w wr) ∧ Aside0 (wr.heap[gl]? = some (.cells cur 83 (0, 0))) ∧ Aside0 (cur.size = cl * 2 ∧ cur.toList = (((T.take j).filter (fun t => keepT kind t.x)).map Part.us).flatten ++ cur0.toList.drop (((T.take j).filter (fun t => keepT kind t.x)).length * 2))) (fun _ i _ => T.length - (intOf i).toNat)
    case atStart =>
      have hpl : ((T.take (n + 1)).filter (fun t => keepT kind t.x)).length = n := by rw [HPRE.out, List.length_take]; omega
      refine ⟨n + 1, cur0, by rw [hpl], by go_num, hnl, by rw [hpl]; omega, U1, K01, ⟨hcs, ?_⟩⟩
      rw [hpl, HPRE.out]
      have e1 : ((T.take n).map Part.us).flatten = cur0.toList.take (n * 2) := by
        rw [List.map_take, flat_takes _ n HU2.out, ← HTK.out, List.take_take, Nat.min_eq_left (by omega)]
      rw [e1, List.take_append_drop]
    case round =>
      obtain ⟨j, cur, rfl, rfl, hj, hlt, HU, HC, HCU⟩ := hrel
      have hd1 : ¬ gl = B1 := fun e => hB1 e.symm
      by_cases hjl : j < T.length
      · have hnx : (T.take (j + 1)).filter (fun t => keepT kind t.x) = (T.take j).filter (fun t => keepT kind t.x) ++ (if keepT kind T[j].x = true then [T[j]] else []) := by
          rw [List.take_add_one, List.getElem?_eq_getElem hjl, List.filter_append]
          congr 1
          simp only [Option.toList_some]
          cases hp : keepT kind T[j].x <;> simp [hp]
        have hKl := (us_two' (w := w) (gl := gl) (T := (T.take j).filter (fun t => keepT kind t.x)) (fun t ht => HF.out t (List.mem_of_mem_take (List.mem_filter.1 ht).1))).1
        obtain ⟨hcz, hctl⟩ := HCU.out
        have hce := HCL.out j T[j] (List.getElem?_eq_getElem hjl)
        have hL := (HF.out _ (List.getElem_mem hjl)).step (fun y hy hyl => HU.out.block y hyl (by simp [hy]))
        generalize hKp : (T.take j).filter (fun t => keepT kind t.x) = Kp at *
        generalize T[j] = t at *
        have hcell : ∀ i, i < 2 → wr.cell? ⟨gl, j * 2 + i, none⟩ = t.us[i]? := fun i hi => by
          rw [blk_cell HC.out, ← Array.getElem?_toList, hctl, late_cell _ _ _ _ hKl (by omega), ← hce i hi, ← HTK.out, List.getElem?_take, if_pos (by omega)]
        obtain ⟨us, ⟨l0, l1⟩, G⟩ := t
        obtain ⟨B, d, hus, hd, hl, hFl⟩ := hL
        simp only at *
        subst hus
        have x0 : wr.cell? ⟨gl, j * 2, none⟩ = some (.string l0) := hcell 0 (by omega)
        have x1 : wr.cell? ⟨gl, j * 2 + 1, none⟩ = some (.slice B l1.length d) := hcell 1 (by omega)
        have KPr := Aside0.mk (blk_upd KP.out HU.out (by simp [hB1]))
        have KBr := Aside0.mk (blk_upd KB.out HU.out (by simp [hg]))
        have i1 : (j : Int) < (T.length : Int) := by omega
        have HNX := Aside0.mk hnx
        have HKL := Aside0.mk hKl
        have HTL := Aside0.mk (And.intro hcz hctl)
        have HFL := Aside0.mk (Kd.F_now hFl)
        clear hcell hce hKl hcz hctl HCU hnx hFl hKp
        go_upto_region 8 with (fail)
        have a7 : Below wr.heap.size wr (wr.alloc (.cells #[.string l0, .slice B l1.length d] 83)) := (Below.refl _ _).alloc (Nat.le_refl _) _
        have b7 := blk_new wr (.cells #[.string l0, .slice B l1.length d] 83)
        have y0 : (wr.alloc (.cells #[.string l0, .slice B l1.length d] 83)).cell? ⟨wr.heap.size, 0, none⟩ = some (.string l0) := (blk_cell b7 0).trans rfl
        have y1 : (wr.alloc (.cells #[.string l0, .slice B l1.length d] 83)).cell? ⟨wr.heap.size, 1, none⟩ = some (.slice B l1.length d) := (blk_cell b7 1).trans rfl
        have U7 := Aside0.mk (HU.out.trans (Upd.of_below a7 [gl]) (fun x hx _ => hx))
        have C7 := Aside0.mk (blk_below HC.out a7)
        have CL := Aside0.mk (trimClosure_c kind l0 l1 B d B1 g o _ ((blk_cell (blk_below KPr.out a7) 0).trans rfl) ((blk_cell (blk_below KBr.out a7) o).trans hko) (Kd.C_below HFL.out a7) hd hl)
        clear x0 x1 a7 b7 HU HC KPr KBr HFL
        generalize hN7 : wr.heap.size = N7 at *
        generalize wr.alloc (.cells #[.string l0, .slice B l1.length d] 83) = W7 at *
        clear hN7
        cases hkp : keepT kind ⟨l0, l1⟩ with
        | false =>
          rw [hkp] at CL
          have hnx := HNX.out
          rw [hkp] at hnx
          simp only [Bool.false_eq_true, if_false, List.append_nil] at hnx
          have HNX2 := Aside0.mk hnx
          clear hkp hnx HNX
          go_wp2_with fail
          refine CL.out.mono ?_
          rintro e w2 ⟨rfl, hb2⟩
          have U2 := Aside0.mk (U7.out.trans (Upd.of_below hb2 [gl]) (fun x hx _ => hx))
          have C2 := Aside0.mk (blk_below C7.out hb2)
          clear hb2 y0 y1 CL U7 C7
          go_wp2
          go_roundw
          case rel => exact ⟨j + 1, cur, by rw [HNX2.out], by go_num, hjl, by rw [HNX2.out]; omega, U2, C2, by rw [HNX2.out]; exact HTL⟩
          case measure => simp [intOf]; omega
        | true =>
          rw [hkp] at CL
          have hnx := HNX.out
          rw [hkp] at hnx
          simp only [if_true] at hnx
          have HNX2 := Aside0.mk hnx
          have hlen : ((T.take (j + 1)).filter (fun t => keepT kind t.x)).length = Kp.length + 1 := by rw [hnx]; simp
          have HLEN := Aside0.mk hlen
          clear hkp hnx HNX hlen
          go_wp2_with fail
          refine CL.out.mono ?_
          rintro e w2 ⟨rfl, hb2⟩
          have U2 := Aside0.mk (U7.out.trans (Upd.of_below hb2 [gl]) (fun x hx _ => hx))
          have C2 := Aside0.mk (blk_below C7.out hb2)
          have z0 := pw_cell_below hb2 y0
          have z1 := pw_cell_below hb2 y1
          obtain ⟨u0, hu0⟩ : ∃ u, cur[Kp.length * 2]? = some u := ⟨_, Array.getElem?_eq_getElem (by have := HTL.out.1; omega)⟩
          obtain ⟨u1, hu1⟩ : ∃ u, cur[Kp.length * 2 + 1]? = some u := ⟨_, Array.getElem?_eq_getElem (by have := HTL.out.1; omega)⟩
          have s0 : w2.cell? ⟨gl, Kp.length * 2, none⟩ = some u0 := (blk_cell C2.out _).trans hu0
          have s1 : w2.cell? ⟨gl, Kp.length * 2 + 1, none⟩ = some u1 := (blk_cell C2.out _).trans hu1
          have f0 := blk_frozen C2.out (Kp.length * 2)
          have f1 := blk_frozen C2.out (Kp.length * 2 + 1)
          have i2 : (Kp.length : Int) < (T.length : Int) := by omega
          obtain ⟨cur', k1, k2, k3⟩ := setCells_row [.string l0, .slice B l1.length d] (Kp.length * 2) w2 cur C2.out (by have := HTL.out.1; simp; omega)
          rw [HTL.out.2, step_list _ _ _ _ HKL.out rfl] at k3
          have e2 : w2.setCells gl (Kp.length * 2) [.string l0, .slice B l1.length d] = (w2.setCell ⟨gl, Kp.length * 2, none⟩ (.string l0)).setCell ⟨gl, Kp.length * 2 + 1, none⟩ (.slice B l1.length d) := rfl
          rw [e2] at k1
          have K1 := Aside0.mk k1
          have K23 : Aside0 (cur'.size = cl * 2 ∧ cur'.toList = (((T.take (j + 1)).filter (fun t => keepT kind t.x)).map Part.us).flatten ++ cur0.toList.drop (((T.take (j + 1)).filter (fun t => keepT kind t.x)).length * 2)) := ⟨⟨by rw [k2]; exact HTL.out.1, by rw [k3, HNX2.out]; simp⟩⟩
          have U3 := Aside0.mk ((U2.out.trans (upd_cell w2 gl (Kp.length * 2) (.string l0)) (fun x hx _ => hx)).trans (upd_cell _ gl (Kp.length * 2 + 1) (.slice B l1.length d)) (fun x hx _ => hx))
          clear hb2 y0 y1 CL U7 C7 k1 k2 k3 e2 hu0 hu1 C2 U2
          go_wp2
          go_roundw
          case rel => exact ⟨j + 1, cur', by rw [HLEN.out]; go_num, by go_num, hjl, by rw [HLEN.out]; omega, U3, K1, K23⟩
          case measure => simp [intOf]; omega
      · obtain rfl : j = T.length := by omega
        rw [List.take_length] at *
        have hKl := (us_two' (w := w) (gl := gl) (T := T.filter (fun t => keepT kind t.x)) (fun t ht => HF.out t (List.mem_filter.1 ht).1)).1
        generalize hKp : T.filter (fun t => keepT kind t.x) = Kp at *
        have HKP := Aside0.mk hKp
        clear hKp
        obtain ⟨hcz, hctl⟩ := HCU.out
        obtain ⟨zs, hzl, hclr⟩ := run_clear2 wr gl Kp.length (T.length - Kp.length) (cl - Kp.length) (by omega) cur HC.out (by omega)
        obtain ⟨cur', k1, k2, k3⟩ := setCells_row zs (Kp.length * 2) wr cur HC.out (by omega)
        have i0 : (0 : Int) ≤ (Kp.length : Int) := by omega
        have i2 : (Kp.length : Int) ≤ (T.length : Int) := by omega
        have i3 : (T.length : Int) ≤ (cl : Int) := by omega
        have i4 : (Kp.length : Int) ≤ (cl : Int) := by omega
        have i5 : ¬ cl = Kp.length := by omega
        have i6 : ¬ (T.length : Int) < (T.length : Int) := by omega
        have HO9 : Aside0 ((wr.setCells gl (Kp.length * 2) zs).ownsRow b 83 2 (.slice (some ⟨gl, 0, none⟩) Kp.length cl) Kp.length (Kp.map Part.us).flatten) := ⟨⟨hKl, .inr ⟨gl, cl, cur', rfl, hb, k1, by omega, hcm2, by rw [k2]; exact hcz, by
          rw [k3, List.append_assoc, List.take_left' (by rw [hctl, List.length_take, List.length_append, hKl]; omega), hctl, List.take_left' hKl]⟩⟩⟩
        have s := setCells_same gl zs (Kp.length * 2) wr
        have U9 : Aside0 (Upd [gl] w (wr.setCells gl (Kp.length * 2) zs)) := ⟨HU.out.trans ⟨s.1, s.2.1, s.2.2.1, Nat.le_of_eq s.2.2.2.symm, fun y _ hy => setCells_far zs _ y (by simpa using hy)⟩ (fun x hx _ => hx)⟩
        clear HU HC HCU hKl hcz hctl hzl k1 k2 k3 s
        go_wp2
        go_ret
        rw [HKP.out]
        exact ⟨rfl, HO9.out, U9.out⟩
end Go.Proofs.YtmcdnpooclelgaaDoor.PAll

namespace Go.Proofs.YtmcdnpooclelgaaDoor.PAll
open Go.RowKit Go.Proofs.YtmcdnpooclelgaaDoorW.PrintWords Go.Proofs.YtmcdnpooclelgaaDoorW.PrintLast Go.Proofs.YtmcdnpooclelgaaDoorW.PrintMore
section
variable {α : Type} {A : Sh α} {e : TypeId} {w w' : World} {b : Nat} {v : Value} {xs1 xs2 : List α} {F1 F2 : List Nat} {g c : Nat} {us : List Value} {x x' : α} {G G' : List Nat}
theorem Foc.blk (h : Foc A e w b v xs1 x xs2 g c us F1 G F2) : ∃ cells, w.heap[g]? = some (.cells cells e (0, 0)) := by
  obtain ⟨vs1, vs2, rfl, h1, _⟩ := h
  exact own_typed h1 g rfl
theorem Foc.put {bs : List Nat} (h : Foc A e w b v xs1 x xs2 g c us F1 G F2) (hu : Upd bs w w') (hbs : ∀ y ∈ bs, y ≠ g ∧ y ∉ F1 ∧ y ∉ F2) (i : Nat) (u : Value) (hi : i < A.k) (ho : A.ow w' b (us.set i u) x' G') (hn : (g :: (F1 ++ (G' ++ F2))).Nodup) : Foc A e (w'.setCell ⟨g, xs1.length * A.k + i, none⟩ u) b v xs1 x' xs2 g c (us.set i u) F1 G' F2 := by
  obtain ⟨vs1, vs2, rfl, h1, h2, h3, h4, _⟩ := h
  have hfar : ∀ y, y ≠ g → (w'.setCell ⟨g, xs1.length * A.k + i, none⟩ u).heap[y]? = w'.heap[y]? := fun y hy => Below.heap_setCell w' ⟨g, xs1.length * A.k + i, none⟩ u y hy
  have hng := (List.nodup_cons.1 hn).1
  have hl1 := h2.lenv
  have hv : (vs1 ++ us :: vs2)[xs1.length]? = some us := by rw [List.getElem?_append_right (by omega), hl1, Nat.sub_self]; rfl
  have hls : ∀ vs ∈ vs1 ++ us :: vs2, vs.length = A.k := by
    intro vs hvs
    rcases List.mem_append.1 hvs with hvs | hvs
    · exact Els.lens _ _ _ h2 vs hvs
    · rcases List.mem_cons.1 hvs with rfl | hvs
      · exact A.olen h3
      · exact Els.lens _ _ _ h4 vs hvs
  have hset : vs1 ++ (us.set i u) :: vs2 = (vs1 ++ us :: vs2).set xs1.length (us.set i u) := by rw [List.set_append_right _ _ (by omega), hl1, Nat.sub_self, List.set_cons_zero]
  have hlen : (xs1 ++ x' :: xs2).length = (xs1 ++ x :: xs2).length := by simp
  have h1' := own_move h1 (fun k hk => hu.block k (own_lt h1 k hk) (fun hb => by simp [Value.ownBlock] at hk; subst hk; exact (hbs _ hb).1 rfl))
  have h2' := h2.frame (w' := w') fun y hy => hu.block y ((Els.mem _ _ _ h2).1 y hy).2 (fun hb => (hbs y hb).2.1 hy)
  have h4' := h4.frame (w' := w') fun y hy => hu.block y ((Els.mem _ _ _ h4).1 y hy).2 (fun hb => (hbs y hb).2.2 hy)
  refine ⟨vs1, vs2, by rw [hlen], ?_, h2'.frame fun y hy => hfar y (fun e => hng (e ▸ List.mem_append_left _ hy)), A.oframe ho fun y hy => hfar y (fun e => hng (e ▸ List.mem_append_right _ (List.mem_append_left _ hy))), h4'.frame fun y hy => hfar y (fun e => hng (e ▸ List.mem_append_right _ (List.mem_append_right _ hy))), hn⟩
  rw [hlen, hset, flat_set _ xs1.length us hls hv i u hi]
  exact (World.ownsRow.stored h1' (xs1.length * A.k + i) u).1
end
theorem nodup_filter {α : Type} (f : α → List Nat) (p : α → Bool) : ∀ T : List α, (T.flatMap f).Nodup → ((T.filter p).flatMap f).Nodup
  | [], h => h
  | t :: T, h => by
    rw [List.flatMap_cons] at h
    obtain ⟨h1, h2, h3⟩ := List.nodup_append.1 h
    have ih := nodup_filter f p T h2
    by_cases q : p t = true
    · rw [List.filter_cons_of_pos q, List.flatMap_cons]
      refine List.nodup_append.2 ⟨h1, ih, fun a ha c hc e => ?_⟩
      obtain ⟨s, hs, hc⟩ := List.mem_flatMap.1 hc
      exact h3 a ha c (List.mem_flatMap.2 ⟨s, (List.mem_filter.1 hs).1, hc⟩) e
    · rw [List.filter_cons_of_neg q]; exact ih
theorem trim_own {w w' : World} {b cl : Nat} {L : Option Addr} {T : List PartL} (p : PartL → Bool) (hr : w'.ownsRow b 83 2 (.slice L (T.filter p).length cl) (T.filter p).length ((T.filter p).map Part.us).flatten) (hT : Parts lineS w b T) (hm : ∀ y ∈ T.flatMap Part.G, w'.heap[y]? = w.heap[y]?) (haw : ∀ y, (Value.slice L (T.filter p).length cl).ownBlock = some y → y ∉ T.flatMap Part.G) : linesS.ow w' b [.slice L (T.filter p).length cl] ((T.filter p).map Part.x) ((Value.slice L (T.filter p).length cl).ownBlock.toList ++ (T.filter p).flatMap Part.G) := by
  have hsub : ∀ y ∈ (T.filter p).flatMap Part.G, y ∈ T.flatMap Part.G := fun y hy => by
    obtain ⟨t, ht, hy⟩ := List.mem_flatMap.1 hy
    exact List.mem_flatMap.2 ⟨t, (List.mem_filter.1 ht).1, hy⟩
  have hP : Parts lineS w' b (T.filter p) := parts_move ⟨fun t ht => hT.1 t (List.mem_filter.1 ht).1, nodup_filter _ p T hT.2⟩ (fun y hy => hm y (hsub y hy))
  refine ⟨_, (T.filter p).map Part.us, (T.filter p).flatMap Part.G, rfl, by rw [List.length_map]; exact hr, Parts.els _ hP, rfl, fun y hy hym => ?_⟩
  have hy : (Value.slice L (T.filter p).length cl).ownBlock = some y := by simpa using hy
  exact haw y hy (hsub y hym)
theorem line_F {w : World} {b gl : Nat} {t : PartL} {cells : Array Value} (h : lineS.ow w b t.us t.x t.G) (hg : w.heap[gl]? = some (.cells cells 83 (0, 0))) (hn : t.x.f1.length ≤ 1099511627776) : LineF w gl t := by
  obtain ⟨dv, e, hd⟩ := line_open h
  obtain ⟨B, d, rfl⟩ := own_form hd
  have hR := Sh.row_R hd
  have hC := (Kd.R_reads' hR).2.1
  refine ⟨B, d, e, hC, hn, Kd.F_mono (Kd.R_F (Kd.R_types hR hg (by decide))) (fun k hk => hk.2)⟩
set_option linter.unusedVariables false
set_option maxRecDepth 100000 in
set_option maxHeartbeats 2000000 in
theorem deleteNil_c (A : Option Addr) (c B1 : Nat) (w : World) :
    Calls Tryd.prog 96 #[.slice A 0 c, .func (.func 97) #[] #[.pointer (some ⟨B1, 0, none⟩)]] w fun e w' => e = .returned (.slice A 0 c) ∧ Below w.heap.size w w' := by
  have IX : ∀ w, Calls Tryd.prog 127 #[.slice A 0 c, .func (.func 97) #[] #[.pointer (some ⟨B1, 0, none⟩)]] w fun e w' => e = .returned (.int .i64 (-1)) ∧ Below w.heap.size w w' := fun w => by
    go_enter Tryd.func127, Tryd.ntmps127
    go_wp2
    go_loopw [8] (fun v wr => v = .int .i64 0 ∧ wr = w) (fun v _ => 0)
    case atStart => exact ⟨rfl, rfl⟩
    case round =>
      obtain ⟨rfl, rfl⟩ := hrel
      go_wp2
      go_ret
      exact ⟨rfl, Below.refl _ _⟩
  go_enter Tryd.func96, Tryd.ntmps96
  go_wp2_with fail
  refine (IX w).mono ?_
  rintro e w1 ⟨rfl, hb1⟩
  have B := Aside0.mk hb1
  clear hb1
  go_wp2
  go_ret
  exact ⟨rfl, B.out⟩
theorem trimDelete_c (kind : ByteArray) (f2 : List S83) (hs : smallLs f2) (L : Option Addr) (cl B1 g o b tp tb : Nat) (csb : Array Value) (G1 : List Nat) (u : World) (hlo : linesS.ow u b [.slice L f2.length cl] f2 G1) (kp : u.heap[B1]? = some (.cells #[.pointer (some ⟨g, o, none⟩)] tp (0, 0))) (kb : u.heap[g]? = some (.cells csb tb (0, 0))) (hko : csb[o]? = some (.string kind)) (hB1 : B1 ∉ G1) (hg : g ∉ G1) :
    Calls Tryd.prog 96 #[.slice L f2.length cl, .func (.func 97) #[] #[.pointer (some ⟨B1, 0, none⟩)]] u fun e w' => e = .returned (.slice L (f2.filter (keepT kind)).length cl) ∧ (∃ G', linesS.ow w' b [.slice L (f2.filter (keepT kind)).length cl] (f2.filter (keepT kind)) G' ∧ ∀ y ∈ G', y ∈ G1) ∧ Upd G1 u w' := by
  obtain ⟨T, hrow, hTx, hT, hG1, haw⟩ := lines_parts hlo
  have hTl : T.length = f2.length := by rw [← hTx, List.length_map]
  have hfm : (T.filter (fun t => keepT kind t.x)).map Part.x = f2.filter (keepT kind) := by rw [← hTx, List.filter_map]; rfl
  have hfl : (T.filter (fun t => keepT kind t.x)).length = (f2.filter (keepT kind)).length := by rw [← hfm, List.length_map]
  rcases ownSl hrow with ⟨hv, h0⟩ | ⟨gl, c', hv⟩
  · injection hv with h1 h2 h3
    have hf2 : f2 = [] := List.eq_nil_of_length_eq_zero h2
    subst h1 h3 hf2
    refine (deleteNil_c none 0 B1 u).mono ?_
    rintro e w' ⟨rfl, hb⟩
    exact ⟨rfl, ⟨[], Sh.row_nil _ _ _ _, by simp⟩, Upd.of_below hb G1⟩
  · injection hv with h1 h2 h3
    subst h1 h3
    have hglG : gl ∈ G1 := by rw [hG1]; simp [Value.ownBlock]
    have hown := hrow
    rw [← hTl] at hown
    obtain ⟨csl, hcsl⟩ := own_typed hown gl rfl
    have hgn : g ≠ gl := fun e => hg (e ▸ hglG)
    have hBn : B1 ≠ gl := fun e => hB1 (e ▸ hglG)
    have hF : ∀ t ∈ T, LineF u gl t := fun t ht => line_F (hT.1 t ht) hcsl (by
      have h := (hs.2 t.x (by rw [← hTx]; exact List.mem_map.2 ⟨t, ht, rfl⟩)).2.1
      omega)
    have hn : T.length ≤ 1099511627776 := by have := hs.1; omega
    have hD := deleteTrim_c kind T hn gl cl B1 g o b tp tb csb u hown hF kp kb hko hBn hgn
    rw [hTl, hfl] at hD
    refine hD.mono ?_
    rintro e w' ⟨rfl, hr, hu⟩
    have hdis : ∀ y ∈ T.flatMap Part.G, y ≠ gl := fun y hy e => haw gl rfl (e ▸ hy)
    have hr' := hr
    rw [← hfl] at hr'
    have hto := trim_own (fun t => keepT kind t.x) hr' hT (fun y hy => hu.block y (parts_lt hT y hy).2 (by simp [hdis y hy])) (fun y hy => by
      have hy : gl = y := by simpa [Value.ownBlock] using hy
      rw [← hy]; exact haw gl rfl)
    rw [hfm, hfl] at hto
    refine ⟨rfl, ⟨_, hto, fun y hy => ?_⟩, hu.mono (fun x hx _ => by simp at hx; rw [hx]; exact hglG)⟩
    rw [hG1]
    rcases List.mem_append.1 hy with hy | hy
    · exact List.mem_append_left _ hy
    · obtain ⟨t, ht, hy⟩ := List.mem_flatMap.1 hy
      exact List.mem_append_right _ (List.mem_flatMap.2 ⟨t, (List.mem_filter.1 ht).1, hy⟩)
end Go.Proofs.YtmcdnpooclelgaaDoor.PAll

namespace Go.Proofs.YtmcdnpooclelgaaDoor.PAll
open Go.RowKit Go.Proofs.YtmcdnpooclelgaaDoorW.PrintWords Go.Proofs.YtmcdnpooclelgaaDoorW.PrintLast Go.Proofs.YtmcdnpooclelgaaDoorW.PrintMore
theorem trim_half (bs : List S62) (i : Nat) (hi : i < bs.length) : ((bs.take i).map trimB ++ bs.drop i)[i]? = some bs[i] ∧ ((bs.take i).map trimB ++ bs.drop i).take i = (bs.take i).map trimB ∧ ((bs.take i).map trimB ++ bs.drop i).drop (i + 1) = bs.drop (i + 1) ∧ (bs.take i).map trimB ++ trimB bs[i] :: bs.drop (i + 1) = (bs.take (i + 1)).map trimB ++ bs.drop (i + 1) := by
  have hl : ((bs.take i).map trimB).length = i := by simp; omega
  refine ⟨?_, ?_, ?_, ?_⟩
  · rw [List.getElem?_append_right (by omega), hl, Nat.sub_self, List.getElem?_drop, Nat.add_zero, List.getElem?_eq_getElem hi]
  · rw [List.take_append_of_le_length (by omega), List.take_of_length_le (by omega)]
  · rw [List.drop_append, List.drop_eq_nil_of_le (by omega), hl, List.nil_append, List.drop_drop]
    congr 1; omega
  · rw [List.take_add_one, List.getElem?_eq_getElem hi, List.map_append]
    simp
set_option linter.unusedSimpArgs false
set_option linter.unusedVariables false
set_option maxRecDepth 100000 in
set_option maxHeartbeats 8000000 in
theorem implTrim_any (A : Option Addr) (c : Nat) (bs : List S62) (w : World) (hr : Kd.C k62 w A bs.length bs) (hc : bs.length ≤ c) (hs : smallBs bs) :
    Calls Tryd.prog 43 #[.agg #[.slice A bs.length c]] w fun e w' => ∃ v G, e = .returned (.agg #[v]) ∧ blocksS.ow w' w.heap.size [v] (trimP bs) G ∧ Below w.heap.size w w' := by
  obtain ⟨K, hk⟩ := ev_implValid bs (fits_small bs hs)
  have HV := Aside0.mk (fun w hr => impl_SheetValid.calls K A c bs (sheetOk bs) w hr hc (hk K (Nat.le_refl _)))
  have HR := Aside0.mk hr
  have HS := Aside0.mk hs
  clear hk hr
  have hn : bs.length ≤ 1048576 := hs.1
  clear hs
  have b2 := blk_new (w.alloc (.cells #[.slice A bs.length c] 47)) (.cells #[.slice none 0 0] 47)
  have s1 : (w.alloc (.cells #[.slice A bs.length c] 47)).heap.size = w.heap.size + 1 := by simp
  rw [s1] at b2
  have a2 : Below w.heap.size w ((w.alloc (.cells #[.slice A bs.length c] 47)).alloc (.cells #[.slice none 0 0] 47)) := ((Below.refl _ _).alloc (Nat.le_refl _) _).alloc (by simp) _
  cases hv : sheetOk bs with
  | false =>
    have hP : trimP bs = [] := by unfold trimP; rw [hv]; rfl
    rw [hP]
    rw [hv] at HV
    go_enter Tryd.func43, Tryd.ntmps43
    go_wp2_with fail
    refine (HV.out _ (Kd.C_below HR.out a2)).mono ?_
    rintro e w1 ⟨rfl, hb1⟩
    have k2 := Aside0.mk (blk_below b2 hb1)
    have B1 := Aside0.mk (a2.trans (hb1.mono a2.size))
    have z1 : w1.cell? ⟨w.heap.size + 1, 0, none⟩ = some (.slice none 0 0) := (blk_cell k2.out 0).trans rfl
    have f1 := blk_frozen k2.out 0
    clear hb1 a2 b2
    go_wp2
    refine bodyPost_ret (results_cell_row rfl _ _ (w.heap.size + 1) 47 #[.slice none 0 0] (0, 0) _ rfl ?blk Tryd.underlying47 rfl (by kernel_rfl)) rfl ⟨.slice none 0 0, [], rfl, ?ow, ?bel⟩
    case blk => exact blk_put k2.out 0 _ rfl
    case ow => exact Sh.row_nil _ _ _ _
    case bel => exact B1.out.setCell (p := ⟨w.heap.size + 1, 0, none⟩) (show w.heap.size ≤ w.heap.size + 1 by omega) _
  | true =>
    have hP : trimP bs = bs.map trimB := by unfold trimP; rw [if_pos hv]
    have HL := Aside0.mk (sheetOk_lines hv)
    rw [hP]
    rw [hv] at HV
    go_enter Tryd.func43, Tryd.ntmps43
    go_wp2_with fail
    refine (HV.out _ (Kd.C_below HR.out a2)).mono ?_
    rintro e w1 ⟨rfl, hb1⟩
    have k2 := Aside0.mk (blk_below b2 hb1)
    have B1 := Aside0.mk (a2.trans (hb1.mono a2.size))
    have x1 : w1.cell? ⟨w.heap.size, 0, none⟩ = some (.slice A bs.length c) := pw_cell_below hb1 (by go_simp)
    have n1 : w.heap.size + 2 ≤ w1.heap.size := by have := hb1.size; simp at this; omega
    clear hb1 a2 b2
    go_wp2_with fail
    refine (clone_any bs HS.out A c w1 (Kd.C_below HR.out B1.out)).mono ?_
    rintro e w2 ⟨v, G, rfl, ho, hb2⟩
    obtain ⟨D, d, rfl⟩ := own_form ho
    have k3 := Aside0.mk (blk_alloc (blk_below k2.out hb2) (.cells #[.slice D bs.length d] 47))
    have b3 := Aside0.mk (blk_new w2 (.cells #[.slice D bs.length d] 47))
    have a3 : Below w2.heap.size w2 (w2.alloc (.cells #[.slice D bs.length d] 47)) := (Below.refl _ _).alloc (Nat.le_refl _) _
    have B3 := Aside0.mk ((B1.out.trans (hb2.mono B1.out.size)).trans (a3.mono (by have := B1.out.size; have := hb2.size; omega)))
    have HO := Aside0.mk (blocksS.olow (blocksS.obelow ho a3) (show w.heap.size + 2 ≤ w1.heap.size from n1))
    have hfar : Aside0 (∀ g ∈ G, g < w2.heap.size) := ⟨fun g hg => (blocksS.oin ho g hg).2⟩
    have n2 : w.heap.size + 2 ≤ w2.heap.size := by have := hb2.size; omega
    clear hb2 x1 ho k2 B1 a3 n1
    go_wp2
    go_loopw [15] (fun i wr => ∃ (j : Nat) (F : List Nat), i = .int .i64 j ∧ j ≤ bs.length ∧ Aside0 (Below w.heap.size w wr) ∧ Aside0 (wr.heap[w.heap.size + 1]? = some (.cells #[.slice none 0 0] 47 (0, 0))) ∧ Aside0 (wr.heap[w2.heap.size]? = some (.cells #[.slice D bs.length d] 47 (0, 0))) ∧ Aside0 (blocksS.ow wr (w.heap.size + 2) [.slice D bs.length d] ((bs.take j).map trimB ++ bs.drop j) F) ∧ Aside0 (w2.heap.size ∉ F)) (fun i _ => bs.length - (intOf i).toNat)
    case atStart => exact ⟨0, G, rfl, Nat.zero_le _, B3, k3, b3, by simpa using HO, ⟨fun h => by have := hfar.out _ h; omega⟩⟩
    case round =>
      obtain ⟨j, F, rfl, hj, HB, K1, K3, HF, hgF⟩ := hrel
      have x3 : wr.cell? ⟨w2.heap.size, 0, none⟩ = some (.slice D bs.length d) := (blk_cell K3.out 0).trans rfl
      by_cases hlt : j < bs.length
      · obtain ⟨q1, q2, q3, q4⟩ := trim_half bs j hlt
        have hxl : ((bs.take j).map trimB).length = j := by simp; omega
        obtain ⟨g, cc, us, F1, G1, F2, hFe, hFo⟩ := Foc.of HF.out q1
        rw [q2, q3] at hFo
        have hval := hFo.val
        injection hval with e1 e2 e3
        subst e1 e3
        have hok := HL.out _ (List.getElem_mem hlt)
        have hsm := (HS.out.2 _ (List.getElem_mem hlt)).2.2
        have Q4 := Aside0.mk q4
        have hin : ∀ y ∈ F, w.heap.size + 2 ≤ y ∧ y < wr.heap.size := fun y hy => blocksS.oin HF.out y hy
        have hnF := hgF.out
        rw [hFe] at hin hnF
        generalize bs[j] = bb at *
        obtain ⟨f0, f1, f2⟩ := bb
        obtain ⟨lv, rfl, hlo⟩ := block_open hFo.ow
        obtain ⟨L, cl, rfl⟩ := own_form hlo
        simp only at *
        have HLO := Aside0.mk hlo
        have c0 : wr.cell? ⟨g, j * 3, none⟩ = some (.string f0) := by have := hFo.cell 0 (by decide); rw [hxl] at this; exact this
        have c1 : wr.cell? ⟨g, j * 3 + 1, none⟩ = some (.string f1) := by have := hFo.cell 1 (by decide); rw [hxl] at this; exact this
        have c2 : wr.cell? ⟨g, j * 3 + 2, none⟩ = some (.slice L f2.length cl) := by have := hFo.cell 2 (by decide); rw [hxl] at this; exact this
        have FO := Aside0.mk hFo
        have HIN := Aside0.mk hin
        have HNF := Aside0.mk hnF
        have i1 : (j : Int) < (bs.length : Int) := by omega
        have HOK := Aside0.mk hok
        have HSM := Aside0.mk hsm
        clear q1 q2 q3 q4 hFe hFo e2 hok hsm hin hnF hlo HF hgF
        go_upto_region 8 with (fail)
        have a8 : Below wr.heap.size wr (wr.alloc (.cells #[.pointer (some ⟨g, j * 3, none⟩)] 109)) := (Below.refl _ _).alloc (Nat.le_refl _) _
        have kp8 := blk_new wr (.cells #[.pointer (some ⟨g, j * 3, none⟩)] 109)
        have D8 : Below wr.heap.size wr (wr.alloc (.cells #[.pointer (some ⟨g, j * 3, none⟩)] 109)).drew := below_drew a8
        have U0 : (wr.alloc (.cells #[.pointer (some ⟨g, j * 3, none⟩)] 109)).drew.cell? ⟨wr.heap.size, 0, none⟩ = some (.pointer (some ⟨g, j * 3, none⟩)) := (blk_cell kp8 0).trans rfl
        have U1 : (wr.alloc (.cells #[.pointer (some ⟨g, j * 3, none⟩)] 109)).drew.cell? ⟨g, j * 3 + 2, none⟩ = some (.slice L f2.length cl) := pw_cell_below a8 c2
        have KPu : Aside0 ((wr.alloc (.cells #[.pointer (some ⟨g, j * 3, none⟩)] 109)).drew.heap[wr.heap.size]? = some (.cells #[.pointer (some ⟨g, j * 3, none⟩)] 109 (0, 0))) := ⟨kp8⟩
        have HBu := Aside0.mk (HB.out.trans (D8.mono HB.out.size))
        have K1u := Aside0.mk (blk_below K1.out D8)
        have K3u := Aside0.mk (blk_below K3.out D8)
        have FOu := Aside0.mk (FO.out.below D8)
        have HLu := Aside0.mk (linesS.obelow HLO.out D8)
        have hbase : w.heap.size + 2 ≤ wr.heap.size := by have h := HIN.out g (by simp); omega
        clear kp8 a8 D8 c0 c1 c2 x3 HB K1 K3 FO
        generalize hB1 : wr.heap.size = B1 at *
        refine start_ (n := 10) (S := (fun w' => w'.cell? ⟨B1, 0, none⟩ = some (.pointer (some ⟨g, j * 3, none⟩)) ∧ w'.cell? ⟨g, j * 3 + 2, none⟩ = some (.slice L f2.length cl))) (ds := [9]) #[false, false, false, false, false, false, false, false, false, false] (by kernel_rfl) rfl rfl ⟨U0, U1⟩ (fun hHeld => ?_)
        generalize (wr.alloc (.cells #[.pointer (some ⟨g, j * 3, none⟩)] 109)).drew = u at U0 U1 KPu HBu K1u K3u FOu HLu hHeld ⊢
        clear hB1
        have DT : Aside0 (Calls Tryd.prog 96 #[.slice L f2.length cl, .func (.func 97) #[] #[.pointer (some ⟨B1, 0, none⟩)]] u fun e w' => e = .returned (.slice L (f2.filter (keepT f0)).length cl) ∧ (∃ G', linesS.ow w' (w.heap.size + 2) [.slice L (f2.filter (keepT f0)).length cl] (f2.filter (keepT f0)) G' ∧ ∀ y ∈ G', y ∈ G1) ∧ Upd G1 u w') := ⟨by
          obtain ⟨csb, hcsb⟩ := Foc.blk FOu.out
          have hko : csb[j * 3]? = some (.string f0) := by
            have h := FOu.out.cell 0 (by decide)
            rw [hxl] at h
            exact (blk_cell hcsb (j * 3)).symm.trans h
          exact trimDelete_c f0 f2 HSM.out L cl B1 g (j * 3) (w.heap.size + 2) _ _ csb G1 u HLu.out KPu.out hcsb hko (fun h => by have := (HIN.out B1 (by simp [h])).2; omega) (fun h => (List.nodup_cons.1 FOu.out.nodup).1 (by simp [h]))⟩
        refine take_ (i := 0) (N := some 22) (v := ?_) (a' := ?_) #[true, false, false, false, false, false, false, false, false, false] rfl rfl (by kernel_rfl) (fun _ _ _ h => h) (Or.inl ⟨by rfl, ?_⟩) hHeld ?_ ?_
        rotate_left
        · rintro w' ⟨s0, s1⟩
          go_simp
          with_reducible rfl
        rotate_left
        · simp only [Act.put, List.setIfInBounds_toArray, List.set_cons_zero, List.set_cons_succ, i64_w, i32_w]
          rfl
        refine take_ (i := 1) (N := some 23) (v := ?_) (a' := ?_) #[true, true, false, false, false, false, false, false, false, false] rfl rfl (by kernel_rfl) (fun _ _ _ h => h) (Or.inl ⟨by rfl, ?_⟩) hHeld ?_ ?_
        rotate_left
        · rintro w' ⟨s0, s1⟩
          go_simp
          with_reducible rfl
        rotate_left
        · simp only [Act.put, List.setIfInBounds_toArray, List.set_cons_zero, List.set_cons_succ, i64_w, i32_w]
          rfl
        refine pure_ (i := 2) (N := some 24) (v := ?_) (a' := ?_) #[true, true, true, false, false, false, false, false, false, false] rfl rfl (by kernel_rfl) (fun _ _ _ h => h) (Or.inl ⟨by rfl, ?_⟩) ?_ ?_
        rotate_left
        · intro w'
          go_simp
          with_reducible rfl
        rotate_left
        · simp only [Act.put, List.setIfInBounds_toArray, List.set_cons_zero, List.set_cons_succ, i64_w, i32_w]
          rfl
        refine pure_ (i := 3) (N := some 25) (v := ?_) (a' := ?_) #[true, true, true, true, false, false, false, false, false, false] rfl rfl (by kernel_rfl) (fun _ _ _ h => h) (Or.inl ⟨by rfl, ?_⟩) ?_ ?_
        rotate_left
        · intro w'
          go_simp
          with_reducible rfl
        rotate_left
        · simp only [Act.put, List.setIfInBounds_toArray, List.set_cons_zero, List.set_cons_succ, i64_w, i32_w]
          rfl
        refine take_ (i := 4) (N := some 26) (v := ?_) (a' := ?_) #[true, true, true, true, true, false, false, false, false, false] rfl rfl (by kernel_rfl) (fun _ _ _ h => h) (Or.inl ⟨by rfl, ?_⟩) hHeld ?_ ?_
        rotate_left
        · rintro w' ⟨s0, s1⟩
          go_simp
          with_reducible rfl
        rotate_left
        · simp only [Act.put, List.setIfInBounds_toArray, List.set_cons_zero, List.set_cons_succ, i64_w, i32_w]
          rfl
        refine pure_ (i := 5) (N := some 27) (v := ?_) (a' := ?_) #[true, true, true, true, true, true, false, false, false, false] rfl rfl (by kernel_rfl) (fun _ _ _ h => h) (Or.inl ⟨by rfl, ?_⟩) ?_ ?_
        rotate_left
        · intro w'
          go_simp
          with_reducible rfl
        rotate_left
        · simp only [Act.put, List.setIfInBounds_toArray, List.set_cons_zero, List.set_cons_succ, i64_w, i32_w]
          rfl
        refine one_ (i := 6) (N := some 28) #[true, true, true, true, true, true, true, false, false, false] rfl rfl (by kernel_rfl) (by decide) (fun K hK => ?_)
        refine goes_ Tryd.func96 (by kernel_rfl) rfl #[.slice L f2.length cl, .func (.func 97) #[] #[.pointer (some ⟨B1, 0, none⟩)]] (by rfl) rfl rfl (by (try simp only [List.map_toArray, List.map_cons, List.map_nil]); first | done | rfl) ?_
        with_reducible refine DT.out.mono ?_
        rintro e w9 ⟨rfl, ⟨G', hlo, hsub⟩, hu9⟩
        refine ⟨_, rfl, ?_⟩
        have hdj : ∀ y ∈ G1, y ≠ g ∧ y ∉ F1 ∧ y ∉ F2 := fun y hy => by
          obtain ⟨n1, n2⟩ := List.nodup_cons.1 FOu.out.nodup
          obtain ⟨_, n4, n5⟩ := List.nodup_append.1 n2
          obtain ⟨_, _, n8⟩ := List.nodup_append.1 n4
          exact ⟨fun e => n1 (by rw [← e]; simp [hy]), fun h => n5 y h y (List.mem_append_left _ hy) rfl, fun h => n8 y hy y h rfl⟩
        have hge : ∀ y ∈ G1, w.heap.size + 2 ≤ y ∧ y < B1 := fun y hy => HIN.out y (by simp [hy])
        have hnd : (g :: (F1 ++ (G' ++ F2))).Nodup := nodup_swap FOu.out.nodup (linesS.ond hlo) (fun y hy hy' => by
          obtain ⟨d1, d2, d3⟩ := hdj y (hsub y hy)
          rcases List.mem_cons.1 hy' with e | hy'
          · exact d1 e
          · rcases List.mem_append.1 hy' with e | e
            · exact d2 e
            · exact d3 e)
        have hgB : w.heap.size + 2 ≤ g ∧ g < B1 := HIN.out g (by simp)
        have hg3 : w2.heap.size ≠ g := fun e => HNF.out (by rw [e]; simp)
        have hset := Foc.put FOu.out hu9 hdj 2 (.slice L (f2.filter (keepT f0)).length cl) (by decide) (x' := trimB ⟨f0, f1, f2⟩) (block_ow hlo) hnd
        rw [hxl] at hset
        have hrow := hset.row
        rw [Q4.out] at hrow
        have HST := Aside0.mk hrow
        have K19 := Aside0.mk (blk_upd K1u.out hu9 (fun h => by have := (hge _ h).1; omega))
        have K39 := Aside0.mk (blk_upd K3u.out hu9 (fun h => HNF.out (by simp [h])))
        have HB9 := Aside0.mk (HBu.out.trans (hu9.below HBu.out.size (fun y hy => by have := (hge y hy).1; omega)))
        have K1n := Aside0.mk (blk_far K19.out (show w.heap.size + 1 ≠ g by omega) (p := ⟨g, j * 3 + 2, none⟩) (.slice L (f2.filter (keepT f0)).length cl))
        have K3n := Aside0.mk (blk_far K39.out hg3 (p := ⟨g, j * 3 + 2, none⟩) (.slice L (f2.filter (keepT f0)).length cl))
        have HBn := Aside0.mk (HB9.out.setCell (p := ⟨g, j * 3 + 2, none⟩) (show w.heap.size ≤ g by omega) (.slice L (f2.filter (keepT f0)).length cl))
        have HNn : Aside0 (w2.heap.size ∉ g :: (F1 ++ (G' ++ F2))) := ⟨fun hm => by
          rcases List.mem_cons.1 hm with e | hm
          · exact hg3 e
          · rcases List.mem_append.1 hm with hm | hm
            · exact HNF.out (by simp [hm])
            · rcases List.mem_append.1 hm with hm | hm
              · exact HNF.out (by simp [hsub _ hm])
              · exact HNF.out (by simp [hm])⟩
        have V0 : w9.cell? ⟨B1, 0, none⟩ = some (.pointer (some ⟨g, j * 3, none⟩)) := (blk_cell (blk_upd KPu.out hu9 (fun h => by have := (hge _ h).2; omega)) 0).trans rfl
        have hgG : g ∉ G1 := fun h => (hdj g h).1 rfl
        obtain ⟨csg, hcsg⟩ := Foc.blk FOu.out
        have hcsg9 := blk_upd hcsg hu9 hgG
        have V1 : w9.cell? ⟨g, j * 3 + 2, none⟩ = some (.slice L f2.length cl) := by rw [blk_cell hcsg9, ← blk_cell hcsg]; exact U1
        have vf := blk_frozen hcsg9 (j * 3 + 2)
        clear hset hrow hnd hdj hge hcsg hcsg9 hgG hlo hsub hu9 FOu HLu DT HB9 K19 K39
        refine hK.out _ _ ⟨V0, V1⟩ (fun hHeld => ?_)
        clear hK K
        refine norm_ (a' := ?_) ?_ ?_
        rotate_left
        · show Act.put _ (some 28) _ = _
          simp only [putAll, Act.put, List.setIfInBounds_toArray, List.set_cons_zero, List.set_cons_succ, i64_w, i32_w]
          rfl
        refine pure_ (i := 7) (N := some 29) (v := ?_) (a' := ?_) #[true, true, true, true, true, true, true, true, false, false] rfl rfl (by kernel_rfl) (fun _ _ _ h => h) (Or.inl ⟨by rfl, ?_⟩) ?_ ?_
        rotate_left
        · intro w'
          go_simp
          with_reducible rfl
        rotate_left
        · simp only [Act.put, List.setIfInBounds_toArray, List.set_cons_zero, List.set_cons_succ, i64_w, i32_w]
          rfl
        refine pure_ (i := 8) (N := some 30) (v := ?_) (a' := ?_) #[true, true, true, true, true, true, true, true, true, false] rfl rfl (by kernel_rfl) (fun _ _ _ h => h) (Or.inl ⟨by rfl, ?_⟩) ?_ ?_
        rotate_left
        · intro w'
          go_simp
          with_reducible rfl
        rotate_left
        · simp only [Act.put, List.setIfInBounds_toArray, List.set_cons_zero, List.set_cons_succ, i64_w, i32_w]
          rfl
        refine last_ (i := 9) (N := none) #[true, true, true, true, true, true, true, true, true, true] rfl rfl (by kernel_rfl) (by decide) (fun K hK => ?_)
        refine skip_ (w1 := ?_) (by rfl) rfl ?_ ?_
        rotate_left
        · go_simp
          rfl
        refine hK.out _ _ ?_
        clear hK K
        refine done_ (by kernel_rfl) ?_
        clear V0 V1 vf U0 U1 hHeld KPu K1u K3u HBu
        go_wp2
        go_roundw
        case rel => exact ⟨j + 1, _, by go_num, hlt, HBn, K1n, K3n, HST, HNn⟩
        case measure => simp [intOf]; omega
      · obtain rfl : j = bs.length := by omega
        rw [List.take_length, List.drop_length, List.append_nil] at HF
        have z1 : wr.cell? ⟨w.heap.size + 1, 0, none⟩ = some (.slice none 0 0) := (blk_cell K1.out 0).trans rfl
        have f1 := blk_frozen K1.out 0
        go_wp2
        refine bodyPost_ret (results_cell_row rfl _ _ (w.heap.size + 1) 47 #[.slice D bs.length d] (0, 0) _ rfl ?blk Tryd.underlying47 rfl (by kernel_rfl)) rfl ⟨.slice D bs.length d, F, rfl, ?ow, ?bel⟩
        case blk => exact blk_put K1.out 0 _ rfl
        case ow => exact blocksS.olow (blocksS.oframe HF.out fun g hg => Below.heap_setCell _ ⟨w.heap.size + 1, 0, none⟩ _ g (fun e => by have := (blocksS.oin HF.out g hg).1; have e : g = w.heap.size + 1 := e; omega)) (by omega)
        case bel => exact HB.out.setCell (p := ⟨w.heap.size + 1, 0, none⟩) (show w.heap.size ≤ w.heap.size + 1 by omega) _
end Go.Proofs.YtmcdnpooclelgaaDoor.PAll

namespace Go.Proofs.YtmcdnpooclelgaaDoor
open Go.ChangeShapes Go.WideShapes Go.ChangeAt Go.RowKit
theorem deep_of_change {H : Type} {enc : TypeId × Value → H} {a : Assume} {C : Checked} {os : Os} {f : FuncId} {fn : Func} {s : ChangeSpec} {conds : List PathCond} {apart fresh handsOn again : Bool} {X : World → Array Value → Prop}
    (own : ownKnob C.prog.godebug = none) (started : os.Started) (noInit : C.prog.inits.idxOf? f = none) (hfn : C.prog.funcs[f]? = some fn)
    (witness : ∃ (w : World) (tape : Tape) (i : Input), w.os = os ∧ (w.forCall tape i).Shaped C.prog ∧ i.vars = [] ∧ Input.okWide C.prog (w.forCall tape i) .any w.heap.size f i ∧
      ((s.pre enc C.prog fn conds apart (w.forCall tape i).memory i.args ∧ X (w.forCall tape i).memory i.args) ∧ sizedMet enc C.prog fn (OpenSpec.ofChange s) apart (w.forCall tape i).memory i.args) ∧ a.holds C.prog (lone (Frame.enter C.prog f i.args .normal) [] (w.forCall tape i)))
    (contract : ∀ (W : World) (base : Nat) (args : Array Value) (ds gs : List (DataW H)) (before : List MemPlace),
      (∀ (j : Nat) t v, fn.params[j]? = some t → args[j]? = some v → Value.okWide C.prog W .any base t v) →
      DataW.Whole enc C.prog fn.params.toList s.vars apart W args.toList ds gs before →
      conds.all (PathCond.test C.prog ⟨fn.params.toList, ds, s.plain.varTypes C.prog, gs⟩) = true →
      (DataW.weightsEach C.prog (fn.params.toList ++ s.plain.varTypes C.prog) (ds ++ gs)).all (· ≤ reachBytes) = true →
      W.ShapedOpen C.prog →
      a.holds C.prog (lone (Frame.enter C.prog f args .normal) [] W) →
      Calls C.prog f args W fun e W' => ∃ v, e = .returned v ∧ s.post enc C.prog fn apart fresh handsOn again W args v W') :
    ReturnsInHanded a C os f .any (fun w args => (s.pre enc C.prog fn conds apart w args ∧ X w args) ∧ sizedMet enc C.prog fn (OpenSpec.ofChange s) apart w args) (s.post enc C.prog fn apart fresh handsOn again) := by
  refine returnsInHanded_of_calls own started noInit witness ?_
  intro w tape i _ hsh _ hok hpre hholds
  obtain ⟨_, _, _, fn', hfn', _, _, _, _, hval⟩ := hok
  have e : fn' = fn := Option.some.inj (hfn'.symm.trans hfn)
  subst e
  obtain ⟨⟨⟨ds, gs, before, hw, hc⟩, _⟩, hz⟩ := hpre
  have hw' := DataW.Whole.of_heap (w' := w.forCall tape i) (by rfl) hw
  refine (contract (w.forCall tape i) w.heap.size i.args ds gs before hval hw' hc (hz.weights hw) hsh hholds).mono fun e W' ⟨v, he, hp⟩ => ?_
  subst he
  exact ChangeSpec.post_blind hp
end Go.Proofs.YtmcdnpooclelgaaDoor
