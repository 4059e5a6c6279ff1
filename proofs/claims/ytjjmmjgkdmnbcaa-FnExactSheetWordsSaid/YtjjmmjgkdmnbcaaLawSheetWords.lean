/- What is proved: the law FnExactSheetWords answers true at every line: the program's SheetWords gives the specification's words, and its answer owns its memory. No condition. -/
import Derived.Test.YtjjmmjgkdmnbcaaRows
import Derived.Test.YtjjmmjgkdmnbcaaKv
import Derived.WalkKit
import Derived.ProofKit
import Derived.OpenShut
import Derived.ShutString
import Derived.ChangeOld
import Derived.Below
import Derived.SizedLaws
namespace Go.Proofs.Ytjjmmjgkdmnbcaa.fnExactSheetWords
open Go.ChangeShapes Go.WideShapes Go.ChangeAt Go.RowKit Go.Proofs.YtjjmmjgkdmnbcaaW.PrintWords
open Go.ChangeMaps (open_string shut_string)
set_option linter.unusedVariables false
theorem two_cells {w w1 : World} {g : Nat} {a b : Value} (h : w.cell? ⟨g, 0, none⟩ = some a ∧ w.cell? ⟨g, 1, none⟩ = some b) (hb : Below w.heap.size w w1) : w1.cell? ⟨g, 0, none⟩ = some a ∧ w1.cell? ⟨g, 1, none⟩ = some b := ⟨pw_cell_below hb h.1, pw_cell_below hb h.2⟩
theorem two_new (w : World) (a b : Value) (t : TypeId) : (w.alloc (.cells #[a, b] t)).cell? ⟨w.heap.size, 0, none⟩ = some a ∧ (w.alloc (.cells #[a, b] t)).cell? ⟨w.heap.size, 1, none⟩ = some b := ⟨(blk_two (blk_new w _)).1, (blk_two (blk_new w _)).2.1⟩
theorem two_upd {w w1 : World} {bs : List Nat} {g : Nat} {a b : Value} (h : w.cell? ⟨g, 0, none⟩ = some a ∧ w.cell? ⟨g, 1, none⟩ = some b) (hu : Upd bs w w1) (hn : g ∉ bs) : w1.cell? ⟨g, 0, none⟩ = some a ∧ w1.cell? ⟨g, 1, none⟩ = some b := by
  have hl := World.block_lt_of_cell? w _ h.1
  have e := hu.block g hl hn
  exact ⟨(World.cell?_of_block (a := ⟨g, 0, none⟩) e).trans h.1, (World.cell?_of_block (a := ⟨g, 1, none⟩) e).trans h.2⟩
theorem al {w : World} {g j : Nat} {a : Value} (h : w.cell? ⟨g, j, none⟩ = some a) (o : Obj) : (w.alloc o).cell? ⟨g, j, none⟩ = some a := pw_cell_below ((Below.refl _ _).alloc (Nat.le_refl _) o) h
theorem own_mem {v : Value} {k : Nat} (h : k ∈ v.ownBlock.toList) : v.ownBlock = some k := by simpa using h
theorem wr_len {s : ByteArray} {r : Option (List ByteArray)} (h : WR s 0 [] r) : (r.getD []).length ≤ 8 := by
  cases r with
  | none => simp
  | some l => exact h.len rfl (by simp)
set_option maxRecDepth 100000 in
set_option maxHeartbeats 2000000 in
theorem walk (s : ByteArray) (w : World) (w0 : s.size ≤ 140737488351232) :
    Calls Try.prog 5 #[.string s] w fun e w' => e = .returned (.bool true) ∧ Below w.heap.size w w' := by
  by_cases h : 1048576 < s.size
  · go_enter Try.func5, Try.ntmps5
    go_wp2
    go_ret
    exact ⟨rfl, Below.refl _ _⟩
  · have hs : s.size ≤ 2097152 := by omega
    clear w0
    go_enter Try.func5, Try.ntmps5
    go_wp2_with fail
    refine (specSheetWords_any _ _ hs).mono ?_
    rintro e w1 ⟨r, v0, hr, rfl, ho0, hb1⟩
    obtain ⟨A0, c0, rfl, _⟩ := ER.form ho0
    have hlen := wr_len hr
    have O0 := Aside0.mk ho0
    have R0 := Aside0.mk hr
    have B1 := Aside0.mk hb1
    clear ho0 hr hb1
    go_wp2_with fail
    refine (implSheetWords_any _ _ hs).mono ?_
    rintro e w2 ⟨r', v1, hr, rfl, ho1, hb2⟩
    obtain rfl := WR.det R0.out hr
    obtain ⟨A1, c1, rfl, _⟩ := ER.form ho1
    have hmark : Aside0 (∀ k, (Value.slice A1 (r.getD []).length c1).ownBlock = some k → w1.heap.size < k ∧ k < w2.heap.size) := ⟨fun k hk => ⟨by have := own_base ho1 k hk; simp at this; omega, own_lt ho1 k hk⟩⟩
    have hold : Aside0 (∀ k, (Value.slice A0 (r.getD []).length c0).ownBlock = some k → k < w1.heap.size) := ⟨fun k hk => own_lt O0.out k hk⟩
    have O1 := Aside0.mk ho1
    have C3 := Aside0.mk (two_cells (two_new w1 _ _ _) hb2)
    have O0 := Aside0.mk ((O0.out.alloc _).below hb2)
    have B2 := Aside0.mk (((below_alloc B1.out _).trans (hb2.mono (below_alloc B1.out _).size)))
    have S2 : Aside0 (w1.heap.size < w2.heap.size) := ⟨by have := hb2.size; simp at this; omega⟩
    have S1 : Aside0 (w.heap.size ≤ w1.heap.size) := ⟨B1.out.size⟩
    clear ho1 hr hb2 B1
    generalize (w1.alloc (.cells #[.slice A0 (r.getD []).length c0, .bool r.isNone] 27)).heap.size = base1 at *
    generalize w1.heap.size = g3 at *
    have f1 := fun o => al C3.out.1 o
    have f2 := fun o => al C3.out.2 o
    go_wp2_with fail
    refine (eqSheetCut_any A1 A0 c1 c0 (r.getD []) (r.getD []) r.isNone r.isNone _ (Rd.of_own (O1.out.alloc _)) (Rd.of_own (O0.out.alloc _)) (by omega) (by omega)).mono ?_
    rw [decide_eq_true rfl, show (true && r.isNone == r.isNone) = true by simp]
    rintro e w3 ⟨rfl, hb3⟩
    have C4 := Aside0.mk (two_cells (two_new w2 _ _ _) hb3)
    have C3 := Aside0.mk (two_cells ⟨f1 _, f2 _⟩ hb3)
    have O0 := Aside0.mk ((O0.out.alloc _).below hb3)
    have O1 := Aside0.mk ((O1.out.alloc _).below hb3)
    have B3 := Aside0.mk (((below_alloc B2.out _).trans (hb3.mono (below_alloc B2.out _).size)))
    clear hb3 f1 f2 B2
    generalize w2.heap.size = g4 at *
    have f1 := C3.out.1
    have f2 := C3.out.2
    have f3 := C4.out.1
    have f4 := C4.out.2
    have f5 : g4 < w3.heap.size := World.block_lt_of_cell? w3 _ f3
    go_wp2_with fail
    refine (markSheetCut_any A1 c1 _ (r.getD []) r.isNone 1 _ O1.out (by omega) (by omega)).mono ?_
    rintro e w4 ⟨rfl, ho1, hu4⟩
    have C4 := Aside0.mk (two_upd C4.out hu4 (fun hx => by have := hmark.out _ (own_mem hx); omega))
    have C3 := Aside0.mk (two_upd C3.out hu4 (fun hx => by have := hmark.out _ (own_mem hx); omega))
    have O0 := Aside0.mk (O0.out.upd hu4 (fun k hk hx => by have := hmark.out _ (own_mem hx); have := hold.out _ hk; omega))
    have O1 := Aside0.mk ho1
    have B4 := Aside0.mk (B3.out.trans (hu4.below (B := w.heap.size) B3.out.size (fun k hx => by have := hmark.out _ (own_mem hx); have := S1.out; omega)))
    clear ho1 hu4 B3 f1 f2 f3 f4 f5
    have f1 := C3.out.1
    have f2 := C3.out.2
    have f3 := C4.out.1
    have f4 := C4.out.2
    have f5 : g4 < w4.heap.size := World.block_lt_of_cell? w4 _ f3
    go_wp2_with fail
    refine (heldSheetCut_any A1 c1 (r.getD []).length r.isNone 1 _ (Rd.of_own O1.out) (by omega) (by omega)).mono ?_
    rintro e w5 ⟨rfl, hb5⟩
    have C4 := Aside0.mk (two_cells C4.out hb5)
    have C3 := Aside0.mk (two_cells C3.out hb5)
    have O0 := Aside0.mk (O0.out.below hb5)
    have O1 := Aside0.mk (O1.out.below hb5)
    have B5 := Aside0.mk (B4.out.trans (hb5.mono B4.out.size))
    clear hb5 B4 f1 f2 f3 f4 f5
    have f1 := C3.out.1
    have f2 := C3.out.2
    have f3 := C4.out.1
    have f4 := C4.out.2
    have f5 : g4 < w5.heap.size := World.block_lt_of_cell? w5 _ f3
    go_wp2_with fail
    refine (implSheetWords_any _ _ hs).mono ?_
    rintro e w6 ⟨r', v2, hr, rfl, ho2, hb6⟩
    obtain rfl := WR.det R0.out hr
    obtain ⟨A2, c2, rfl, _⟩ := ER.form ho2
    have O2 := Aside0.mk ho2
    have C4 := Aside0.mk (two_cells C4.out hb6)
    have C3 := Aside0.mk (two_cells C3.out hb6)
    have O0 := Aside0.mk (O0.out.below hb6)
    have O1 := Aside0.mk (O1.out.below hb6)
    have B6 := Aside0.mk (B5.out.trans (hb6.mono B5.out.size))
    clear ho2 hr hb6 B5 f1 f2 f3 f4 f5
    have f1 := fun o => al C3.out.1 o
    have f2 := fun o => al C3.out.2 o
    go_wp2_with fail
    refine (eqSheetCut_any A2 A0 c2 c0 (r.getD []) (r.getD []) r.isNone r.isNone _ (Rd.of_own (O2.out.alloc _)) (Rd.of_own (O0.out.alloc _)) (by omega) (by omega)).mono ?_
    rw [decide_eq_true rfl, show (true && r.isNone == r.isNone) = true by simp]
    rintro e w7 ⟨rfl, hb7⟩
    have C4 := Aside0.mk (two_cells ⟨al C4.out.1 _, al C4.out.2 _⟩ hb7)
    have O1 := Aside0.mk ((O1.out.alloc _).below hb7)
    have B7 := Aside0.mk (((below_alloc B6.out _).trans (hb7.mono (below_alloc B6.out _).size)))
    clear hb7 f1 f2 B6
    have f3 := C4.out.1
    have f4 := C4.out.2
    go_wp2_with fail
    refine (heldSheetCut_any A1 c1 (r.getD []).length r.isNone 1 _ (Rd.of_own O1.out) (by omega) (by omega)).mono ?_
    rintro e w8 ⟨rfl, hb8⟩
    have B8 := Aside0.mk (B7.out.trans (hb8.mono B7.out.size))
    clear hb8 f3 f4
    go_wp2_with fail
    go_ret
    exact ⟨rfl, B8.out⟩
theorem own : ownKnob Try.prog.godebug = none := by kernel_rfl
set_option maxRecDepth 100000 in
theorem lifted (os : Os) (started : os.Started) (H : Type) (enc : TypeId × Value → H) :
    ReturnsInHanded {} Try.checked os 5 .any (Rows.fnExactSheetWordsSpec.pre6 enc Try.prog Try.f5 Rows.fnExactSheetWordsRow.domain false) (Rows.fnExactSheetWordsSpec.post enc Try.prog Try.f5 false true false false) := by
  refine returnsInHanded_of_change_sized (C := Try.checked) own started (by kernel_rfl) Try.func5
    (ChangeSpec.witness6 (enc := enc) (C := Try.checked) false ⟨#[], #[.string ByteArray.empty], []⟩ 8 (by kernel_rfl) (by kernel_rfl) (by kernel_rfl) (by kernel_rfl)) ?_
  intro W base args ds gs before hval0 hW hcnd hsz0 _
  have hsz : (DataW.weightsEach Try.prog (Try.f5.params.toList ++ Rows.fnExactSheetWordsSpec.plain.varTypes Try.prog) (ds ++ gs)).all (· ≤ reachBytes) = true := hsz0
  have hval : ∀ (j : Nat) t v, Try.f5.params[j]? = some t → args[j]? = some v → Value.okWide Try.prog W .any base t v := hval0
  have hW' := hW
  obtain ⟨p, q, hA0, hV, rfl, hfz, hnd⟩ := hW
  have hA : DataW.TrodAll enc Try.prog W 0 (fun _ => true) true Try.f5.params.toList args.toList ds p := hA0
  rw [Try.params5] at hA hval hsz
  obtain ⟨v0, vs0, d0, ds0, p0, q0, hargs, rfl, rfl, h0, r0⟩ := trodAll_cons hA
  obtain ⟨rfl, rfl, rfl⟩ := trodAll_nil r0
  obtain rfl : args = #[v0] := by cases args; simp_all
  obtain ⟨rfl, rfl⟩ := trodVars_none hV
  obtain ⟨a0, rfl, rfl, rfl, y0⟩ := open_string Try.underlying9 (hval 0 9 v0 rfl rfl) h0
  have w0 : a0.size ≤ 140737488351232 := by
    have z := sized_string hsz (j := 0) (t := 9) rfl rfl
    rw [Array.length_toList] at z
    exact z
  clear hA0 hval0 hsz0 hsz
  refine (walk a0 W w0).mono fun e W' ⟨he, bel⟩ => ?_
  subst he
  exact ⟨_, rfl, _, _, _, [], _, [], hW', trodAll_mk1 (shut_bool Try.underlying4 _), (trodAll_cons_mk (shut_string Try.underlying9 y0) trodAll_mk0), rfl, bel.frame _, fun h => by cases h⟩
theorem over : Rows.fnExactSheetWordsRow.holds Try.pinned (OpenSpec.ofChange Rows.fnExactSheetWordsSpec) :=
  OpenClaim.holds_of_wide 5 Try.f5 rfl rfl rfl rfl rfl rfl rfl ⟨rfl, rfl, rfl, rfl, rfl⟩ rfl rfl rfl rfl rfl (by kernel_rfl) Try.func5 (by kernel_rfl)
    (of_decide_eq_true (by kernel_rfl)) (by unfold Func.isWrapper; first | (rw [if_pos (by decide +kernel)]; kernel_rfl) | (rw [if_neg (by decide +kernel)]; exact ⟨rfl, rfl⟩))
    (fun os started H enc _ => lifted os started H enc)
end Go.Proofs.Ytjjmmjgkdmnbcaa.fnExactSheetWords
namespace Go.Proofs.Ytjjmmjgkdmnbcaa
theorem fnExactSheetWords_holds : Rows.FnExactSheetWordsSaid := fnExactSheetWords.over
#print axioms fnExactSheetWords_holds
end Go.Proofs.Ytjjmmjgkdmnbcaa
