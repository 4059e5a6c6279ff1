/- What is proved: the law FnWords answers true at every code: a drawn line is cut as the specification says; its words, written and cut again, are the same; and a drawn word is written as the specification says. No condition. -/
import Derived.Test.YtjjmmjgkdmnbcaaRows
import Derived.Test.YtjjmmjgkdmnbcaaKi
import Derived.Test.YtjjmmjgkdmnbcaaKr
import Derived.Test.YtjjmmjgkdmnbcaaWSized
import Derived.WalkKit
import Derived.ProofKit
import Derived.OpenShut
import Derived.ShutString
import Derived.ChangeOld
import Derived.Below
import Derived.SizedLaws
namespace Go.Proofs.Ytjjmmjgkdmnbcaa.fnWords
open Go.ChangeShapes Go.WideShapes Go.ChangeAt Go.RowKit Go.Proofs.YtjjmmjgkdmnbcaaW.PrintWords
open Go.ChangeMaps (open_string shut_string)
set_option linter.unusedVariables false
theorem two_cells {w w1 : World} {g : Nat} {a b : Value} (h : w.cell? ⟨g, 0, none⟩ = some a ∧ w.cell? ⟨g, 1, none⟩ = some b) (hb : Below w.heap.size w w1) : w1.cell? ⟨g, 0, none⟩ = some a ∧ w1.cell? ⟨g, 1, none⟩ = some b := ⟨pw_cell_below hb h.1, pw_cell_below hb h.2⟩
theorem two_new (w : World) (a b : Value) (t : TypeId) : (w.alloc (.cells #[a, b] t)).cell? ⟨w.heap.size, 0, none⟩ = some a ∧ (w.alloc (.cells #[a, b] t)).cell? ⟨w.heap.size, 1, none⟩ = some b := ⟨(blk_two (blk_new w _)).1, (blk_two (blk_new w _)).2.1⟩
theorem al {w : World} {g j : Nat} {a : Value} (h : w.cell? ⟨g, j, none⟩ = some a) (o : Obj) : (w.alloc o).cell? ⟨g, j, none⟩ = some a := pw_cell_below ((Below.refl _ _).alloc (Nat.le_refl _) o) h
def IsRow (k : IntKind) (w : World) (a : Option Addr) (len cap : Nat) (zs : List Int) : Prop :=
  (a = none ∧ len = 0 ∧ cap = 0 ∧ zs = []) ∨
  ∃ x, a = some x ∧ len ≤ cap ∧ cap ≤ maxLen ∧ zs.length = cap ∧ (∀ i, i < zs.length → w.cell? (x.add i) = some (.int k (zs.getD i 0))) ∧ ∀ n ∈ zs, (Lit.int k n).wf = true
theorem IsRow.rd {w : World} {a : Option Addr} {len cap : Nat} {zs : List Int} (h : IsRow .u8 w a len cap zs) : Rd (Value.int .u8) w a (zs.take len) ∧ (∀ z ∈ zs.take len, 0 ≤ z ∧ z ≤ 255) ∧ (zs.take len).length = len ∧ len ≤ cap ∧ cap ≤ 9223372036854775807 := by
  rcases h with ⟨rfl, rfl, rfl, rfl⟩ | ⟨x, rfl, h1, h2, h3, h4, h5⟩
  · exact ⟨fun j x hx => by simp at hx, by simp, rfl, by omega, by omega⟩
  · refine ⟨fun j y hy => ?_, fun z hz => ?_, by simp; omega, h1, by simpa [maxLen] using h2⟩
    · rw [List.getElem?_take] at hy
      split at hy
      · obtain ⟨hj, rfl⟩ := List.getElem?_eq_some_iff.1 hy
        refine ⟨x, rfl, ?_⟩
        rw [h4 j hj, List.getD_eq_getElem?_getD, List.getElem?_eq_getElem hj]; rfl
      · cases hy
    · have := h5 z (List.mem_of_mem_take hz)
      simp [Lit.wf, show IntKind.u8.min = 0 from rfl, show IntKind.u8.max = 255 from rfl] at this
      omega
set_option maxRecDepth 100000 in
set_option maxHeartbeats 2000000 in
theorem walk (a : Option Addr) (len cap : Nat) (zs : List Int) (w : World) (w0 : IsRow .u8 w a len cap zs) (y0 : len * 1 ≤ 140737488351232) :
    Calls Try.prog 6 #[.slice a len cap] w fun e w' => e = .returned (.bool true) ∧ Below w.heap.size w w' := by
  by_cases h : 1048576 < len
  · go_enter Try.func6, Try.ntmps6
    go_wp2
    go_ret
    exact ⟨rfl, Below.refl _ _⟩
  · obtain ⟨q1, q2, q3, q4, q5⟩ := w0.rd
    have Q := Aside0.mk q1
    have Z := Aside0.mk q2
    clear w0 q1 q2
    generalize zs.take len = ys at *
    go_enter Try.func6, Try.ntmps6
    go_wp2_with fail
    refine (drawSheetWords_any w a len cap ys Q.out Z.out q3 q4 q5).mono ?_
    rintro e w1 ⟨s, rfl, hs, hb1⟩
    have B1 := Aside0.mk hb1
    clear hb1
    go_wp2_with fail
    refine (implSheetWords_any _ _ (by omega)).mono ?_
    rintro e w2 ⟨r, v0, hr, rfl, ho0, hb2⟩
    obtain ⟨A0, c0, rfl, _⟩ := ER.form ho0
    have hlen : (r.getD []).length ≤ 8 := by
      cases r with
      | none => simp
      | some l => exact hr.len rfl (by simp)
    have hsm : Aside0 (∀ x ∈ r.getD [], x.size ≤ 200) := ⟨by
      cases r with
      | none => simp
      | some l => exact hr.small rfl (by simp)⟩
    have O0 := Aside0.mk ho0
    have R0 := Aside0.mk hr
    have B2 := Aside0.mk (B1.out.trans (hb2.mono B1.out.size))
    clear ho0 hr hb2 B1
    go_wp2_with fail
    refine (specSheetWords_any _ _ (by omega)).mono ?_
    rintro e w3 ⟨r', v1, hr, rfl, ho1, hb3⟩
    obtain rfl := WR.det R0.out hr
    obtain ⟨A1, c1, rfl, _⟩ := ER.form ho1
    have O1 := Aside0.mk ho1
    have C0 := Aside0.mk (two_cells (two_new w2 _ _ _) hb3)
    have O0 := Aside0.mk ((O0.out.alloc _).below hb3)
    have B3 := Aside0.mk (((below_alloc B2.out _).trans (hb3.mono (below_alloc B2.out _).size)))
    clear ho1 hr hb3 B2 R0
    generalize hL : r.getD [] = L at *
    generalize (w2.alloc (.cells #[.slice A0 L.length c0, .bool r.isNone] 27)).heap.size = base1 at *
    generalize w2.heap.size = g4 at *
    have f1 := fun o => al C0.out.1 o
    have f2 := fun o => al C0.out.2 o
    go_wp2_with fail
    refine (wWords_any A0 A1 c0 c1 L L _ (Rd.of_own (O0.out.alloc _)) (Rd.of_own (O1.out.alloc _)) (by omega) (by omega)).mono ?_
    rw [decide_eq_true rfl]
    rintro e w4 ⟨rfl, hd⟩
    have hb4 := hd.below
    have C0 := Aside0.mk (two_cells ⟨f1 _, f2 _⟩ hb4)
    have O0 := Aside0.mk ((O0.out.alloc _).below hb4)
    have B4 := Aside0.mk (((below_alloc B3.out _).trans (hb4.mono (below_alloc B3.out _).size)))
    clear hb4 hd f1 f2 B3 O1
    have f1 := C0.out.1
    go_wp2_with fail
    go_loopw [6, 7] (fun o i wr => ∃ (z : ByteArray) (k : Nat), o = .string z ∧ i = .int .i64 k ∧ k ≤ L.length ∧ z.size ≤ 603 * k ∧ Aside0 (bytesOf z = render (L.take k)) ∧ Aside0 (Below w4.heap.size w4 wr)) (fun _ i _ => L.length - (intOf i).toNat)
    case atStart => exact ⟨.empty, 0, rfl, rfl, Nat.zero_le _, by simp, ⟨rfl⟩, ⟨Below.refl _ _⟩⟩
    case round =>
      obtain ⟨z, k, rfl, rfl, hk, hz, hE, hB⟩ := hrel
      have C := Aside0.mk (two_cells C0.out hB.out)
      have D := Aside0.mk ((Rd.of_own O0.out).move hB.out)
      have f3 := C.out.1
      by_cases hlt : k < L.length
      · obtain ⟨a1, rfl, hc1⟩ := D.out k _ (List.getElem?_eq_getElem hlt)
        have hx := hsm.out _ (List.getElem_mem hlt)
        have HE : Aside0 (bytesOf ((z ++ wordP L[k]) ++ ⟨#[32]⟩) = render (L.take (k + 1))) := ⟨by rw [bytesOf_append, bytesOf_append, hE.out, List.take_succ_eq_append_getElem hlt]; unfold render; rw [List.flatMap_append, List.flatMap_singleton, List.append_assoc]; rfl⟩
        have hw := wordP_len L[k]
        generalize L[k] = x at *
        clear hE
        go_wp2_with fail
        refine (implSheetWord_any _ _ (by omega)).mono ?_
        rintro e w5 ⟨rfl, hb5⟩
        have HB := Aside0.mk (hB.out.trans (hb5.mono hB.out.size))
        clear hb5 hB
        go_wp2_with fail
        go_roundw
        case rel => exact ⟨_, k + 1, rfl, by go_num, hlt, by rw [ByteArray.size_append, ByteArray.size_append]; have : (⟨#[32]⟩ : ByteArray).size = 1 := rfl; omega, HE, HB⟩
        case measure => simp [intOf]; omega
      · have hkl : k = L.length := by omega
        have HE : Aside0 (bytesOf z = render L) := ⟨by rw [hE.out, hkl, List.take_length]⟩
        have HW : Aside0 (WR z 0 [] (some L)) := ⟨rt_words z L HE.out hlen hsm.out⟩
        clear hE HE
        go_wp2_with fail
        refine (implSheetWords_any _ _ (by omega)).mono ?_
        rintro e w5 ⟨r2, v2, hr, rfl, ho2, hb5⟩
        obtain rfl := WR.det HW.out hr
        obtain ⟨A2, c2, rfl, _⟩ := ER.form ho2
        have O2 := Aside0.mk ho2
        have C := Aside0.mk (two_cells C.out hb5)
        have D := Aside0.mk (D.out.move hb5)
        have B5 := Aside0.mk (B4.out.trans ((hB.out.trans (hb5.mono hB.out.size)).mono B4.out.size))
        clear ho2 hr hb5 f3 hB
        have C2 := Aside0.mk (two_new w5 (.slice A2 L.length c2) (.bool false) 27)
        go_wp2_with fail
        refine (drawSheetWord_any _ a len cap ys ((Q.out.move B5.out).move (Below.alloc (Below.refl _ _) (Nat.le_refl _) _)) Z.out q3 q4 q5).mono ?_
        rintro e w6 ⟨t, rfl, ht, hb6⟩
        have C := Aside0.mk (two_cells ⟨al C.out.1 _, al C.out.2 _⟩ hb6)
        have C2 := Aside0.mk (two_cells C2.out hb6)
        have D := Aside0.mk ((D.out.move (Below.alloc (Below.refl _ _) (Nat.le_refl _) _)).move hb6)
        have E2 := Aside0.mk (((Rd.of_own O2.out).move (Below.alloc (Below.refl _ _) (Nat.le_refl _) (.cells #[.slice A2 L.length c2, .bool false] 27))).move hb6)
        have B6 := Aside0.mk (((below_alloc B5.out _).trans (hb6.mono (below_alloc B5.out _).size)))
        clear hb6 B5
        have f3 := C.out.1
        have f4 := C2.out.1
        have f5 := C2.out.2
        go_wp2_with fail
        refine (wWords_any A2 A0 c2 c0 L L _ E2.out D.out (by omega) (by omega)).mono ?_
        rw [decide_eq_true rfl]
        rintro e w7 ⟨rfl, hd⟩
        have B7 := Aside0.mk (B6.out.trans (hd.below.mono B6.out.size))
        clear hd f3 f4 f5 B6
        go_wp2_with fail
        refine (implSheetWord_any _ _ (by omega)).mono ?_
        rintro e w8 ⟨rfl, hb8⟩
        have B8 := Aside0.mk (B7.out.trans (hb8.mono B7.out.size))
        clear hb8 B7
        go_wp2_with fail
        refine (specSheetWord_any _ _ (by omega)).mono ?_
        rintro e w9 ⟨rfl, hb9⟩
        have B9 := Aside0.mk (B8.out.trans (hb9.mono B8.out.size))
        clear hb9 B8
        go_wp2_with fail
        go_ret
        exact ⟨rfl, B9.out⟩
theorem own : ownKnob Try.prog.godebug = none := by kernel_rfl
theorem laidOut : laidOutB Try.prog = true := by kernel_rfl
set_option maxRecDepth 100000 in
theorem lifted (os : Os) (started : os.Started) (H : Type) (enc : TypeId × Value → H) :
    ReturnsInHanded {} Try.checked os 6 .any (Rows.fnWordsSpec.pre6 enc Try.prog Try.f6 Rows.fnWordsRow.domain false) (Rows.fnWordsSpec.post enc Try.prog Try.f6 false true false false) := by
  refine returnsInHanded_of_change_sized (C := Try.checked) own started (by kernel_rfl) Try.func6
    (ChangeSpec.witness6 (enc := enc) (C := Try.checked) false ⟨#[], #[.slice none 0 0], []⟩ 8 (by kernel_rfl) (by kernel_rfl) (by kernel_rfl) (by kernel_rfl)) ?_
  intro W base args ds gs before hval0 hW hcnd hsz0 _
  have hsz : (DataW.weightsEach Try.prog (Try.f6.params.toList ++ Rows.fnWordsSpec.plain.varTypes Try.prog) (ds ++ gs)).all (· ≤ reachBytes) = true := hsz0
  have hval : ∀ (j : Nat) t v, Try.f6.params[j]? = some t → args[j]? = some v → Value.okWide Try.prog W .any base t v := hval0
  have hW' := hW
  obtain ⟨p, q, hA0, hV, rfl, hfz, hnd⟩ := hW
  have hA : DataW.TrodAll enc Try.prog W 0 (fun _ => true) true Try.f6.params.toList args.toList ds p := hA0
  rw [Try.params6] at hA hval hsz
  obtain ⟨v0, vs0, d0, ds0, p0, q0, hargs, rfl, rfl, h0, r0⟩ := trodAll_cons hA
  obtain ⟨rfl, rfl, rfl⟩ := trodAll_nil r0
  obtain rfl : args = #[v0] := by cases args; simp_all
  obtain ⟨rfl, rfl⟩ := trodVars_none hV
  obtain ⟨a0, len0, cap0, rfl⟩ := okWide_slice Try.underlying31 (hval 0 31 v0 rfl rfl)
  have k0 := h0
  have lt0 : ∀ x ∈ p0, x.block < W.heap.size := by obtain ⟨m, hm⟩ := k0; exact DataW.trod_lt m _ _ _ hm
  obtain ⟨z0, w0⟩ : ∃ zs, IsRow .u8 W a0 len0 cap0 zs := by
    obtain ⟨fuel, hf⟩ := h0
    rcases open_ints Try.underlying31 Try.underlying5 (by kernel_rfl) hf with ⟨hcs, _⟩ | ⟨x, l, c, zs, hcs, _, hl, hm, hz, _, hcell, hwz⟩
    · simp [Value.cells] at hcs
      obtain ⟨rfl, rfl, rfl⟩ := hcs
      exact ⟨[], .inl ⟨rfl, rfl, rfl, rfl⟩⟩
    · simp [Value.cells] at hcs
      obtain ⟨rfl, rfl, rfl⟩ := hcs
      exact ⟨zs, .inr ⟨_, rfl, hl, hm, by simpa using hz, hcell, hwz⟩⟩
  have y0 : len0 * 1 ≤ 140737488351232 := sized_ints hsz (j := 0) (t := 31) rfl rfl Try.underlying31 Try.underlying5 (by kernel_rfl) (by kernel_rfl) h0
  clear hA0 hval0 hsz0 hsz
  refine (walk a0 len0 cap0 z0 W w0 y0).mono fun e W' ⟨he, bel⟩ => ?_
  subst he
  exact ⟨_, rfl, _, _, _, [], _, [], hW', trodAll_mk1 (shut_bool Try.underlying4 _), (trodAll_cons_mk (Below.trod laidOut (by kernel_rfl) (of_decide_eq_true (by kernel_rfl)) k0 bel lt0) trodAll_mk0), rfl, bel.frame _, fun h => by cases h⟩
theorem over : Rows.fnWordsRow.holds Try.pinned (OpenSpec.ofChange Rows.fnWordsSpec) :=
  OpenClaim.holds_of_wide 6 Try.f6 rfl rfl rfl rfl rfl rfl rfl ⟨rfl, rfl, rfl, rfl, rfl⟩ rfl rfl rfl rfl rfl (by kernel_rfl) Try.func6 (by kernel_rfl)
    (of_decide_eq_true (by kernel_rfl)) (by unfold Func.isWrapper; first | (rw [if_pos (by decide +kernel)]; kernel_rfl) | (rw [if_neg (by decide +kernel)]; exact ⟨rfl, rfl⟩))
    (fun os started H enc _ => lifted os started H enc)
end Go.Proofs.Ytjjmmjgkdmnbcaa.fnWords
namespace Go.Proofs.Ytjjmmjgkdmnbcaa
theorem fnWords_holds : Rows.FnWordsSaid := fnWords.over
#print axioms fnWords_holds
end Go.Proofs.Ytjjmmjgkdmnbcaa
