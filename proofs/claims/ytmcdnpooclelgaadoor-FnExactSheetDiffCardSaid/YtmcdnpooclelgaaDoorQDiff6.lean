/- Texts of this claim, packed: contracts of functions and plain lemmas that the law is proved from. -/
import Derived.HandedShaped
import Derived.LaidMore
import Derived.LaidOnce
import Derived.OpenShut
import Derived.ProofKit
import Derived.Shelf.Vars
import Derived.Test.YtmcdnpooclelgaaDoorRows
import Derived.Test.YtmcdnpooclelgaaDoorQDiff1
import Derived.Test.YtmcdnpooclelgaaDoorQDiff2
import Derived.Test.YtmcdnpooclelgaaDoorQDiff3
import Derived.Test.YtmcdnpooclelgaaDoorQDiff4
import Derived.Test.YtmcdnpooclelgaaDoorQDiff5
set_option linter.unusedVariables false
set_option linter.unusedSimpArgs false
namespace Go.Proofs.YtmcdnpooclelgaaDoor.PAll
open Go.RowKit Go.Proofs.YtmcdnpooclelgaaDoorW.PrintWords Go.Proofs.YtmcdnpooclelgaaDoorW.PrintLast Go.Proofs.YtmcdnpooclelgaaDoorW.PrintMore
theorem infoChange : (Tryd.prog.info? 114).map (fun i => (i.zero, i.size, i.bytes)) = some (some (.agg #[.int .i64 0, .string ⟨#[]⟩, .string ⟨#[]⟩, .string ⟨#[]⟩, .slice none 0 0]), 5, 80) := by kernel_rfl
theorem of_r (k0 n0 key : ByteArray) (ls : List S83) (hn : ls.length ≤ 1048576) (A : Option Addr) (c : Nat) (w : World) (hr : Kd.C k83 w A ls.length ls) :
  Calls Tryd.prog 87 #[.agg #[.string k0, .string n0, .slice A ls.length c], .string key] w fun e w' => ∃ B d, e = .returned (.slice B (ofKey key ls).length d) ∧ Kd.C k83 w' B (ofKey key ls).length (ofKey key ls) ∧ Below w.heap.size w w' := by
 obtain ⟨T, rfl, hs, hT⟩ := src_of_C hr
 rw [List.length_map] at hn ⊢
 refine (of_c k0 n0 key T (by omega) A c w hs).mono ?_
 rintro e w' ⟨v, rfl, hO, hb⟩
 obtain ⟨B, d, rfl⟩ := own_shapeN hO
 have hlen : (T.filter (isKey key)).length = (ofKey key (T.map Prod.snd)).length := by rw [← filter_snd, List.length_map]
 have hC := C_of_own hO (by have := List.length_filter_le (isKey key) T; omega) (fun t ht => by
  obtain ⟨B, d, e1, e2, e3⟩ := hT t (List.mem_filter.1 ht).1
  exact ⟨B, d, e1, e2, Kd.C_below e3 hb⟩)
 rw [filter_snd, hlen] at hC
 exact ⟨B, d, by rw [hlen], hC, hb⟩
theorem diff_nil (a b : List S62) (h : (sheetOk a && sheetOk b) = false) : diffP a b = [] := by unfold diffP; rw [h]; rfl
theorem chs_base {w : World} {b : Nat} {v : Value} {L : List S114} {F : List Nat} (h : changesS.ow w b [v] L F) : ∀ k, v.ownBlock = some k → b ≤ k := by
 obtain ⟨v', vss, Gs, hv, hr, _⟩ := h
 injection hv with hv _
 subst hv
 exact fun k hk => own_base hr k hk
theorem chs_lt {w : World} {b : Nat} {v : Value} {L : List S114} {F : List Nat} (h : changesS.ow w b [v] L F) : ∀ k, v.ownBlock = some k → k < w.heap.size := by
 obtain ⟨v', vss, Gs, hv, hr, _⟩ := h
 injection hv with hv _
 subst hv
 exact fun k hk => own_lt hr k hk
theorem chs_own {w : World} {b : Nat} {v : Value} {L : List S114} {F : List Nat} (h : changesS.ow w b [v] L F) : ∀ k, v.ownBlock = some k → k ∈ F := by
 obtain ⟨v', vss, Gs, hv, hr, h2, hF, h3⟩ := h
 injection hv with hv _
 subst hv
 subst hF
 intro k hk
 rw [hk]
 simp
theorem grow_keep {w w3 : World} {g : Nat} {v : Value} {o : Obj} (hg : w.grownBy w3 v.ownBlock) (hb : ∀ k, v.ownBlock = some k → k ≠ g) (h : w.heap[g]? = some o) : w3.heap[g]? = some o :=
 (hg.block g (Array.getElem?_eq_some_iff.1 h).1 (fun e => hb _ e.symm rfl)).trans h
theorem chs_keep {w w3 : World} {b g : Nat} {v : Value} {o : Obj} (hg : w.grownBy w3 v.ownBlock) (hb : ∀ k, v.ownBlock = some k → b ≤ k) (h : w.heap[g]? = some o) (hlt : g < b) : w3.heap[g]? = some o :=
 (hg.block g (Array.getElem?_eq_some_iff.1 h).1 (fun e => by have := hb _ e.symm; omega)).trans h
set_option maxRecDepth 100000 in
set_option maxHeartbeats 8000000 in
theorem implDiff_any (A B : Option Addr) (c d : Nat) (xs ys : List S62) (w : World) (ha : Kd.C k62 w A xs.length xs) (hac : xs.length ≤ c) (hb : Kd.C k62 w B ys.length ys) (hbd : ys.length ≤ d) (sa : smallBs xs) (sb : smallBs ys) :
  Calls Tryd.prog 49 #[.agg #[.slice A xs.length c], .agg #[.slice B ys.length d]] w fun e w' => ∃ v G, e = .returned v ∧ changesS.ow w' w.heap.size [v] (diffP xs ys) G ∧ Below w.heap.size w w' := by
 obtain ⟨K, hk⟩ := ev_implValid xs (fits_small xs sa)
 obtain ⟨K', hk'⟩ := ev_implValid ys (fits_small ys sb)
 have HVA := Aside0.mk (fun w hr => impl_SheetValid.calls K A c xs (sheetOk xs) w hr hac (hk K (Nat.le_refl _)))
 have HVB := Aside0.mk (fun w hr => impl_SheetValid.calls K' B d ys (sheetOk ys) w hr hbd (hk' K' (Nat.le_refl _)))
 have HA := Aside0.mk ha
 have HB := Aside0.mk hb
 have SA := Aside0.mk sa
 have SB := Aside0.mk sb
 have hna : xs.length ≤ 1048576 := sa.1
 have hnb : ys.length ≤ 1048576 := sb.1
 have s1 : (w.alloc (.cells #[.slice A xs.length c] 47)).heap.size = w.heap.size + 1 := by simp
 have b1 := Aside0.mk (blk_alloc (blk_new w (.cells #[.slice A xs.length c] 47)) (.cells #[.slice B ys.length d] 47))
 have b2' := blk_new (w.alloc (.cells #[.slice A xs.length c] 47)) (.cells #[.slice B ys.length d] 47)
 rw [s1] at b2'
 have b2 := Aside0.mk b2'
 have a2 : Below w.heap.size w ((w.alloc (.cells #[.slice A xs.length c] 47)).alloc (.cells #[.slice B ys.length d] 47)) := ((Below.refl _ _).alloc (Nat.le_refl _) _).alloc (by simp) _
 clear ha hb sa sb hk hk' s1 b2'
 cases hva : sheetOk xs with
 | false =>
  have hP := diff_nil xs ys (by rw [hva]; rfl)
  rw [hP]
  rw [hva] at HVA
  clear hP hva
  go_enter Tryd.func49, Tryd.ntmps49
  go_wp2_with fail
  refine (HVA.out _ (Kd.C_below HA.out a2)).mono ?_
  rintro e w1 ⟨rfl, hb1⟩
  have B1 := Aside0.mk (a2.trans (hb1.mono a2.size))
  clear hb1 a2
  go_wp2
  go_ret
  exact ⟨_, [], rfl, Sh.row_nil _ _ _ _, B1.out⟩
 | true =>
  rw [hva] at HVA
  cases hvb : sheetOk ys with
  | false =>
   have hP := diff_nil xs ys (by rw [hva, hvb]; rfl)
   rw [hP]
   rw [hvb] at HVB
   clear hP hva hvb
   go_enter Tryd.func49, Tryd.ntmps49
   go_wp2_with fail
   refine (HVA.out _ (Kd.C_below HA.out a2)).mono ?_
   rintro e w1 ⟨rfl, hb1⟩
   have B1 := Aside0.mk (a2.trans (hb1.mono a2.size))
   have x1 : w1.cell? ⟨w.heap.size + 1, 0, none⟩ = some (.slice B ys.length d) := (blk_cell (blk_below b2.out hb1) 0).trans rfl
   clear hb1 a2
   go_wp2_with fail
   refine (HVB.out _ (Kd.C_below HB.out B1.out)).mono ?_
   rintro e w2 ⟨rfl, hb2⟩
   have B2 := Aside0.mk (B1.out.trans (hb2.mono B1.out.size))
   clear hb2
   go_wp2
   go_ret
   exact ⟨_, [], rfl, Sh.row_nil _ _ _ _, B2.out⟩
  | true =>
   have hP : diffP xs ys = xs.flatMap (goneOf ys) ++ ys.flatMap (blkOf xs) := by unfold diffP; rw [hva, hvb]; rfl
   rw [hP]
   rw [hvb] at HVB
   clear hP hva hvb
   obtain ⟨R, hR⟩ : ∃ R, xs.flatMap (goneOf ys) ++ ys.flatMap (blkOf xs) = R := ⟨_, rfl⟩
   have HRe := Aside0.mk hR
   rw [hR]
   clear hR
   go_enter Tryd.func49, Tryd.ntmps49
   go_wp2_with fail
   refine (HVA.out _ (Kd.C_below HA.out a2)).mono ?_
   rintro e w1 ⟨rfl, hb1⟩
   have B1 := Aside0.mk (a2.trans (hb1.mono a2.size))
   have k1 := Aside0.mk (blk_below b1.out hb1)
   have k2 := Aside0.mk (blk_below b2.out hb1)
   have x1 : w1.cell? ⟨w.heap.size + 1, 0, none⟩ = some (.slice B ys.length d) := (blk_cell k2.out 0).trans rfl
   clear hb1 a2
   go_wp2_with fail
   refine (HVB.out _ (Kd.C_below HB.out B1.out)).mono ?_
   rintro e w2 ⟨rfl, hb2⟩
   have B2 := Aside0.mk (B1.out.trans (hb2.mono B1.out.size))
   have m1 := Aside0.mk (blk_below k1.out hb2)
   have m2 := Aside0.mk (blk_below k2.out hb2)
   have x2 : w2.cell? ⟨w.heap.size, 0, none⟩ = some (.slice A xs.length c) := (blk_cell m1.out 0).trans rfl
   have n2 : w.heap.size + 2 ≤ w2.heap.size := by have h := blk_lt m2.out; omega
   clear hb2 x1 k1 k2 B1
   go_wp2
   go_loopw [5, 27] (fun (v i : Value) (wr : World) => ∃ (j : Nat), i = .int .i64 j ∧ j ≤ xs.length ∧ Aside0 (Below w.heap.size w wr) ∧ Aside0 (wr.heap[w.heap.size]? = some (.cells #[.slice A xs.length c] 47 (0, 0))) ∧ Aside0 (wr.heap[w.heap.size + 1]? = some (.cells #[.slice B ys.length d] 47 (0, 0))) ∧ Aside0 (∃ F, changesS.ow wr (w.heap.size + 2) [v] ((xs.take j).flatMap (goneOf ys)) F)) (fun _ i _ => xs.length - (intOf i).toNat)
   case atStart => exact ⟨0, rfl, Nat.zero_le _, B2, m1, m2, ⟨[], Sh.row_nil _ _ _ _⟩⟩
   case round =>
    obtain ⟨j, rfl, hj, hB, hm1, hm2, hO⟩ := hrel
    obtain ⟨F, hF⟩ := hO.out
    obtain ⟨Ad, e5, rfl⟩ := own_form hF
    by_cases hlt : j < xs.length
    ·have hll := flat_lenB (goneOf ys) 1 (xs.take j) (goneOf_len ys)
     rw [List.length_take] at hll
     have HNX := Aside0.mk (take_flat (goneOf ys) xs j hlt)
     generalize (xs.take j).flatMap (goneOf ys) = L at *
     obtain ⟨ad, A1, c1, rfl, hx0, hx1, hx2, hl1, hC1⟩ := block_at (Kd.C_below HA.out hB.out) j xs[j] (List.getElem?_eq_getElem hlt)
     generalize xs[j] = l at *
     obtain ⟨f0, f1, f2⟩ := l
     simp only at *
     have i1 : (j : Int) < (xs.length : Int) := by omega
     have a5 : Below wr.heap.size wr (wr.alloc (.cells #[.string f0, .string f1, .slice A1 f2.length c1] 62)) := (Below.refl _ _).alloc (Nat.le_refl _) _
     have b5 := Aside0.mk (blk_new wr (.cells #[.string f0, .string f1, .slice A1 f2.length c1] 62))
     have HF := Aside0.mk (changesS.obelow hF a5)
     have B5 := Aside0.mk (hB.out.trans (a5.mono hB.out.size))
     have p1 := Aside0.mk (blk_below hm1.out a5)
     have p2 := Aside0.mk (blk_below hm2.out a5)
     have x3 : (wr.alloc (.cells #[.string f0, .string f1, .slice A1 f2.length c1] 62)).cell? ⟨w.heap.size + 1, 0, none⟩ = some (.slice B ys.length d) := (blk_cell p2.out 0).trans rfl
     have hN : w.heap.size + 2 ≤ wr.heap.size := by have := blk_lt hm2.out; omega
     clear hF hO hC1 hl1 a5
     go_wp2_with fail
     generalize hW5 : wr.alloc (.cells #[.string f0, .string f1, .slice A1 f2.length c1] 62) = w5 at *
     clear hW5
     refine (at_c f0 f1 ys (by omega) B d w5 (Kd.C_below HB.out B5.out)).mono ?_
     rintro e w6 ⟨rfl, hb6⟩
     have B6 := Aside0.mk (B5.out.trans (hb6.mono B5.out.size))
     have q1 := Aside0.mk (blk_below p1.out hb6)
     have q2 := Aside0.mk (blk_below p2.out hb6)
     have b6 := blk_below b5.out hb6
     have HF6 := Aside0.mk (changesS.obelow HF.out hb6)
     have y0 : w6.cell? ⟨wr.heap.size, 0, none⟩ = some (.string f0) := (blk_cell b6 0).trans rfl
     have y1 : w6.cell? ⟨wr.heap.size, 1, none⟩ = some (.string f1) := (blk_cell b6 1).trans rfl
     clear hb6 x3 p1 p2 HF B5 hx0 hx1 hx2 b6 hB hm1 hm2
     by_cases q : findB f0 f1 ys 0 < 0
     ·have HG : Aside0 ((xs.take (j + 1)).flatMap (goneOf ys) = L ++ [⟨1, f0, f1, noneS, []⟩]) := ⟨by rw [HNX.out]; unfold goneOf; rw [if_pos q]; rfl⟩
      go_wp2_with (at_builtin; (refine Sh.app (A := changeS) (w0 := w) (base := w.heap.size) (b := w.heap.size + 2) (xs := L) (F := F) (G := []) (x := ⟨1, f0, f1, noneS, []⟩) (us := [.int .i64 1, .string f0, .string f1, .string noneS, .slice none 0 0]) (W := w6) (v := .slice Ad L.length e5) (.agg #[.int .i64 0, .string ⟨#[]⟩, .string ⟨#[]⟩, .string ⟨#[]⟩, .slice none 0 0]) 80 (.tmp 38) (.tmp 44) 65 HF6.out ?hx ?hd B6.out (by omega) ?hl rfl rfl Tryd.underlying65 infoChange rfl (by decide) (by decide) ?hbase rfl ?hy ?h1 ?_))
      case hx => exact change_ow (Sh.row_nil _ _ _ _)
      case hd => exact fun y hy => by cases hy
      case hl => omega
      case hbase => have := q2.out; have := blk_lt this; omega
      case hy => simp [Act.eval]
      case h1 => intro u hu; simp at hu; rcases hu with rfl | rfl | rfl | rfl | rfl <;> rfl
      intro v3 w3 F3 ho3 hb3 _ hg3
      have r1 := Aside0.mk (chs_keep hg3.out (chs_base HF6.out) q1.out (by omega))
      have r2 := Aside0.mk (chs_keep hg3.out (chs_base HF6.out) q2.out (by omega))
      have hO3 : Aside0 (∃ F, changesS.ow w3 (w.heap.size + 2) [v3] ((xs.take (j + 1)).flatMap (goneOf ys)) F) := ⟨F3, by rw [HG.out]; exact ho3.out⟩
      clear ho3 hg3 y0 y1
      go_wp2
      go_roundw
      case rel => exact ⟨j + 1, by go_num, hlt, hb3, r1, r2, hO3⟩
      case measure => simp [intOf]; omega
     ·have HG : Aside0 ((xs.take (j + 1)).flatMap (goneOf ys) = L) := ⟨by rw [HNX.out]; unfold goneOf; rw [if_neg q]; simp⟩
      have HO6 : Aside0 (∃ F, changesS.ow w6 (w.heap.size + 2) [.slice Ad L.length e5] ((xs.take (j + 1)).flatMap (goneOf ys)) F) := ⟨F, by rw [HG.out]; exact HF6.out⟩
      go_wp2
      go_roundw
      case rel => exact ⟨j + 1, by go_num, hlt, B6, q1, q2, HO6⟩
      case measure => simp [intOf]; omega
    ·obtain rfl : j = xs.length := by omega
     rw [List.take_length] at hF
     have hL1 := flat_lenB (goneOf ys) 1 xs (goneOf_len ys)
     have HF := Aside0.mk hF
     have x4 : wr.cell? ⟨w.heap.size + 1, 0, none⟩ = some (.slice B ys.length d) := (blk_cell hm2.out 0).trans rfl
     have nr : w.heap.size + 2 ≤ wr.heap.size := by have := blk_lt hm2.out; omega
     rw [List.take_length]
     clear hF hO x2
     generalize xs.flatMap (goneOf ys) = L0 at *
     obtain ⟨wa, hwa⟩ : ∃ wa, wa = wr := ⟨_, rfl⟩
     subst hwa
     go_wp2
     go_loopw [5, 50] (fun (v i : Value) (wr : World) => ∃ (j : Nat), i = .int .i64 j ∧ j ≤ ys.length ∧ w.heap.size + 2 ≤ wr.heap.size ∧ Aside0 (Below w.heap.size w wr) ∧ Aside0 (wr.heap[w.heap.size]? = some (.cells #[.slice A xs.length c] 47 (0, 0))) ∧ Aside0 (∃ F, changesS.ow wr (w.heap.size + 2) [v] (L0 ++ (ys.take j).flatMap (blkOf xs)) F)) (fun _ i _ => ys.length - (intOf i).toNat)
     case atStart => exact ⟨0, rfl, Nat.zero_le _, nr, hB, hm1, ⟨F, by simpa using HF.out⟩⟩
     case round =>
      clear hB hm1 hm2 HF x4 nr hj hlt
      obtain ⟨j, rfl, hj, hN, hB, hm1, hO⟩ := hrel
      obtain ⟨F, hF⟩ := hO.out
      obtain ⟨Ad, e5, rfl⟩ := own_form hF
      by_cases hlt : j < ys.length
      ·have hll := flat_lenB (blkOf xs) 12 (ys.take j) (blkOf_len xs)
       rw [List.length_take] at hll
       have HNX := Aside0.mk (take_flat (blkOf xs) ys j hlt)
       generalize (ys.take j).flatMap (blkOf xs) = L1 at *
       have hl2 : (L0 ++ L1).length ≤ 13631488 := by rw [List.length_append]; omega
       have HNY : Aside0 (L0 ++ (ys.take (j + 1)).flatMap (blkOf xs) = L0 ++ L1 ++ blkOf xs ys[j]) := ⟨by rw [HNX.out, List.append_assoc]⟩
       clear HNX hll
       generalize L0 ++ L1 = L at *
       obtain ⟨ad, A1, c1, rfl, hx0', hx1', hx2', hl1, hC1⟩ := block_at HB.out j ys[j] (List.getElem?_eq_getElem hlt)
       have hx0 := pw_cell_below hB.out hx0'
       have hx1 := pw_cell_below hB.out hx1'
       have hx2 := pw_cell_below hB.out hx2'
       have HCY := Aside0.mk hC1
       clear hx0' hx1' hx2'
       have hsl := (SB.out.2 _ (List.getElem_mem hlt)).2.2
       generalize ys[j] = l at *
       obtain ⟨f0, f1, f2⟩ := l
       simp only at *
       have i1 : (j : Int) < (ys.length : Int) := by omega
       have a5 : Below wr.heap.size wr (wr.alloc (.cells #[.string f0, .string f1, .slice A1 f2.length c1] 62)) := (Below.refl _ _).alloc (Nat.le_refl _) _
       have b5 := Aside0.mk (blk_new wr (.cells #[.string f0, .string f1, .slice A1 f2.length c1] 62))
       have HF := Aside0.mk (changesS.obelow hF a5)
       have B5 := Aside0.mk (hB.out.trans (a5.mono hB.out.size))
       have C5 := Aside0.mk (Kd.C_below hC1 B5.out)
       have p1 := Aside0.mk (blk_below hm1.out a5)
       have x3 : (wr.alloc (.cells #[.string f0, .string f1, .slice A1 f2.length c1] 62)).cell? ⟨w.heap.size, 0, none⟩ = some (.slice A xs.length c) := (blk_cell p1.out 0).trans rfl
       have HSL := Aside0.mk hsl
       have HV := Aside0.mk (chs_lt hF)
       have HFN := Aside0.mk (fun y hy => (changesS.oin hF y hy).2)
       clear hF hO hC1 hl1 a5 hsl
       go_wp2_with fail
       generalize hW5 : wr.alloc (.cells #[.string f0, .string f1, .slice A1 f2.length c1] 62) = w5 at *
       clear hW5
       refine (at_c f0 f1 xs (by omega) A c w5 (Kd.C_below HA.out B5.out)).mono ?_
       rintro e w6 ⟨rfl, hb6⟩
       have B6 := Aside0.mk (B5.out.trans (hb6.mono B5.out.size))
       have q1 := Aside0.mk (blk_below p1.out hb6)
       have b6 := Aside0.mk (blk_below b5.out hb6)
       have HF6 := Aside0.mk (changesS.obelow HF.out hb6)
       have C6 := Aside0.mk (Kd.C_below C5.out hb6)
       have s6 : wr.heap.size < w6.heap.size := blk_lt b6.out
       clear hb6 x3 p1 HF B5 hx0 hx1 hx2 hB hm1 b5 C5
       generalize hN5 : wr.heap.size = N5 at *
       clear hN5
       by_cases q : findB f0 f1 xs 0 < 0
       ·have HG : Aside0 (L0 ++ (ys.take (j + 1)).flatMap (blkOf xs) = L ++ [⟨2, f0, f1, noneS, f2⟩]) := ⟨by rw [HNY.out]; unfold blkOf; rw [if_pos q]; rfl⟩
        clear HNY
        go_upto_region 15 with (fail)
        have U0 : w6.drew.cell? ⟨N5, 0, none⟩ = some (.string f0) := (blk_cell b6.out 0).trans rfl
        have U1 : w6.drew.cell? ⟨N5, 1, none⟩ = some (.string f1) := (blk_cell b6.out 1).trans rfl
        have U2 : w6.drew.cell? ⟨N5, 2, none⟩ = some (.slice A1 f2.length c1) := (blk_cell b6.out 2).trans rfl
        have D6 := Aside0.mk (below_drew B6.out)
        have Q1 := Aside0.mk (show w6.drew.heap[w.heap.size]? = some (.cells #[.slice A xs.length c] 47 (0, 0)) from q1.out)
        have HFd := Aside0.mk (changesS.obelow HF6.out (below_drew (Below.refl w6.heap.size w6)))
        have Cd := Aside0.mk (Kd.C_below C6.out (below_drew (Below.refl w6.heap.size w6)))
        have sd : N5 < w6.drew.heap.size := s6
        have bd := Aside0.mk (show w6.drew.heap[N5]? = some (.cells #[.string f0, .string f1, .slice A1 f2.length c1] 62 (0, 0)) from b6.out)
        clear q1 HF6 C6 B6 b6 s6
        refine start_ (n := 12) (S := (fun w' => w'.cell? ⟨N5, 0, none⟩ = some (.string f0) ∧ w'.cell? ⟨N5, 1, none⟩ = some (.string f1) ∧ w'.cell? ⟨N5, 2, none⟩ = some (.slice A1 f2.length c1))) (ds := []) (bz_ 12 0) (by kernel_rfl) rfl rfl ⟨U0, U1, U2⟩ (fun hHeld => ?_)
        generalize w6.drew = u at *
        refine pure_ (i := 0) (N := some 62) (v := ?_) (a' := ?_) (bz_ 12 1) rfl rfl (by kernel_rfl) (fun _ _ _ h => h) (Or.inl ⟨by rfl, ?_⟩) ?_ ?_
        rotate_left
        ·intro w'
         go_simp
         with_reducible rfl
        rotate_left
        ·simp only [Act.put, List.setIfInBounds_toArray, List.set_cons_zero, List.set_cons_succ, i64_w, i32_w]
         rfl
        refine pure_ (i := 1) (N := some 63) (v := ?_) (a' := ?_) (bz_ 12 3) rfl rfl (by kernel_rfl) (fun _ _ _ h => h) (Or.inl ⟨by rfl, ?_⟩) ?_ ?_
        rotate_left
        ·intro w'
         go_simp
         with_reducible rfl
        rotate_left
        ·simp only [Act.put, List.setIfInBounds_toArray, List.set_cons_zero, List.set_cons_succ, i64_w, i32_w]
         rfl
        refine take_ (i := 2) (N := some 64) (v := ?_) (a' := ?_) (bz_ 12 7) rfl rfl (by kernel_rfl) (fun _ _ _ h => h) (Or.inl ⟨by rfl, ?_⟩) hHeld ?_ ?_
        rotate_left
        ·rintro w' ⟨s0, s1, s2⟩
         go_simp
         with_reducible rfl
        rotate_left
        ·simp only [Act.put, List.setIfInBounds_toArray, List.set_cons_zero, List.set_cons_succ, i64_w, i32_w]
         rfl
        refine pure_ (i := 3) (N := some 65) (v := ?_) (a' := ?_) (bz_ 12 15) rfl rfl (by kernel_rfl) (fun _ _ _ h => h) (Or.inl ⟨by rfl, ?_⟩) ?_ ?_
        rotate_left
        ·intro w'
         go_simp
         with_reducible rfl
        rotate_left
        ·simp only [Act.put, List.setIfInBounds_toArray, List.set_cons_zero, List.set_cons_succ, i64_w, i32_w]
         rfl
        refine take_ (i := 4) (N := some 66) (v := ?_) (a' := ?_) (bz_ 12 31) rfl rfl (by kernel_rfl) (fun _ _ _ h => h) (Or.inl ⟨by rfl, ?_⟩) hHeld ?_ ?_
        rotate_left
        ·rintro w' ⟨s0, s1, s2⟩
         go_simp
         with_reducible rfl
        rotate_left
        ·simp only [Act.put, List.setIfInBounds_toArray, List.set_cons_zero, List.set_cons_succ, i64_w, i32_w]
         rfl
        refine pure_ (i := 5) (N := some 67) (v := ?_) (a' := ?_) (bz_ 12 63) rfl rfl (by kernel_rfl) (fun _ _ _ h => h) (Or.inl ⟨by rfl, ?_⟩) ?_ ?_
        rotate_left
        ·intro w'
         go_simp
         with_reducible rfl
        rotate_left
        ·simp only [Act.put, List.setIfInBounds_toArray, List.set_cons_zero, List.set_cons_succ, i64_w, i32_w]
         rfl
        refine take_ (i := 6) (N := some 68) (v := ?_) (a' := ?_) (bz_ 12 127) rfl rfl (by kernel_rfl) (fun _ _ _ h => h) (Or.inl ⟨by rfl, ?_⟩) hHeld ?_ ?_
        rotate_left
        ·rintro w' ⟨s0, s1, s2⟩
         go_simp
         with_reducible rfl
        rotate_left
        ·simp only [Act.put, List.setIfInBounds_toArray, List.set_cons_zero, List.set_cons_succ, i64_w, i32_w]
         rfl
        refine one_ (i := 7) (N := some 69) (bz_ 12 255) rfl rfl (by kernel_rfl) (by decide) (fun K hK => ?_)
        refine goes_ Tryd.func86 (by kernel_rfl) rfl #[.slice A1 f2.length c1] (by rfl) rfl rfl (by (try simp only [List.map_toArray, List.map_cons, List.map_nil]); first | done | rfl) ?_
        with_reducible refine (cloneLines_any f2 HSL.out A1 c1 u Cd.out).mono ?_
        rintro e w7 ⟨v7, G7, rfl, ho7, hb7⟩
        refine ⟨_, rfl, ?_⟩
        have D7 := Aside0.mk (D6.out.trans (hb7.mono D6.out.size))
        have Q7 := Aside0.mk (blk_below Q1.out hb7)
        have HF7 := Aside0.mk (changesS.obelow HFd.out hb7)
        have HO7 := Aside0.mk ho7
        have hdj : ∀ y ∈ G7, y ∉ F := fun y hy hy' => by have h1 := (linesS.oin ho7 y hy).1; have h2 := (changesS.oin HFd.out y hy').2; omega
        have sd7 : N5 < w7.heap.size := by have := hb7.size; omega
        have bd7 := Aside0.mk (blk_below bd.out hb7)
        refine hK.out _ _ ⟨pw_cell_below hb7 U0, pw_cell_below hb7 U1, pw_cell_below hb7 U2⟩ (fun hHeld => ?_)
        have V := Aside0.mk hHeld
        clear hK K hHeld hb7 ho7
        refine norm_ (a' := ?_) ?_ ?_
        rotate_left
        ·show Act.put _ (some 69) _ = _
         simp only [putAll, Act.put, List.setIfInBounds_toArray, List.set_cons_zero, List.set_cons_succ, i64_w, i32_w]
         rfl
        obtain ⟨A7, d7, rfl⟩ := own_form HO7.out
        refine pure_ (i := 8) (N := some 70) (v := ?_) (a' := ?_) (bz_ 12 511) rfl rfl (by kernel_rfl) (fun _ _ _ h => h) (Or.inl ⟨by rfl, ?_⟩) ?_ ?_
        rotate_left
        ·intro w'
         go_simp
         with_reducible rfl
        rotate_left
        ·simp only [Act.put, List.setIfInBounds_toArray, List.set_cons_zero, List.set_cons_succ, i64_w, i32_w]
         rfl
        refine one_ (i := 9) (N := some 71) (bz_ 12 1023) rfl rfl (by kernel_rfl) (by decide) (fun K hK => ?_)
        refine value_ (w1 := ?_) (v := ?_) (by rfl) rfl ?_ ?_
        rotate_left 2
        ·go_simp
         constructor
         ·rfl
         ·rfl
        have a8 : Below w7.heap.size w7 (w7.alloc (.cells #[.int .i64 2, .string f0, .string f1, .string noneS, .slice A7 f2.length d7] 114)) := (Below.refl _ _).alloc (Nat.le_refl _) _
        refine hK.out _ _ ⟨pw_cell_below a8 V.out.1, pw_cell_below a8 V.out.2.1, pw_cell_below a8 V.out.2.2⟩ (fun hHeld => ?_)
        clear hK K hHeld
        refine norm_ (a' := ?_) ?_ ?_
        rotate_left
        ·show Act.put _ (some 71) _ = _
         simp only [putAll, Act.put, List.setIfInBounds_toArray, List.set_cons_zero, List.set_cons_succ, i64_w, i32_w]
         rfl
        refine one_ (i := 10) (N := some 72) (bz_ 12 2047) rfl rfl (by kernel_rfl) (by decide) (fun K hK => ?_)
        refine Sh.app_step (A := changeS) (w0 := w) (base := w.heap.size) (b := w.heap.size + 2) (xs := L) (F := F) (G := G7) (x := ⟨2, f0, f1, noneS, f2⟩) (us := [.int .i64 2, .string f0, .string f1, .string noneS, .slice A7 f2.length d7]) (W := w7) (v := .slice Ad L.length e5) (.agg #[.int .i64 0, .string ⟨#[]⟩, .string ⟨#[]⟩, .string ⟨#[]⟩, .slice none 0 0]) 80 (.tmp 62) (.tmp 71) 65 HF7.out (change_ow (linesS.olow HO7.out (by omega))) hdj D7.out (by omega) (by omega) (by rfl) rfl Tryd.underlying65 infoChange rfl (by decide) (by decide) (by omega) (by rfl) (by rfl) (fun x hx => by simp at hx; rcases hx with rfl | rfl | rfl | rfl | rfl <;> rfl) ?_
        intro v8 w8 F8 ho8 hb8 _ hg8
        have hvb := chs_base HF7.out
        have Q8 := Aside0.mk (chs_keep hg8.out hvb Q7.out (by omega))
        have b8 := grow_keep hg8.out (fun k hk e => by have := HV.out k hk; omega) bd7.out
        refine hK.out _ _ ⟨(blk_cell b8 0).trans rfl, (blk_cell b8 1).trans rfl, (blk_cell b8 2).trans rfl⟩ (fun hHeld => ?_)
        have hO8 : Aside0 (∃ F, changesS.ow w8 (w.heap.size + 2) [v8] (L0 ++ (ys.take (j + 1)).flatMap (blkOf xs)) F) := ⟨F8, by rw [HG.out]; exact ho8.out⟩
        have s8 : w.heap.size + 2 ≤ w8.heap.size := by have := blk_lt b8; omega
        clear hK K hHeld ho8 hg8 V HO7 HF7 D7 Q7 a8 hdj bd7 sd7 b8 U0 U1 U2 HFd Cd
        refine norm_ (a' := ?_) ?_ ?_
        rotate_left
        ·show Act.put _ (some 72) _ = _
         simp only [putAll, Act.put, List.setIfInBounds_toArray, List.set_cons_zero, List.set_cons_succ, i64_w, i32_w]
         rfl
        refine pure_ (i := 11) (N := some 5) (v := ?_) (a' := ?_) (bz_ 12 4095) rfl rfl (by kernel_rfl) (fun _ _ _ h => h) (Or.inl ⟨by rfl, ?_⟩) ?_ ?_
        rotate_left
        ·intro w'
         go_simp
         with_reducible rfl
        rotate_left
        ·simp only [Act.put, List.setIfInBounds_toArray, List.set_cons_zero, List.set_cons_succ, i64_w, i32_w]
         rfl
        refine done_ (by kernel_rfl) ?_
        go_wp2
        go_roundw
        case rel => exact ⟨j + 1, by go_num, hlt, s8, hb8, Q8, hO8⟩
        case measure => simp [intOf]; omega
       ·have y0 : w6.cell? ⟨N5, 0, none⟩ = some (.string f0) := (blk_cell b6.out 0).trans rfl
        obtain ⟨nx, x, hfx, hxn, hxk, hxm⟩ := findB_hit q
        rw [Nat.zero_add] at hfx
        obtain ⟨g0, g1, g2⟩ := x
        simp only at hxk hxm
        subst hxk hxm
        have hbo : blkOf xs ⟨g0, g1, f2⟩ = (rulesL g0).flatMap (setOf ⟨g0, g1, g2⟩ ⟨g0, g1, f2⟩) := by
         unfold blkOf
         simp only
         rw [if_neg q, hfx, rdBlockAt hxn]
        have HBO := Aside0.mk hbo
        have hnx : nx < xs.length := (List.getElem?_eq_some_iff.1 hxn).1
        rw [hfx]
        have hgs := (SA.out.2 _ (List.mem_of_getElem? hxn)).2.2
        obtain ⟨adx, A2, c2, hAe, hz0, hz1, hz2, hl2x, hCx⟩ := block_at HA.out nx _ hxn
        subst hAe
        have HZ := Aside0.mk (And.intro hz0 (And.intro hz1 hz2))
        have HCX := Aside0.mk hCx
        have HGS := Aside0.mk hgs
        have hV6 : N5 ∉ F := fun h => Nat.lt_irrefl _ (HFN.out N5 h)
        clear hxn hbo hz0 hz1 hz2 hCx hgs hfx q
        go_wp2_with fail
        refine (implRules_any g0 w6).mono ?_
        rintro e w7 ⟨v7, F7, rfl, hR7, hb7⟩
        obtain ⟨A7, d7, rfl⟩ := own_form hR7
        have B7 := Aside0.mk (B6.out.trans (hb7.mono B6.out.size))
        have K7 := Aside0.mk (blk_below q1.out hb7)
        have b7 := Aside0.mk (blk_below b6.out hb7)
        have HR7 := Aside0.mk hR7
        have HF7 := Aside0.mk (changesS.obelow HF6.out hb7)
        have hdj7 : ∀ y ∈ F7, y ∉ F := fun y hy hy' => by have h1 := (rulesS.oin hR7 y hy).1; have h2 := (changesS.oin HF6.out y hy').2; omega
        have hrl := rulesL_len g0
        have h67 : w6.heap.size ≤ w7.heap.size := hb7.size
        clear hb7 hR7 B6 q1 b6 HF6 y0 C6
        go_wp2
        go_loopw [5, 77] (fun (v i : Value) (wi : World) => ∃ (k : Nat), i = .int .i64 k ∧ k ≤ (rulesL g0).length ∧ w7.heap.size ≤ wi.heap.size ∧ Aside0 (Below w.heap.size w wi) ∧ Aside0 (wi.heap[w.heap.size]? = some (.cells #[.slice (some adx) xs.length c] 47 (0, 0))) ∧ Aside0 (wi.heap[N5]? = some (.cells #[.string g0, .string g1, .slice A1 f2.length c1] 62 (0, 0))) ∧ Aside0 (rulesS.ow wi w6.heap.size [.slice A7 (rulesL g0).length d7] (rulesL g0) F7) ∧ Aside0 (∃ F, changesS.ow wi (w.heap.size + 2) [v] (L ++ ((rulesL g0).take k).flatMap (setOf ⟨g0, g1, g2⟩ ⟨g0, g1, f2⟩)) F ∧ N5 ∉ F ∧ ∀ y ∈ F7, y ∉ F)) (fun _ i _ => (rulesL g0).length - (intOf i).toNat)
        case atStart => exact ⟨0, rfl, Nat.zero_le _, Nat.le_refl _, B7, K7, b7, HR7, ⟨F, by simpa using HF7.out, hV6, hdj7⟩⟩
        case round =>
         clear B7 K7 b7 HR7 HF7 hdj7 hV6
         obtain ⟨k, rfl, hk, hwi, hBi, hKi, hbi, hRi, hOi⟩ := hrel
         obtain ⟨Fi, hFi, hNi, hDi⟩ := hOi.out
         obtain ⟨Ai, di, rfl⟩ := own_form hFi
         by_cases hkl : k < (rulesL g0).length
         ·obtain ⟨r, hrk⟩ : ∃ r, (rulesL g0)[k]? = some r := ⟨_, List.getElem?_eq_getElem hkl⟩
          have hre : (rulesL g0)[k] = r := by rw [List.getElem?_eq_getElem hkl] at hrk; injection hrk
          have HNK := Aside0.mk (take_flat (setOf ⟨g0, g1, g2⟩ ⟨g0, g1, f2⟩) (rulesL g0) k hkl)
          rw [hre] at HNK
          have hli := flat_lenB (setOf ⟨g0, g1, g2⟩ ⟨g0, g1, f2⟩) 1 ((rulesL g0).take k) (setOf_len _ _)
          rw [List.length_take] at hli
          generalize ((rulesL g0).take k).flatMap (setOf ⟨g0, g1, g2⟩ ⟨g0, g1, f2⟩) = L2 at *
          have hll : (L ++ L2).length ≤ 13631500 := by rw [List.length_append]; omega
          have HNL : Aside0 (L ++ ((rulesL g0).take (k + 1)).flatMap (setOf ⟨g0, g1, g2⟩ ⟨g0, g1, f2⟩) = L ++ L2 ++ setOf ⟨g0, g1, g2⟩ ⟨g0, g1, f2⟩ r) := ⟨by rw [HNK.out, List.append_assoc]⟩
          clear HNK hli hre
          generalize L ++ L2 = M at *
          have hrr := rdRuleAt hrk
          obtain ⟨a5, A6, c6, A8, c8, hA7, hy0, hy1, hy2, hy3, _, _, hl8, hC8⟩ := at_T36 (rules_reads hRi.out).2.2 (k : Int) (by omega) (by omega)
          rw [hrr] at hy0 hy1 hy2 hy3 hl8 hC8
          rw [Int.toNat_natCast] at hy0 hy1 hy2 hy3
          obtain ⟨r0, r1, r2, r3⟩ := r
          simp only at *
          subst hA7
          have i2 : (k : Int) < ((rulesL g0).length : Int) := by omega
          clear hrr hC8 hl8 hrk hOi
          have a8 : Below wr.heap.size wr (wr.alloc (.cells #[.string r0, .slice A6 r1.length c6, .bool r2, .slice A8 r3.length c8] 36)) := (Below.refl _ _).alloc (Nat.le_refl _) _
          have c8' := Aside0.mk (blk_new wr (.cells #[.string r0, .slice A6 r1.length c6, .bool r2, .slice A8 r3.length c8] 36))
          have B8 := Aside0.mk (hBi.out.trans (a8.mono hBi.out.size))
          have K8 := Aside0.mk (blk_below hKi.out a8)
          have b8 := Aside0.mk (blk_below hbi.out a8)
          have HR8 := Aside0.mk (rulesS.obelow hRi.out a8)
          have HF8 := Aside0.mk (changesS.obelow hFi a8)
          go_upto_region 19 with (fail)
          have CX := Aside0.mk (Kd.C_below HCX.out B8.out)
          have CY := Aside0.mk (Kd.C_below HCY.out B8.out)
          have t0 : (wr.alloc (.cells #[.string r0, .slice A6 r1.length c6, .bool r2, .slice A8 r3.length c8] 36)).cell? ⟨w.heap.size, 0, none⟩ = some (.slice (some adx) xs.length c) := (blk_cell K8.out 0).trans rfl
          have t1 : (wr.alloc (.cells #[.string r0, .slice A6 r1.length c6, .bool r2, .slice A8 r3.length c8] 36)).cell? ⟨N5, 0, none⟩ = some (.string g0) := (blk_cell b8.out 0).trans rfl
          have t2 : (wr.alloc (.cells #[.string r0, .slice A6 r1.length c6, .bool r2, .slice A8 r3.length c8] 36)).cell? ⟨N5, 1, none⟩ = some (.string g1) := (blk_cell b8.out 1).trans rfl
          have t3 : (wr.alloc (.cells #[.string r0, .slice A6 r1.length c6, .bool r2, .slice A8 r3.length c8] 36)).cell? ⟨N5, 2, none⟩ = some (.slice A1 f2.length c1) := (blk_cell b8.out 2).trans rfl
          have t4 : (wr.alloc (.cells #[.string r0, .slice A6 r1.length c6, .bool r2, .slice A8 r3.length c8] 36)).cell? ⟨wr.heap.size, 0, none⟩ = some (.string r0) := (blk_cell c8'.out 0).trans rfl
          have z0 := pw_cell_below B8.out HZ.out.1
          have z1 := pw_cell_below B8.out HZ.out.2.1
          have z2 := pw_cell_below B8.out HZ.out.2.2
          have hN8 : N5 < wr.heap.size := blk_lt hbi.out
          have hFN : ∀ y ∈ Fi, y < wr.heap.size := fun y hy => (changesS.oin hFi y hy).2
          clear hFi a8 hKi hbi hRi hBi hy0 hy1 hy2 hy3
          have s8 : (wr.alloc (.cells #[.string r0, .slice A6 r1.length c6, .bool r2, .slice A8 r3.length c8] 36)).heap.size = wr.heap.size + 1 := by simp
          generalize hW8 : (wr.alloc (.cells #[.string r0, .slice A6 r1.length c6, .bool r2, .slice A8 r3.length c8] 36)) = W8 at *
          generalize hN8e : wr.heap.size = N8 at *
          clear hW8 hN8e
          have hnxi : (nx : Int) < (xs.length : Int) := by omega
          have d8 : Below W8.heap.size W8 W8.drew := below_drew (Below.refl _ _)
          have q8 : W8.drew.heap.size = W8.heap.size := rfl
          have OX := Aside0.mk (of_r g0 g1 r0 g2 HGS.out.1 A2 c2 W8.drew (Kd.C_below CX.out d8))
          have OY := Aside0.mk (fun w' hb => of_r g0 g1 r0 f2 HSL.out.1 A1 c1 w' (Kd.C_below (Kd.C_below CY.out d8) hb))
          have B8d := Aside0.mk (B8.out.trans (d8.mono B8.out.size))
          have K8d := Aside0.mk (blk_below K8.out d8)
          have b8d := Aside0.mk (blk_below b8.out d8)
          have c8d := Aside0.mk (blk_below c8'.out d8)
          have HR8d := Aside0.mk (rulesS.obelow HR8.out d8)
          have HF8d := Aside0.mk (changesS.obelow HF8.out d8)
          replace t0 := pw_cell_below d8 t0
          replace z0 := pw_cell_below d8 z0
          replace z1 := pw_cell_below d8 z1
          replace z2 := pw_cell_below d8 z2
          replace t1 := pw_cell_below d8 t1
          replace t2 := pw_cell_below d8 t2
          replace t3 := pw_cell_below d8 t3
          replace t4 := pw_cell_below d8 t4
          clear B8 K8 b8 c8' HR8 HF8 CX CY d8
          refine start_ (n := 14) (S := (fun w' => w'.cell? ⟨w.heap.size, 0, none⟩ = some (.slice (some adx) xs.length c) ∧ w'.cell? (adx.add (nx * 3)) = some (.string g0) ∧ w'.cell? ⟨(adx.add (nx * 3)).block, (adx.add (nx * 3)).off + 1, none⟩ = some (.string g1) ∧ w'.cell? ⟨(adx.add (nx * 3)).block, (adx.add (nx * 3)).off + 2, none⟩ = some (.slice A2 g2.length c2) ∧ w'.cell? ⟨N5, 0, none⟩ = some (.string g0) ∧ w'.cell? ⟨N5, 1, none⟩ = some (.string g1) ∧ w'.cell? ⟨N5, 2, none⟩ = some (.slice A1 f2.length c1) ∧ w'.cell? ⟨N8, 0, none⟩ = some (.string r0))) (ds := []) (bz_ 14 0) (by kernel_rfl) rfl rfl ⟨t0, z0, z1, z2, t1, t2, t3, t4⟩ (fun hHeld => ?_)
          generalize W8.drew = u at *
          refine pure_ (i := 0) (N := some 81) (v := ?_) (a' := ?_) (bz_ 14 1) rfl rfl (by kernel_rfl) (fun _ _ _ h => h) (Or.inl ⟨by rfl, ?_⟩) ?_ ?_
          rotate_left
          ·intro w'
           go_simp
           with_reducible rfl
          rotate_left
          ·simp only [Act.put, List.setIfInBounds_toArray, List.set_cons_zero, List.set_cons_succ, i64_w, i32_w]
           rfl
          refine take_ (i := 1) (N := some 82) (v := ?_) (a' := ?_) (bz_ 14 3) rfl rfl (by kernel_rfl) (fun _ _ _ h => h) (Or.inl ⟨by rfl, ?_⟩) hHeld ?_ ?_
          rotate_left
          ·rintro w' ⟨s0, s1, s2, s3, s4, s5, s6, s7⟩
           go_simp
           with_reducible rfl
          rotate_left
          ·simp only [Act.put, List.setIfInBounds_toArray, List.set_cons_zero, List.set_cons_succ, i64_w, i32_w]
           rfl
          refine pure_ (i := 2) (N := some 83) (v := ?_) (a' := ?_) (bz_ 14 7) rfl rfl (by kernel_rfl) (fun _ _ _ h => h) (Or.inl ⟨by rfl, ?_⟩) ?_ ?_
          rotate_left
          ·intro w'
           go_simp
           with_reducible rfl
          rotate_left
          ·simp only [Act.put, List.setIfInBounds_toArray, List.set_cons_zero, List.set_cons_succ, i64_w, i32_w]
           rfl
          refine pure_ (i := 3) (N := some 84) (v := ?_) (a' := ?_) (bz_ 14 15) rfl rfl (by kernel_rfl) (fun _ _ _ h => h) (Or.inl ⟨by rfl, ?_⟩) ?_ ?_
          rotate_left
          ·intro w'
           go_simp
           with_reducible rfl
          rotate_left
          ·simp only [Act.put, List.setIfInBounds_toArray, List.set_cons_zero, List.set_cons_succ, i64_w, i32_w]
           rfl
          refine take_ (i := 4) (N := some 85) (v := ?_) (a' := ?_) (bz_ 14 31) rfl rfl (by kernel_rfl) (fun _ _ _ h => h) (Or.inl ⟨by rfl, ?_⟩) hHeld ?_ ?_
          rotate_left
          ·rintro w' ⟨s0, s1, s2, s3, s4, s5, s6, s7⟩
           go_simp
           with_reducible rfl
          rotate_left
          ·simp only [Act.put, List.setIfInBounds_toArray, List.set_cons_zero, List.set_cons_succ, i64_w, i32_w]
           rfl
          refine pure_ (i := 5) (N := some 86) (v := ?_) (a' := ?_) (bz_ 14 63) rfl rfl (by kernel_rfl) (fun _ _ _ h => h) (Or.inl ⟨by rfl, ?_⟩) ?_ ?_
          rotate_left
          ·intro w'
           go_simp
           with_reducible rfl
          rotate_left
          ·simp only [Act.put, List.setIfInBounds_toArray, List.set_cons_zero, List.set_cons_succ, i64_w, i32_w]
           rfl
          refine take_ (i := 6) (N := some 87) (v := ?_) (a' := ?_) (bz_ 14 127) rfl rfl (by kernel_rfl) (fun _ _ _ h => h) (Or.inl ⟨by rfl, ?_⟩) hHeld ?_ ?_
          rotate_left
          ·rintro w' ⟨s0, s1, s2, s3, s4, s5, s6, s7⟩
           go_simp
           with_reducible rfl
          rotate_left
          ·simp only [Act.put, List.setIfInBounds_toArray, List.set_cons_zero, List.set_cons_succ, i64_w, i32_w]
           rfl
          refine take_ (i := 8) (N := some 89) (v := ?_) (a' := ?_) (bz_ 14 383) rfl rfl (by kernel_rfl) (fun _ _ _ h => h) (Or.inl ⟨by rfl, ?_⟩) hHeld ?_ ?_
          rotate_left
          ·rintro w' ⟨s0, s1, s2, s3, s4, s5, s6, s7⟩
           go_simp
           with_reducible rfl
          rotate_left
          ·simp only [Act.put, List.setIfInBounds_toArray, List.set_cons_zero, List.set_cons_succ, i64_w, i32_w]
           rfl
          refine pure_ (i := 9) (N := some 90) (v := ?_) (a' := ?_) (bz_ 14 895) rfl rfl (by kernel_rfl) (fun _ _ _ h => h) (Or.inl ⟨by rfl, ?_⟩) ?_ ?_
          rotate_left
          ·intro w'
           go_simp
           with_reducible rfl
          rotate_left
          ·simp only [Act.put, List.setIfInBounds_toArray, List.set_cons_zero, List.set_cons_succ, i64_w, i32_w]
           rfl
          refine take_ (i := 10) (N := some 91) (v := ?_) (a' := ?_) (bz_ 14 1919) rfl rfl (by kernel_rfl) (fun _ _ _ h => h) (Or.inl ⟨by rfl, ?_⟩) hHeld ?_ ?_
          rotate_left
          ·rintro w' ⟨s0, s1, s2, s3, s4, s5, s6, s7⟩
           go_simp
           with_reducible rfl
          rotate_left
          ·simp only [Act.put, List.setIfInBounds_toArray, List.set_cons_zero, List.set_cons_succ, i64_w, i32_w]
           rfl
          refine one_ (i := 7) (N := some 88) (bz_ 14 2047) rfl rfl (by kernel_rfl) (by decide) (fun K hK => ?_)
          refine goes_ Tryd.func87 (by kernel_rfl) rfl #[.agg #[.string g0, .string g1, .slice A2 g2.length c2], .string r0] (by rfl) rfl rfl (by (try simp only [List.map_toArray, List.map_cons, List.map_nil]); first | done | rfl) ?_
          with_reducible refine OX.out.mono ?_
          rintro e w9 ⟨A9, d9, rfl, hC9, hb9⟩
          refine ⟨_, rfl, ?_⟩
          refine hK.out _ _ ⟨pw_cell_below hb9 t0, pw_cell_below hb9 z0, pw_cell_below hb9 z1, pw_cell_below hb9 z2, pw_cell_below hb9 t1, pw_cell_below hb9 t2, pw_cell_below hb9 t3, pw_cell_below hb9 t4⟩ (fun hHeld => ?_)
          have hb9' := Aside0.mk hb9
          have HC9 := Aside0.mk hC9
          clear hK K hHeld hC9
          refine norm_ (a' := ?_) ?_ ?_
          rotate_left
          ·show Act.put _ (some 88) _ = _
           simp only [putAll, Act.put, List.setIfInBounds_toArray, List.set_cons_zero, List.set_cons_succ, i64_w, i32_w]
           rfl
          refine one_ (i := 11) (N := some 92) (bz_ 14 4095) rfl rfl (by kernel_rfl) (by decide) (fun K hK => ?_)
          refine goes_ Tryd.func87 (by kernel_rfl) rfl #[.agg #[.string g0, .string g1, .slice A1 f2.length c1], .string r0] (by rfl) rfl rfl (by (try simp only [List.map_toArray, List.map_cons, List.map_nil]); first | done | rfl) ?_
          with_reducible refine (OY.out w9 hb9).mono ?_
          rintro e w10 ⟨A10, d10, rfl, hC10, hb10⟩
          refine ⟨_, rfl, ?_⟩
          refine hK.out _ _ ⟨pw_cell_below hb10 (pw_cell_below hb9 t0), pw_cell_below hb10 (pw_cell_below hb9 z0), pw_cell_below hb10 (pw_cell_below hb9 z1), pw_cell_below hb10 (pw_cell_below hb9 z2), pw_cell_below hb10 (pw_cell_below hb9 t1), pw_cell_below hb10 (pw_cell_below hb9 t2), pw_cell_below hb10 (pw_cell_below hb9 t3), pw_cell_below hb10 (pw_cell_below hb9 t4)⟩ (fun hHeld => ?_)
          have hb10' := Aside0.mk (hb9.trans (hb10.mono hb9.size))
          have HC10 := Aside0.mk hC10
          have HC9' := Aside0.mk (Kd.C_below HC9.out hb10)
          clear hK K hHeld hC10 HC9 hb9 hb10 hb9'
          refine norm_ (a' := ?_) ?_ ?_
          rotate_left
          ·show Act.put _ (some 92) _ = _
           simp only [putAll, Act.put, List.setIfInBounds_toArray, List.set_cons_zero, List.set_cons_succ, i64_w, i32_w]
           rfl
          refine pure_ (i := 12) (N := some 13) (v := ?_) (a' := ?_) (bz_ 14 8191) rfl rfl (by kernel_rfl) (fun _ _ _ h => h) (Or.inl ⟨by rfl, ?_⟩) ?_ ?_
          rotate_left
          ·intro w'
           go_simp
           with_reducible rfl
          rotate_left
          ·simp only [Act.put, List.setIfInBounds_toArray, List.set_cons_zero, List.set_cons_succ, i64_w, i32_w]
           rfl
          refine pure_ (i := 13) (N := some 14) (v := ?_) (a' := ?_) (bz_ 14 16383) rfl rfl (by kernel_rfl) (fun _ _ _ h => h) (Or.inl ⟨by rfl, ?_⟩) ?_ ?_
          rotate_left
          ·intro w'
           go_simp
           with_reducible rfl
          rotate_left
          ·simp only [Act.put, List.setIfInBounds_toArray, List.set_cons_zero, List.set_cons_succ, i64_w, i32_w]
           rfl
          refine done_ (by kernel_rfl) ?_
          have HST : Aside0 (setOf ⟨g0, g1, g2⟩ ⟨g0, g1, f2⟩ ⟨r0, r1, r2, r3⟩ = if sameLs (ofKey r0 g2) (ofKey r0 f2) = true then [] else [⟨whatOf (ofKey r0 f2), g0, g1, r0, ofKey r0 f2⟩]) := ⟨rfl⟩
          have so1 := ofKey_small (key := r0) HGS.out
          have so2 := Aside0.mk (ofKey_small (key := r0) HSL.out)
          have hn2 : (ofKey r0 f2).length ≤ 1048576 := so2.out.1
          clear OX OY
          generalize ofKey r0 g2 = o1 at *
          generalize ofKey r0 f2 = o2 at *
          have SM := Aside0.mk (sameLines_c o1 o2 (by have := so1.1; omega) (fun l hl => by have := (so1.2 l hl).2.1; omega) A9 A10 d9 d10 w10 HC9'.out HC10.out)
          have HB' := Aside0.mk (B8d.out.trans (hb10'.out.mono B8d.out.size))
          have HK' := Aside0.mk (blk_below K8d.out hb10'.out)
          have Hb' := Aside0.mk (blk_below b8d.out hb10'.out)
          have Hc' := Aside0.mk (blk_below c8d.out hb10'.out)
          have HR' := Aside0.mk (rulesS.obelow HR8d.out hb10'.out)
          have HF' := Aside0.mk (changesS.obelow HF8d.out hb10'.out)
          have s10 : N8 < w10.heap.size := blk_lt Hc'.out
          clear so1 HC9' hb10' B8d K8d b8d c8d HR8d HF8d t0 t1 t2 t3 t4 z0 z1 z2 hHeld
          go_wp2_with fail
          refine SM.out.mono ?_
          rintro e w11 ⟨rfl, hb11⟩
          have B11 := Aside0.mk (HB'.out.trans (hb11.mono HB'.out.size))
          have K11 := Aside0.mk (blk_below HK'.out hb11)
          have b11 := Aside0.mk (blk_below Hb'.out hb11)
          have c11 := Aside0.mk (blk_below Hc'.out hb11)
          have HR11 := Aside0.mk (rulesS.obelow HR'.out hb11)
          have HF11 := Aside0.mk (changesS.obelow HF'.out hb11)
          have HC11 := Aside0.mk (Kd.C_below HC10.out hb11)
          have s11 : N8 < w11.heap.size := blk_lt c11.out
          clear hb11 SM HB' HK' Hb' Hc' HR' HF' HC10 s10
          cases hsm : sameLs o1 o2 with
          | true =>
           have hN2 : L ++ ((rulesL g0).take (k + 1)).flatMap (setOf ⟨g0, g1, g2⟩ ⟨g0, g1, f2⟩) = M := by rw [HNL.out, HST.out, hsm]; simp
           have hO11 : Aside0 (∃ F, changesS.ow w11 (w.heap.size + 2) [.slice Ai M.length di] (L ++ ((rulesL g0).take (k + 1)).flatMap (setOf ⟨g0, g1, g2⟩ ⟨g0, g1, f2⟩)) F ∧ N5 ∉ F ∧ ∀ y ∈ F7, y ∉ F) := ⟨Fi, by rw [hN2]; exact HF11.out, hNi, hDi⟩
           clear hN2 hsm
           go_wp2
           go_roundw
           case rel => exact ⟨k + 1, by go_num, hkl, by omega, B11, K11, b11, HR11, hO11⟩
           case measure => simp [intOf]; omega
          | false =>
           have HN2 : Aside0 (L ++ ((rulesL g0).take (k + 1)).flatMap (setOf ⟨g0, g1, g2⟩ ⟨g0, g1, f2⟩) = M ++ [⟨whatOf o2, g0, g1, r0, o2⟩]) := ⟨by rw [HNL.out, HST.out, hsm]; simp⟩
           clear HNL HST hsm
           go_upto_region 21 with (fail)
           have d11 : Below w11.heap.size w11 w11.drew := below_drew (Below.refl _ _)
           have U0 : w11.drew.cell? ⟨N5, 0, none⟩ = some (.string g0) := (blk_cell b11.out 0).trans rfl
           have U1 : w11.drew.cell? ⟨N5, 1, none⟩ = some (.string g1) := (blk_cell b11.out 1).trans rfl
           have U2 : w11.drew.cell? ⟨N8, 0, none⟩ = some (.string r0) := (blk_cell c11.out 0).trans rfl
           have Bd := Aside0.mk (B11.out.trans (d11.mono B11.out.size))
           have Kd' := Aside0.mk (blk_below K11.out d11)
           have bd := Aside0.mk (blk_below b11.out d11)
           have HRd := Aside0.mk (rulesS.obelow HR11.out d11)
           have HFd := Aside0.mk (changesS.obelow HF11.out d11)
           have HCd := Aside0.mk (Kd.C_below HC11.out d11)
           have sd : N8 < w11.drew.heap.size := s11
           clear d11 B11 K11 b11 c11 HR11 HF11 HC11 s11
           refine start_ (n := 11) (S := (fun w' => w'.cell? ⟨N5, 0, none⟩ = some (.string g0) ∧ w'.cell? ⟨N5, 1, none⟩ = some (.string g1) ∧ w'.cell? ⟨N8, 0, none⟩ = some (.string r0))) (ds := [10]) (bz_ 11 0) (by kernel_rfl) rfl rfl ⟨U0, U1, U2⟩ (fun hHeld => ?_)
           generalize w11.drew = u1 at *
           refine pure_ (i := 0) (N := some 96) (v := ?_) (a' := ?_) (bz_ 11 1) rfl rfl (by kernel_rfl) (fun _ _ _ h => h) (Or.inl ⟨by rfl, ?_⟩) ?_ ?_
           rotate_left
           ·intro w'
            go_simp
            with_reducible rfl
           rotate_left
           ·simp only [Act.put, List.setIfInBounds_toArray, List.set_cons_zero, List.set_cons_succ, i64_w, i32_w]
            rfl
           refine take_ (i := 1) (N := some 97) (v := ?_) (a' := ?_) (bz_ 11 3) rfl rfl (by kernel_rfl) (fun _ _ _ h => h) (Or.inl ⟨by rfl, ?_⟩) hHeld ?_ ?_
           rotate_left
           ·rintro w' ⟨s0, s1, s2⟩
            go_simp
            with_reducible rfl
           rotate_left
           ·simp only [Act.put, List.setIfInBounds_toArray, List.set_cons_zero, List.set_cons_succ, i64_w, i32_w]
            rfl
           refine pure_ (i := 2) (N := some 98) (v := ?_) (a' := ?_) (bz_ 11 7) rfl rfl (by kernel_rfl) (fun _ _ _ h => h) (Or.inl ⟨by rfl, ?_⟩) ?_ ?_
           rotate_left
           ·intro w'
            go_simp
            with_reducible rfl
           rotate_left
           ·simp only [Act.put, List.setIfInBounds_toArray, List.set_cons_zero, List.set_cons_succ, i64_w, i32_w]
            rfl
           refine take_ (i := 3) (N := some 99) (v := ?_) (a' := ?_) (bz_ 11 15) rfl rfl (by kernel_rfl) (fun _ _ _ h => h) (Or.inl ⟨by rfl, ?_⟩) hHeld ?_ ?_
           rotate_left
           ·rintro w' ⟨s0, s1, s2⟩
            go_simp
            with_reducible rfl
           rotate_left
           ·simp only [Act.put, List.setIfInBounds_toArray, List.set_cons_zero, List.set_cons_succ, i64_w, i32_w]
            rfl
           refine pure_ (i := 4) (N := some 100) (v := ?_) (a' := ?_) (bz_ 11 31) rfl rfl (by kernel_rfl) (fun _ _ _ h => h) (Or.inl ⟨by rfl, ?_⟩) ?_ ?_
           rotate_left
           ·intro w'
            go_simp
            with_reducible rfl
           rotate_left
           ·simp only [Act.put, List.setIfInBounds_toArray, List.set_cons_zero, List.set_cons_succ, i64_w, i32_w]
            rfl
           refine take_ (i := 5) (N := some 101) (v := ?_) (a' := ?_) (bz_ 11 63) rfl rfl (by kernel_rfl) (fun _ _ _ h => h) (Or.inl ⟨by rfl, ?_⟩) hHeld ?_ ?_
           rotate_left
           ·rintro w' ⟨s0, s1, s2⟩
            go_simp
            with_reducible rfl
           rotate_left
           ·simp only [Act.put, List.setIfInBounds_toArray, List.set_cons_zero, List.set_cons_succ, i64_w, i32_w]
            rfl
           refine pure_ (i := 6) (N := some 102) (v := ?_) (a' := ?_) (bz_ 11 127) rfl rfl (by kernel_rfl) (fun _ _ _ h => h) (Or.inl ⟨by rfl, ?_⟩) ?_ ?_
           rotate_left
           ·intro w'
            go_simp
            with_reducible rfl
           rotate_left
           ·simp only [Act.put, List.setIfInBounds_toArray, List.set_cons_zero, List.set_cons_succ, i64_w, i32_w]
            rfl
           refine join_ (σ := Value × Value × Value) 1 (bz_ 11 1023) (fun s => [(103, s.1), (104, s.2.1), (15, s.2.2)]) (fun s w' => ∃ A12 d12 G12 g, s.1 = .slice A12 o2.length d12 ∧ s.2.1 = .agg #[.int .i64 3, .string g0, .string g1, .string r0, .slice A12 o2.length d12] ∧ s.2.2 = .pointer (some ⟨g, 0, none⟩) ∧ w'.heap[g]? = some (.cells #[.int .i64 0, .string ⟨#[]⟩, .string ⟨#[]⟩, .string ⟨#[]⟩, .slice none 0 0] 114 (0, 0)) ∧ linesS.ow w' u1.heap.size [.slice A12 o2.length d12] o2 G12 ∧ u1.heap.size ≤ g ∧ g ∉ G12 ∧ Below u1.heap.size u1 w') ?_ ?_
           rotate_left
           ·intro hCont
            refine two_ (i := 7) (j := 9) (Ni := some 103) (Nj := some 15) (bz_ 11 255) (bz_ 11 639) rfl rfl rfl rfl (by kernel_rfl) (by decide) (by decide) (fun K hK => ?_) (fun K hK => ?_)
            ·skip
             refine goes_ Tryd.func86 (by kernel_rfl) rfl #[.slice A10 o2.length d10] (by rfl) rfl rfl (by (try simp only [List.map_toArray, List.map_cons, List.map_nil]); first | done | rfl) ?_
             with_reducible refine (cloneLines_any o2 so2.out A10 d10 u1 HCd.out).mono ?_
             rintro e x1 ⟨v1, G1, rfl, ho1, hb1⟩
             refine ⟨_, rfl, ?_⟩
             refine hK.out _ _ ⟨pw_cell_below hb1 U0, pw_cell_below hb1 U1, pw_cell_below hb1 U2⟩ (fun hHeld => ?_)
             clear hK K hHeld
             obtain ⟨A12, d12, rfl⟩ := own_form ho1
             refine norm_ (a' := ?_) ?_ ?_
             rotate_left
             ·show Act.put _ (some 103) _ = _
              simp only [putAll, Act.put, List.setIfInBounds_toArray, List.set_cons_zero, List.set_cons_succ, i64_w, i32_w]
              rfl
             refine pure_ (i := 8) (N := some 104) (v := ?_) (a' := ?_) (bz_ 11 511) rfl rfl (by kernel_rfl) (fun _ _ _ h => h) (Or.inl ⟨by rfl, ?_⟩) ?_ ?_
             rotate_left
             ·intro w'
              go_simp
              with_reducible rfl
             rotate_left
             ·simp only [Act.put, List.setIfInBounds_toArray, List.set_cons_zero, List.set_cons_succ, i64_w, i32_w]
              rfl
             refine one_ (i := 9) (N := some 15) (bz_ 11 1023) rfl rfl (by kernel_rfl) (by decide) (fun K hK => ?_)
             refine value_ (w1 := ?_) (v := ?_) (by rfl) rfl ?_ ?_
             rotate_left 2
             ·go_simp
              constructor
              ·rfl
              ·rfl
             have a1 : Below x1.heap.size x1 (x1.alloc (.cells #[.int .i64 0, .string ⟨#[]⟩, .string ⟨#[]⟩, .string ⟨#[]⟩, .slice none 0 0] 114)) := (Below.refl _ _).alloc (Nat.le_refl _) _
             have bz := blk_new x1 (.cells #[.int .i64 0, .string ⟨#[]⟩, .string ⟨#[]⟩, .string ⟨#[]⟩, .slice none 0 0] 114)
             have H1 := hb1.trans (a1.mono hb1.size)
             refine hK.out _ _ ⟨pw_cell_below H1 U0, pw_cell_below H1 U1, pw_cell_below H1 U2⟩ (fun hHeld => ?_)
             clear hK K hHeld
             exact norm_ (by show Act.put _ (some 15) _ = _; first | (simp only [putAll, Act.put, List.setIfInBounds_toArray, List.set_cons_zero, List.set_cons_succ, World.size_alloc, i64_w, i32_w]; done) | (simp only [putAll, Act.put, List.setIfInBounds_toArray, List.set_cons_zero, List.set_cons_succ, World.size_alloc, i64_w, i32_w]; rfl)) (hCont (.slice A12 o2.length d12, .agg #[.int .i64 3, .string g0, .string g1, .string r0, .slice A12 o2.length d12], .pointer (some ⟨x1.heap.size, 0, none⟩)) _ ⟨A12, d12, G1, x1.heap.size, rfl, rfl, rfl, bz, linesS.obelow ho1 a1, hb1.size, (fun h => by have := (linesS.oin ho1 _ h).2; omega), H1⟩)
            ·skip
             refine value_ (w1 := ?_) (v := ?_) (by rfl) rfl ?_ ?_
             rotate_left 2
             ·go_simp
              constructor
              ·rfl
              ·rfl
             have a1 : Below u1.heap.size u1 (u1.alloc (.cells #[.int .i64 0, .string ⟨#[]⟩, .string ⟨#[]⟩, .string ⟨#[]⟩, .slice none 0 0] 114)) := (Below.refl _ _).alloc (Nat.le_refl _) _
             have bz := blk_new u1 (.cells #[.int .i64 0, .string ⟨#[]⟩, .string ⟨#[]⟩, .string ⟨#[]⟩, .slice none 0 0] 114)
             have sz : (u1.alloc (.cells #[.int .i64 0, .string ⟨#[]⟩, .string ⟨#[]⟩, .string ⟨#[]⟩, .slice none 0 0] 114)).heap.size = u1.heap.size + 1 := by simp
             have HC1 := Kd.C_below HCd.out a1
             generalize u1.alloc (.cells #[.int .i64 0, .string ⟨#[]⟩, .string ⟨#[]⟩, .string ⟨#[]⟩, .slice none 0 0] 114) = x1 at *
             refine hK.out _ _ ⟨pw_cell_below a1 U0, pw_cell_below a1 U1, pw_cell_below a1 U2⟩ (fun hHeld => ?_)
             clear hK K hHeld
             refine norm_ (a' := ?_) ?_ ?_
             rotate_left
             ·show Act.put _ (some 15) _ = _
              simp only [putAll, Act.put, List.setIfInBounds_toArray, List.set_cons_zero, List.set_cons_succ, i64_w, i32_w]
              rfl
             refine one_ (i := 7) (N := some 103) (bz_ 11 767) rfl rfl (by kernel_rfl) (by decide) (fun K hK => ?_)
             refine goes_ Tryd.func86 (by kernel_rfl) rfl #[.slice A10 o2.length d10] (by rfl) rfl rfl (by (try simp only [List.map_toArray, List.map_cons, List.map_nil]); first | done | rfl) ?_
             with_reducible refine (cloneLines_any o2 so2.out A10 d10 x1 HC1).mono ?_
             rintro e x2 ⟨v1, G1, rfl, ho1, hb1⟩
             refine ⟨_, rfl, ?_⟩
             have H2 := a1.trans (hb1.mono a1.size)
             refine hK.out _ _ ⟨pw_cell_below H2 U0, pw_cell_below H2 U1, pw_cell_below H2 U2⟩ (fun hHeld => ?_)
             clear hK K hHeld
             obtain ⟨A12, d12, rfl⟩ := own_form ho1
             refine norm_ (a' := ?_) ?_ ?_
             rotate_left
             ·show Act.put _ (some 103) _ = _
              simp only [putAll, Act.put, List.setIfInBounds_toArray, List.set_cons_zero, List.set_cons_succ, i64_w, i32_w]
              rfl
             refine pure_ (i := 8) (N := some 104) (v := ?_) (a' := ?_) (bz_ 11 1023) rfl rfl (by kernel_rfl) (fun _ _ _ h => h) (Or.inl ⟨by rfl, ?_⟩) ?_ ?_
             rotate_left
             ·intro w'
              go_simp
              with_reducible rfl
             rotate_left
             ·simp only [Act.put, List.setIfInBounds_toArray, List.set_cons_zero, List.set_cons_succ, i64_w, i32_w]
              rfl
             exact norm_ (by first | (simp only [putAll, Act.put, List.setIfInBounds_toArray, List.set_cons_zero, List.set_cons_succ, World.size_alloc, i64_w, i32_w]; done) | (simp only [putAll, Act.put, List.setIfInBounds_toArray, List.set_cons_zero, List.set_cons_succ, World.size_alloc, i64_w, i32_w]; rfl)) (hCont (.slice A12 o2.length d12, .agg #[.int .i64 3, .string g0, .string g1, .string r0, .slice A12 o2.length d12], .pointer (some ⟨u1.heap.size, 0, none⟩)) _ ⟨A12, d12, G1, u1.heap.size, rfl, rfl, rfl, blk_below bz hb1, linesS.olow ho1 a1.size, Nat.le_refl _, (fun h => by have := (linesS.oin ho1 _ h).1; omega), H2⟩)
           rintro ⟨v103, v104, v15⟩ w12 ⟨A12, d12, G12, g, e1, e2, e3, hz12, ho12, hg12, hng, hb12⟩
           simp only at e1 e2 e3
           subst e1 e2 e3
           refine norm_ (a' := ?_) ?_ ?_
           rotate_left
           ·show putAll _ _ = _
            simp only [putAll, Act.put, List.setIfInBounds_toArray, List.set_cons_zero, List.set_cons_succ, i64_w, i32_w]
            rfl
           refine last_ (i := 10) (N := none) (bz_ 11 2047) rfl rfl (by kernel_rfl) (by decide) (fun K hK => ?_)
           have q0 : w12.cell? ⟨g, 0, none⟩ = some (.int .i64 0) := (blk_cell hz12 0).trans rfl
           have q1 : w12.cell? ⟨g, 1, none⟩ = some (.string ⟨#[]⟩) := (blk_cell hz12 1).trans rfl
           have q2 : w12.cell? ⟨g, 2, none⟩ = some (.string ⟨#[]⟩) := (blk_cell hz12 2).trans rfl
           have q3 : w12.cell? ⟨g, 3, none⟩ = some (.string ⟨#[]⟩) := (blk_cell hz12 3).trans rfl
           have q4 : w12.cell? ⟨g, 4, none⟩ = some (.slice none 0 0) := (blk_cell hz12 4).trans rfl
           have qf0 := blk_frozen hz12 0
           have qf1 := blk_frozen hz12 1
           have qf2 := blk_frozen hz12 2
           have qf3 := blk_frozen hz12 3
           have qf4 := blk_frozen hz12 4
           refine skip_ (w1 := ?_) (by rfl) rfl ?_ ?_
           rotate_left
           ·go_simp
            rfl
           refine hK.out _ _ ?_
           clear hK K
           refine done_ (by kernel_rfl) ?_
           have bz13 := blk_put (blk_put (blk_put (blk_put (blk_put hz12 0 (.int .i64 3) rfl) 1 (.string g0) rfl) 2 (.string g1) rfl) 3 (.string r0) rfl) 4 (.slice A12 o2.length d12) rfl
           have hb13 : Below u1.heap.size u1 (((((w12.setCell ⟨g, 0, none⟩ (.int .i64 3)).setCell ⟨g, 1, none⟩ (.string g0)).setCell ⟨g, 2, none⟩ (.string g1)).setCell ⟨g, 3, none⟩ (.string r0)).setCell ⟨g, 4, none⟩ (.slice A12 o2.length d12)) := ((((hb12.setCell (p := ⟨g, 0, none⟩) hg12 _).setCell (p := ⟨g, 1, none⟩) hg12 _).setCell (p := ⟨g, 2, none⟩) hg12 _).setCell (p := ⟨g, 3, none⟩) hg12 _).setCell (p := ⟨g, 4, none⟩) hg12 _
           have hu13 : Upd [g] w12 (((((w12.setCell ⟨g, 0, none⟩ (.int .i64 3)).setCell ⟨g, 1, none⟩ (.string g0)).setCell ⟨g, 2, none⟩ (.string g1)).setCell ⟨g, 3, none⟩ (.string r0)).setCell ⟨g, 4, none⟩ (.slice A12 o2.length d12)) := upd_in (upd_in (upd_in (upd_in (upd_cell _ _ _ _) (upd_cell _ _ _ _) (fun _ h => h)) (upd_cell _ _ _ _) (fun _ h => h)) (upd_cell _ _ _ _) (fun _ h => h)) (upd_cell _ _ _ _) (fun _ h => h)
           have ho13 := linesS.oupd ho12 hu13 (fun y hy hy' => by simp at hy'; subst hy'; exact hng hy)
           clear q0 q1 q2 q3 q4 qf0 qf1 qf2 qf3 qf4 hz12 ho12 hb12 hu13 U0 U1 U2 hHeld
           generalize ((((w12.setCell ⟨g, 0, none⟩ (.int .i64 3)).setCell ⟨g, 1, none⟩ (.string g0)).setCell ⟨g, 2, none⟩ (.string g1)).setCell ⟨g, 3, none⟩ (.string r0)).setCell ⟨g, 4, none⟩ (.slice A12 o2.length d12) = W13 at *
           obtain ⟨wo, hwo⟩ : ∃ wo, wo = whatOf o2 := ⟨_, rfl⟩
           rw [← hwo] at HN2
           by_cases hz : ((o2.length : Nat) : Int) = 0
           ·have hw : wo = 4 := by rw [hwo]; unfold whatOf; rw [if_pos (by omega)]
            have q0 : W13.cell? ⟨g, 0, none⟩ = some (.int .i64 3) := (blk_cell bz13 0).trans rfl
            have qf := blk_frozen bz13 0
            have bz14 : Aside0 ((W13.setCell ⟨g, 0, none⟩ (.int .i64 4)).heap[g]? = some (.cells #[.int .i64 wo, .string g0, .string g1, .string r0, .slice A12 o2.length d12] 114 (0, 0))) := ⟨by rw [hw]; exact blk_put bz13 0 _ rfl⟩
            have ho14 := Aside0.mk (linesS.oupd ho13 (upd_cell W13 g 0 (.int .i64 4)) (fun y hy hy' => by simp at hy'; subst hy'; exact hng hy))
            have hb14 := Aside0.mk (hb13.setCell (p := ⟨g, 0, none⟩) hg12 (.int .i64 4))
            clear bz13 hb13 ho13 hwo
            go_upto_region 24 with (fail)
            clear q0 qf hw
            generalize W13.setCell ⟨g, 0, none⟩ (.int .i64 4) = W14 at *
            have z0 : W14.cell? ⟨g, 0, none⟩ = some (.int .i64 wo) := (blk_cell bz14.out 0).trans rfl
            have z1 : W14.cell? ⟨g, 1, none⟩ = some (.string g0) := (blk_cell bz14.out 1).trans rfl
            have z2 : W14.cell? ⟨g, 2, none⟩ = some (.string g1) := (blk_cell bz14.out 2).trans rfl
            have z3 : W14.cell? ⟨g, 3, none⟩ = some (.string r0) := (blk_cell bz14.out 3).trans rfl
            have z4 : W14.cell? ⟨g, 4, none⟩ = some (.slice A12 o2.length d12) := (blk_cell bz14.out 4).trans rfl
            have B14 := Aside0.mk (Bd.out.trans (hb14.out.mono Bd.out.size))
            have K14 := Aside0.mk (blk_below Kd'.out hb14.out)
            have b14 := Aside0.mk (blk_below bd.out hb14.out)
            have HR14 := Aside0.mk (rulesS.obelow HRd.out hb14.out)
            have HF14 := Aside0.mk (changesS.obelow HFd.out hb14.out)
            have hs14 : u1.heap.size ≤ W14.heap.size := hb14.out.size
            have hdj : ∀ y ∈ G12, y ∉ Fi := fun y hy hy' => by have h1 := (linesS.oin ho14.out y hy).1; have h2 := (changesS.oin HFd.out y hy').2; omega
            have hG5 : N5 ∉ G12 := fun h => by have h1 := (linesS.oin ho14.out N5 h).1; omega
            have hG7 : ∀ y ∈ F7, y ∉ G12 ∧ y < u1.heap.size := fun y hy => ⟨fun h => by have h1 := (linesS.oin ho14.out y h).1; have h2 := (rulesS.oin HRd.out y hy).2; omega, (rulesS.oin HRd.out y hy).2⟩
            go_wp2_with (at_builtin; (refine Sh.app (A := changeS) (w0 := w) (base := w.heap.size) (b := w.heap.size + 2) (xs := M) (F := Fi) (G := G12) (x := ⟨wo, g0, g1, r0, o2⟩) (us := [.int .i64 wo, .string g0, .string g1, .string r0, .slice A12 o2.length d12]) (W := W14) (v := .slice Ai M.length di) (.agg #[.int .i64 0, .string ⟨#[]⟩, .string ⟨#[]⟩, .string ⟨#[]⟩, .slice none 0 0]) 80 (.tmp 109) (.tmp 111) 65 HF14.out ?hx hdj B14.out (by omega) ?hl rfl rfl Tryd.underlying65 infoChange rfl (by decide) (by decide) ?hbase rfl ?hy ?h1 ?_))
            case hx => exact change_ow (linesS.olow ho14.out (by omega))
            case hl => omega
            case hbase => omega
            case hy => simp [Act.eval]
            case h1 => intro u hu; simp at hu; rcases hu with rfl | rfl | rfl | rfl | rfl <;> rfl
            intro v15 w15 F15 ho15 hb15 hF15 hg15
            have K15 := Aside0.mk (chs_keep hg15.out (chs_base HF14.out) K14.out (by omega))
            have b15 := Aside0.mk (grow_keep (g := N5) hg15.out (fun k hk e => by subst e; exact hNi (chs_own HF14.out _ hk)) b14.out)
            have HR15 := Aside0.mk (rulesS.oframe HR14.out (fun y hy => hg15.out.block y (rulesS.oin HR14.out y hy).2 (fun e => hDi y hy (chs_own HF14.out y e.symm))))
            have hO15 : Aside0 (∃ F, changesS.ow w15 (w.heap.size + 2) [v15] (L ++ ((rulesL g0).take (k + 1)).flatMap (setOf ⟨g0, g1, g2⟩ ⟨g0, g1, f2⟩)) F ∧ N5 ∉ F ∧ ∀ y ∈ F7, y ∉ F) := ⟨F15, by rw [HN2.out]; exact ho15.out, fun h => by
             rcases hF15.out N5 h with h | h | h
             ·exact hNi h
             ·exact hG5 h
             ·omega, fun y hy h => by
             have h7 := hG7 y hy
             rcases hF15.out y h with h | h | h
             ·exact hDi y hy h
             ·exact h7.1 h
             ·omega⟩
            have s15 : w7.heap.size ≤ w15.heap.size := by have := hg15.out.size; omega
            clear ho15 hg15 hF15 z0 z1 z2 z3 z4 HF14 hdj hG5 hG7 bz14 ho14 hb14 B14 K14 b14 HR14
            go_wp2
            go_roundw
            case rel => exact ⟨k + 1, by go_num, hkl, s15, hb15, K15, b15, HR15, hO15⟩
            case measure => simp [intOf]; omega
           ·have hw : wo = 3 := by rw [hwo]; unfold whatOf; rw [if_neg (by omega)]
            have bz14 : Aside0 (W13.heap[g]? = some (.cells #[.int .i64 wo, .string g0, .string g1, .string r0, .slice A12 o2.length d12] 114 (0, 0))) := ⟨by rw [hw]; exact bz13⟩
            have ho14 := Aside0.mk ho13
            have hb14 := Aside0.mk hb13
            clear bz13 hb13 ho13 hwo hw
            go_upto_region 24 with (fail)
            generalize W13 = W14 at *
            have z0 : W14.cell? ⟨g, 0, none⟩ = some (.int .i64 wo) := (blk_cell bz14.out 0).trans rfl
            have z1 : W14.cell? ⟨g, 1, none⟩ = some (.string g0) := (blk_cell bz14.out 1).trans rfl
            have z2 : W14.cell? ⟨g, 2, none⟩ = some (.string g1) := (blk_cell bz14.out 2).trans rfl
            have z3 : W14.cell? ⟨g, 3, none⟩ = some (.string r0) := (blk_cell bz14.out 3).trans rfl
            have z4 : W14.cell? ⟨g, 4, none⟩ = some (.slice A12 o2.length d12) := (blk_cell bz14.out 4).trans rfl
            have B14 := Aside0.mk (Bd.out.trans (hb14.out.mono Bd.out.size))
            have K14 := Aside0.mk (blk_below Kd'.out hb14.out)
            have b14 := Aside0.mk (blk_below bd.out hb14.out)
            have HR14 := Aside0.mk (rulesS.obelow HRd.out hb14.out)
            have HF14 := Aside0.mk (changesS.obelow HFd.out hb14.out)
            have hs14 : u1.heap.size ≤ W14.heap.size := hb14.out.size
            have hdj : ∀ y ∈ G12, y ∉ Fi := fun y hy hy' => by have h1 := (linesS.oin ho14.out y hy).1; have h2 := (changesS.oin HFd.out y hy').2; omega
            have hG5 : N5 ∉ G12 := fun h => by have h1 := (linesS.oin ho14.out N5 h).1; omega
            have hG7 : ∀ y ∈ F7, y ∉ G12 ∧ y < u1.heap.size := fun y hy => ⟨fun h => by have h1 := (linesS.oin ho14.out y h).1; have h2 := (rulesS.oin HRd.out y hy).2; omega, (rulesS.oin HRd.out y hy).2⟩
            go_wp2_with (at_builtin; (refine Sh.app (A := changeS) (w0 := w) (base := w.heap.size) (b := w.heap.size + 2) (xs := M) (F := Fi) (G := G12) (x := ⟨wo, g0, g1, r0, o2⟩) (us := [.int .i64 wo, .string g0, .string g1, .string r0, .slice A12 o2.length d12]) (W := W14) (v := .slice Ai M.length di) (.agg #[.int .i64 0, .string ⟨#[]⟩, .string ⟨#[]⟩, .string ⟨#[]⟩, .slice none 0 0]) 80 (.tmp 109) (.tmp 111) 65 HF14.out ?hx hdj B14.out (by omega) ?hl rfl rfl Tryd.underlying65 infoChange rfl (by decide) (by decide) ?hbase rfl ?hy ?h1 ?_))
            case hx => exact change_ow (linesS.olow ho14.out (by omega))
            case hl => omega
            case hbase => omega
            case hy => simp [Act.eval]
            case h1 => intro u hu; simp at hu; rcases hu with rfl | rfl | rfl | rfl | rfl <;> rfl
            intro v15 w15 F15 ho15 hb15 hF15 hg15
            have K15 := Aside0.mk (chs_keep hg15.out (chs_base HF14.out) K14.out (by omega))
            have b15 := Aside0.mk (grow_keep (g := N5) hg15.out (fun k hk e => by subst e; exact hNi (chs_own HF14.out _ hk)) b14.out)
            have HR15 := Aside0.mk (rulesS.oframe HR14.out (fun y hy => hg15.out.block y (rulesS.oin HR14.out y hy).2 (fun e => hDi y hy (chs_own HF14.out y e.symm))))
            have hO15 : Aside0 (∃ F, changesS.ow w15 (w.heap.size + 2) [v15] (L ++ ((rulesL g0).take (k + 1)).flatMap (setOf ⟨g0, g1, g2⟩ ⟨g0, g1, f2⟩)) F ∧ N5 ∉ F ∧ ∀ y ∈ F7, y ∉ F) := ⟨F15, by rw [HN2.out]; exact ho15.out, fun h => by
             rcases hF15.out N5 h with h | h | h
             ·exact hNi h
             ·exact hG5 h
             ·omega, fun y hy h => by
             have h7 := hG7 y hy
             rcases hF15.out y h with h | h | h
             ·exact hDi y hy h
             ·exact h7.1 h
             ·omega⟩
            have s15 : w7.heap.size ≤ w15.heap.size := by have := hg15.out.size; omega
            clear ho15 hg15 hF15 z0 z1 z2 z3 z4 HF14 hdj hG5 hG7 bz14 ho14 hb14 B14 K14 b14 HR14
            go_wp2
            go_roundw
            case rel => exact ⟨k + 1, by go_num, hkl, s15, hb15, K15, b15, HR15, hO15⟩
            case measure => simp [intOf]; omega
         ·obtain rfl : k = (rulesL g0).length := by omega
          rw [List.take_length, ← HBO.out, ← HNY.out] at hFi
          rw [List.take_length, ← HBO.out, ← HNY.out]
          have hO9 : Aside0 (∃ F, changesS.ow wr (w.heap.size + 2) [.slice Ai (L0 ++ (ys.take (j + 1)).flatMap (blkOf xs)).length di] (L0 ++ (ys.take (j + 1)).flatMap (blkOf xs)) F) := ⟨Fi, hFi⟩
          have n9 : w.heap.size + 2 ≤ wr.heap.size := by omega
          clear hFi hOi
          go_wp2
          go_roundw
          case rel => exact ⟨j + 1, by go_num, hlt, n9, hBi, hKi, hO9⟩
          case measure => simp [intOf]; omega
      ·obtain rfl : j = ys.length := by omega
       rw [List.take_length, HRe.out] at hF
       rw [List.take_length, HRe.out]
       have HF := Aside0.mk hF
       clear hF hO
       go_wp2
       go_ret
       exact ⟨_, F, rfl, changesS.olow HF.out (Nat.le_add_right _ _), hB.out⟩
end Go.Proofs.YtmcdnpooclelgaaDoor.PAll
namespace Go.Proofs.YtmcdnpooclelgaaDoor.PAll
open Go.RowKit Go.Proofs.YtmcdnpooclelgaaDoorW.PrintWords Go.Proofs.YtmcdnpooclelgaaDoorW.PrintLast Go.Proofs.YtmcdnpooclelgaaDoorW.PrintMore
attribute [local go_sem] max2_int min2_int max_two min_two max_three min_three max_four min_four   -- for this text's walks alone
def spec_l7Same.l0 : Nat → List (S83) → List (S83) → Int → Option (Bool)
 | 0, _, _, _ => none
 | k + 1, x0, x1, x5 => if x5 < (x0.length : Int) then (if 0 ≤ x5 then (if x5 < (x1.length : Int) then (if ((rd_T83 x0 x5).f0).toList = ((rd_T83 x1 x5).f0).toList then ((spec_l3Words.f k ((rd_T83 x0 x5).f1) ((rd_T83 x1 x5).f1)).bind fun t788 => (if t788 = true then (spec_l7Same.l0 k x0 x1 (wrap64 (x5 + 1))) else (some false))) else (some false)) else (none)) else (none)) else (some true)
def spec_l7Same.f (k : Nat) (l0 : List (S83)) (l1 : List (S83)) : Option (Bool) := if (l0.length : Int) = (l1.length : Int) then (spec_l7Same.l0 k l0 l1 0) else (some false)
set_option maxHeartbeats 8000000 in
set_option maxRecDepth 100000 in
theorem spec_l7Same.calls (k : Nat) (A0 : Option Addr) (c0 : Nat) (l0 : List (S83)) (A1 : Option Addr) (c1 : Nat) (l1 : List (S83)) (r : Bool) (w : World) (hr0 : Kd.C k83 w A0 l0.length l0) (hc0 : l0.length ≤ c0) (hr1 : Kd.C k83 w A1 l1.length l1) (hc1 : l1.length ≤ c1) (h : spec_l7Same.f k l0 l1 = some r) :
  Calls Tryd.prog 130 #[.slice A0 l0.length c0, .slice A1 l1.length c1] w fun e w' => e = .returned (.bool r) ∧ Drawn0 w w' := by
 have HR0 := Aside0.mk hr0
 have HC0 := Aside0.mk hc0
 clear hr0 hc0
 have HR1 := Aside0.mk hr1
 have HC1 := Aside0.mk hc1
 clear hr1 hc1
 have H : (if (l0.length : Int) = (l1.length : Int) then (spec_l7Same.l0 k l0 l1 0) else (some false)) = some r := h
 clear h
 by_cases c3 : (l0.length : Int) = (l1.length : Int)
 ·rw [if_pos c3] at H
  have c3b0 : ((l0.length : Int) == (l1.length : Int)) = true := beq_iff_eq.mpr c3
  have c3b1 : ((l0.length : Int) != (l1.length : Int)) = false := bne_eq_false_iff_eq.mpr c3
  have c3b2 : (l0.length == l1.length) = true := by first | simpa using c3 | (simp at c3 ⊢; omega)
  clear c3
  have H' := Aside0.mk H
  clear H
  go_enter Tryd.func130, Tryd.ntmps130
  go_wp2
  repeat (go_quiet (fail); try go_wp2)
  go_loopg [5] k (fun kq v5 w' => ∃ (x5_1 : Int), v5 = .int .i64 x5_1 ∧ Aside0 (spec_l7Same.l0 kq l0 l1 x5_1 = some r) ∧ Aside0 (kq ≤ k) ∧ Drawn0 w w')
  case atStart => exact ⟨(0), (by first | rfl | (simp; done) | (simp [*]; done)), H', ⟨Nat.le_refl _⟩, by repeat (first | exact Drawn0.refl _ | apply Drawn0.step)⟩
  case round =>
   clear H'
   try clear c1
   try clear p2
   try clear c3
   try clear c3b0
   try clear c3b1
   try clear c3b2
   obtain ⟨x5_1, rfl, HA, HK1, ⟨m1, rfl⟩⟩ := hrel
   cases gk with
   | zero => exact absurd HA.out (by simp [spec_l7Same.l0])
   | succ k1 =>
    have H := HA.out
    clear HA
    simp only [spec_l7Same.l0] at H
    by_cases c4 : x5_1 < (l0.length : Int)
    ·rw [if_pos c4] at H
     have c4b0 : decide (x5_1 < (l0.length : Int)) = true := decide_eq_true c4
     clear c4
     by_cases c5 : 0 ≤ x5_1
     ·rw [if_pos c5] at H
      have c5b0 : decide (0 ≤ x5_1) = true := decide_eq_true c5
      clear c5
      by_cases c6 : x5_1 < (l1.length : Int)
      ·rw [if_pos c6] at H
       have c6b0 : decide (x5_1 < (l1.length : Int)) = true := decide_eq_true c6
       clear c6
       by_cases c7 : ((rd_T83 l0 x5_1).f0).toList = ((rd_T83 l1 x5_1).f0).toList
       ·rw [if_pos c7] at H
        have c7b0 : (((rd_T83 l0 x5_1).f0).toList == ((rd_T83 l1 x5_1).f0).toList) = true := beq_iff_eq.mpr c7
        have c7b1 : (((rd_T83 l0 x5_1).f0).toList != ((rd_T83 l1 x5_1).f0).toList) = false := bne_eq_false_iff_eq.mpr c7
        clear c7
        replace H := Option.bind_eq_some_iff.mp H
        obtain ⟨t788, A80, H⟩ := H
        replace H : (if t788 = true then (spec_l7Same.l0 k1 l0 l1 (wrap64 (x5_1 + 1))) else (some false)) = some r := H
        have A8 := Aside0.mk A80
        clear A80
        by_cases c9 : t788 = true
        ·subst c9
         have H1 : (spec_l7Same.l0 k1 l0 l1 (wrap64 (x5_1 + 1))) = some r := by rw [if_pos rfl] at H; exact H
         clear H
         have H := H1
         clear H1
         have H' := Aside0.mk H
         clear H
         have p784 : 0 ≤ (x5_1 : Int) := of_decide_eq_true (by first | (with_reducible assumption) | assumption)
         have q784 : x5_1 < (l0.length : Int) := of_decide_eq_true (by first | (with_reducible assumption) | assumption)
         obtain ⟨ad784, A784_1, c784_1, e784, hx784_0, hx784_1, hl784_1, hi784_1⟩ := at_T83 HR0.out x5_1 p784 q784
         cases e784
         have HR784_1 := Aside0.mk hi784_1
         have HC784_1 := Aside0.mk hl784_1
         clear hi784_1 hl784_1
         replace p784 := eq_true p784
         replace q784 := eq_true q784
         have p785 : 0 ≤ (x5_1 : Int) := of_decide_eq_true (by first | (with_reducible assumption) | assumption)
         have q785 : x5_1 < (l1.length : Int) := of_decide_eq_true (by first | (with_reducible assumption) | assumption)
         obtain ⟨ad785, A785_1, c785_1, e785, hx785_0, hx785_1, hl785_1, hi785_1⟩ := at_T83 HR1.out x5_1 p785 q785
         cases e785
         have HR785_1 := Aside0.mk hi785_1
         have HC785_1 := Aside0.mk hl785_1
         clear hi785_1 hl785_1
         replace p785 := eq_true p785
         replace q785 := eq_true q785
         have p786 : 0 ≤ (x5_1 : Int) := of_decide_eq_true (by first | (with_reducible assumption) | assumption)
         have q786 : x5_1 < (l0.length : Int) := of_decide_eq_true (by first | (with_reducible assumption) | assumption)
         obtain ⟨ad786, A786_1, c786_1, e786, hx786_0, hx786_1, hl786_1, hi786_1⟩ := at_T83 HR0.out x5_1 p786 q786
         obtain rfl : ad784 = ad786 := (by injection e786)
         have HR786_1 := Aside0.mk hi786_1
         have HC786_1 := Aside0.mk hl786_1
         clear hi786_1 hl786_1
         replace p786 := eq_true p786
         replace q786 := eq_true q786
         have ea_ := Option.some.inj (hx784_1.symm.trans hx786_1)
         injection ea_ with ea_ en_ ec_
         subst ea_
         subst ec_
         clear en_
         have p787 : 0 ≤ (x5_1 : Int) := of_decide_eq_true (by first | (with_reducible assumption) | assumption)
         have q787 : x5_1 < (l1.length : Int) := of_decide_eq_true (by first | (with_reducible assumption) | assumption)
         obtain ⟨ad787, A787_1, c787_1, e787, hx787_0, hx787_1, hl787_1, hi787_1⟩ := at_T83 HR1.out x5_1 p787 q787
         obtain rfl : ad785 = ad787 := (by injection e787)
         have HR787_1 := Aside0.mk hi787_1
         have HC787_1 := Aside0.mk hl787_1
         clear hi787_1 hl787_1
         replace p787 := eq_true p787
         replace q787 := eq_true q787
         have ea_ := Option.some.inj (hx785_1.symm.trans hx787_1)
         injection ea_ with ea_ en_ ec_
         subst ea_
         subst ec_
         clear en_
         go_wp2_with (first | (go_at_call 95; (with_reducible refine (spec_l3Words.calls k1 _ _ ((rd_T83 l0 x5_1).f1) _ _ ((rd_T83 l1 x5_1).f1) true _ ?side1 ?side2 ?side3 ?side4 A8.out).mono ?_); (case side1 => repeat (first | exact HR786_1.out | (with_reducible refine Kd.C_alloc ?_ _) | (with_reducible refine Kd.C_drewN ?_ _) | (with_reducible refine Kd.C_drew ?_))); (case side2 => exact HC786_1.out); (case side3 => repeat (first | exact HR787_1.out | (with_reducible refine Kd.C_alloc ?_ _) | (with_reducible refine Kd.C_drewN ?_ _) | (with_reducible refine Kd.C_drew ?_))); (case side4 => exact HC787_1.out); rintro e w' ⟨rfl, ⟨nd, rfl⟩⟩; (try first | exact ⟨rfl, _, World.drewN_drewN _ _ _⟩ | exact ⟨rfl, _, Eq.trans (World.drewN_drewN _ _ _) (congrArg (World.drewN _) (Nat.add_assoc _ _ _))⟩)))
         repeat (go_quiet (first | (go_at_call 95; (with_reducible refine (spec_l3Words.calls k1 _ _ ((rd_T83 l0 x5_1).f1) _ _ ((rd_T83 l1 x5_1).f1) true _ ?side1 ?side2 ?side3 ?side4 A8.out).mono ?_); (case side1 => repeat (first | exact HR786_1.out | (with_reducible refine Kd.C_alloc ?_ _) | (with_reducible refine Kd.C_drewN ?_ _) | (with_reducible refine Kd.C_drew ?_))); (case side2 => exact HC786_1.out); (case side3 => repeat (first | exact HR787_1.out | (with_reducible refine Kd.C_alloc ?_ _) | (with_reducible refine Kd.C_drewN ?_ _) | (with_reducible refine Kd.C_drew ?_))); (case side4 => exact HC787_1.out); rintro e w' ⟨rfl, ⟨nd, rfl⟩⟩; (try first | exact ⟨rfl, _, World.drewN_drewN _ _ _⟩ | exact ⟨rfl, _, Eq.trans (World.drewN_drewN _ _ _) (congrArg (World.drewN _) (Nat.add_assoc _ _ _))⟩))); try go_wp2_with (first | (go_at_call 95; (with_reducible refine (spec_l3Words.calls k1 _ _ ((rd_T83 l0 x5_1).f1) _ _ ((rd_T83 l1 x5_1).f1) true _ ?side1 ?side2 ?side3 ?side4 A8.out).mono ?_); (case side1 => repeat (first | exact HR786_1.out | (with_reducible refine Kd.C_alloc ?_ _) | (with_reducible refine Kd.C_drewN ?_ _) | (with_reducible refine Kd.C_drew ?_))); (case side2 => exact HC786_1.out); (case side3 => repeat (first | exact HR787_1.out | (with_reducible refine Kd.C_alloc ?_ _) | (with_reducible refine Kd.C_drewN ?_ _) | (with_reducible refine Kd.C_drew ?_))); (case side4 => exact HC787_1.out); rintro e w' ⟨rfl, ⟨nd, rfl⟩⟩; (try first | exact ⟨rfl, _, World.drewN_drewN _ _ _⟩ | exact ⟨rfl, _, Eq.trans (World.drewN_drewN _ _ _) (congrArg (World.drewN _) (Nat.add_assoc _ _ _))⟩))))
         go_roundg k1
         case measure => have := HK1.out; omega
         case rel => exact ⟨(wrap64 (x5_1 + 1)), (by first | rfl | (simp; done) | (simp [*]; done)), H', ⟨by have := HK1.out; omega⟩, by repeat (first | exact Drawn0.refl _ | apply Drawn0.step)⟩
        ·replace c9 := Bool.eq_false_iff.mpr c9
         subst c9
         have H1 : (some false) = some r := by rw [if_neg (show ¬ (false = true) by decide)] at H; exact H
         clear H
         have H := H1
         clear H1
         obtain rfl := Option.some.inj H
         have p784 : 0 ≤ (x5_1 : Int) := of_decide_eq_true (by first | (with_reducible assumption) | assumption)
         have q784 : x5_1 < (l0.length : Int) := of_decide_eq_true (by first | (with_reducible assumption) | assumption)
         obtain ⟨ad784, A784_1, c784_1, e784, hx784_0, hx784_1, hl784_1, hi784_1⟩ := at_T83 HR0.out x5_1 p784 q784
         cases e784
         have HR784_1 := Aside0.mk hi784_1
         have HC784_1 := Aside0.mk hl784_1
         clear hi784_1 hl784_1
         replace p784 := eq_true p784
         replace q784 := eq_true q784
         have p785 : 0 ≤ (x5_1 : Int) := of_decide_eq_true (by first | (with_reducible assumption) | assumption)
         have q785 : x5_1 < (l1.length : Int) := of_decide_eq_true (by first | (with_reducible assumption) | assumption)
         obtain ⟨ad785, A785_1, c785_1, e785, hx785_0, hx785_1, hl785_1, hi785_1⟩ := at_T83 HR1.out x5_1 p785 q785
         cases e785
         have HR785_1 := Aside0.mk hi785_1
         have HC785_1 := Aside0.mk hl785_1
         clear hi785_1 hl785_1
         replace p785 := eq_true p785
         replace q785 := eq_true q785
         have p786 : 0 ≤ (x5_1 : Int) := of_decide_eq_true (by first | (with_reducible assumption) | assumption)
         have q786 : x5_1 < (l0.length : Int) := of_decide_eq_true (by first | (with_reducible assumption) | assumption)
         obtain ⟨ad786, A786_1, c786_1, e786, hx786_0, hx786_1, hl786_1, hi786_1⟩ := at_T83 HR0.out x5_1 p786 q786
         obtain rfl : ad784 = ad786 := (by injection e786)
         have HR786_1 := Aside0.mk hi786_1
         have HC786_1 := Aside0.mk hl786_1
         clear hi786_1 hl786_1
         replace p786 := eq_true p786
         replace q786 := eq_true q786
         have ea_ := Option.some.inj (hx784_1.symm.trans hx786_1)
         injection ea_ with ea_ en_ ec_
         subst ea_
         subst ec_
         clear en_
         have p787 : 0 ≤ (x5_1 : Int) := of_decide_eq_true (by first | (with_reducible assumption) | assumption)
         have q787 : x5_1 < (l1.length : Int) := of_decide_eq_true (by first | (with_reducible assumption) | assumption)
         obtain ⟨ad787, A787_1, c787_1, e787, hx787_0, hx787_1, hl787_1, hi787_1⟩ := at_T83 HR1.out x5_1 p787 q787
         obtain rfl : ad785 = ad787 := (by injection e787)
         have HR787_1 := Aside0.mk hi787_1
         have HC787_1 := Aside0.mk hl787_1
         clear hi787_1 hl787_1
         replace p787 := eq_true p787
         replace q787 := eq_true q787
         have ea_ := Option.some.inj (hx785_1.symm.trans hx787_1)
         injection ea_ with ea_ en_ ec_
         subst ea_
         subst ec_
         clear en_
         go_wp2_with (first | (go_at_call 95; (with_reducible refine (spec_l3Words.calls k1 _ _ ((rd_T83 l0 x5_1).f1) _ _ ((rd_T83 l1 x5_1).f1) false _ ?side1 ?side2 ?side3 ?side4 A8.out).mono ?_); (case side1 => repeat (first | exact HR786_1.out | (with_reducible refine Kd.C_alloc ?_ _) | (with_reducible refine Kd.C_drewN ?_ _) | (with_reducible refine Kd.C_drew ?_))); (case side2 => exact HC786_1.out); (case side3 => repeat (first | exact HR787_1.out | (with_reducible refine Kd.C_alloc ?_ _) | (with_reducible refine Kd.C_drewN ?_ _) | (with_reducible refine Kd.C_drew ?_))); (case side4 => exact HC787_1.out); rintro e w' ⟨rfl, ⟨nd, rfl⟩⟩; (try first | exact ⟨rfl, _, World.drewN_drewN _ _ _⟩ | exact ⟨rfl, _, Eq.trans (World.drewN_drewN _ _ _) (congrArg (World.drewN _) (Nat.add_assoc _ _ _))⟩)))
         repeat (go_quiet (first | (go_at_call 95; (with_reducible refine (spec_l3Words.calls k1 _ _ ((rd_T83 l0 x5_1).f1) _ _ ((rd_T83 l1 x5_1).f1) false _ ?side1 ?side2 ?side3 ?side4 A8.out).mono ?_); (case side1 => repeat (first | exact HR786_1.out | (with_reducible refine Kd.C_alloc ?_ _) | (with_reducible refine Kd.C_drewN ?_ _) | (with_reducible refine Kd.C_drew ?_))); (case side2 => exact HC786_1.out); (case side3 => repeat (first | exact HR787_1.out | (with_reducible refine Kd.C_alloc ?_ _) | (with_reducible refine Kd.C_drewN ?_ _) | (with_reducible refine Kd.C_drew ?_))); (case side4 => exact HC787_1.out); rintro e w' ⟨rfl, ⟨nd, rfl⟩⟩; (try first | exact ⟨rfl, _, World.drewN_drewN _ _ _⟩ | exact ⟨rfl, _, Eq.trans (World.drewN_drewN _ _ _) (congrArg (World.drewN _) (Nat.add_assoc _ _ _))⟩))); try go_wp2_with (first | (go_at_call 95; (with_reducible refine (spec_l3Words.calls k1 _ _ ((rd_T83 l0 x5_1).f1) _ _ ((rd_T83 l1 x5_1).f1) false _ ?side1 ?side2 ?side3 ?side4 A8.out).mono ?_); (case side1 => repeat (first | exact HR786_1.out | (with_reducible refine Kd.C_alloc ?_ _) | (with_reducible refine Kd.C_drewN ?_ _) | (with_reducible refine Kd.C_drew ?_))); (case side2 => exact HC786_1.out); (case side3 => repeat (first | exact HR787_1.out | (with_reducible refine Kd.C_alloc ?_ _) | (with_reducible refine Kd.C_drewN ?_ _) | (with_reducible refine Kd.C_drew ?_))); (case side4 => exact HC787_1.out); rintro e w' ⟨rfl, ⟨nd, rfl⟩⟩; (try first | exact ⟨rfl, _, World.drewN_drewN _ _ _⟩ | exact ⟨rfl, _, Eq.trans (World.drewN_drewN _ _ _) (congrArg (World.drewN _) (Nat.add_assoc _ _ _))⟩))))
         go_ret
         exact ⟨by first | rfl | (simp; done) | (simp [*]; done), by repeat (first | exact Drawn0.refl _ | apply Drawn0.step)⟩
       ·rw [if_neg c7] at H
        have c7b0 : (((rd_T83 l0 x5_1).f0).toList == ((rd_T83 l1 x5_1).f0).toList) = false := beq_eq_false_iff_ne.mpr c7
        have c7b1 : (((rd_T83 l0 x5_1).f0).toList != ((rd_T83 l1 x5_1).f0).toList) = true := bne_iff_ne.mpr c7
        obtain rfl := Option.some.inj H
        have p784 : 0 ≤ (x5_1 : Int) := of_decide_eq_true (by first | (with_reducible assumption) | assumption)
        have q784 : x5_1 < (l0.length : Int) := of_decide_eq_true (by first | (with_reducible assumption) | assumption)
        obtain ⟨ad784, A784_1, c784_1, e784, hx784_0, hx784_1, hl784_1, hi784_1⟩ := at_T83 HR0.out x5_1 p784 q784
        cases e784
        have HR784_1 := Aside0.mk hi784_1
        have HC784_1 := Aside0.mk hl784_1
        clear hi784_1 hl784_1
        replace p784 := eq_true p784
        replace q784 := eq_true q784
        have p785 : 0 ≤ (x5_1 : Int) := of_decide_eq_true (by first | (with_reducible assumption) | assumption)
        have q785 : x5_1 < (l1.length : Int) := of_decide_eq_true (by first | (with_reducible assumption) | assumption)
        obtain ⟨ad785, A785_1, c785_1, e785, hx785_0, hx785_1, hl785_1, hi785_1⟩ := at_T83 HR1.out x5_1 p785 q785
        cases e785
        have HR785_1 := Aside0.mk hi785_1
        have HC785_1 := Aside0.mk hl785_1
        clear hi785_1 hl785_1
        replace p785 := eq_true p785
        replace q785 := eq_true q785
        go_wp2
        repeat (go_quiet (fail); try go_wp2)
        go_ret
        exact ⟨by first | rfl | (simp; done) | (simp [*]; done), by repeat (first | exact Drawn0.refl _ | apply Drawn0.step)⟩
      ·rw [if_neg c6] at H
       exact absurd H (by simp)
     ·rw [if_neg c5] at H
      exact absurd H (by simp)
    ·rw [if_neg c4] at H
     have c4b0 : decide (x5_1 < (l0.length : Int)) = false := decide_eq_false c4
     clear c4
     obtain rfl := Option.some.inj H
     go_wp2
     repeat (go_quiet (fail); try go_wp2)
     go_ret
     exact ⟨by first | rfl | (simp; done) | (simp [*]; done), by repeat (first | exact Drawn0.refl _ | apply Drawn0.step)⟩
 ·rw [if_neg c3] at H
  have c3b0 : ((l0.length : Int) == (l1.length : Int)) = false := beq_eq_false_iff_ne.mpr c3
  have c3b1 : ((l0.length : Int) != (l1.length : Int)) = true := bne_iff_ne.mpr c3
  have c3b2 : (l0.length == l1.length) = false := by first | simpa using c3 | (simp at c3 ⊢; omega)
  obtain rfl := Option.some.inj H
  go_enter Tryd.func130, Tryd.ntmps130
  go_wp2
  repeat (go_quiet (fail); try go_wp2)
  go_ret
  exact ⟨by first | rfl | (simp; done) | (simp [*]; done), by repeat (first | exact Drawn0.refl _ | apply Drawn0.step)⟩
end Go.Proofs.YtmcdnpooclelgaaDoor.PAll
namespace Go.Proofs.YtmcdnpooclelgaaDoor.PAll
open Go.RowKit Go.Proofs.YtmcdnpooclelgaaDoorW.PrintWords
theorem l7Same_l0 (xs ys : List S83) (hl : xs.length = ys.length) (hx : smallLs xs) (hy : smallLs ys) : ∀ (d i : Nat), i + d = xs.length → Ev (fun k => spec_l7Same.l0 k xs ys i) (sameLs (xs.drop i) (ys.drop i))
 | 0, i, hd => by
  rw [List.drop_eq_nil_of_le (by omega), List.drop_eq_nil_of_le (by omega)]
  exact Ev.unf (fun _ => some true) (fun k => by simp only [spec_l7Same.l0]; rw [if_neg (by omega)]) (Ev.now _)
 | d + 1, i, hd => by
  have hi : i < xs.length := by omega
  have hj : i < ys.length := by omega
  have ih := l7Same_l0 xs ys hl hx hy d (i + 1) (by omega)
  have hn := hx.1
  have h1 := (hx.2 _ (List.getElem_mem hi)).2.1
  have h2 := (hy.2 _ (List.getElem_mem hj)).2.1
  rw [List.drop_eq_getElem_cons hi, List.drop_eq_getElem_cons hj, sameLs, sameL]
  by_cases q : xs[i].f0 = ys[i].f0
  ·rw [decide_eq_true q, Bool.true_and]
   refine Ev.unf (fun k => (spec_l3Words.f k xs[i].f1 ys[i].f1).bind fun t => if t = true then spec_l7Same.l0 k xs ys ((i + 1 : Nat) : Int) else some false) (fun k => ?_) ?_
   ·simp only [spec_l7Same.l0]
    rw [if_pos (by omega), if_pos (by omega), if_pos (by omega), rdLine hi, rdLine hj, if_pos (by rw [q]), inc (by omega)]
   ·refine Ev.bind (ev_l3Words _ _ (by omega) (by omega)) ?_
    by_cases p : xs[i].f1 = ys[i].f1
    ·rw [decide_eq_true p, Bool.true_and]
     simp only [if_true]
     exact ih
    ·rw [decide_eq_false p, Bool.false_and]
     simp only [Bool.false_eq_true, if_false]
     exact Ev.now _
  ·rw [decide_eq_false q, Bool.false_and, Bool.false_and]
   refine Ev.unf (fun _ => some false) (fun k => ?_) (Ev.now _)
   simp only [spec_l7Same.l0]
   rw [if_pos (by omega), if_pos (by omega), if_pos (by omega), rdLine hi, rdLine hj, if_neg (fun e => q (bytes_inj e))]
theorem ev_l7Same (xs ys : List S83) (hx : smallLs xs) (hy : smallLs ys) : Ev (fun k => spec_l7Same.f k xs ys) (sameLs xs ys) := by
 unfold spec_l7Same.f
 by_cases hl : xs.length = ys.length
 ·simp only [if_pos (show (xs.length : Int) = (ys.length : Int) by omega)]
  exact l7Same_l0 xs ys hl hx hy xs.length 0 (by omega)
 ·rw [sameLs_len _ _ hl]
  simp only [if_neg (show ¬ (xs.length : Int) = (ys.length : Int) by omega)]
  exact Ev.now _
theorem l7Same_c (a b : List S83) (ha : smallLs a) (hb : smallLs b) (A B : Option Addr) (c d : Nat) (w : World) (hA : Kd.C k83 w A a.length a) (hc : a.length ≤ c) (hB : Kd.C k83 w B b.length b) (hd : b.length ≤ d) :
  Calls Tryd.prog 130 #[.slice A a.length c, .slice B b.length d] w fun e w' => e = .returned (.bool (sameLs a b)) ∧ Below w.heap.size w w' := by
 obtain ⟨K, hk⟩ := (ev_l7Same a b ha hb).rounds
 refine (spec_l7Same.calls K A c a B d b _ w hA hc hB hd hk).mono ?_
 rintro e w' ⟨rfl, n, rfl⟩
 exact ⟨rfl, pw_below_drewN (Below.refl _ _) n⟩
end Go.Proofs.YtmcdnpooclelgaaDoor.PAll
namespace Go.Proofs.YtmcdnpooclelgaaDoor.PAll
open Go.RowKit Go.Proofs.YtmcdnpooclelgaaDoorW.PrintWords Go.Proofs.YtmcdnpooclelgaaDoorW.PrintLast Go.Proofs.YtmcdnpooclelgaaDoorW.PrintMore
theorem infoChg : (Tryd.prog.info? 114).map (fun i => (i.zero, i.size, i.bytes)) = some (some (.agg #[.int .i64 0, .string ⟨#[]⟩, .string ⟨#[]⟩, .string ⟨#[]⟩, .slice none 0 0]), 5, 80) := by kernel_rfl
theorem l5Of_f (P : Nat → Prop) (k0 n0 key : ByteArray) (ls : List S83) (hs : smallLs ls) (A : Option Addr) (c : Nat) (w : World) (hF : Kd.F k83 w P A ls.length ls) (hc : ls.length ≤ c) :
  Calls Tryd.prog 84 #[.agg #[.string k0, .string n0, .slice A ls.length c], .string key] w fun e w' => ∃ A9 d9, e = .returned (.slice A9 (ofKey key ls).length d9) ∧ (ofKey key ls).length ≤ d9 ∧ Kd.F k83 w' (fun k => P k ∨ w.heap.size ≤ k) A9 (ofKey key ls).length (ofKey key ls) ∧ Below w.heap.size w w' := by
 obtain ⟨K5, hk5⟩ := (ev_l5Of k0 n0 key ls hs).rounds
 refine (spec_l5Of.calls K5 k0 n0 P A c ls key (ofKey key ls) w ⟨A, c, rfl, hc, hF⟩ hk5).mono ?_
 rintro e w9 ⟨v9, rfl, hN9, hb9⟩
 obtain ⟨A9, d9, rfl⟩ := Kd.N_slice hN9
 have h := Kd.V_at (Kd.N_V (base' := 0) hN9)
 exact ⟨A9, d9, rfl, h.2.1, h.2.2, hb9⟩
theorem N_empty {α : Type} {d : Kd α} {e base : Nat} {ok : Nat → Prop} {W : World} (hb : base ≤ W.heap.size) (hok : ∀ k, W.heap.size ≤ k → ok k) : Kd.N d e (W.alloc (.cells #[] e)) base ok (.slice (some ⟨W.heap.size, 0, none⟩) 0 0) [] :=
 Kd.R_N ⟨fun k hk => hok k (by simp [Value.ownBlock] at hk; omega), [], own_empty (blk_new W (.cells #[] e)) hb, Reps.none _ _⟩
set_option maxRecDepth 100000 in
set_option maxHeartbeats 8000000 in
theorem l7Block_c (P : Nat → Prop) (k0 n0 : ByteArray) (xs ys : List S83) (hx : smallLs xs) (hy : smallLs ys) (A B : Option Addr) (c d : Nat) (w : World) (ha : Kd.F k83 w P A xs.length xs) (hac : xs.length ≤ c) (hb : Kd.F k83 w P B ys.length ys) (hbd : ys.length ≤ d) :
  Calls Tryd.prog 101 #[.agg #[.string k0, .string n0, .slice A xs.length c], .agg #[.string k0, .string n0, .slice B ys.length d]] w fun e w' => ∃ v, e = .returned v ∧ Kd.N k114 114 w' w.heap.size (fun k => P k ∨ w.heap.size ≤ k) v ((rulesL k0).flatMap (setOf ⟨k0, n0, xs⟩ ⟨k0, n0, ys⟩)) ∧ Below w.heap.size w w' := by
 have HA := Aside0.mk (Kd.F_bound ha)
 have HB := Aside0.mk (Kd.F_bound hb)
 have HX := Aside0.mk hx
 have HY := Aside0.mk hy
 have hny : ys.length ≤ 1048576 := hy.1
 have s1 : (w.alloc (.cells #[.string k0, .string n0, .slice A xs.length c] 62)).heap.size = w.heap.size + 1 := by simp
 have b1 := blk_alloc (blk_new w (.cells #[.string k0, .string n0, .slice A xs.length c] 62)) (.cells #[.string k0, .string n0, .slice B ys.length d] 62)
 have b2 := blk_new (w.alloc (.cells #[.string k0, .string n0, .slice A xs.length c] 62)) (.cells #[.string k0, .string n0, .slice B ys.length d] 62)
 rw [s1] at b2
 have a2 : Below w.heap.size w ((w.alloc (.cells #[.string k0, .string n0, .slice A xs.length c] 62)).alloc (.cells #[.string k0, .string n0, .slice B ys.length d] 62)) := ((Below.refl _ _).alloc (Nat.le_refl _) _).alloc (by simp) _
 have s2 : ((w.alloc (.cells #[.string k0, .string n0, .slice A xs.length c] 62)).alloc (.cells #[.string k0, .string n0, .slice B ys.length d] 62)).heap.size = w.heap.size + 2 := by simp
 clear ha hb hx hy
 have hrl := rulesL_len k0
 obtain ⟨rs, hrs⟩ : ∃ rs, (rulesL k0).flatMap (setOf ⟨k0, n0, xs⟩ ⟨k0, n0, ys⟩) = rs := ⟨_, rfl⟩
 have HRS := Aside0.mk hrs
 rw [hrs]
 clear hrs
 go_enter Tryd.func101, Tryd.ntmps101
 go_upto_region 1 with (fail)
 generalize (w.alloc (.cells #[.string k0, .string n0, .slice A xs.length c] 62)).alloc (.cells #[.string k0, .string n0, .slice B ys.length d] 62) = w2 at *
 have B2 := Aside0.mk a2
 have HA2 := Aside0.mk (Kd.F_below HA.out a2)
 have HB2 := Aside0.mk (Kd.F_below HB.out a2)
 have a3 : Below w2.heap.size w2 (w2.alloc (.cells #[] 114)) := (Below.refl _ _).alloc (Nat.le_refl _) _
 have O3 : Kd.N k114 114 (w2.alloc (.cells #[] 114)) w2.heap.size (fun k => P k ∨ w.heap.size ≤ k) (.slice (some ⟨w2.heap.size, 0, none⟩) 0 0) [] := N_empty (Nat.le_refl _) (fun k hk => .inr (by omega))
 have x0 : (w2.alloc (.cells #[] 114)).cell? ⟨w.heap.size, 0, none⟩ = some (.string k0) := (blk_cell (blk_below b1 a3) 0).trans rfl
 have K1 := Aside0.mk b1
 have K2 := Aside0.mk b2
 have hw2 : w.heap.size ≤ w2.heap.size := by omega
 clear b1 b2 s1 a2 s2 HA HB
 go_wp2_with fail
 refine (specRules_any k0 _).mono ?_
 rintro e w4 ⟨v4, rfl, hR4, hb4⟩
 obtain ⟨A7, d7, rfl⟩ := Kd.R_slice hR4
 have B4 := Aside0.mk (a3.trans (hb4.mono a3.size))
 have O4 := Aside0.mk (Kd.N_below O3 hb4)
 have R4 := Aside0.mk (Kd.R_lower hR4 a3.size)
 clear O3 hR4 a3 hb4 x0
 go_wp2
 go_loopw [5, 7] (fun (v i : Value) (wr : World) => ∃ (k : Nat), i = .int .i64 k ∧ k ≤ (rulesL k0).length ∧ Aside0 (Below w2.heap.size w2 wr) ∧ Aside0 (Kd.R k36 36 wr w2.heap.size (fun _ => True) (.slice A7 (rulesL k0).length d7) (rulesL k0)) ∧ Aside0 (Kd.N k114 114 wr w2.heap.size (fun k => P k ∨ w.heap.size ≤ k) v (((rulesL k0).take k).flatMap (setOf ⟨k0, n0, xs⟩ ⟨k0, n0, ys⟩)))) (fun _ i _ => (rulesL k0).length - (intOf i).toNat)
 case atStart => exact ⟨0, rfl, Nat.zero_le _, B4, R4, ⟨by simpa using O4.out⟩⟩
 case round =>
  clear B4 R4 O4
  obtain ⟨k, rfl, hk, hB, hR, hO⟩ := hrel
  obtain ⟨Ai, di, rfl⟩ := Kd.N_slice hO.out
  by_cases hlt : k < (rulesL k0).length
  ·obtain ⟨r, hrk⟩ : ∃ r, (rulesL k0)[k]? = some r := ⟨_, List.getElem?_eq_getElem hlt⟩
   have hre : (rulesL k0)[k] = r := by rw [List.getElem?_eq_getElem hlt] at hrk; injection hrk
   have HNK := Aside0.mk (take_flat (setOf ⟨k0, n0, xs⟩ ⟨k0, n0, ys⟩) (rulesL k0) k hlt)
   rw [hre] at HNK
   have hli := flat_lenB (setOf ⟨k0, n0, xs⟩ ⟨k0, n0, ys⟩) 1 ((rulesL k0).take k) (setOf_len _ _)
   rw [List.length_take] at hli
   generalize ((rulesL k0).take k).flatMap (setOf ⟨k0, n0, xs⟩ ⟨k0, n0, ys⟩) = M at *
   have hrr := rdRuleAt hrk
   obtain ⟨a5, A6, c6, A8, c8, hA7, hy0, _, _, _, _, _, _, _⟩ := at_T36 (Kd.R_reads' hR.out).2.2 (k : Int) (by omega) (by omega)
   rw [hrr] at hy0
   rw [Int.toNat_natCast] at hy0
   obtain ⟨r0, r1, r2, r3⟩ := r
   simp only at hy0
   subst hA7
   have i2 : (k : Int) < ((rulesL k0).length : Int) := by omega
   clear hrr hrk hre
   go_upto_region 6 with (fail)
   have x0 : wr.cell? ⟨w.heap.size, 0, none⟩ = some (.string k0) := (blk_cell (blk_below K1.out hB.out) 0).trans rfl
   have x1 : wr.cell? ⟨w.heap.size, 1, none⟩ = some (.string n0) := (blk_cell (blk_below K1.out hB.out) 1).trans rfl
   have x2 : wr.cell? ⟨w.heap.size, 2, none⟩ = some (.slice A xs.length c) := (blk_cell (blk_below K1.out hB.out) 2).trans rfl
   have HL : Aside0 (∀ w', Below wr.heap.size wr w' → Calls Tryd.prog 84 #[.agg #[.string k0, .string n0, .slice A xs.length c], .string r0] w' fun e w'' => ∃ A9 d9, e = .returned (.slice A9 (ofKey r0 xs).length d9) ∧ (ofKey r0 xs).length ≤ d9 ∧ Kd.F k83 w'' (fun k => (P k ∧ k < w.heap.size) ∨ w'.heap.size ≤ k) A9 (ofKey r0 xs).length (ofKey r0 xs) ∧ Below w'.heap.size w' w'') := ⟨fun w' hb => l5Of_f (fun k => P k ∧ k < w.heap.size) k0 n0 r0 xs HX.out A c w' (Kd.F_below (Kd.F_below HA2.out hB.out) hb) hac⟩
   go_region_held3 (fun w' => w'.cell? ⟨w.heap.size, 0, none⟩ = some (.string k0) ∧ w'.cell? ⟨w.heap.size, 1, none⟩ = some (.string n0) ∧ w'.cell? ⟨w.heap.size, 2, none⟩ = some (.slice A xs.length c) ∧ w'.cell? (a5.add (k * 4)) = some (.string r0)) (first | go_keep | exact ⟨pw_cell_below hbl x0, pw_cell_below hbl x1, pw_cell_below hbl x2, pw_cell_below hbl hy0⟩) (first | (go_at_call 84; refine (HL.out _ (below_drew (Below.refl _ _))).mono ?_; rintro e w8 ⟨A9, d9, rfl, hl9, hF9, hbl⟩))
   have h8 : Below wr.heap.size wr w8 := (below_drew (Below.refl wr.heap.size wr)).trans (hbl.mono (Nat.le_refl _))
   have B8 := Aside0.mk (hB.out.trans (h8.mono hB.out.size))
   have R8 := Aside0.mk (Kd.R_below hR.out h8)
   have O8 := Aside0.mk (Kd.N_below hO.out h8)
   have F8 : Aside0 (Kd.F k83 w8 (fun k => (P k ∧ k < w.heap.size) ∨ wr.heap.size ≤ k) A9 (ofKey r0 xs).length (ofKey r0 xs)) := ⟨hF9⟩
   have y0 : w8.cell? (a5.add (k * 4)) = some (.string r0) := pw_cell_below h8 hy0
   have n8 : wr.heap.size ≤ w8.heap.size := h8.size
   have hNw : w2.heap.size ≤ wr.heap.size := hB.out.size
   have hV := Aside0.mk (Kd.N_lt hO.out)
   have so1 := Aside0.mk (ofKey_small (key := r0) HX.out)
   have HST : Aside0 (setOf ⟨k0, n0, xs⟩ ⟨k0, n0, ys⟩ ⟨r0, r1, r2, r3⟩ = if sameLs (ofKey r0 xs) (ofKey r0 ys) = true then [] else [⟨whatOf (ofKey r0 ys), k0, n0, r0, ofKey r0 ys⟩]) := ⟨rfl⟩
   clear hbl h8 hB hR hO hF9 x0 x1 x2 hy0 HL
   have hB0 : w.heap.size ≤ wr.heap.size := by have := hNw; omega
   generalize wr.heap.size = N at *
   generalize ofKey r0 xs = o1 at *
   go_upto_region 7 with (fail)
   have x0 : w8.cell? ⟨w.heap.size + 1, 0, none⟩ = some (.string k0) := (blk_cell (blk_below K2.out B8.out) 0).trans rfl
   have x1 : w8.cell? ⟨w.heap.size + 1, 1, none⟩ = some (.string n0) := (blk_cell (blk_below K2.out B8.out) 1).trans rfl
   have x2 : w8.cell? ⟨w.heap.size + 1, 2, none⟩ = some (.slice B ys.length d) := (blk_cell (blk_below K2.out B8.out) 2).trans rfl
   have HL : Aside0 (∀ w', Below w8.heap.size w8 w' → Calls Tryd.prog 84 #[.agg #[.string k0, .string n0, .slice B ys.length d], .string r0] w' fun e w'' => ∃ A9 d9, e = .returned (.slice A9 (ofKey r0 ys).length d9) ∧ (ofKey r0 ys).length ≤ d9 ∧ Kd.F k83 w'' (fun k => (P k ∧ k < w.heap.size) ∨ w'.heap.size ≤ k) A9 (ofKey r0 ys).length (ofKey r0 ys) ∧ Below w'.heap.size w' w'') := ⟨fun w' hb => l5Of_f (fun k => P k ∧ k < w.heap.size) k0 n0 r0 ys HY.out B d w' (Kd.F_below (Kd.F_below HB2.out B8.out) hb) hbd⟩
   go_region_held3 (fun w' => w'.cell? ⟨w.heap.size + 1, 0, none⟩ = some (.string k0) ∧ w'.cell? ⟨w.heap.size + 1, 1, none⟩ = some (.string n0) ∧ w'.cell? ⟨w.heap.size + 1, 2, none⟩ = some (.slice B ys.length d) ∧ w'.cell? (a5.add (k * 4)) = some (.string r0)) (first | go_keep | exact ⟨pw_cell_below hbl x0, pw_cell_below hbl x1, pw_cell_below hbl x2, pw_cell_below hbl y0⟩) (first | (go_at_call 84; refine (HL.out _ (below_drew (Below.refl _ _))).mono ?_; rintro e w9 ⟨A10, d10, rfl, hl10, hF10, hbl⟩))
   have h9 : Below w8.heap.size w8 w9 := (below_drew (Below.refl w8.heap.size w8)).trans (hbl.mono (Nat.le_refl _))
   have so2 := Aside0.mk (ofKey_small (key := r0) HY.out)
   have F9' : Kd.F k83 w9 (fun k => (P k ∧ k < w.heap.size) ∨ N ≤ k) A10 (ofKey r0 ys).length (ofKey r0 ys) := Kd.F_mono hF10 (fun k hk => hk.imp_right (fun h => Nat.le_trans n8 h))
   have hn2 : (ofKey r0 ys).length ≤ 1048576 := so2.out.1
   clear hF10
   generalize ofKey r0 ys = o2 at *
   have SM := Aside0.mk (l7Same_c o1 o2 so1.out so2.out A9 A10 d9 d10 w9 (Kd.F_now (Kd.F_below F8.out h9)) hl9 (Kd.F_now F9') hl10)
   have B9 := Aside0.mk (B8.out.trans (h9.mono B8.out.size))
   have R9 := Aside0.mk (Kd.R_below R8.out h9)
   have O9 := Aside0.mk (Kd.N_below O8.out h9)
   have F9 := Aside0.mk F9'
   have z0 : w9.cell? (a5.add (k * 4)) = some (.string r0) := pw_cell_below h9 y0
   have n9 : N ≤ w9.heap.size := Nat.le_trans n8 h9.size
   clear hbl h9 F9' F8 B8 R8 O8 x0 x1 x2 y0 HL so1
   go_wp2_with fail
   refine SM.out.mono ?_
   rintro e w10 ⟨rfl, hb10⟩
   have B10 := Aside0.mk (B9.out.trans (hb10.mono B9.out.size))
   have R10 := Aside0.mk (Kd.R_below R9.out hb10)
   have O10 := Aside0.mk (Kd.N_below O9.out hb10)
   have F10 := Aside0.mk (Kd.F_below F9.out hb10)
   have y0 : w10.cell? (a5.add (k * 4)) = some (.string r0) := pw_cell_below hb10 z0
   have n10 : N ≤ w10.heap.size := Nat.le_trans n9 hb10.size
   clear hb10 B9 R9 O9 F9 SM z0 n9 n8
   cases hsm : sameLs o1 o2 with
   | true =>
    have hN2 : ((rulesL k0).take (k + 1)).flatMap (setOf ⟨k0, n0, xs⟩ ⟨k0, n0, ys⟩) = M := by rw [HNK.out, HST.out, hsm]; simp
    have hO11 : Aside0 (Kd.N k114 114 w10 w2.heap.size (fun k => P k ∨ w.heap.size ≤ k) (.slice Ai M.length di) (((rulesL k0).take (k + 1)).flatMap (setOf ⟨k0, n0, xs⟩ ⟨k0, n0, ys⟩))) := ⟨by rw [hN2]; exact O10.out⟩
    clear hN2 hsm
    go_wp2
    go_roundw
    case rel => exact ⟨k + 1, by go_num, hlt, B10, R10, hO11⟩
    case measure => simp [intOf]; omega
   | false =>
    have HN2 : Aside0 (((rulesL k0).take (k + 1)).flatMap (setOf ⟨k0, n0, xs⟩ ⟨k0, n0, ys⟩) = M ++ [⟨whatOf o2, k0, n0, r0, o2⟩]) := ⟨by rw [HNK.out, HST.out, hsm]; simp⟩
    clear HNK HST hsm
    go_upto_region 9 with (fail)
    have d10 : Below w10.heap.size w10 w10.drew := below_drew (Below.refl _ _)
    have U0 : w10.drew.cell? ⟨w.heap.size, 0, none⟩ = some (.string k0) := (blk_cell (blk_below K1.out B10.out) 0).trans rfl
    have U1 : w10.drew.cell? ⟨w.heap.size, 1, none⟩ = some (.string n0) := (blk_cell (blk_below K1.out B10.out) 1).trans rfl
    have U2 : w10.drew.cell? (a5.add (k * 4)) = some (.string r0) := y0
    have Bd := Aside0.mk (B10.out.trans (d10.mono B10.out.size))
    have Rd := Aside0.mk (Kd.R_below R10.out d10)
    have Od := Aside0.mk (Kd.N_below O10.out d10)
    have Fd := Aside0.mk (Kd.F_below F10.out d10)
    have nd : N ≤ w10.drew.heap.size := n10
    clear d10 B10 R10 O10 F10 n10 y0
    refine start_ (n := 13) (S := (fun w' => w'.cell? ⟨w.heap.size, 0, none⟩ = some (.string k0) ∧ w'.cell? ⟨w.heap.size, 1, none⟩ = some (.string n0) ∧ w'.cell? (a5.add (k * 4)) = some (.string r0))) (ds := [12]) (bz_ 13 0) (by kernel_rfl) rfl rfl ⟨U0, U1, U2⟩ (fun hHeld => ?_)
    generalize w10.drew = u1 at *
    refine pure_ (i := 0) (N := some 38) (v := ?_) (a' := ?_) (bz_ 13 1) rfl rfl (by kernel_rfl) (fun _ _ _ h => h) (Or.inl ⟨by rfl, ?_⟩) ?_ ?_
    rotate_left
    ·intro w'
     go_simp
     with_reducible rfl
    rotate_left
    ·simp only [Act.put, List.setIfInBounds_toArray, List.set_cons_zero, List.set_cons_succ, i64_w, i32_w]
     rfl
    refine take_ (i := 1) (N := some 39) (v := ?_) (a' := ?_) (bz_ 13 3) rfl rfl (by kernel_rfl) (fun _ _ _ h => h) (Or.inl ⟨by rfl, ?_⟩) hHeld ?_ ?_
    rotate_left
    ·rintro w' ⟨s0, s1, s2⟩
     go_simp
     with_reducible rfl
    rotate_left
    ·simp only [Act.put, List.setIfInBounds_toArray, List.set_cons_zero, List.set_cons_succ, i64_w, i32_w]
     rfl
    refine pure_ (i := 2) (N := some 40) (v := ?_) (a' := ?_) (bz_ 13 7) rfl rfl (by kernel_rfl) (fun _ _ _ h => h) (Or.inl ⟨by rfl, ?_⟩) ?_ ?_
    rotate_left
    ·intro w'
     go_simp
     with_reducible rfl
    rotate_left
    ·simp only [Act.put, List.setIfInBounds_toArray, List.set_cons_zero, List.set_cons_succ, i64_w, i32_w]
     rfl
    refine take_ (i := 3) (N := some 41) (v := ?_) (a' := ?_) (bz_ 13 15) rfl rfl (by kernel_rfl) (fun _ _ _ h => h) (Or.inl ⟨by rfl, ?_⟩) hHeld ?_ ?_
    rotate_left
    ·rintro w' ⟨s0, s1, s2⟩
     go_simp
     with_reducible rfl
    rotate_left
    ·simp only [Act.put, List.setIfInBounds_toArray, List.set_cons_zero, List.set_cons_succ, i64_w, i32_w]
     rfl
    refine pure_ (i := 4) (N := some 42) (v := ?_) (a' := ?_) (bz_ 13 31) rfl rfl (by kernel_rfl) (fun _ _ _ h => h) (Or.inl ⟨by rfl, ?_⟩) ?_ ?_
    rotate_left
    ·intro w'
     go_simp
     with_reducible rfl
    rotate_left
    ·simp only [Act.put, List.setIfInBounds_toArray, List.set_cons_zero, List.set_cons_succ, i64_w, i32_w]
     rfl
    refine pure_ (i := 5) (N := some 43) (v := ?_) (a' := ?_) (bz_ 13 63) rfl rfl (by kernel_rfl) (fun _ _ _ h => h) (Or.inl ⟨by rfl, ?_⟩) ?_ ?_
    rotate_left
    ·intro w'
     go_simp
     with_reducible rfl
    rotate_left
    ·simp only [Act.put, List.setIfInBounds_toArray, List.set_cons_zero, List.set_cons_succ, i64_w, i32_w]
     rfl
    refine pure_ (i := 6) (N := some 44) (v := ?_) (a' := ?_) (bz_ 13 127) rfl rfl (by kernel_rfl) (fun _ _ _ h => h) (Or.inl ⟨by rfl, ?_⟩) ?_ ?_
    rotate_left
    ·intro w'
     go_simp
     with_reducible rfl
    rotate_left
    ·simp only [Act.put, List.setIfInBounds_toArray, List.set_cons_zero, List.set_cons_succ, i64_w, i32_w]
     rfl
    refine pure_ (i := 7) (N := some 45) (v := ?_) (a' := ?_) (bz_ 13 255) rfl rfl (by kernel_rfl) (fun _ _ _ h => h) (Or.inl ⟨by rfl, ?_⟩) ?_ ?_
    rotate_left
    ·intro w'
     go_simp
     with_reducible rfl
    rotate_left
    ·simp only [Act.put, List.setIfInBounds_toArray, List.set_cons_zero, List.set_cons_succ, i64_w, i32_w]
     rfl
    refine take_ (i := 8) (N := some 46) (v := ?_) (a' := ?_) (bz_ 13 511) rfl rfl (by kernel_rfl) (fun _ _ _ h => h) (Or.inl ⟨by rfl, ?_⟩) hHeld ?_ ?_
    rotate_left
    ·rintro w' ⟨s0, s1, s2⟩
     go_simp
     with_reducible rfl
    rotate_left
    ·simp only [Act.put, List.setIfInBounds_toArray, List.set_cons_zero, List.set_cons_succ, i64_w, i32_w]
     rfl
    refine pure_ (i := 9) (N := some 47) (v := ?_) (a' := ?_) (bz_ 13 1023) rfl rfl (by kernel_rfl) (fun _ _ _ h => h) (Or.inl ⟨by rfl, ?_⟩) ?_ ?_
    rotate_left
    ·intro w'
     go_simp
     with_reducible rfl
    rotate_left
    ·simp only [Act.put, List.setIfInBounds_toArray, List.set_cons_zero, List.set_cons_succ, i64_w, i32_w]
     rfl
    refine pure_ (i := 10) (N := some 48) (v := ?_) (a' := ?_) (bz_ 13 2047) rfl rfl (by kernel_rfl) (fun _ _ _ h => h) (Or.inl ⟨by rfl, ?_⟩) ?_ ?_
    rotate_left
    ·intro w'
     go_simp
     with_reducible rfl
    rotate_left
    ·simp only [Act.put, List.setIfInBounds_toArray, List.set_cons_zero, List.set_cons_succ, i64_w, i32_w]
     rfl
    refine one_ (i := 11) (N := some 10) (bz_ 13 4095) rfl rfl (by kernel_rfl) (by decide) (fun K hK => ?_)
    refine value_ (w1 := ?_) (v := ?_) (by rfl) rfl ?_ ?_
    rotate_left 2
    ·go_simp
     constructor
     ·rfl
     ·rfl
    have a1 : Below u1.heap.size u1 (u1.alloc (.cells #[.int .i64 0, .string ⟨#[]⟩, .string ⟨#[]⟩, .string ⟨#[]⟩, .slice none 0 0] 114)) := (Below.refl _ _).alloc (Nat.le_refl _) _
    have hz12 := blk_new u1 (.cells #[.int .i64 0, .string ⟨#[]⟩, .string ⟨#[]⟩, .string ⟨#[]⟩, .slice none 0 0] 114)
    have hg12 : u1.heap.size ≤ u1.heap.size := Nat.le_refl _
    refine hK.out _ _ ⟨pw_cell_below a1 U0, pw_cell_below a1 U1, pw_cell_below a1 U2⟩ (fun hHeld => ?_)
    clear hK K hHeld
    refine norm_ (a' := ?_) ?_ ?_
    rotate_left
    ·show Act.put _ (some 10) _ = _
     simp only [putAll, Act.put, List.setIfInBounds_toArray, List.set_cons_zero, List.set_cons_succ, i64_w, i32_w]
     rfl
    obtain ⟨g, hg⟩ : ∃ g, g = u1.heap.size := ⟨_, rfl⟩
    rw [← hg] at hz12
    rw [← hg]
    have hg12 : u1.heap.size ≤ g := Nat.le_of_eq hg.symm
    clear hg
    generalize u1.alloc (.cells #[.int .i64 0, .string ⟨#[]⟩, .string ⟨#[]⟩, .string ⟨#[]⟩, .slice none 0 0] 114) = w12 at *
    refine last_ (i := 12) (N := none) (bz_ 13 8191) rfl rfl (by kernel_rfl) (by decide) (fun K hK => ?_)
    have q0 : w12.cell? ⟨g, 0, none⟩ = some (.int .i64 0) := (blk_cell hz12 0).trans rfl
    have q1 : w12.cell? ⟨g, 1, none⟩ = some (.string ⟨#[]⟩) := (blk_cell hz12 1).trans rfl
    have q2 : w12.cell? ⟨g, 2, none⟩ = some (.string ⟨#[]⟩) := (blk_cell hz12 2).trans rfl
    have q3 : w12.cell? ⟨g, 3, none⟩ = some (.string ⟨#[]⟩) := (blk_cell hz12 3).trans rfl
    have q4 : w12.cell? ⟨g, 4, none⟩ = some (.slice none 0 0) := (blk_cell hz12 4).trans rfl
    have qf0 := blk_frozen hz12 0
    have qf1 := blk_frozen hz12 1
    have qf2 := blk_frozen hz12 2
    have qf3 := blk_frozen hz12 3
    have qf4 := blk_frozen hz12 4
    refine skip_ (w1 := ?_) (by rfl) rfl ?_ ?_
    rotate_left
    ·go_simp
     rfl
    refine hK.out _ _ ?_
    clear hK K
    refine done_ (by kernel_rfl) ?_
    have bz13 := blk_put (blk_put (blk_put (blk_put (blk_put hz12 0 (.int .i64 3) rfl) 1 (.string k0) rfl) 2 (.string n0) rfl) 3 (.string r0) rfl) 4 (.slice A10 o2.length d10) rfl
    have hb13 : Below u1.heap.size u1 (((((w12.setCell ⟨g, 0, none⟩ (.int .i64 3)).setCell ⟨g, 1, none⟩ (.string k0)).setCell ⟨g, 2, none⟩ (.string n0)).setCell ⟨g, 3, none⟩ (.string r0)).setCell ⟨g, 4, none⟩ (.slice A10 o2.length d10)) := ((((a1.setCell (p := ⟨g, 0, none⟩) hg12 _).setCell (p := ⟨g, 1, none⟩) hg12 _).setCell (p := ⟨g, 2, none⟩) hg12 _).setCell (p := ⟨g, 3, none⟩) hg12 _).setCell (p := ⟨g, 4, none⟩) hg12 _
    clear q0 q1 q2 q3 q4 qf0 qf1 qf2 qf3 qf4 hz12 a1 U0 U1 U2 hHeld
    generalize ((((w12.setCell ⟨g, 0, none⟩ (.int .i64 3)).setCell ⟨g, 1, none⟩ (.string k0)).setCell ⟨g, 2, none⟩ (.string n0)).setCell ⟨g, 3, none⟩ (.string r0)).setCell ⟨g, 4, none⟩ (.slice A10 o2.length d10) = W13 at *
    obtain ⟨wo, hwo⟩ : ∃ wo, wo = whatOf o2 := ⟨_, rfl⟩
    rw [← hwo] at HN2
    by_cases hz : ((o2.length : Nat) : Int) = 0
    ·have hw : wo = 4 := by rw [hwo]; unfold whatOf; rw [if_pos (by omega)]
     have q0 : W13.cell? ⟨g, 0, none⟩ = some (.int .i64 3) := (blk_cell bz13 0).trans rfl
     have qf := blk_frozen bz13 0
     have bz14 : Aside0 ((W13.setCell ⟨g, 0, none⟩ (.int .i64 4)).heap[g]? = some (.cells #[.int .i64 wo, .string k0, .string n0, .string r0, .slice A10 o2.length d10] 114 (0, 0))) := ⟨by rw [hw]; exact blk_put bz13 0 _ rfl⟩
     have hb14 := Aside0.mk (hb13.setCell (p := ⟨g, 0, none⟩) hg12 (.int .i64 4))
     clear bz13 hb13 hwo
     go_upto_region 12 with (fail)
     clear q0 qf hw
     generalize W13.setCell ⟨g, 0, none⟩ (.int .i64 4) = W14 at *
     have z0 : W14.cell? ⟨g, 0, none⟩ = some (.int .i64 wo) := (blk_cell bz14.out 0).trans rfl
     have z1 : W14.cell? ⟨g, 1, none⟩ = some (.string k0) := (blk_cell bz14.out 1).trans rfl
     have z2 : W14.cell? ⟨g, 2, none⟩ = some (.string n0) := (blk_cell bz14.out 2).trans rfl
     have z3 : W14.cell? ⟨g, 3, none⟩ = some (.string r0) := (blk_cell bz14.out 3).trans rfl
     have z4 : W14.cell? ⟨g, 4, none⟩ = some (.slice A10 o2.length d10) := (blk_cell bz14.out 4).trans rfl
     have B14 := Aside0.mk (Bd.out.trans (hb14.out.mono Bd.out.size))
     have R14 := Aside0.mk (Kd.R_below Rd.out hb14.out)
     have O14 := Aside0.mk (Kd.N_below Od.out hb14.out)
     have F14 := Aside0.mk (k114_mkF W14 (fun k => (P k ∧ k < w.heap.size) ∨ N ≤ k) ⟨wo, k0, n0, r0, o2⟩ hl10 (Kd.F_below Fd.out hb14.out))
     have hs14 : u1.heap.size ≤ W14.heap.size := hb14.out.size
     have hb0 := Aside0.mk (Kd.N_base Od.out)
     clear Bd Rd Od Fd hb14
     go_wp2_with (at_builtin; (refine Kd.N_append k114 (w0 := w2) (W := W14) w2.heap.size rfl (.tmp 53) (.tmp 55) 65 114 (.agg #[.int .i64 0, .string ⟨#[]⟩, .string ⟨#[]⟩, .string ⟨#[]⟩, .slice none 0 0]) 80 rfl Tryd.underlying65 infoChg rfl (by decide) (by decide) (.slice Ai M.length di) M ⟨wo, k0, n0, r0, o2⟩ [.int .i64 wo, .string k0, .string n0, .string r0, .slice A10 o2.length d10] (fun k => P k ∨ w.heap.size ≤ k) (fun k => (P k ∧ k < w.heap.size) ∨ N ≤ k) rfl (by simp [Act.eval]) F14.out ?hokp ?hfresh O14.out B14.out ?hbase ?hl ?_))
     case hokp => exact fun k hk => ⟨hk.elim (fun h => .inl h.1) (fun h => .inr (by have := hB0; omega)), fun e => by
      have h1 := hb0.out k e.symm
      have h2 := hV.out k e.symm
      rcases hk with h | h <;> omega⟩
     case hfresh => exact fun k hk => .inr (by omega)
     case hbase => exact B14.out.size
     case hl => omega
     intro v15 w15 ho15 hb15 hg15 hat15
     have R15 := Aside0.mk (Kd.R_over' R14.out (Kd.N_typed O14.out) (by decide) hg15)
     have O15 : Aside0 (Kd.N k114 114 w15 w2.heap.size (fun k => P k ∨ w.heap.size ≤ k) v15 (((rulesL k0).take (k + 1)).flatMap (setOf ⟨k0, n0, xs⟩ ⟨k0, n0, ys⟩))) := ⟨by rw [HN2.out]; exact ho15⟩
     have B15 := Aside0.mk hb15
     clear ho15 hg15 hat15 hb15 z0 z1 z2 z3 z4 bz14 B14 R14 O14 F14
     go_wp2
     go_roundw
     case rel => exact ⟨k + 1, by go_num, hlt, B15, R15, O15⟩
     case measure => simp [intOf]; omega
    ·have hw : wo = 3 := by rw [hwo]; unfold whatOf; rw [if_neg (by omega)]
     have bz14 : Aside0 (W13.heap[g]? = some (.cells #[.int .i64 wo, .string k0, .string n0, .string r0, .slice A10 o2.length d10] 114 (0, 0))) := ⟨by rw [hw]; exact bz13⟩
     have hb14 := Aside0.mk hb13
     clear bz13 hb13 hwo hw
     go_upto_region 12 with (fail)
     obtain ⟨W14, hW⟩ : ∃ x, x = W13 := ⟨_, rfl⟩
     subst hW
     have z0 : W14.cell? ⟨g, 0, none⟩ = some (.int .i64 wo) := (blk_cell bz14.out 0).trans rfl
     have z1 : W14.cell? ⟨g, 1, none⟩ = some (.string k0) := (blk_cell bz14.out 1).trans rfl
     have z2 : W14.cell? ⟨g, 2, none⟩ = some (.string n0) := (blk_cell bz14.out 2).trans rfl
     have z3 : W14.cell? ⟨g, 3, none⟩ = some (.string r0) := (blk_cell bz14.out 3).trans rfl
     have z4 : W14.cell? ⟨g, 4, none⟩ = some (.slice A10 o2.length d10) := (blk_cell bz14.out 4).trans rfl
     have B14 := Aside0.mk (Bd.out.trans (hb14.out.mono Bd.out.size))
     have R14 := Aside0.mk (Kd.R_below Rd.out hb14.out)
     have O14 := Aside0.mk (Kd.N_below Od.out hb14.out)
     have F14 := Aside0.mk (k114_mkF W14 (fun k => (P k ∧ k < w.heap.size) ∨ N ≤ k) ⟨wo, k0, n0, r0, o2⟩ hl10 (Kd.F_below Fd.out hb14.out))
     have hs14 : u1.heap.size ≤ W14.heap.size := hb14.out.size
     have hb0 := Aside0.mk (Kd.N_base Od.out)
     clear Bd Rd Od Fd hb14
     go_wp2_with (at_builtin; (refine Kd.N_append k114 (w0 := w2) (W := W14) w2.heap.size rfl (.tmp 53) (.tmp 55) 65 114 (.agg #[.int .i64 0, .string ⟨#[]⟩, .string ⟨#[]⟩, .string ⟨#[]⟩, .slice none 0 0]) 80 rfl Tryd.underlying65 infoChg rfl (by decide) (by decide) (.slice Ai M.length di) M ⟨wo, k0, n0, r0, o2⟩ [.int .i64 wo, .string k0, .string n0, .string r0, .slice A10 o2.length d10] (fun k => P k ∨ w.heap.size ≤ k) (fun k => (P k ∧ k < w.heap.size) ∨ N ≤ k) rfl (by simp [Act.eval]) F14.out ?hokp ?hfresh O14.out B14.out ?hbase ?hl ?_))
     case hokp => exact fun k hk => ⟨hk.elim (fun h => .inl h.1) (fun h => .inr (by have := hB0; omega)), fun e => by
      have h1 := hb0.out k e.symm
      have h2 := hV.out k e.symm
      rcases hk with h | h <;> omega⟩
     case hfresh => exact fun k hk => .inr (by omega)
     case hbase => exact B14.out.size
     case hl => omega
     intro v15 w15 ho15 hb15 hg15 hat15
     have R15 := Aside0.mk (Kd.R_over' R14.out (Kd.N_typed O14.out) (by decide) hg15)
     have O15 : Aside0 (Kd.N k114 114 w15 w2.heap.size (fun k => P k ∨ w.heap.size ≤ k) v15 (((rulesL k0).take (k + 1)).flatMap (setOf ⟨k0, n0, xs⟩ ⟨k0, n0, ys⟩))) := ⟨by rw [HN2.out]; exact ho15⟩
     have B15 := Aside0.mk hb15
     clear ho15 hg15 hat15 hb15 z0 z1 z2 z3 z4 bz14 B14 R14 O14 F14
     go_wp2
     go_roundw
     case rel => exact ⟨k + 1, by go_num, hlt, B15, R15, O15⟩
     case measure => simp [intOf]; omega
  ·obtain rfl : k = (rulesL k0).length := by omega
   rw [List.take_length, HRS.out] at hO
   have hO2 := Aside0.mk (Kd.N_lower hO.out (show w.heap.size ≤ w2.heap.size by omega))
   rw [List.take_length, HRS.out]
   go_wp2
   go_ret
   exact ⟨_, rfl, hO2.out, B2.out.trans (hB.out.mono B2.out.size)⟩
def ChsV (w : World) (v : Value) (L : List S114) : Prop := ∃ R d, v = .slice R L.length d ∧ L.length ≤ d ∧ Kd.C k114 w R L.length L
theorem ChsV.of_N {w : World} {b : Nat} {ok : Nat → Prop} {v : Value} {L : List S114} (h : Kd.N k114 114 w b ok v L) : ChsV w v L := by
 obtain ⟨A, c, rfl, hl, hC⟩ := Kd.N_reads h
 exact ⟨A, c, rfl, hl, hC⟩
theorem spec_nil (a b : List S62) (h : (sheetOk a && sheetOk b) = false) : diffP a b = [] := by unfold diffP; rw [h]; rfl
theorem l3Lines_f (ls : List S83) (hs : smallLs ls) (A : Option Addr) (c : Nat) (w : World) (hC : Kd.C k83 w A ls.length ls) (hc : ls.length ≤ c) :
  Calls Tryd.prog 100 #[.slice A ls.length c] w fun e w' => ∃ A9 d9, e = .returned (.slice A9 ls.length d9) ∧ ls.length ≤ d9 ∧ Kd.F k83 w' (fun k => w.heap.size ≤ k) A9 ls.length ls ∧ Below w.heap.size w w' := by
 obtain ⟨K5, hk5⟩ := (ev_l3Lines ls hs).rounds
 refine (spec_l3Lines.calls K5 A c ls ls w hC hc hk5).mono ?_
 rintro e w9 ⟨v9, rfl, hN9, hb9⟩
 obtain ⟨A9, d9, rfl⟩ := Kd.R_slice hN9
 exact ⟨A9, d9, rfl, (Kd.R_reads' hN9).2.1, Kd.F_mono (Kd.R_F (Kd.R_bound hN9)) (fun k hk => hk.2.1), hb9⟩
set_option maxRecDepth 100000 in
set_option maxHeartbeats 8000000 in
theorem specDiff_any (A B : Option Addr) (c d : Nat) (xs ys : List S62) (w : World) (ha : Kd.C k62 w A xs.length xs) (hac : xs.length ≤ c) (hb : Kd.C k62 w B ys.length ys) (hbd : ys.length ≤ d) (sa : smallBs xs) (sb : smallBs ys) :
  Calls Tryd.prog 48 #[.agg #[.slice A xs.length c], .agg #[.slice B ys.length d]] w fun e w' => ∃ v, e = .returned v ∧ ChsV w' v (diffP xs ys) ∧ Below w.heap.size w w' := by
 obtain ⟨K1, hk1⟩ := (ev_specValid xs (fits_small xs sa)).rounds
 obtain ⟨K2, hk2⟩ := (ev_specValid ys (fits_small ys sb)).rounds
 have HVA := Aside0.mk (fun w hC => spec_SheetValid.calls K1 A c xs (sheetOk xs) w hC hac hk1)
 have HVB := Aside0.mk (fun w hC => spec_SheetValid.calls K2 B d ys (sheetOk ys) w hC hbd hk2)
 have FA : Aside0 (∀ f0 f1 w, Kd.C k62 w A xs.length xs → Calls Tryd.prog 83 #[.agg #[.slice A xs.length c], .string f0, .string f1] w fun e w' => e = .returned (.int .i64 (findB f0 f1 xs 0)) ∧ Below w.heap.size w w') := ⟨fun f0 f1 w hC => by
  obtain ⟨K3, hk3⟩ := (ev_l3Find f0 f1 xs sa.1).rounds
  exact spec_l3Find.calls K3 A c xs f0 f1 _ w hC hac hk3⟩
 have FB : Aside0 (∀ f0 f1 w, Kd.C k62 w B ys.length ys → Calls Tryd.prog 83 #[.agg #[.slice B ys.length d], .string f0, .string f1] w fun e w' => e = .returned (.int .i64 (findB f0 f1 ys 0)) ∧ Below w.heap.size w w') := ⟨fun f0 f1 w hC => by
  obtain ⟨K3, hk3⟩ := (ev_l3Find f0 f1 ys sb.1).rounds
  exact spec_l3Find.calls K3 B d ys f0 f1 _ w hC hbd hk3⟩
 have HA := Aside0.mk ha
 have HB := Aside0.mk hb
 have SA := Aside0.mk sa
 have SB := Aside0.mk sb
 have hna : xs.length ≤ 1048576 := sa.1
 have hnb : ys.length ≤ 1048576 := sb.1
 have s1 : (w.alloc (.cells #[.slice A xs.length c] 47)).heap.size = w.heap.size + 1 := by simp
 have b1 := blk_alloc (blk_new w (.cells #[.slice A xs.length c] 47)) (.cells #[.slice B ys.length d] 47)
 have b2 := blk_new (w.alloc (.cells #[.slice A xs.length c] 47)) (.cells #[.slice B ys.length d] 47)
 rw [s1] at b2
 have a2 : Below w.heap.size w ((w.alloc (.cells #[.slice A xs.length c] 47)).alloc (.cells #[.slice B ys.length d] 47)) := ((Below.refl _ _).alloc (Nat.le_refl _) _).alloc (by simp) _
 have s2 : ((w.alloc (.cells #[.slice A xs.length c] 47)).alloc (.cells #[.slice B ys.length d] 47)).heap.size = w.heap.size + 2 := by simp
 have hoff : (sheetOk xs && sheetOk ys) = false ∨ (sheetOk xs = true ∧ sheetOk ys = true) := by cases sheetOk xs <;> cases sheetOk ys <;> simp
 have hnil := spec_nil xs ys
 have hP : (sheetOk xs = true ∧ sheetOk ys = true) → diffP xs ys = xs.flatMap (goneOf ys) ++ ys.flatMap (blkOf xs) := fun h => by unfold diffP; rw [h.1, h.2]; rfl
 obtain ⟨R, hR⟩ : ∃ R, diffP xs ys = R := ⟨_, rfl⟩
 rw [hR] at hnil hP
 rw [hR]
 have HP := Aside0.mk hP
 have HNI := Aside0.mk hnil
 clear hR hP hnil ha hb sa sb hk1 hk2
 generalize hva : sheetOk xs = va at *
 generalize hvb : sheetOk ys = vb at *
 have HF := Aside0.mk hoff
 clear hva hvb hoff
 go_enter Tryd.func48, Tryd.ntmps48
 go_upto_region 1 with (fail)
 generalize (w.alloc (.cells #[.slice A xs.length c] 47)).alloc (.cells #[.slice B ys.length d] 47) = w2 at *
 have B2 := Aside0.mk a2
 have HA2 := Aside0.mk (Kd.C_below HA.out a2)
 have HB2 := Aside0.mk (Kd.C_below HB.out a2)
 have a3 : Below w2.heap.size w2 (w2.alloc (.cells #[] 114)) := (Below.refl _ _).alloc (Nat.le_refl _) _
 have O3 : Kd.N k114 114 (w2.alloc (.cells #[] 114)) w2.heap.size (fun _ => True) (.slice (some ⟨w2.heap.size, 0, none⟩) 0 0) ([]) := N_empty (Nat.le_refl _) (fun _ _ => trivial)
 have x0 : (w2.alloc (.cells #[] 114)).cell? ⟨w.heap.size, 0, none⟩ = some (.slice A xs.length c) := (blk_cell (blk_below b1 a3) 0).trans rfl
 have L1 := Aside0.mk b1
 have L2 := Aside0.mk b2
 have hw2 : w.heap.size ≤ w2.heap.size := by omega
 have S2 := Aside0.mk s2
 clear b1 b2 s1 a2 s2
 go_wp2_with fail
 refine (HVA.out _ (Kd.C_below HA2.out a3)).mono ?_
 rintro e w3 ⟨rfl, hb3⟩
 have B3 := Aside0.mk (a3.trans (hb3.mono a3.size))
 have O4 := Aside0.mk (Kd.N_below O3 hb3)
 clear O3 a3 hb3 x0
 cases va with
 | false =>
  have hP := HNI.out rfl
  go_wp2
  go_ret
  rw [hP]
  exact ⟨_, rfl, ChsV.of_N O4.out, B2.out.trans (B3.out.mono B2.out.size)⟩
 | true =>
  have x1 : w3.cell? ⟨w.heap.size + 1, 0, none⟩ = some (.slice B ys.length d) := (blk_cell (blk_below L2.out B3.out) 0).trans rfl
  go_wp2_with fail
  refine (HVB.out _ (Kd.C_below HB2.out B3.out)).mono ?_
  rintro e w4 ⟨rfl, hb4⟩
  have B4 := Aside0.mk (B3.out.trans (hb4.mono B3.out.size))
  have O5 := Aside0.mk (Kd.N_below O4.out hb4)
  clear B3 O4 hb4 x1
  cases vb with
  | false =>
   have hP := HNI.out rfl
   go_wp2
   go_ret
   rw [hP]
   exact ⟨_, rfl, ChsV.of_N O5.out, B2.out.trans (B4.out.mono B2.out.size)⟩
  | true =>
   have HRe := Aside0.mk (HP.out (by simp))
   clear HP HNI HF
   go_wp2
   go_loopw [5, 6] (fun (v i : Value) (wr : World) => ∃ (j : Nat), i = .int .i64 j ∧ j ≤ xs.length ∧ Aside0 (Below w2.heap.size w2 wr) ∧ Aside0 (Kd.N k114 114 wr w2.heap.size (fun _ => True) v ((xs.take j).flatMap (goneOf ys)))) (fun _ i _ => xs.length - (intOf i).toNat)
   case atStart => exact ⟨0, rfl, Nat.zero_le _, B4, ⟨by simpa using O5.out⟩⟩
   case round =>
    clear B4 O5
    obtain ⟨j, rfl, hj, hB, hO⟩ := hrel
    obtain ⟨Ai, di, rfl⟩ := Kd.N_slice hO.out
    have x0 : wr.cell? ⟨w.heap.size, 0, none⟩ = some (.slice A xs.length c) := (blk_cell (blk_below L1.out hB.out) 0).trans rfl
    by_cases hlt : j < xs.length
    ·have hll := flat_lenB (goneOf ys) 1 (xs.take j) (goneOf_len ys)
     rw [List.length_take] at hll
     have HNX := Aside0.mk (take_flat (goneOf ys) xs j hlt)
     generalize (xs.take j).flatMap (goneOf ys) = M at *
     obtain ⟨ad, A1, c1, rfl, hx0, hx1, _, _, _⟩ := block_at HA2.out j xs[j] (List.getElem?_eq_getElem hlt)
     have HX := Aside0.mk (And.intro hx0 hx1)
     replace hx0 := pw_cell_below hB.out hx0
     replace hx1 := pw_cell_below hB.out hx1
     generalize xs[j] = l at *
     obtain ⟨f0, f1, f2⟩ := l
     simp only at *
     have i1 : (j : Int) < (xs.length : Int) := by omega
     have x1 : wr.cell? ⟨w.heap.size + 1, 0, none⟩ = some (.slice B ys.length d) := (blk_cell (blk_below L2.out hB.out) 0).trans rfl
     have HL : Aside0 (∀ w', Below wr.heap.size wr w' → Calls Tryd.prog 83 #[.agg #[.slice B ys.length d], .string f0, .string f1] w' fun e w'' => e = .returned (.int .i64 (findB f0 f1 ys 0)) ∧ Below w'.heap.size w' w'') := ⟨fun w' hb => FB.out f0 f1 w' (Kd.C_below (Kd.C_below HB2.out hB.out) hb)⟩
     have HG : Aside0 ((xs.take (j + 1)).flatMap (goneOf ys) = M ++ if findB f0 f1 ys 0 < 0 then [⟨1, f0, f1, noneS, []⟩] else []) := ⟨by rw [HNX.out]; unfold goneOf; rfl⟩
     clear HNX
     by_cases q : findB f0 f1 ys 0 < 0
     all_goals
      generalize findB f0 f1 ys 0 = fb at *
      go_upto_region 7 with (fail)
      go_region_held3 (fun w' => w'.cell? ⟨w.heap.size, 0, none⟩ = some (.slice (some ad) xs.length c) ∧ w'.cell? ⟨w.heap.size + 1, 0, none⟩ = some (.slice B ys.length d) ∧ w'.cell? (ad.add (j * 3)) = some (.string f0) ∧ w'.cell? ⟨(ad.add (j * 3)).block, (ad.add (j * 3)).off + 1, none⟩ = some (.string f1)) (first | go_keep | exact ⟨pw_cell_below hbl x0, pw_cell_below hbl x1, pw_cell_below hbl hx0, pw_cell_below hbl hx1⟩) (first | (go_at_call 83; refine (HL.out _ (below_drew (Below.refl _ _))).mono ?_; rintro e w8 ⟨rfl, hbl⟩))
      have h8 : Below wr.heap.size wr w8 := (below_drew (Below.refl wr.heap.size wr)).trans (hbl.mono (Nat.le_refl _))
      have B8 := Aside0.mk (hB.out.trans (h8.mono hB.out.size))
      have O8 := Aside0.mk (Kd.N_below hO.out h8)
      have y0 := pw_cell_below h8 x0
      have y2 := pw_cell_below h8 hx0
      have y3 := pw_cell_below h8 hx1
      clear hbl h8 x0 x1 hx0 hx1 hB hO HL
     ·have HG2 := HG.out
      rw [if_pos q] at HG2
      have HG3 := Aside0.mk HG2
      clear HG2 HG
      go_upto_region 8 with (fail)
      have d8 : Below w8.heap.size w8 w8.drew := below_drew (Below.refl _ _)
      have U0 := pw_cell_below d8 y0
      have U1 := pw_cell_below d8 y2
      have U2 := pw_cell_below d8 y3
      have Bd := Aside0.mk (B8.out.trans (d8.mono B8.out.size))
      have Od := Aside0.mk (Kd.N_below O8.out d8)
      clear d8 B8 O8 y0 y2 y3
      refine start_ (n := 17) (S := (fun w' => w'.cell? ⟨w.heap.size, 0, none⟩ = some (.slice (some ad) xs.length c) ∧ w'.cell? (ad.add (j * 3)) = some (.string f0) ∧ w'.cell? ⟨(ad.add (j * 3)).block, (ad.add (j * 3)).off + 1, none⟩ = some (.string f1))) (ds := []) (bz_ 17 0) (by kernel_rfl) rfl rfl ⟨U0, U1, U2⟩ (fun hHeld => ?_)
      generalize w8.drew = u1 at *
      refine pure_ (i := 0) (N := some 42) (v := ?_) (a' := ?_) (bz_ 17 1) rfl rfl (by kernel_rfl) (fun _ _ _ h => h) (Or.inl ⟨by rfl, ?_⟩) ?_ ?_
      rotate_left
      ·intro w'
       go_simp
       with_reducible rfl
      rotate_left
      ·simp only [Act.put, List.setIfInBounds_toArray, List.set_cons_zero, List.set_cons_succ, i64_w, i32_w]
       rfl
      refine pure_ (i := 1) (N := some 43) (v := ?_) (a' := ?_) (bz_ 17 3) rfl rfl (by kernel_rfl) (fun _ _ _ h => h) (Or.inl ⟨by rfl, ?_⟩) ?_ ?_
      rotate_left
      ·intro w'
       go_simp
       with_reducible rfl
      rotate_left
      ·simp only [Act.put, List.setIfInBounds_toArray, List.set_cons_zero, List.set_cons_succ, i64_w, i32_w]
       rfl
      refine take_ (i := 2) (N := some 44) (v := ?_) (a' := ?_) (bz_ 17 7) rfl rfl (by kernel_rfl) (fun _ _ _ h => h) (Or.inl ⟨by rfl, ?_⟩) hHeld ?_ ?_
      rotate_left
      ·rintro w' ⟨s0, s1, s2⟩
       go_simp
       with_reducible rfl
      rotate_left
      ·simp only [Act.put, List.setIfInBounds_toArray, List.set_cons_zero, List.set_cons_succ, i64_w, i32_w]
       rfl
      refine pure_ (i := 3) (N := some 45) (v := ?_) (a' := ?_) (bz_ 17 15) rfl rfl (by kernel_rfl) (fun _ _ _ h => h) (Or.inl ⟨by rfl, ?_⟩) ?_ ?_
      rotate_left
      ·intro w'
       go_simp
       with_reducible rfl
      rotate_left
      ·simp only [Act.put, List.setIfInBounds_toArray, List.set_cons_zero, List.set_cons_succ, i64_w, i32_w]
       rfl
      refine pure_ (i := 4) (N := some 46) (v := ?_) (a' := ?_) (bz_ 17 31) rfl rfl (by kernel_rfl) (fun _ _ _ h => h) (Or.inl ⟨by rfl, ?_⟩) ?_ ?_
      rotate_left
      ·intro w'
       go_simp
       with_reducible rfl
      rotate_left
      ·simp only [Act.put, List.setIfInBounds_toArray, List.set_cons_zero, List.set_cons_succ, i64_w, i32_w]
       rfl
      refine pure_ (i := 5) (N := some 47) (v := ?_) (a' := ?_) (bz_ 17 63) rfl rfl (by kernel_rfl) (fun _ _ _ h => h) (Or.inl ⟨by rfl, ?_⟩) ?_ ?_
      rotate_left
      ·intro w'
       go_simp
       with_reducible rfl
      rotate_left
      ·simp only [Act.put, List.setIfInBounds_toArray, List.set_cons_zero, List.set_cons_succ, i64_w, i32_w]
       rfl
      refine take_ (i := 6) (N := some 48) (v := ?_) (a' := ?_) (bz_ 17 127) rfl rfl (by kernel_rfl) (fun _ _ _ h => h) (Or.inl ⟨by rfl, ?_⟩) hHeld ?_ ?_
      rotate_left
      ·rintro w' ⟨s0, s1, s2⟩
       go_simp
       with_reducible rfl
      rotate_left
      ·simp only [Act.put, List.setIfInBounds_toArray, List.set_cons_zero, List.set_cons_succ, i64_w, i32_w]
       rfl
      refine pure_ (i := 7) (N := some 49) (v := ?_) (a' := ?_) (bz_ 17 255) rfl rfl (by kernel_rfl) (fun _ _ _ h => h) (Or.inl ⟨by rfl, ?_⟩) ?_ ?_
      rotate_left
      ·intro w'
       go_simp
       with_reducible rfl
      rotate_left
      ·simp only [Act.put, List.setIfInBounds_toArray, List.set_cons_zero, List.set_cons_succ, i64_w, i32_w]
       rfl
      refine take_ (i := 8) (N := some 50) (v := ?_) (a' := ?_) (bz_ 17 511) rfl rfl (by kernel_rfl) (fun _ _ _ h => h) (Or.inl ⟨by rfl, ?_⟩) hHeld ?_ ?_
      rotate_left
      ·rintro w' ⟨s0, s1, s2⟩
       go_simp
       with_reducible rfl
      rotate_left
      ·simp only [Act.put, List.setIfInBounds_toArray, List.set_cons_zero, List.set_cons_succ, i64_w, i32_w]
       rfl
      refine pure_ (i := 9) (N := some 51) (v := ?_) (a' := ?_) (bz_ 17 1023) rfl rfl (by kernel_rfl) (fun _ _ _ h => h) (Or.inl ⟨by rfl, ?_⟩) ?_ ?_
      rotate_left
      ·intro w'
       go_simp
       with_reducible rfl
      rotate_left
      ·simp only [Act.put, List.setIfInBounds_toArray, List.set_cons_zero, List.set_cons_succ, i64_w, i32_w]
       rfl
      refine pure_ (i := 10) (N := some 52) (v := ?_) (a' := ?_) (bz_ 17 2047) rfl rfl (by kernel_rfl) (fun _ _ _ h => h) (Or.inl ⟨by rfl, ?_⟩) ?_ ?_
      rotate_left
      ·intro w'
       go_simp
       with_reducible rfl
      rotate_left
      ·simp only [Act.put, List.setIfInBounds_toArray, List.set_cons_zero, List.set_cons_succ, i64_w, i32_w]
       rfl
      refine pure_ (i := 11) (N := some 53) (v := ?_) (a' := ?_) (bz_ 17 4095) rfl rfl (by kernel_rfl) (fun _ _ _ h => h) (Or.inl ⟨by rfl, ?_⟩) ?_ ?_
      rotate_left
      ·intro w'
       go_simp
       with_reducible rfl
      rotate_left
      ·simp only [Act.put, List.setIfInBounds_toArray, List.set_cons_zero, List.set_cons_succ, i64_w, i32_w]
       rfl
      refine take_ (i := 12) (N := some 54) (v := ?_) (a' := ?_) (bz_ 17 8191) rfl rfl (by kernel_rfl) (fun _ _ _ h => h) (Or.inl ⟨by rfl, ?_⟩) hHeld ?_ ?_
      rotate_left
      ·rintro w' ⟨s0, s1, s2⟩
       go_simp
       with_reducible rfl
      rotate_left
      ·simp only [Act.put, List.setIfInBounds_toArray, List.set_cons_zero, List.set_cons_succ, i64_w, i32_w]
       rfl
      refine pure_ (i := 13) (N := some 55) (v := ?_) (a' := ?_) (bz_ 17 16383) rfl rfl (by kernel_rfl) (fun _ _ _ h => h) (Or.inl ⟨by rfl, ?_⟩) ?_ ?_
      rotate_left
      ·intro w'
       go_simp
       with_reducible rfl
      rotate_left
      ·simp only [Act.put, List.setIfInBounds_toArray, List.set_cons_zero, List.set_cons_succ, i64_w, i32_w]
       rfl
      refine one_ (i := 14) (N := some 56) (bz_ 17 32767) rfl rfl (by kernel_rfl) (by decide) (fun K hK => ?_)
      refine value_ (w1 := ?_) (v := ?_) (by rfl) rfl ?_ ?_
      rotate_left 2
      ·go_simp
       constructor
       ·rfl
       ·rfl
      have a8 : Below u1.heap.size u1 (u1.alloc (.cells #[.int .i64 1, .string f0, .string f1, .string noneS, .slice none 0 0] 114)) := (Below.refl _ _).alloc (Nat.le_refl _) _
      refine hK.out _ _ ⟨pw_cell_below a8 U0, pw_cell_below a8 U1, pw_cell_below a8 U2⟩ (fun hHeld => ?_)
      clear hK K hHeld
      refine norm_ (a' := ?_) ?_ ?_
      rotate_left
      ·show Act.put _ (some 56) _ = _
       simp only [putAll, Act.put, List.setIfInBounds_toArray, List.set_cons_zero, List.set_cons_succ, i64_w, i32_w]
       rfl
      refine one_ (i := 15) (N := some 57) (bz_ 17 65535) rfl rfl (by kernel_rfl) (by decide) (fun K hK => ?_)
      refine Kd.N_append_step k114 (w0 := w2) (W := u1) w2.heap.size (by rfl) (.tmp 42) (.tmp 56) 65 114 (.agg #[.int .i64 0, .string ⟨#[]⟩, .string ⟨#[]⟩, .string ⟨#[]⟩, .slice none 0 0]) 80 rfl Tryd.underlying65 infoChg rfl (by decide) (by decide) (.slice Ai M.length di) M ⟨1, f0, f1, noneS, []⟩ [.int .i64 1, .string f0, .string f1, .string noneS, .slice none 0 0] (fun _ => True) (fun _ => False) (by rfl) (by rfl) (k114_mkF u1 _ ⟨1, f0, f1, noneS, []⟩ (A4 := none) (c4 := 0) (Nat.le_refl _) (Kd.F_nil _ _ _)) (fun _ hk => hk.elim) (fun _ _ => trivial) Od.out Bd.out Bd.out.size (by omega) ?_
      intro v15 w15 ho15 hb15 hg15 hat15
      refine hK.out _ _ ⟨(blk_cell (blk_below L1.out hb15) 0).trans rfl, pw_cell_below hb15 HX.out.1, pw_cell_below hb15 HX.out.2⟩ (fun hHeld => ?_)
      have O15 : Aside0 (Kd.N k114 114 w15 w2.heap.size (fun _ => True) v15 ((xs.take (j + 1)).flatMap (goneOf ys))) := ⟨by rw [HG3.out]; exact ho15⟩
      have B15 := Aside0.mk hb15
      clear hK K hHeld ho15 hb15 hg15 hat15 Bd Od U0 U1 U2 a8
      refine norm_ (a' := ?_) ?_ ?_
      rotate_left
      ·show Act.put _ (some 57) _ = _
       simp only [putAll, Act.put, List.setIfInBounds_toArray, List.set_cons_zero, List.set_cons_succ, i64_w, i32_w]
       rfl
      refine pure_ (i := 16) (N := some 5) (v := ?_) (a' := ?_) (bz_ 17 131071) rfl rfl (by kernel_rfl) (fun _ _ _ h => h) (Or.inl ⟨by rfl, ?_⟩) ?_ ?_
      rotate_left
      ·intro w'
       go_simp
       with_reducible rfl
      rotate_left
      ·simp only [Act.put, List.setIfInBounds_toArray, List.set_cons_zero, List.set_cons_succ, i64_w, i32_w]
       rfl
      refine done_ (by kernel_rfl) ?_
      go_wp2
      go_roundw
      case rel => exact ⟨j + 1, by go_num, hlt, B15, O15⟩
      case measure => simp [intOf]; omega
     ·have HG2 := HG.out
      rw [if_neg (by omega), List.append_nil] at HG2
      have O9 : Aside0 (Kd.N k114 114 w8 w2.heap.size (fun _ => True) (.slice Ai M.length di) ((xs.take (j + 1)).flatMap (goneOf ys))) := ⟨by rw [HG2]; exact O8.out⟩
      clear HG2
      go_wp2
      go_roundw
      case rel => exact ⟨j + 1, by go_num, hlt, B8, O9⟩
      case measure => simp [intOf]; omega
    ·obtain rfl : j = xs.length := by omega
     have hL1 := flat_lenB (goneOf ys) 1 xs (goneOf_len ys)
     rw [List.take_length] at hO
     rw [List.take_length]
     have x4 : wr.cell? ⟨w.heap.size + 1, 0, none⟩ = some (.slice B ys.length d) := (blk_cell (blk_below L2.out hB.out) 0).trans rfl
     generalize xs.flatMap (goneOf ys) = L0 at *
     obtain ⟨wa, hwa⟩ : ∃ wa, wa = wr := ⟨_, rfl⟩
     subst hwa
     go_wp2
     go_loopw [5, 7] (fun (v i : Value) (wr : World) => ∃ (j : Nat), i = .int .i64 j ∧ j ≤ ys.length ∧ Aside0 (Below w2.heap.size w2 wr) ∧ Aside0 (Kd.N k114 114 wr w2.heap.size (fun _ => True) v (L0 ++ (ys.take j).flatMap (blkOf xs)))) (fun _ i _ => ys.length - (intOf i).toNat)
     case atStart => exact ⟨0, rfl, Nat.zero_le _, hB, ⟨by simpa using hO.out⟩⟩
     case round =>
      clear hB hO hj hlt x4 x0
      obtain ⟨j, rfl, hj, hB, hO⟩ := hrel
      obtain ⟨Ai, di, rfl⟩ := Kd.N_slice hO.out
      have x1 : wr.cell? ⟨w.heap.size + 1, 0, none⟩ = some (.slice B ys.length d) := (blk_cell (blk_below L2.out hB.out) 0).trans rfl
      by_cases hlt : j < ys.length
      ·have hll := flat_lenB (blkOf xs) 12 (ys.take j) (blkOf_len xs)
       rw [List.length_take] at hll
       have HNX := Aside0.mk (take_flat (blkOf xs) ys j hlt)
       generalize (ys.take j).flatMap (blkOf xs) = M1 at *
       have hl2 : (L0 ++ M1).length ≤ 13631488 := by rw [List.length_append]; omega
       have HNY : Aside0 (L0 ++ (ys.take (j + 1)).flatMap (blkOf xs) = L0 ++ M1 ++ blkOf xs ys[j]) := ⟨by rw [HNX.out, List.append_assoc]⟩
       clear HNX hll
       generalize L0 ++ M1 = M at *
       obtain ⟨ad, A1, c1, rfl, hx0, hx1, hx2, hl1, hC1⟩ := block_at HB2.out j ys[j] (List.getElem?_eq_getElem hlt)
       have hsl := (SB.out.2 _ (List.getElem_mem hlt)).2.2
       generalize ys[j] = l at *
       obtain ⟨f0, f1, f2⟩ := l
       simp only at *
       replace hx0 := pw_cell_below hB.out hx0
       replace hx1 := pw_cell_below hB.out hx1
       replace hx2 := pw_cell_below hB.out hx2
       have HC1 := Aside0.mk hC1
       have i1 : (j : Int) < (ys.length : Int) := by omega
       have x0 : wr.cell? ⟨w.heap.size, 0, none⟩ = some (.slice A xs.length c) := (blk_cell (blk_below L1.out hB.out) 0).trans rfl
       have a5 : Below wr.heap.size wr (wr.alloc (.cells #[.string f0, .string f1, .slice A1 f2.length c1] 62)) := (Below.refl _ _).alloc (Nat.le_refl _) _
       have b5 := blk_new wr (.cells #[.string f0, .string f1, .slice A1 f2.length c1] 62)
       have B5 := Aside0.mk (hB.out.trans (a5.mono hB.out.size))
       have O5 := Aside0.mk (Kd.N_below hO.out a5)
       have x5 := pw_cell_below a5 x0
       have s5 : wr.heap.size < (wr.alloc (.cells #[.string f0, .string f1, .slice A1 f2.length c1] 62)).heap.size := by simp
       have hV := Aside0.mk (Kd.N_lt hO.out)
       have hNw : w2.heap.size ≤ wr.heap.size := hB.out.size
       have HSL := Aside0.mk hsl
       clear hsl hC1
       go_upto_region 13 with (fail)
       generalize wr.alloc (.cells #[.string f0, .string f1, .slice A1 f2.length c1] 62) = w5 at *
       generalize wr.heap.size = N5 at *
       have y0 : w5.cell? ⟨N5, 0, none⟩ = some (.string f0) := (blk_cell b5 0).trans rfl
       have y1 : w5.cell? ⟨N5, 1, none⟩ = some (.string f1) := (blk_cell b5 1).trans rfl
       have b5' := Aside0.mk b5
       clear hB hO a5 x0 x1 hx0 hx1 hx2 b5
       go_wp2_with fail
       refine (FA.out f0 f1 w5 (Kd.C_below HA2.out B5.out)).mono ?_
       rintro e w6 ⟨rfl, hb6⟩
       have B6 := Aside0.mk (B5.out.trans (hb6.mono B5.out.size))
       have b6 := Aside0.mk (blk_below b5'.out hb6)
       have O6 := Aside0.mk (Kd.N_below O5.out hb6)
       have s6 : N5 < w6.heap.size := Nat.lt_of_lt_of_le s5 hb6.size
       clear hb6 x5 y0 y1 b5' O5 B5 s5
       by_cases q : findB f0 f1 xs 0 < 0
       ·have HG : Aside0 (L0 ++ (ys.take (j + 1)).flatMap (blkOf xs) = M ++ [⟨2, f0, f1, noneS, f2⟩]) := ⟨by rw [HNY.out]; unfold blkOf; rw [if_pos q]; rfl⟩
        clear HNY
        go_upto_region 15 with (fail)
        have d6 : Below w6.heap.size w6 w6.drew := below_drew (Below.refl _ _)
        have U0 : w6.drew.cell? ⟨N5, 0, none⟩ = some (.string f0) := (blk_cell b6.out 0).trans rfl
        have U1 : w6.drew.cell? ⟨N5, 1, none⟩ = some (.string f1) := (blk_cell b6.out 1).trans rfl
        have U2 : w6.drew.cell? ⟨N5, 2, none⟩ = some (.slice A1 f2.length c1) := (blk_cell b6.out 2).trans rfl
        have Bd := Aside0.mk (B6.out.trans (d6.mono B6.out.size))
        have Od := Aside0.mk (Kd.N_below O6.out d6)
        have bd := Aside0.mk (blk_below b6.out d6)
        have sd : N5 < w6.drew.heap.size := s6
        clear d6 B6 O6 b6 s6
        refine start_ (n := 12) (S := (fun w' => w'.cell? ⟨N5, 0, none⟩ = some (.string f0) ∧ w'.cell? ⟨N5, 1, none⟩ = some (.string f1) ∧ w'.cell? ⟨N5, 2, none⟩ = some (.slice A1 f2.length c1))) (ds := []) (bz_ 12 0) (by kernel_rfl) rfl rfl ⟨U0, U1, U2⟩ (fun hHeld => ?_)
        generalize w6.drew = u at *
        refine pure_ (i := 0) (N := some 78) (v := ?_) (a' := ?_) (bz_ 12 1) rfl rfl (by kernel_rfl) (fun _ _ _ h => h) (Or.inl ⟨by rfl, ?_⟩) ?_ ?_
        rotate_left
        ·intro w'
         go_simp
         with_reducible rfl
        rotate_left
        ·simp only [Act.put, List.setIfInBounds_toArray, List.set_cons_zero, List.set_cons_succ, i64_w, i32_w]
         rfl
        refine pure_ (i := 1) (N := some 79) (v := ?_) (a' := ?_) (bz_ 12 3) rfl rfl (by kernel_rfl) (fun _ _ _ h => h) (Or.inl ⟨by rfl, ?_⟩) ?_ ?_
        rotate_left
        ·intro w'
         go_simp
         with_reducible rfl
        rotate_left
        ·simp only [Act.put, List.setIfInBounds_toArray, List.set_cons_zero, List.set_cons_succ, i64_w, i32_w]
         rfl
        refine take_ (i := 2) (N := some 80) (v := ?_) (a' := ?_) (bz_ 12 7) rfl rfl (by kernel_rfl) (fun _ _ _ h => h) (Or.inl ⟨by rfl, ?_⟩) hHeld ?_ ?_
        rotate_left
        ·rintro w' ⟨s0, s1, s2⟩
         go_simp
         with_reducible rfl
        rotate_left
        ·simp only [Act.put, List.setIfInBounds_toArray, List.set_cons_zero, List.set_cons_succ, i64_w, i32_w]
         rfl
        refine pure_ (i := 3) (N := some 81) (v := ?_) (a' := ?_) (bz_ 12 15) rfl rfl (by kernel_rfl) (fun _ _ _ h => h) (Or.inl ⟨by rfl, ?_⟩) ?_ ?_
        rotate_left
        ·intro w'
         go_simp
         with_reducible rfl
        rotate_left
        ·simp only [Act.put, List.setIfInBounds_toArray, List.set_cons_zero, List.set_cons_succ, i64_w, i32_w]
         rfl
        refine take_ (i := 4) (N := some 82) (v := ?_) (a' := ?_) (bz_ 12 31) rfl rfl (by kernel_rfl) (fun _ _ _ h => h) (Or.inl ⟨by rfl, ?_⟩) hHeld ?_ ?_
        rotate_left
        ·rintro w' ⟨s0, s1, s2⟩
         go_simp
         with_reducible rfl
        rotate_left
        ·simp only [Act.put, List.setIfInBounds_toArray, List.set_cons_zero, List.set_cons_succ, i64_w, i32_w]
         rfl
        refine pure_ (i := 5) (N := some 83) (v := ?_) (a' := ?_) (bz_ 12 63) rfl rfl (by kernel_rfl) (fun _ _ _ h => h) (Or.inl ⟨by rfl, ?_⟩) ?_ ?_
        rotate_left
        ·intro w'
         go_simp
         with_reducible rfl
        rotate_left
        ·simp only [Act.put, List.setIfInBounds_toArray, List.set_cons_zero, List.set_cons_succ, i64_w, i32_w]
         rfl
        refine take_ (i := 6) (N := some 84) (v := ?_) (a' := ?_) (bz_ 12 127) rfl rfl (by kernel_rfl) (fun _ _ _ h => h) (Or.inl ⟨by rfl, ?_⟩) hHeld ?_ ?_
        rotate_left
        ·rintro w' ⟨s0, s1, s2⟩
         go_simp
         with_reducible rfl
        rotate_left
        ·simp only [Act.put, List.setIfInBounds_toArray, List.set_cons_zero, List.set_cons_succ, i64_w, i32_w]
         rfl
        refine one_ (i := 7) (N := some 85) (bz_ 12 255) rfl rfl (by kernel_rfl) (by decide) (fun K hK => ?_)
        refine goes_ Tryd.func100 (by kernel_rfl) rfl #[.slice A1 f2.length c1] (by rfl) rfl rfl (by (try simp only [List.map_toArray, List.map_cons, List.map_nil]); first | done | rfl) ?_
        with_reducible refine (l3Lines_f f2 HSL.out A1 c1 u (Kd.C_below HC1.out Bd.out) hl1).mono ?_
        rintro e w7 ⟨A7, d7, rfl, hl7, hF7, hb7⟩
        refine ⟨_, rfl, ?_⟩
        have B7 := Aside0.mk (Bd.out.trans (hb7.mono Bd.out.size))
        have O7 := Aside0.mk (Kd.N_below Od.out hb7)
        have b7 := Aside0.mk (blk_below bd.out hb7)
        have F7 := Aside0.mk hF7
        have s7 : N5 < w7.heap.size := Nat.lt_of_lt_of_le sd hb7.size
        refine hK.out _ _ ⟨pw_cell_below hb7 U0, pw_cell_below hb7 U1, pw_cell_below hb7 U2⟩ (fun hHeld => ?_)
        have V := Aside0.mk hHeld
        have nu : N5 < u.heap.size := sd
        clear hK K hHeld hb7 hF7 Bd Od bd sd U0 U1 U2
        refine norm_ (a' := ?_) ?_ ?_
        rotate_left
        ·show Act.put _ (some 85) _ = _
         simp only [putAll, Act.put, List.setIfInBounds_toArray, List.set_cons_zero, List.set_cons_succ, i64_w, i32_w]
         rfl
        refine pure_ (i := 8) (N := some 86) (v := ?_) (a' := ?_) (bz_ 12 511) rfl rfl (by kernel_rfl) (fun _ _ _ h => h) (Or.inl ⟨by rfl, ?_⟩) ?_ ?_
        rotate_left
        ·intro w'
         go_simp
         with_reducible rfl
        rotate_left
        ·simp only [Act.put, List.setIfInBounds_toArray, List.set_cons_zero, List.set_cons_succ, i64_w, i32_w]
         rfl
        refine one_ (i := 9) (N := some 87) (bz_ 12 1023) rfl rfl (by kernel_rfl) (by decide) (fun K hK => ?_)
        refine value_ (w1 := ?_) (v := ?_) (by rfl) rfl ?_ ?_
        rotate_left 2
        ·go_simp
         constructor
         ·rfl
         ·rfl
        have a8 : Below w7.heap.size w7 (w7.alloc (.cells #[.int .i64 2, .string f0, .string f1, .string noneS, .slice A7 f2.length d7] 114)) := (Below.refl _ _).alloc (Nat.le_refl _) _
        refine hK.out _ _ ⟨pw_cell_below a8 V.out.1, pw_cell_below a8 V.out.2.1, pw_cell_below a8 V.out.2.2⟩ (fun hHeld => ?_)
        clear hK K hHeld
        refine norm_ (a' := ?_) ?_ ?_
        rotate_left
        ·show Act.put _ (some 87) _ = _
         simp only [putAll, Act.put, List.setIfInBounds_toArray, List.set_cons_zero, List.set_cons_succ, i64_w, i32_w]
         rfl
        refine one_ (i := 10) (N := some 88) (bz_ 12 2047) rfl rfl (by kernel_rfl) (by decide) (fun K hK => ?_)
        refine Kd.N_append_step k114 (w0 := w2) (W := w7) w2.heap.size (by rfl) (.tmp 78) (.tmp 87) 65 114 (.agg #[.int .i64 0, .string ⟨#[]⟩, .string ⟨#[]⟩, .string ⟨#[]⟩, .slice none 0 0]) 80 rfl Tryd.underlying65 infoChg rfl (by decide) (by decide) (.slice Ai M.length di) M ⟨2, f0, f1, noneS, f2⟩ [.int .i64 2, .string f0, .string f1, .string noneS, .slice A7 f2.length d7] (fun _ => True) (fun k => u.heap.size ≤ k) (by rfl) (by rfl) (k114_mkF w7 _ ⟨2, f0, f1, noneS, f2⟩ hl7 F7.out) (fun k hk => ⟨trivial, fun e => by have h := hV.out k e.symm; omega⟩) (fun _ _ => trivial) O7.out B7.out B7.out.size (by omega) ?_
        intro v8 w8 ho8 hb8 hg8 hat8
        have b8 := grow_keep hg8 (fun k hk e => by have := hV.out k hk; omega) b7.out
        refine hK.out _ _ ⟨(blk_cell b8 0).trans rfl, (blk_cell b8 1).trans rfl, (blk_cell b8 2).trans rfl⟩ (fun hHeld => ?_)
        have O8 : Aside0 (Kd.N k114 114 w8 w2.heap.size (fun _ => True) v8 (L0 ++ (ys.take (j + 1)).flatMap (blkOf xs))) := ⟨by rw [HG.out]; exact ho8⟩
        have B8 := Aside0.mk hb8
        clear hK K hHeld ho8 hg8 hb8 hat8 V O7 B7 b7 a8 s7 b8 F7
        refine norm_ (a' := ?_) ?_ ?_
        rotate_left
        ·show Act.put _ (some 88) _ = _
         simp only [putAll, Act.put, List.setIfInBounds_toArray, List.set_cons_zero, List.set_cons_succ, i64_w, i32_w]
         rfl
        refine pure_ (i := 11) (N := some 5) (v := ?_) (a' := ?_) (bz_ 12 4095) rfl rfl (by kernel_rfl) (fun _ _ _ h => h) (Or.inl ⟨by rfl, ?_⟩) ?_ ?_
        rotate_left
        ·intro w'
         go_simp
         with_reducible rfl
        rotate_left
        ·simp only [Act.put, List.setIfInBounds_toArray, List.set_cons_zero, List.set_cons_succ, i64_w, i32_w]
         rfl
        refine done_ (by kernel_rfl) ?_
        go_wp2
        go_roundw
        case rel => exact ⟨j + 1, by go_num, hlt, B8, O8⟩
        case measure => simp [intOf]; omega
       ·obtain ⟨nx, x, hfx, hxn, hxk, hxm⟩ := findB_hit q
        rw [Nat.zero_add] at hfx
        obtain ⟨g0, g1, g2⟩ := x
        simp only at hxk hxm
        subst hxk hxm
        have hbo : blkOf xs ⟨g0, g1, f2⟩ = (rulesL g0).flatMap (setOf ⟨g0, g1, g2⟩ ⟨g0, g1, f2⟩) := by
         unfold blkOf
         simp only
         rw [if_neg q, hfx, rdBlockAt hxn]
        have hbl := flat_lenB (setOf ⟨g0, g1, g2⟩ ⟨g0, g1, f2⟩) 1 (rulesL g0) (setOf_len _ _)
        have hrl := rulesL_len g0
        rw [hbo] at HNY
        obtain ⟨T, hT⟩ : ∃ T, (rulesL g0).flatMap (setOf ⟨g0, g1, g2⟩ ⟨g0, g1, f2⟩) = T := ⟨_, rfl⟩
        rw [hT] at hbo HNY hbl
        obtain ⟨adx, A2, c2, hAe, hz0, hz1, hz2, hl2x, hCx⟩ := block_at HA2.out nx _ hxn
        subst hAe
        have hnx : nx < xs.length := (List.getElem?_eq_some_iff.1 hxn).1
        have hgs := (SA.out.2 _ (List.mem_of_getElem? hxn)).2.2
        have hnxi : (nx : Int) < (xs.length : Int) := by omega
        have LB : Aside0 (∀ w', Below w2.heap.size w2 w' → Calls Tryd.prog 101 #[.agg #[.string g0, .string g1, .slice A2 g2.length c2], .agg #[.string g0, .string g1, .slice A1 f2.length c1]] w' fun e w'' => ∃ v, e = .returned v ∧ Kd.N k114 114 w'' w'.heap.size (fun k => k < w2.heap.size ∨ w'.heap.size ≤ k) v T ∧ Below w'.heap.size w' w'') := ⟨fun w' hb => by
         have h := l7Block_c (fun k => k < w2.heap.size) g0 g1 g2 f2 hgs HSL.out A2 A1 c2 c1 w' (Kd.F_below (Kd.C_F heapLine hCx) (hb.mono (Nat.le_refl _))) hl2x (Kd.F_below (Kd.C_F heapLine HC1.out) (hb.mono (Nat.le_refl _))) hl1
         rw [hT] at h
         exact h⟩
        have HZ := Aside0.mk (And.intro hz0 (And.intro hz1 hz2))
        rw [hfx]
        clear hxn hgs hCx hfx q hT hbo
        go_upto_region 16 with (fail)
        have d6 : Below w6.heap.size w6 w6.drew := below_drew (Below.refl _ _)
        have Bd := Aside0.mk (B6.out.trans (d6.mono B6.out.size))
        have Od := Aside0.mk (Kd.N_below O6.out d6)
        have bd := Aside0.mk (blk_below b6.out d6)
        have sd : N5 < w6.drew.heap.size := s6
        have U0 : w6.drew.cell? ⟨w.heap.size, 0, none⟩ = some (.slice (some adx) xs.length c) := (blk_cell (blk_below L1.out Bd.out) 0).trans rfl
        have U1 := pw_cell_below Bd.out HZ.out.1
        have U2 := pw_cell_below Bd.out HZ.out.2.1
        have U3 := pw_cell_below Bd.out HZ.out.2.2
        have U4 : w6.drew.cell? ⟨N5, 0, none⟩ = some (.string g0) := (blk_cell bd.out 0).trans rfl
        have U5 : w6.drew.cell? ⟨N5, 1, none⟩ = some (.string g1) := (blk_cell bd.out 1).trans rfl
        have U6 : w6.drew.cell? ⟨N5, 2, none⟩ = some (.slice A1 f2.length c1) := (blk_cell bd.out 2).trans rfl
        clear d6 B6 O6 b6 s6 hz0 hz1 hz2
        refine start_ (n := 10) (S := (fun w' => w'.cell? ⟨w.heap.size, 0, none⟩ = some (.slice (some adx) xs.length c) ∧ w'.cell? (adx.add (nx * 3)) = some (.string g0) ∧ w'.cell? ⟨(adx.add (nx * 3)).block, (adx.add (nx * 3)).off + 1, none⟩ = some (.string g1) ∧ w'.cell? ⟨(adx.add (nx * 3)).block, (adx.add (nx * 3)).off + 2, none⟩ = some (.slice A2 g2.length c2) ∧ w'.cell? ⟨N5, 0, none⟩ = some (.string g0) ∧ w'.cell? ⟨N5, 1, none⟩ = some (.string g1) ∧ w'.cell? ⟨N5, 2, none⟩ = some (.slice A1 f2.length c1))) (ds := []) (bz_ 10 0) (by kernel_rfl) rfl rfl ⟨U0, U1, U2, U3, U4, U5, U6⟩ (fun hHeld => ?_)
        generalize w6.drew = u at *
        refine pure_ (i := 0) (N := some 89) (v := ?_) (a' := ?_) (bz_ 10 1) rfl rfl (by kernel_rfl) (fun _ _ _ h => h) (Or.inl ⟨by rfl, ?_⟩) ?_ ?_
        rotate_left
        ·intro w'
         go_simp
         with_reducible rfl
        rotate_left
        ·simp only [Act.put, List.setIfInBounds_toArray, List.set_cons_zero, List.set_cons_succ, i64_w, i32_w]
         rfl
        refine pure_ (i := 1) (N := some 90) (v := ?_) (a' := ?_) (bz_ 10 3) rfl rfl (by kernel_rfl) (fun _ _ _ h => h) (Or.inl ⟨by rfl, ?_⟩) ?_ ?_
        rotate_left
        ·intro w'
         go_simp
         with_reducible rfl
        rotate_left
        ·simp only [Act.put, List.setIfInBounds_toArray, List.set_cons_zero, List.set_cons_succ, i64_w, i32_w]
         rfl
        refine take_ (i := 2) (N := some 91) (v := ?_) (a' := ?_) (bz_ 10 7) rfl rfl (by kernel_rfl) (fun _ _ _ h => h) (Or.inl ⟨by rfl, ?_⟩) hHeld ?_ ?_
        rotate_left
        ·rintro w' ⟨s0, s1, s2, s3, s4, s5, s6⟩
         go_simp
         with_reducible rfl
        rotate_left
        ·simp only [Act.put, List.setIfInBounds_toArray, List.set_cons_zero, List.set_cons_succ, i64_w, i32_w]
         rfl
        refine pure_ (i := 3) (N := some 92) (v := ?_) (a' := ?_) (bz_ 10 15) rfl rfl (by kernel_rfl) (fun _ _ _ h => h) (Or.inl ⟨by rfl, ?_⟩) ?_ ?_
        rotate_left
        ·intro w'
         go_simp
         with_reducible rfl
        rotate_left
        ·simp only [Act.put, List.setIfInBounds_toArray, List.set_cons_zero, List.set_cons_succ, i64_w, i32_w]
         rfl
        refine pure_ (i := 4) (N := some 93) (v := ?_) (a' := ?_) (bz_ 10 31) rfl rfl (by kernel_rfl) (fun _ _ _ h => h) (Or.inl ⟨by rfl, ?_⟩) ?_ ?_
        rotate_left
        ·intro w'
         go_simp
         with_reducible rfl
        rotate_left
        ·simp only [Act.put, List.setIfInBounds_toArray, List.set_cons_zero, List.set_cons_succ, i64_w, i32_w]
         rfl
        refine take_ (i := 5) (N := some 94) (v := ?_) (a' := ?_) (bz_ 10 63) rfl rfl (by kernel_rfl) (fun _ _ _ h => h) (Or.inl ⟨by rfl, ?_⟩) hHeld ?_ ?_
        rotate_left
        ·rintro w' ⟨s0, s1, s2, s3, s4, s5, s6⟩
         go_simp
         with_reducible rfl
        rotate_left
        ·simp only [Act.put, List.setIfInBounds_toArray, List.set_cons_zero, List.set_cons_succ, i64_w, i32_w]
         rfl
        refine take_ (i := 6) (N := some 95) (v := ?_) (a' := ?_) (bz_ 10 127) rfl rfl (by kernel_rfl) (fun _ _ _ h => h) (Or.inl ⟨by rfl, ?_⟩) hHeld ?_ ?_
        rotate_left
        ·rintro w' ⟨s0, s1, s2, s3, s4, s5, s6⟩
         go_simp
         with_reducible rfl
        rotate_left
        ·simp only [Act.put, List.setIfInBounds_toArray, List.set_cons_zero, List.set_cons_succ, i64_w, i32_w]
         rfl
        refine one_ (i := 7) (N := some 96) (bz_ 10 255) rfl rfl (by kernel_rfl) (by decide) (fun K hK => ?_)
        refine goes_ Tryd.func101 (by kernel_rfl) rfl #[.agg #[.string g0, .string g1, .slice A2 g2.length c2], .agg #[.string g0, .string g1, .slice A1 f2.length c1]] (by rfl) rfl rfl (by (try simp only [List.map_toArray, List.map_cons, List.map_nil]); first | done | rfl) ?_
        with_reducible refine (LB.out u Bd.out).mono ?_
        rintro e w7 ⟨v7, rfl, hN7, hb7⟩
        refine ⟨_, rfl, ?_⟩
        have B7 := Aside0.mk (Bd.out.trans (hb7.mono Bd.out.size))
        have O7 := Aside0.mk (Kd.N_below Od.out hb7)
        have b7 := Aside0.mk (blk_below bd.out hb7)
        obtain ⟨A7, d7, rfl⟩ := Kd.N_slice hN7
        have F7 := Aside0.mk (Kd.N_F hN7)
        refine hK.out _ _ ⟨pw_cell_below hb7 U0, pw_cell_below hb7 U1, pw_cell_below hb7 U2, pw_cell_below hb7 U3, pw_cell_below hb7 U4, pw_cell_below hb7 U5, pw_cell_below hb7 U6⟩ (fun hHeld => ?_)
        clear hK K hHeld hb7 hN7 Bd Od bd U0 U1 U2 U3 U4 U5 U6
        refine norm_ (a' := ?_) ?_ ?_
        rotate_left
        ·show Act.put _ (some 96) _ = _
         simp only [putAll, Act.put, List.setIfInBounds_toArray, List.set_cons_zero, List.set_cons_succ, i64_w, i32_w]
         rfl
        refine one_ (i := 8) (N := some 97) (bz_ 10 511) rfl rfl (by kernel_rfl) (by decide) (fun K hK => ?_)
        refine Kd.N_append_rows_step k114 (w0 := w2) (W := w7) w2.heap.size (by rfl) (.tmp 89) (.tmp 96) 65 114 (.agg #[.int .i64 0, .string ⟨#[]⟩, .string ⟨#[]⟩, .string ⟨#[]⟩, .slice none 0 0]) 80 rfl Tryd.underlying65 infoChg rfl (by decide) (by decide) (.slice Ai M.length di) M T A7 T.length d7 (fun _ => True) (fun k => k < w2.heap.size ∨ u.heap.size ≤ k) (by rfl) (by rfl) O7.out F7.out (fun k hk => ⟨trivial, fun e => by have h := hV.out k e.symm; have h2 := Kd.N_base O7.out k e.symm; rcases hk with hk | hk <;> omega⟩) (fun _ _ => trivial) B7.out B7.out.size (by omega) ?_
        intro v8 w8 ho8 hb8 hg8 hat8
        have b8 := grow_keep hg8 (fun k hk e => by have := hV.out k hk; omega) b7.out
        refine hK.out _ _ ⟨(blk_cell (blk_below L1.out hb8) 0).trans rfl, pw_cell_below hb8 HZ.out.1, pw_cell_below hb8 HZ.out.2.1, pw_cell_below hb8 HZ.out.2.2, (blk_cell b8 0).trans rfl, (blk_cell b8 1).trans rfl, (blk_cell b8 2).trans rfl⟩ (fun hHeld => ?_)
        have O8 : Aside0 (Kd.N k114 114 w8 w2.heap.size (fun _ => True) v8 (L0 ++ (ys.take (j + 1)).flatMap (blkOf xs))) := ⟨by rw [HNY.out]; exact ho8⟩
        have B8 := Aside0.mk hb8
        clear hK K hHeld ho8 hg8 hb8 hat8 O7 B7 b7 b8 F7
        refine norm_ (a' := ?_) ?_ ?_
        rotate_left
        ·show Act.put _ (some 97) _ = _
         simp only [putAll, Act.put, List.setIfInBounds_toArray, List.set_cons_zero, List.set_cons_succ, i64_w, i32_w]
         rfl
        refine pure_ (i := 9) (N := some 5) (v := ?_) (a' := ?_) (bz_ 10 1023) rfl rfl (by kernel_rfl) (fun _ _ _ h => h) (Or.inl ⟨by rfl, ?_⟩) ?_ ?_
        rotate_left
        ·intro w'
         go_simp
         with_reducible rfl
        rotate_left
        ·simp only [Act.put, List.setIfInBounds_toArray, List.set_cons_zero, List.set_cons_succ, i64_w, i32_w]
         rfl
        refine done_ (by kernel_rfl) ?_
        go_wp2
        go_roundw
        case rel => exact ⟨j + 1, by go_num, hlt, B8, O8⟩
        case measure => simp [intOf]; omega
      ·obtain rfl : j = ys.length := by omega
       rw [List.take_length, ← HRe.out] at hO
       have hO2 := Aside0.mk (ChsV.of_N hO.out)
       rw [List.take_length, ← HRe.out]
       go_wp2
       go_ret
       exact ⟨_, rfl, hO2.out, B2.out.trans (hB.out.mono B2.out.size)⟩
end Go.Proofs.YtmcdnpooclelgaaDoor.PAll
namespace Go.Proofs.YtmcdnpooclelgaaDoor
open Go.ChangeShapes Go.WideShapes Go.ChangeAt Go.RowKit
theorem deep_of_change {H : Type} {enc : TypeId × Value → H} {a : Assume} {C : Checked} {os : Os} {f : FuncId} {fn : Func} {s : ChangeSpec} {conds : List PathCond} {apart fresh handsOn again : Bool} {X : World → Array Value → Prop}
    (own : ownKnob C.prog.godebug = none) (started : os.Started) (noInit : C.prog.inits.idxOf? f = none) (hfn : C.prog.funcs[f]? = some fn)
    (witness : ∃ (w : World) (tape : Tape) (i : Input), w.os = os ∧ (w.forCall tape i).Shaped C.prog ∧ i.vars = [] ∧ Input.okWide C.prog (w.forCall tape i) .any w.heap.size f i ∧
      ((s.pre enc C.prog fn conds apart (w.forCall tape i).memory i.args ∧ X (w.forCall tape i).memory i.args) ∧ sizedMet enc C.prog fn (OpenSpec.ofChange s) apart (w.forCall tape i).memory i.args) ∧ a.holds C.prog (lone (Frame.enter C.prog f i.args .normal) [] (w.forCall tape i)))
    (contract : ∀ (W : World) (base : Nat) (args : Array Value) (ds gs : List (DataW H)) (before : List MemPlace),
      (∀ (j : Nat) t v, fn.params[j]? = some t → args[j]? = some v → Value.okWide C.prog W .any base t v) →
      DataW.Whole enc C.prog fn.params.toList s.vars apart W args.toList ds gs before →
      conds.all (PathCond.test C.prog ⟨fn.params.toList, ds, s.plain.varTypes C.prog, gs⟩) = true →
      (DataW.weightsEach C.prog (fn.params.toList ++ s.plain.varTypes C.prog) (ds ++ gs)).all (· ≤ reachBytes) = true →
      W.ShapedOpen C.prog →
      a.holds C.prog (lone (Frame.enter C.prog f args .normal) [] W) →
      Calls C.prog f args W fun e W' => ∃ v, e = .returned v ∧ s.post enc C.prog fn apart fresh handsOn again W args v W') :
    ReturnsInHanded a C os f .any (fun w args => (s.pre enc C.prog fn conds apart w args ∧ X w args) ∧ sizedMet enc C.prog fn (OpenSpec.ofChange s) apart w args) (s.post enc C.prog fn apart fresh handsOn again) := by
  refine returnsInHanded_of_calls own started noInit witness ?_
  intro w tape i _ hsh _ hok hpre hholds
  obtain ⟨_, _, _, fn', hfn', _, _, _, _, hval⟩ := hok
  have e : fn' = fn := Option.some.inj (hfn'.symm.trans hfn)
  subst e
  obtain ⟨⟨⟨ds, gs, before, hw, hc⟩, _⟩, hz⟩ := hpre
  have hw' := DataW.Whole.of_heap (w' := w.forCall tape i) (by rfl) hw
  refine (contract (w.forCall tape i) w.heap.size i.args ds gs before hval hw' hc (hz.weights hw) hsh hholds).mono fun e W' ⟨v, he, hp⟩ => ?_
  subst he
  exact ChangeSpec.post_blind hp
end Go.Proofs.YtmcdnpooclelgaaDoor
