/- Texts of this claim, packed: contracts of functions and plain lemmas that the law is proved from. -/
import Derived.Deep.RegionHeld3
import Derived.HandedShaped
import Derived.LaidMore
import Derived.LaidOnce
import Derived.OpenShut
import Derived.ProofKit
import Derived.Shelf.Vars
import Derived.Test.YtmcdnpooclelgaaDoorRows
import Derived.Test.YtmcdnpooclelgaaDoorQFill1
import Derived.Test.YtmcdnpooclelgaaDoorQFill2
import Derived.Test.YtmcdnpooclelgaaDoorQFill3
import Derived.Test.YtmcdnpooclelgaaDoorQFill4
import Derived.Test.YtmcdnpooclelgaaDoorQFill5
set_option linter.unusedVariables false
set_option linter.unusedSimpArgs false
namespace Go.Proofs.YtmcdnpooclelgaaDoor.PAll
open Go.RowKit Go.Proofs.YtmcdnpooclelgaaDoorW.PrintWords Go.Proofs.YtmcdnpooclelgaaDoorW.PrintLast Go.Proofs.YtmcdnpooclelgaaDoorW.PrintMore
theorem lineLess_c (kind : ByteArray) (a b : S83) (ha : smallL a) (hb : smallL b) (A B : Option Addr) (c d : Nat) (w : World) (hA : Kd.C Kd.string w A a.f1.length a.f1) (hc : a.f1.length ≤ c) (hB : Kd.C Kd.string w B b.f1.length b.f1) (hd : b.f1.length ≤ d) :
  Calls Tryd.prog 114 #[.string kind, .agg #[.string a.f0, .slice A a.f1.length c], .agg #[.string b.f0, .slice B b.f1.length d]] w fun e w' => e = .returned (.bool (lineLt kind a b)) ∧ Below w.heap.size w w' := by
 obtain ⟨K, hk⟩ := (ev_l3LineLess kind a b (by have := ha.2.1; omega) (by have := hb.2.1; omega)).rounds
 exact spec_l3LineLess.calls K kind a.f0 A c a.f1 b.f0 B d b.f1 _ w hA hc hB hd hk
set_option maxRecDepth 100000 in
set_option maxHeartbeats 8000000 in
theorem putLine_c (kind name key : ByteArray) (L D : Option Addr) (c dn base : Nat) (ls : List S83) (ds : List ByteArray) (ok : Nat → Prop) (hs : smallLs ls) (hd : smallL ⟨key, ds⟩) (w : World) (hR : Kd.R k83 83 w base ok (.slice L ls.length c) ls) (hD : Kd.R Kd.string 9 w base ok (.slice D ds.length dn) ds) (hfresh : ∀ k, w.heap.size ≤ k → ok k) (hbase : base ≤ w.heap.size) :
  Calls Tryd.prog 92 #[.agg #[.string kind, .string name, .slice L ls.length c], .agg #[.string key, .slice D ds.length dn]] w fun e w' => ∃ v, e = .returned (.agg #[.string kind, .string name, v]) ∧ Kd.R k83 83 w' base ok v (putL kind ls ⟨key, ds⟩) ∧ Below w.heap.size w w' := by
 have HR := Aside0.mk hR
 have HD := Aside0.mk hD
 have HS := Aside0.mk hs
 have HX := Aside0.mk hd
 have HF := Aside0.mk hfresh
 have hn : ls.length ≤ 1048576 := hs.1
 have HC := Aside0.mk (Kd.R_reads' hR)
 have HDC := Aside0.mk (Kd.R_reads' hD)
 have HP : Aside0 (putL kind ls ⟨key, ds⟩ = ls.take (ls.takeWhile fun l => lineLt kind l ⟨key, ds⟩).length ++ ⟨key, ds⟩ :: ls.drop (ls.takeWhile fun l => lineLt kind l ⟨key, ds⟩).length) := ⟨by
  unfold putL
  obtain ⟨e1, e2⟩ := takeW_eq (fun l => lineLt kind l ⟨key, ds⟩) ls
  rw [← e1, ← e2]⟩
 have HT := Aside0.mk (takeW_at (fun l => lineLt kind l ⟨key, ds⟩) ls)
 have htl : (ls.takeWhile fun l => lineLt kind l ⟨key, ds⟩).length ≤ ls.length := (List.takeWhile_prefix _).length_le
 generalize (ls.takeWhile fun l => lineLt kind l ⟨key, ds⟩).length = m at *
 generalize putL kind ls ⟨key, ds⟩ = ps at *
 clear hR hD hs hd hfresh
 have b0 := blk_alloc (blk_alloc (blk_new w (.cells #[.string kind, .string name, .slice L ls.length c] 62)) (.cells #[.string key, .slice D ds.length dn] 83)) (.cells #[.string ⟨#[]⟩, .string ⟨#[]⟩, .slice none 0 0] 62)
 have b1 := blk_alloc (blk_new (w.alloc (.cells #[.string kind, .string name, .slice L ls.length c] 62)) (.cells #[.string key, .slice D ds.length dn] 83)) (.cells #[.string ⟨#[]⟩, .string ⟨#[]⟩, .slice none 0 0] 62)
 have b2 := blk_new ((w.alloc (.cells #[.string kind, .string name, .slice L ls.length c] 62)).alloc (.cells #[.string key, .slice D ds.length dn] 83)) (.cells #[.string ⟨#[]⟩, .string ⟨#[]⟩, .slice none 0 0] 62)
 have s1 : (w.alloc (.cells #[.string kind, .string name, .slice L ls.length c] 62)).heap.size = w.heap.size + 1 := by simp
 have s2 : ((w.alloc (.cells #[.string kind, .string name, .slice L ls.length c] 62)).alloc (.cells #[.string key, .slice D ds.length dn] 83)).heap.size = w.heap.size + 2 := by simp
 rw [s1] at b1
 rw [s2] at b2
 have B0 := Aside0.mk b0
 have B1 := Aside0.mk b1
 have B2 := Aside0.mk b2
 clear b0 b1 b2 s1 s2
 go_enter Tryd.func92, Tryd.ntmps92
 go_wp2
 go_loopw [5] (fun i wr => ∃ (j : Nat), i = .int .i64 j ∧ j ≤ m ∧ Aside0 (Below w.heap.size w wr) ∧ Aside0 (wr.heap[w.heap.size]? = some (.cells #[.string kind, .string name, .slice L ls.length c] 62 (0, 0))) ∧ Aside0 (wr.heap[w.heap.size + 1]? = some (.cells #[.string key, .slice D ds.length dn] 83 (0, 0))) ∧ Aside0 (wr.heap[w.heap.size + 2]? = some (.cells #[.string ⟨#[]⟩, .string ⟨#[]⟩, .slice none 0 0] 62 (0, 0)))) (fun i _ => m - (intOf i).toNat)
 case atStart => exact ⟨0, rfl, Nat.zero_le _, ⟨(((Below.refl _ _).alloc (Nat.le_refl _) _).alloc (by simp) _).alloc (by simp; omega) _⟩, B0, B1, B2⟩
 case round =>
  obtain ⟨j, rfl, hj, HB, K0, K1, K2⟩ := hrel
  have d0 : wr.cell? ⟨w.heap.size, 0, none⟩ = some (.string kind) := (blk_cell K0.out 0).trans rfl
  have d1 : wr.cell? ⟨w.heap.size, 1, none⟩ = some (.string name) := (blk_cell K0.out 1).trans rfl
  have d2 : wr.cell? ⟨w.heap.size, 2, none⟩ = some (.slice L ls.length c) := (blk_cell K0.out 2).trans rfl
  have e0 : wr.cell? ⟨w.heap.size + 1, 0, none⟩ = some (.string key) := (blk_cell K1.out 0).trans rfl
  have e1 : wr.cell? ⟨w.heap.size + 1, 1, none⟩ = some (.slice D ds.length dn) := (blk_cell K1.out 1).trans rfl
  by_cases hgo : j < m
  ·have hlt : j < ls.length := by omega
   have i1 : (j : Int) < (ls.length : Int) := by omega
   obtain ⟨ad, A1, c1, rfl, hx0, hx1, hl1, hC1⟩ := line_at (Kd.C_below HC.out.2.2 HB.out) j ls[j] (List.getElem?_eq_getElem hlt)
   have hsm := HS.out.2 _ (List.getElem_mem hlt)
   have hp : lineLt kind ls[j] ⟨key, ds⟩ = true := by
    cases hp : lineLt kind ls[j] ⟨key, ds⟩ with
    | true => rfl
    | false =>
     have := (HT.out j hj).2 (fun x hx => by rw [List.getElem?_eq_getElem hlt] at hx; injection hx with hx; rw [← hx]; exact hp)
     omega
   generalize ls[j] = l at *
   have LC : Aside0 (∀ w', Below wr.heap.size wr w' → Calls Tryd.prog 114 #[.string kind, .agg #[.string l.f0, .slice A1 l.f1.length c1], .agg #[.string key, .slice D ds.length dn]] w' fun e w'' => e = .returned (.bool true) ∧ Below w'.heap.size w' w'') := ⟨fun w' hb => by
    have := lineLess_c kind l ⟨key, ds⟩ hsm HX.out A1 D c1 dn w' (Kd.C_below hC1 hb) hl1 (Kd.C_below (Kd.C_below HDC.out.2.2 HB.out) hb) HDC.out.2.1
    rw [hp] at this
    exact this⟩
   clear hp hC1 hsm
   go_wp2_with fail
   go_region_held3 (fun w' => w'.cell? ⟨w.heap.size, 0, none⟩ = some (.string kind) ∧ w'.cell? ⟨w.heap.size, 2, none⟩ = some (.slice (some ad) ls.length c) ∧ w'.cell? (ad.add (j * 2)) = some (.string l.f0) ∧ w'.cell? ⟨(ad.add (j * 2)).block, (ad.add (j * 2)).off + 1, none⟩ = some (.slice A1 l.f1.length c1) ∧ w'.cell? ⟨w.heap.size + 1, 0, none⟩ = some (.string key) ∧ w'.cell? ⟨w.heap.size + 1, 1, none⟩ = some (.slice D ds.length dn)) (first | go_keep | exact ⟨pw_cell_below hbl d0, pw_cell_below hbl d2, pw_cell_below hbl hx0, pw_cell_below hbl hx1, pw_cell_below hbl e0, pw_cell_below hbl e1⟩) (first | (go_at_call 114; refine (LC.out _ (below_drew (Below.refl _ _))).mono ?_; rintro e w9 ⟨rfl, hbl⟩))
   have h9 := Aside0.mk ((below_drew (Below.refl wr.heap.size wr)).trans (hbl.mono (Nat.le_refl _)))
   have HBn := Aside0.mk (HB.out.trans (h9.out.mono HB.out.size))
   have K0n := Aside0.mk (blk_below K0.out h9.out)
   have K1n := Aside0.mk (blk_below K1.out h9.out)
   have K2n := Aside0.mk (blk_below K2.out h9.out)
   clear hbl
   go_wp2
   go_roundw
   case rel => exact ⟨j + 1, by go_num, hgo, HBn, K0n, K1n, K2n⟩
   case measure => simp [intOf]; omega
  ·obtain rfl : j = m := by omega
   by_cases hlt : j < ls.length
   case' pos =>
    have i1 : (j : Int) < (ls.length : Int) := by omega
    obtain ⟨ad, A1, c1, hL, hx0, hx1, hl1, hC1⟩ := line_at (Kd.C_below HC.out.2.2 HB.out) j ls[j] (List.getElem?_eq_getElem hlt)
    have hsm := HS.out.2 _ (List.getElem_mem hlt)
    have hp : lineLt kind ls[j] ⟨key, ds⟩ = false := by
     cases hp : lineLt kind ls[j] ⟨key, ds⟩ with
     | false => rfl
     | true =>
      have := (HT.out j (Nat.le_refl _)).1 _ (List.getElem?_eq_getElem hlt) hp
      omega
    generalize ls[j] = l at *
    have LC : Aside0 (∀ w', Below wr.heap.size wr w' → Calls Tryd.prog 114 #[.string kind, .agg #[.string l.f0, .slice A1 l.f1.length c1], .agg #[.string key, .slice D ds.length dn]] w' fun e w'' => e = .returned (.bool false) ∧ Below w'.heap.size w' w'') := ⟨fun w' hb => by
     have := lineLess_c kind l ⟨key, ds⟩ hsm HX.out A1 D c1 dn w' (Kd.C_below hC1 hb) hl1 (Kd.C_below (Kd.C_below HDC.out.2.2 HB.out) hb) HDC.out.2.1
     rw [hp] at this
     exact this⟩
    have d2' : wr.cell? ⟨w.heap.size, 2, none⟩ = some (.slice (some ad) ls.length c) := by rw [← hL]; exact d2
    have HL := Aside0.mk hL
    clear hp hC1 hsm d2 hL
    go_wp2_with fail
    go_region_held3 (fun w' => w'.cell? ⟨w.heap.size, 0, none⟩ = some (.string kind) ∧ w'.cell? ⟨w.heap.size, 2, none⟩ = some (.slice (some ad) ls.length c) ∧ w'.cell? (ad.add (j * 2)) = some (.string l.f0) ∧ w'.cell? ⟨(ad.add (j * 2)).block, (ad.add (j * 2)).off + 1, none⟩ = some (.slice A1 l.f1.length c1) ∧ w'.cell? ⟨w.heap.size + 1, 0, none⟩ = some (.string key) ∧ w'.cell? ⟨w.heap.size + 1, 1, none⟩ = some (.slice D ds.length dn)) (first | go_keep | exact ⟨pw_cell_below hbl d0, pw_cell_below hbl d2', pw_cell_below hbl hx0, pw_cell_below hbl hx1, pw_cell_below hbl e0, pw_cell_below hbl e1⟩) (first | (go_at_call 114; refine (LC.out _ (below_drew (Below.refl _ _))).mono ?_; rintro e w9 ⟨rfl, hbl⟩))
    have h9 := Aside0.mk ((below_drew (Below.refl wr.heap.size wr)).trans (hbl.mono (Nat.le_refl _)))
    clear hbl LC i1 d2' hx0 hx1 hl1 HL d0 d1 e0 e1
    go_wp2_with fail
   case' neg =>
    have i1 : ¬ (j : Int) < (ls.length : Int) := by omega
    have q2 := fun p : BW wr => p.cell d2
    go_wp2_with fail
    refine wp_region_below (by kernel_rfl) (by kernel_rfl) ?_
    repeat ((with_reducible refine wpQuiet_step ?_); (with_reducible intro K hK); go_simp; first | ((with_reducible refine hK _ ?_); clear hK K) | ((with_reducible refine quiet_off (fun h => ?_) ?_); exact h; (with_reducible refine hK _ ?_); clear hK K))
    with_reducible refine wpQuiet_nil ?_
    intro w9 hw'
    obtain ⟨⟨_, h9'⟩, rfl⟩ := hw'
    have h9 := Aside0.mk h9'
    clear h9' q2 d0 d1 d2 e0 e1 i1
    go_wp2_with fail
   all_goals
    have C9 : Aside0 (Below w.heap.size w w9.drew) := ⟨below_drew (HB.out.trans (h9.out.mono HB.out.size))⟩
    have f2 : w9.drew.cell? ⟨w.heap.size, 2, none⟩ = some (.slice L ls.length c) := (blk_cell (blk_below K0.out h9.out) 2).trans rfl
    have g0 : w9.drew.cell? ⟨w.heap.size + 1, 0, none⟩ = some (.string key) := (blk_cell (blk_below K1.out h9.out) 0).trans rfl
    have g1 : w9.drew.cell? ⟨w.heap.size + 1, 1, none⟩ = some (.slice D ds.length dn) := (blk_cell (blk_below K1.out h9.out) 1).trans rfl
    have K09 : Aside0 (w9.drew.heap[w.heap.size]? = some (.cells #[.string kind, .string name, .slice L ls.length c] 62 (0, 0))) := ⟨blk_below K0.out (below_drew h9.out)⟩
    have K29 : Aside0 (w9.drew.heap[w.heap.size + 2]? = some (.cells #[.string ⟨#[]⟩, .string ⟨#[]⟩, .slice none 0 0] 62 (0, 0))) := ⟨blk_below K2.out (below_drew h9.out)⟩
    have hlc := HC.out.2.1
    have i0 : (0 : Int) ≤ (j : Int) := by omega
    have i2 : (j : Int) ≤ (ls.length : Int) := by omega
    have i3 : (ls.length : Int) ≤ (c : Int) := by omega
    have i4 : (j : Int) ≤ (c : Int) := by omega
    obtain ⟨hok, cs, hown, hreps⟩ := HR.out
    have hone := reps_one k83 hreps (by decide)
    obtain ⟨⟨sa0, sa1⟩, sc0, sc1⟩ := cut_src hown hreps.1 htl hlc
    have hcl : cs.length = ls.length * 2 := hreps.1
    have hnA : (cs.take (j * 2)).length = j * 2 := by rw [List.length_take, hcl]; omega
    have hnC : (cs.drop (j * 2)).length = (ls.length - j) * 2 := by rw [List.length_drop, hcl]; omega
    have HCS := Aside0.mk (And.intro hok (And.intro hown hreps))
    have h1A : ∀ x ∈ cs.take (j * 2), x.oneCell' = true := fun x hx => hone x (List.mem_of_mem_take hx)
    have h1C : ∀ x ∈ cs.drop (j * 2), x.oneCell' = true := fun x hx => hone x (List.mem_of_mem_drop hx)
    clear hok hown hreps hone HB K0 K1 K2 h9 HT
    refine start_ (n := 16) (S := (fun w' => w'.cell? ⟨w.heap.size, 2, none⟩ = some (.slice L ls.length c) ∧ w'.cell? ⟨w.heap.size + 1, 0, none⟩ = some (.string key) ∧ w'.cell? ⟨w.heap.size + 1, 1, none⟩ = some (.slice D ds.length dn))) (ds := [15]) (bz 16 0) (by kernel_rfl) rfl rfl ⟨f2, g0, g1⟩ (fun hHeld => ?_)
    generalize w9.drew = u at C9 f2 g0 g1 K09 K29 hHeld ⊢
    refine pure_ (i := 1) (N := some 25) (v := ?_) (a' := ?_) (bz 16 2) rfl rfl (by kernel_rfl) (fun _ _ _ h => h) (Or.inl ⟨by rfl, ?_⟩) ?_ ?_
    rotate_left
    ·intro w'
     go_simp
     with_reducible rfl
    rotate_left
    ·simp only [Act.put, List.setIfInBounds_toArray, List.set_cons_zero, List.set_cons_succ, i64_w, i32_w]
     rfl
    refine take_ (i := 2) (N := some 26) (v := ?_) (a' := ?_) (bz 16 6) rfl rfl (by kernel_rfl) (fun _ _ _ h => h) (Or.inl ⟨by rfl, ?_⟩) hHeld ?_ ?_
    rotate_left
    ·rintro w' ⟨s0, s1, s2⟩
     go_simp
     with_reducible rfl
    rotate_left
    ·simp only [Act.put, List.setIfInBounds_toArray, List.set_cons_zero, List.set_cons_succ, i64_w, i32_w]
     rfl
    refine pure_ (i := 3) (N := some 27) (v := ?_) (a' := ?_) (bz 16 14) rfl rfl (by kernel_rfl) (fun _ _ _ h => h) (Or.inl ⟨by rfl, ?_⟩) ?_ ?_
    rotate_left
    ·intro w'
     go_simp
     with_reducible rfl
    rotate_left
    ·simp only [Act.put, List.setIfInBounds_toArray, List.set_cons_zero, List.set_cons_succ, i64_w, i32_w]
     rfl
    refine pure_ (i := 4) (N := some 28) (v := ?_) (a' := ?_) (bz 16 30) rfl rfl (by kernel_rfl) (fun _ _ _ h => h) (Or.inl ⟨by rfl, ?_⟩) ?_ ?_
    rotate_left
    ·intro w'
     go_simp
     with_reducible rfl
    rotate_left
    ·simp only [Act.put, List.setIfInBounds_toArray, List.set_cons_zero, List.set_cons_succ, i64_w, i32_w]
     rfl
    refine take_ (i := 6) (N := some 30) (v := ?_) (a' := ?_) (bz 16 94) rfl rfl (by kernel_rfl) (fun _ _ _ h => h) (Or.inl ⟨by rfl, ?_⟩) hHeld ?_ ?_
    rotate_left
    ·rintro w' ⟨s0, s1, s2⟩
     go_simp
     with_reducible rfl
    rotate_left
    ·simp only [Act.put, List.setIfInBounds_toArray, List.set_cons_zero, List.set_cons_succ, i64_w, i32_w]
     rfl
    refine pure_ (i := 9) (N := some 33) (v := ?_) (a' := ?_) (bz 16 606) rfl rfl (by kernel_rfl) (fun _ _ _ h => h) (Or.inl ⟨by rfl, ?_⟩) ?_ ?_
    rotate_left
    ·intro w'
     go_simp
     with_reducible rfl
    rotate_left
    ·simp only [Act.put, List.setIfInBounds_toArray, List.set_cons_zero, List.set_cons_succ, i64_w, i32_w]
     rfl
    refine take_ (i := 10) (N := some 34) (v := ?_) (a' := ?_) (bz 16 1630) rfl rfl (by kernel_rfl) (fun _ _ _ h => h) (Or.inl ⟨by rfl, ?_⟩) hHeld ?_ ?_
    rotate_left
    ·rintro w' ⟨s0, s1, s2⟩
     go_simp
     with_reducible rfl
    rotate_left
    ·simp only [Act.put, List.setIfInBounds_toArray, List.set_cons_zero, List.set_cons_succ, i64_w, i32_w]
     rfl
    refine pure_ (i := 11) (N := some 35) (v := ?_) (a' := ?_) (bz 16 3678) rfl rfl (by kernel_rfl) (fun _ _ _ h => h) (Or.inl ⟨by rfl, ?_⟩) ?_ ?_
    rotate_left
    ·intro w'
     go_simp
     with_reducible rfl
    rotate_left
    ·simp only [Act.put, List.setIfInBounds_toArray, List.set_cons_zero, List.set_cons_succ, i64_w, i32_w]
     rfl
    refine pure_ (i := 12) (N := some 36) (v := ?_) (a' := ?_) (bz 16 7774) rfl rfl (by kernel_rfl) (fun _ _ _ h => h) (Or.inl ⟨by rfl, ?_⟩) ?_ ?_
    rotate_left
    ·intro w'
     go_simp
     with_reducible rfl
    rotate_left
    ·simp only [Act.put, List.setIfInBounds_toArray, List.set_cons_zero, List.set_cons_succ, i64_w, i32_w]
     rfl
    refine join_ (σ := Value × Value × Value) 4 (bz 16 7935) (fun s => [(24, s.1), (29, s.2.1), (31, s.2.2)]) (fun s w' => ∃ A1 d1 g, s.2.1 = .slice A1 (0 + j) d1 ∧ w'.ownsRow u.heap.size 83 2 (.slice A1 (0 + j) d1) (0 + j) ([] ++ cs.take (j * 2)) ∧ s.2.2 = .slice (some ⟨g, 0, none⟩) 1 1 ∧ w'.heap[g]? = some (.cells #[.string key, .slice D ds.length dn] 83 (0, 0)) ∧ Below u.heap.size u w') ?_ ?_
    rotate_left
    ·intro hCont
     refine two_ (i := 0) (j := 7) (Ni := some 24) (Nj := some 31) (bz 16 7775) (bz 16 7902) rfl rfl rfl rfl (by kernel_rfl) (by decide) (by decide) (fun K hK => ?_) (fun K hK => ?_)
     ·skip
      refine value_ (w1 := ?_) (v := ?_) (by rfl) rfl ?_ ?_
      rotate_left 2
      ·go_simp
       constructor
       ·rfl
       ·rfl
      refine hK.out _ _ (keep3 (below_alloc (Below.refl u.heap.size u) _) f2 g0 g1) (fun hHeld => ?_)
      clear hK K
      refine norm_ (a' := ?_) ?_ ?_
      rotate_left
      ·show Act.put _ (some 24) _ = _
       simp only [putAll, Act.put, List.setIfInBounds_toArray, List.set_cons_zero, List.set_cons_succ, i64_w, i32_w]
       rfl
      refine two_ (i := 5) (j := 7) (Ni := some 29) (Nj := some 31) (bz 16 7807) (bz 16 7903) rfl rfl rfl rfl (by kernel_rfl) (by decide) (by decide) (fun K hK => ?_) (fun K hK => ?_)
      ·skip
       refine ap_src_step (P := Tryd.prog) (w0 := u) u.heap.size (by rfl) (.tmp 24) (.tmp 28) 52 83 (.agg #[.string ⟨#[]⟩, .slice none 0 0]) 2 40 rfl Tryd.underlying52 infoLine rfl (by decide) (by decide) (.slice (some ⟨u.heap.size, 0, none⟩) 0 0) 0 [] L j c (cs.take (j * 2)) (by rfl) (by rfl) sa0 hnA (fun ad ha i x hx => pw_cell_below (C9.out.trans ((below_alloc (Below.refl u.heap.size u) _).mono C9.out.size)) (sa1 ad ha i x hx)) h1A (own_empty (blk_new u _) (Nat.le_refl _)) (below_alloc (Below.refl u.heap.size u) _) (below_alloc (Below.refl u.heap.size u) _).size (by omega) ?_
       intro v1 w1 ho1 hb1 hg1 hat1
       obtain ⟨A1, d1, rfl⟩ := own_shapeN ho1
       refine hK.out _ _ (keep3 hb1 f2 g0 g1) (fun hHeld => ?_)
       clear hK K
       refine norm_ (a' := ?_) ?_ ?_
       rotate_left
       ·show Act.put _ (some 29) _ = _
        simp only [putAll, Act.put, List.setIfInBounds_toArray, List.set_cons_zero, List.set_cons_succ, i64_w, i32_w]
        rfl
       refine one_ (i := 7) (N := some 31) (bz 16 7935) rfl rfl (by kernel_rfl) (by decide) (fun K hK => ?_)
       refine value_ (w1 := ?_) (v := ?_) (by rfl) rfl ?_ ?_
       rotate_left 2
       ·go_simp
        constructor
        ·rfl
        ·rfl
       refine hK.out _ _ (keep3 (below_alloc (hb1) _) f2 g0 g1) (fun hHeld => ?_)
       clear hK K
       exact norm_ (by simp only [putAll, Act.put, List.setIfInBounds_toArray, List.set_cons_zero, List.set_cons_succ, World.size_alloc]) (hCont (.slice (some ⟨u.heap.size, 0, none⟩) 0 0, .slice A1 (0 + j) d1, .slice (some ⟨w1.heap.size, 0, none⟩) 1 1) _ ⟨A1, d1, _, rfl, own_move ho1 (fun k hk => ((Below.refl _ w1).alloc (Nat.le_refl _) _).block k (own_lt ho1 k hk)), rfl, blk_new _ _, below_alloc hb1 _⟩)
      ·skip
       refine value_ (w1 := ?_) (v := ?_) (by rfl) rfl ?_ ?_
       rotate_left 2
       ·go_simp
        constructor
        ·rfl
        ·rfl
       refine hK.out _ _ (keep3 (below_alloc (below_alloc (Below.refl u.heap.size u) _) _) f2 g0 g1) (fun hHeld => ?_)
       clear hK K
       refine norm_ (a' := ?_) ?_ ?_
       rotate_left
       ·show Act.put _ (some 31) _ = _
        simp only [putAll, Act.put, List.setIfInBounds_toArray, List.set_cons_zero, List.set_cons_succ, i64_w, i32_w]
        rfl
       refine one_ (i := 5) (N := some 29) (bz 16 7935) rfl rfl (by kernel_rfl) (by decide) (fun K hK => ?_)
       refine ap_src_step (P := Tryd.prog) (w0 := u) u.heap.size (by rfl) (.tmp 24) (.tmp 28) 52 83 (.agg #[.string ⟨#[]⟩, .slice none 0 0]) 2 40 rfl Tryd.underlying52 infoLine rfl (by decide) (by decide) (.slice (some ⟨u.heap.size, 0, none⟩) 0 0) 0 [] L j c (cs.take (j * 2)) (by rfl) (by rfl) sa0 hnA (fun ad ha i x hx => pw_cell_below (C9.out.trans ((below_alloc (below_alloc (Below.refl u.heap.size u) _) _).mono C9.out.size)) (sa1 ad ha i x hx)) h1A (own_empty (blk_alloc (blk_new u _) _) (Nat.le_refl _)) (below_alloc (below_alloc (Below.refl u.heap.size u) _) _) (below_alloc (below_alloc (Below.refl u.heap.size u) _) _).size (by omega) ?_
       intro v1 w1 ho1 hb1 hg1 hat1
       obtain ⟨A1, d1, rfl⟩ := own_shapeN ho1
       refine hK.out _ _ (keep3 hb1 f2 g0 g1) (fun hHeld => ?_)
       clear hK K
       exact norm_ (by show Act.put _ (some 29) _ = _; simp only [putAll, Act.put, List.setIfInBounds_toArray, List.set_cons_zero, List.set_cons_succ, World.size_alloc]) (hCont (.slice (some ⟨u.heap.size, 0, none⟩) 0 0, .slice A1 (0 + j) d1, .slice (some ⟨u.heap.size + 1, 0, none⟩) 1 1) _ ⟨A1, d1, _, rfl, ho1, rfl, (hg1.block _ (by simp <;> omega) (by simp [Value.ownBlock])).trans (blk_next u _ _), hb1⟩)
     ·skip
      refine value_ (w1 := ?_) (v := ?_) (by rfl) rfl ?_ ?_
      rotate_left 2
      ·go_simp
       constructor
       ·rfl
       ·rfl
      refine hK.out _ _ (keep3 (below_alloc (Below.refl u.heap.size u) _) f2 g0 g1) (fun hHeld => ?_)
      clear hK K
      refine norm_ (a' := ?_) ?_ ?_
      rotate_left
      ·show Act.put _ (some 31) _ = _
       simp only [putAll, Act.put, List.setIfInBounds_toArray, List.set_cons_zero, List.set_cons_succ, i64_w, i32_w]
       rfl
      refine one_ (i := 0) (N := some 24) (bz 16 7903) rfl rfl (by kernel_rfl) (by decide) (fun K hK => ?_)
      refine value_ (w1 := ?_) (v := ?_) (by rfl) rfl ?_ ?_
      rotate_left 2
      ·go_simp
       constructor
       ·rfl
       ·rfl
      refine hK.out _ _ (keep3 (below_alloc (below_alloc (Below.refl u.heap.size u) _) _) f2 g0 g1) (fun hHeld => ?_)
      clear hK K
      refine norm_ (a' := ?_) ?_ ?_
      rotate_left
      ·show Act.put _ (some 24) _ = _
       simp only [putAll, Act.put, List.setIfInBounds_toArray, List.set_cons_zero, List.set_cons_succ, i64_w, i32_w]
       rfl
      refine one_ (i := 5) (N := some 29) (bz 16 7935) rfl rfl (by kernel_rfl) (by decide) (fun K hK => ?_)
      refine ap_src_step (P := Tryd.prog) (w0 := u) u.heap.size (by rfl) (.tmp 24) (.tmp 28) 52 83 (.agg #[.string ⟨#[]⟩, .slice none 0 0]) 2 40 rfl Tryd.underlying52 infoLine rfl (by decide) (by decide) (.slice (some ⟨u.heap.size + 1, 0, none⟩) 0 0) 0 [] L j c (cs.take (j * 2)) (by rfl) (by rfl) sa0 hnA (fun ad ha i x hx => pw_cell_below (C9.out.trans ((below_alloc (below_alloc (Below.refl u.heap.size u) _) _).mono C9.out.size)) (sa1 ad ha i x hx)) h1A (own_empty (blk_next u _ _) (Nat.le_succ _)) (below_alloc (below_alloc (Below.refl u.heap.size u) _) _) (below_alloc (below_alloc (Below.refl u.heap.size u) _) _).size (by omega) ?_
      intro v1 w1 ho1 hb1 hg1 hat1
      obtain ⟨A1, d1, rfl⟩ := own_shapeN ho1
      refine hK.out _ _ (keep3 hb1 f2 g0 g1) (fun hHeld => ?_)
      clear hK K
      exact norm_ (by show Act.put _ (some 29) _ = _; simp only [putAll, Act.put, List.setIfInBounds_toArray, List.set_cons_zero, List.set_cons_succ, World.size_alloc]) (hCont (.slice (some ⟨u.heap.size + 1, 0, none⟩) 0 0, .slice A1 (0 + j) d1, .slice (some ⟨u.heap.size, 0, none⟩) 1 1) _ ⟨A1, d1, _, rfl, ho1, rfl, (hg1.block _ (by simp <;> omega) (by simp [Value.ownBlock])).trans (blk_alloc (blk_new _ _) _), hb1⟩)
    rintro ⟨v24, v29, v31⟩ w3 ⟨A1, d1, g, e1, ho1, e2, hlit, hb3⟩
    simp only at e1 e2
    subst e1 e2
    refine norm_ (a' := ?_) ?_ ?_
    rotate_left
    ·show putAll _ _ = _
     simp only [putAll, Act.put, List.setIfInBounds_toArray, List.set_cons_zero, List.set_cons_succ, i64_w, i32_w]
     rfl
    refine one_ (i := 8) (N := some 32) (bz 16 8191) rfl rfl (by kernel_rfl) (by decide) (fun K hK => ?_)
    refine ap_src_step (P := Tryd.prog) (w0 := u) u.heap.size (by rfl) (.tmp 29) (.tmp 31) 52 83 (.agg #[.string ⟨#[]⟩, .slice none 0 0]) 2 40 rfl Tryd.underlying52 infoLine rfl (by decide) (by decide) (.slice A1 (0 + j) d1) (0 + j) ([] ++ cs.take (j * 2)) (some ⟨g, 0, none⟩) 1 1 [.string key, .slice D ds.length dn] (by rfl) (by rfl) (fun h => by cases h) rfl (fun ad ha i x hx => by injection ha with ha; subst ha; have e : ((⟨g, 0, none⟩ : Addr).add i) = ⟨g, i, none⟩ := (by simp [Addr.add]; intros; omega); rw [e, blk_cell hlit i, ← hx]; simp) (fun x hx => by simp at hx; rcases hx with rfl | rfl <;> rfl) ho1 hb3 hb3.size (by omega) ?_
    intro v2 w4 ho2 hb4 hg2 hat2
    obtain ⟨A2, d2, rfl⟩ := own_shapeN ho2
    refine hK.out _ _ (keep3 hb4 f2 g0 g1) (fun hHeld => ?_)
    clear hK K
    refine norm_ (a' := ?_) ?_ ?_
    rotate_left
    ·show Act.put _ (some 32) _ = _
     simp only [putAll, Act.put, List.setIfInBounds_toArray, List.set_cons_zero, List.set_cons_succ, i64_w, i32_w]
     rfl
    refine one_ (i := 13) (N := some 37) (bz 16 16383) rfl rfl (by kernel_rfl) (by decide) (fun K hK => ?_)
    refine ap_src_step (P := Tryd.prog) (w0 := u) u.heap.size (by rfl) (.tmp 32) (.tmp 36) 52 83 (.agg #[.string ⟨#[]⟩, .slice none 0 0]) 2 40 rfl Tryd.underlying52 infoLine rfl (by decide) (by decide) (.slice A2 (0 + j + 1) d2) (0 + j + 1) _ _ (ls.length - j) (c - j) (cs.drop (j * 2)) (by rfl) (by rfl) sc0 hnC (fun ad ha i x hx => pw_cell_below (C9.out.trans (hb4.mono C9.out.size)) (sc1 ad ha i x hx)) h1C ho2 hb4 hb4.size (by omega) ?_
    intro v3 w5 ho3 hb5 hg3 hat3
    obtain ⟨A3, d3, rfl⟩ := own_shapeN ho3
    obtain ⟨en, HRn⟩ := put_row key ls ps ds j L D A3 c dn d3 base u.heap.size ok w w5 cs HCS.out.2.2 HD.out HP.out htl ho3 (C9.out.trans (hb5.mono C9.out.size)) C9.out.size hbase HF.out
    rw [en]
    refine hK.out _ _ (keep3 hb5 f2 g0 g1) (fun hHeld => ?_)
    clear hK K
    refine norm_ (a' := ?_) ?_ ?_
    rotate_left
    ·show Act.put _ (some 37) _ = _
     simp only [putAll, Act.put, List.setIfInBounds_toArray, List.set_cons_zero, List.set_cons_succ, i64_w, i32_w]
     rfl
    have C5 := Aside0.mk (C9.out.trans (hb5.mono C9.out.size))
    have K05 := Aside0.mk (blk_below K09.out hb5)
    have K25 := Aside0.mk (blk_below K29.out hb5)
    refine pure_ (i := 14) (N := some 38) (v := ?_) (a' := ?_) (bz 16 32767) rfl rfl (by kernel_rfl) (fun _ _ _ h => h) (Or.inl ⟨by rfl, ?_⟩) ?_ ?_
    rotate_left
    ·intro w'
     go_simp
     with_reducible rfl
    rotate_left
    ·simp only [Act.put, List.setIfInBounds_toArray, List.set_cons_zero, List.set_cons_succ, i64_w, i32_w]
     rfl
    refine last_ (i := 15) (N := none) (bz 16 65535) rfl rfl (by kernel_rfl) (by decide) (fun K hK => ?_)
    have q2 : w5.cell? ⟨w.heap.size, 2, none⟩ = some (.slice L ls.length c) := (blk_cell K05.out 2).trans rfl
    have qf := blk_frozen K05.out 2
    refine skip_ (w1 := ?_) (by rfl) rfl ?_ ?_
    rotate_left
    ·go_simp
     rfl
    refine hK.out _ _ ?_
    clear hK K
    refine done_ (by kernel_rfl) ?_
    generalize (if c = j then L else Option.map (fun x => x.add (j * 2)) L) = LC
    have K06 := Aside0.mk (blk_put K05.out 2 (.slice A3 ps.length d3) rfl)
    have K26 := Aside0.mk (blk_far K25.out (show w.heap.size + 2 ≠ w.heap.size by omega) (p := ⟨w.heap.size, 2, none⟩) (.slice A3 ps.length d3))
    have HR6 := Aside0.mk (Kd.R_set HRn K05.out (by decide) 2 (.slice A3 ps.length d3))
    have B6 := Aside0.mk (C5.out.setCell (p := ⟨w.heap.size, 2, none⟩) (Nat.le_refl _) (.slice A3 ps.length d3))
    clear sa0 sa1 sc0 sc1 hnA hnC hcl HCS h1A h1C f2 g0 g1 hHeld ho1 ho2 ho3 hb3 hb4 hb5 hg2 hg3 hat2 hat3 hlit q2 qf en HRn
    generalize w5.setCell ⟨w.heap.size, 2, none⟩ (.slice A3 ps.length d3) = w6 at *
    have q0 : w6.cell? ⟨w.heap.size, 0, none⟩ = some (.string kind) := (blk_cell K06.out 0).trans rfl
    have q1 : w6.cell? ⟨w.heap.size, 1, none⟩ = some (.string name) := (blk_cell K06.out 1).trans rfl
    have q2 : w6.cell? ⟨w.heap.size, 2, none⟩ = some (.slice A3 ps.length d3) := (blk_cell K06.out 2).trans rfl
    have z0 : w6.cell? ⟨w.heap.size + 2, 0, none⟩ = some (.string ⟨#[]⟩) := (blk_cell K26.out 0).trans rfl
    have z1 : w6.cell? ⟨w.heap.size + 2, 1, none⟩ = some (.string ⟨#[]⟩) := (blk_cell K26.out 1).trans rfl
    have z2 : w6.cell? ⟨w.heap.size + 2, 2, none⟩ = some (.slice none 0 0) := (blk_cell K26.out 2).trans rfl
    have zf0 := blk_frozen K26.out 0
    have zf1 := blk_frozen K26.out 1
    have zf2 := blk_frozen K26.out 2
    have K27 := blk_put (blk_put (blk_put K26.out 0 (.string kind) rfl) 1 (.string name) rfl) 2 (.slice A3 ps.length d3) rfl
    go_wp2
    refine bodyPost_ret (results_cell_row rfl _ _ (w.heap.size + 2) 62 #[.string kind, .string name, .slice A3 ps.length d3] (0, 0) _ rfl ?blk Tryd.underlying62 rfl (by kernel_rfl)) rfl ⟨.slice A3 ps.length d3, rfl, ?ow, ?bel⟩
    case blk => exact K27
    case ow => exact Kd.R_set (Kd.R_set (Kd.R_set HR6.out K26.out (by decide) 0 (.string kind)) (blk_put K26.out 0 (.string kind) rfl) (by decide) 1 (.string name)) (blk_put (blk_put K26.out 0 (.string kind) rfl) 1 (.string name) rfl) (by decide) 2 (.slice A3 ps.length d3)
    case bel => exact ((B6.out.setCell (p := ⟨w.heap.size + 2, 0, none⟩) (show w.heap.size ≤ w.heap.size + 2 by omega) _).setCell (p := ⟨w.heap.size + 2, 1, none⟩) (show w.heap.size ≤ w.heap.size + 2 by omega) _).setCell (p := ⟨w.heap.size + 2, 2, none⟩) (show w.heap.size ≤ w.heap.size + 2 by omega) _
end Go.Proofs.YtmcdnpooclelgaaDoor.PAll

namespace Go.Proofs.YtmcdnpooclelgaaDoor.PAll
open Go.RowKit Go.Proofs.YtmcdnpooclelgaaDoorW.PrintWords
theorem cnt_ofKey (key : ByteArray) : ∀ ls : List S83, (ofKey key ls).length = cntKey key ls
  | [] => rfl
  | l :: ls => by
    have ih := cnt_ofKey key ls
    unfold ofKey at *
    by_cases q : l.f0 = key
    · rw [List.filter_cons_of_pos (by simp [q]), List.length_cons, ih, cntKey, if_pos q]; omega
    · rw [List.filter_cons_of_neg (by simp [q]), ih, cntKey, if_neg q]; omega
theorem linesFrom_cnt (kind key : ByteArray) : ∀ (ls pre : List S83), linesFrom kind pre ls = true → cntKey key pre ≤ 10 → cntKey key (pre ++ ls) ≤ 10
  | [], pre, _, h => by simpa using h
  | l :: ls, pre, h, h0 => by
    simp only [linesFrom, Bool.and_eq_true] at h
    obtain ⟨h1, h2, h3, h4⟩ := h
    have := linesFrom_cnt kind key ls (pre ++ [l]) h4 (by
      by_cases q : l.f0 = key
      · subst q
        unfold tooMany at h3
        simp only [Bool.not_eq_true', Bool.or_eq_false_iff, decide_eq_false_iff_not] at h3
        omega
      · rw [cntKey_snoc, if_neg q]; omega)
    rwa [List.append_assoc] at this
theorem rules_key (kind : ByteArray) : ∀ r ∈ rulesL kind, r.f0.size ≤ 1048576 := by
  have h1 : rules_team.all (fun r => decide (r.f0.size ≤ 1048576)) = true := by decide
  have h2 : rules_berth.all (fun r => decide (r.f0.size ≤ 1048576)) = true := by decide
  have h3 : rules_service.all (fun r => decide (r.f0.size ≤ 1048576)) = true := by decide
  intro r hr
  unfold rulesL at hr
  split at hr
  · exact of_decide_eq_true (List.all_eq_true.1 h1 r hr)
  · split at hr
    · exact of_decide_eq_true (List.all_eq_true.1 h2 r hr)
    · split at hr
      · exact of_decide_eq_true (List.all_eq_true.1 h3 r hr)
      · cases hr
theorem std_small {kind : ByteArray} {r : S36} (hr : r ∈ rulesL kind) : smallL (stdLine r) := ⟨rules_key kind r hr, by have := rules_small kind r hr; show r.f3.length ≤ _; omega, rules_words kind r hr⟩
theorem flat_len {α β : Type} (f : α → List β) (B : Nat) : ∀ l : List α, (∀ x ∈ l, (f x).length ≤ B) → (l.flatMap f).length ≤ l.length * B
  | [], _ => by simp
  | x :: l, h => by
    rw [List.flatMap_cons, List.length_append, List.length_cons, Nat.add_mul]
    have := h x List.mem_cons_self
    have := flat_len f B l (fun y hy => h y (List.mem_cons_of_mem _ hy))
    omega
theorem fillR_ten {kind : ByteArray} {ls : List S83} (hok : linesOkL kind ls = true) (r : S36) : (fillR ls r).length ≤ 10 := by
  unfold fillR
  split
  · simp
  · rw [cnt_ofKey]
    have := linesFrom_cnt kind r.f0 ls [] hok (by simp [cntKey])
    rwa [List.nil_append] at this
theorem fillLs_small {kind : ByteArray} {ls : List S83} (h : smallLs ls) (hok : linesOkL kind ls = true) : smallLs (fillLs kind ls) := by
  refine ⟨?_, fun l hl => ?_⟩
  · have h1 := flat_len (fillR ls) 10 (rulesL kind) (fun r _ => fillR_ten hok r)
    have h2 := rulesL_len kind
    unfold fillLs
    omega
  · obtain ⟨r, hr, hl⟩ := List.mem_flatMap.1 hl
    unfold fillR at hl
    split at hl
    · rw [List.mem_singleton] at hl; subst hl; exact std_small hr
    · exact h.2 l (List.mem_filter.1 hl).1
theorem putL_mem {kind : ByteArray} {ls : List S83} {x l : S83} (h : l ∈ putL kind ls x) : l ∈ ls ∨ l = x := by
  unfold putL at h
  rcases List.mem_append.1 h with h | h
  · exact .inl (List.takeWhile_sublist _ |>.mem h)
  · rcases List.mem_cons.1 h with h | h
    · exact .inr h
    · exact .inl (List.dropWhile_sublist _ |>.mem h)
theorem putL_len (kind : ByteArray) (ls : List S83) (x : S83) : (putL kind ls x).length = ls.length + 1 := by
  unfold putL
  have h := congrArg List.length (List.takeWhile_append_dropWhile (p := fun l => lineLt kind l x) (l := ls))
  rw [List.length_append] at h
  rw [List.length_append, List.length_cons]
  omega
theorem fold_mono (kind : ByteArray) : ∀ (rs : List S36) (acc : List S83), acc.length ≤ (rs.foldl (fillStep kind) acc).length
  | [], _ => Nat.le_refl _
  | r :: rs, acc => by
    rw [List.foldl_cons]
    refine Nat.le_trans ?_ (fold_mono kind rs _)
    unfold fillStep
    split
    · rw [putL_len]; omega
    · exact Nat.le_refl _
theorem fold_mem (kind : ByteArray) : ∀ (rs : List S36) (acc : List S83), (∀ r ∈ rs, smallL (stdLine r)) → (∀ l ∈ acc, smallL l) → ∀ l ∈ rs.foldl (fillStep kind) acc, smallL l
  | [], _, _, h => h
  | r :: rs, acc, hr, h => by
    rw [List.foldl_cons]
    refine fold_mem kind rs _ (fun q hq => hr q (List.mem_cons_of_mem _ hq)) (fun l hl => ?_)
    unfold fillStep at hl
    split at hl
    · rcases putL_mem hl with hl | rfl
      · exact h l hl
      · exact hr r List.mem_cons_self
    · exact h l hl
theorem fold_small {kind : ByteArray} {ls : List S83} (h : smallLs ls) (hok : linesOkL kind ls = true) (k : Nat) : smallLs (((rulesL kind).take k).foldl (fillStep kind) ls) := by
  refine ⟨?_, fold_mem kind _ _ (fun r hr => std_small (List.mem_of_mem_take hr)) h.2⟩
  have h1 := fold_mono kind ((rulesL kind).drop k) (((rulesL kind).take k).foldl (fillStep kind) ls)
  rw [← List.foldl_append, List.take_append_drop, fill_all kind ls hok] at h1
  exact Nat.le_trans h1 (fillLs_small h hok).1
theorem fold_next {kind : ByteArray} {ls : List S83} {k : Nat} {r : S36} (hr : (rulesL kind)[k]? = some r) : ((rulesL kind).take (k + 1)).foldl (fillStep kind) ls = fillStep kind (((rulesL kind).take k).foldl (fillStep kind) ls) r := by
  rw [List.take_add_one, hr, List.foldl_append]
  rfl
theorem fillP_small (bs : List S62) (h : smallBs bs) : smallBs (fillP bs) := by
  unfold fillP
  split
  · rename_i hv
    refine ⟨by rw [List.length_map]; exact h.1, fun b hb => ?_⟩
    obtain ⟨x, hx, rfl⟩ := List.mem_map.1 hb
    obtain ⟨h1, h2, h3⟩ := h.2 x hx
    exact ⟨h1, h2, fillLs_small h3 (sheetOk_lines hv x hx).1⟩
  · exact ⟨Nat.zero_le _, fun b hb => by cases hb⟩
theorem cnt_filter {α : Type} (cnt : α → Nat) (p : α → Bool) : ∀ xs : List α, cntAll cnt (xs.filter p) ≤ cntAll cnt xs
  | [] => Nat.le_refl _
  | x :: xs => by
    have ih := cnt_filter cnt p xs
    by_cases q : p x = true
    · rw [List.filter_cons_of_pos q]; simp only [cntAll]; omega
    · rw [List.filter_cons_of_neg q]; simp only [cntAll]; omega
theorem cnt_app {α : Type} (cnt : α → Nat) : ∀ xs ys : List α, cntAll cnt (xs ++ ys) = cntAll cnt xs + cntAll cnt ys
  | [], ys => by simp [cntAll]
  | x :: xs, ys => by rw [List.cons_append]; simp only [cntAll]; have := cnt_app cnt xs ys; omega
theorem cnt_flat {α β : Type} (cnt : β → Nat) (f : α → List β) (B : Nat) : ∀ l : List α, (∀ x ∈ l, cntAll cnt (f x) ≤ B) → cntAll cnt (l.flatMap f) ≤ l.length * B
  | [], _ => by simp [cntAll]
  | x :: l, h => by
    rw [List.flatMap_cons, cnt_app, List.length_cons, Nat.add_mul]
    have := h x List.mem_cons_self
    have := cnt_flat cnt f B l (fun y hy => h y (List.mem_cons_of_mem _ hy))
    omega
theorem cnt_map {α : Type} (cnt : α → Nat) (f : α → α) (K B : Nat) : ∀ l : List α, (∀ x ∈ l, cnt (f x) ≤ K * cnt x + B) → cntAll cnt (l.map f) ≤ K * cntAll cnt l + l.length * B
  | [], _ => by simp [cntAll]
  | x :: l, h => by
    rw [List.map_cons, List.length_cons, Nat.add_mul]
    simp only [cntAll]
    have h1 := h x List.mem_cons_self
    have h2 := cnt_map cnt f K B l (fun y hy => h y (List.mem_cons_of_mem _ hy))
    rw [Nat.mul_add]
    omega
theorem fillB_cnt (b : S62) : cntBlock (fillB b) ≤ 16 * cntBlock b + 16 * 17 := by
  have h1 := cnt_flat cntLine (fillR b.f2) (cntAll cntLine b.f2 + 17) (rulesL b.f0) (fun r hr => by
    unfold fillR
    split
    · have := rules_small b.f0 r hr
      simp only [cntAll, cntLine, stdLine]; omega
    · have := cnt_filter cntLine (fun l => decide (l.f0 = r.f0)) b.f2
      unfold ofKey; omega)
  have h2 := rulesL_len b.f0
  have h3 : (rulesL b.f0).length * (cntAll cntLine b.f2 + 17) ≤ 16 * (cntAll cntLine b.f2 + 17) := Nat.mul_le_mul_right _ (by omega)
  unfold cntBlock fillB fillLs
  simp only
  omega
theorem fillP_cnt (bs : List S62) (h : bs.length ≤ 1048576) (hc : cntAll cntBlock bs ≤ 2097152) : cntAll cntBlock (fillP bs) ≤ 1073741824 := by
  unfold fillP
  split
  · have := cnt_map cntBlock fillB 16 (16 * 17) bs (fun b _ => fillB_cnt b)
    omega
  · simp [cntAll]
end Go.Proofs.YtmcdnpooclelgaaDoor.PAll

namespace Go.Proofs.YtmcdnpooclelgaaDoor.PAll
open Go.RowKit Go.Proofs.YtmcdnpooclelgaaDoorW.PrintWords Go.Proofs.YtmcdnpooclelgaaDoorW.PrintLast Go.Proofs.YtmcdnpooclelgaaDoorW.PrintMore
def BlocksV (w : World) (v : Value) (xs : List S62) : Prop := ∃ R d, v = .slice R xs.length d ∧ xs.length ≤ d ∧ Kd.C k62 w R xs.length xs
theorem BlocksV.of_R {w : World} {b : Nat} {ok : Nat → Prop} {v : Value} {xs : List S62} (h : Kd.R k62 62 w b ok v xs) : BlocksV w v xs := by
 obtain ⟨A, c, rfl, hl, hC⟩ := Kd.R_reads h
 exact ⟨A, c, rfl, hl, hC⟩
theorem half_upd (bs : List S62) (f : S62 → S62) (j : Nat) (hj : j < bs.length) (y : S62) : ((bs.take j).map f ++ bs.drop j).length = bs.length ∧ ((bs.take j).map f ++ bs.drop j)[j]? = some bs[j] ∧ ((bs.take j).map f ++ bs.drop j).set j y = (bs.take j).map f ++ y :: bs.drop (j + 1) := by
 have hl : ((bs.take j).map f).length = j := by simp; omega
 refine ⟨by simp; omega, ?_, ?_⟩
 ·rw [List.getElem?_append_right (by omega), hl, Nat.sub_self, List.getElem?_drop, Nat.add_zero, List.getElem?_eq_getElem hj]
 ·rw [List.set_append_right _ _ (by omega), hl, Nat.sub_self, List.drop_eq_getElem_cons hj]
  rfl
theorem half_nxt (bs : List S62) (f : S62 → S62) (j : Nat) (hj : j < bs.length) : (bs.take j).map f ++ f bs[j] :: bs.drop (j + 1) = (bs.take (j + 1)).map f ++ bs.drop (j + 1) := by
 rw [List.take_add_one, List.getElem?_eq_getElem hj, List.map_append]
 simp
theorem half_at (bs : List S62) (f : S62 → S62) (j : Nat) (hj : j < bs.length) (y z : S62) : ((bs.take j).map f ++ y :: bs.drop (j + 1))[j]? = some y ∧ ((bs.take j).map f ++ y :: bs.drop (j + 1)).set j z = (bs.take j).map f ++ z :: bs.drop (j + 1) := by
 have hl : ((bs.take j).map f).length = j := by simp; omega
 refine ⟨?_, ?_⟩
 ·rw [List.getElem?_append_right (by omega), hl, Nat.sub_self]; rfl
 ·rw [List.set_append_right _ _ (by omega), hl, Nat.sub_self]; rfl
theorem R_some {α : Type} {d : Kd α} {e n c base : Nat} {ok : Nat → Prop} {w : World} {A : Option Addr} {xs : List α} (h : d.R e w base ok (.slice A n c) xs) (hn : 0 < n) : ∃ g, A = some ⟨g, 0, none⟩ ∧ base ≤ g ∧ g < w.heap.size ∧ ∃ cells, w.heap[g]? = some (.cells cells e (0, 0)) := by
 obtain ⟨inner, ho⟩ := Kd.R_own h
 rcases ownSl ho with ⟨hv, h0⟩ | ⟨g, c', hv⟩
 ·injection hv with _ hv _
  omega
 ·injection hv with h1 h2 h3
  subst h1
  exact ⟨g, rfl, own_base ho g rfl, own_lt ho g rfl, own_typed ho g rfl⟩
set_option linter.unusedSimpArgs false
set_option linter.unusedVariables false
set_option maxRecDepth 100000 in
set_option maxHeartbeats 8000000 in
theorem specFill_any (A : Option Addr) (c : Nat) (bs : List S62) (w : World) (hr : Kd.C k62 w A bs.length bs) (hc : bs.length ≤ c) (hs : smallBs bs) :
  Calls Tryd.prog 39 #[.agg #[.slice A bs.length c]] w fun e w' => ∃ v, e = .returned (.agg #[v]) ∧ BlocksV w' v (fillP bs) ∧ Below w.heap.size w w' := by
 obtain ⟨K3, hk3⟩ := (ev_specValid bs (fits_small bs hs)).rounds
 obtain ⟨K4, hk4⟩ := (ev_l3Copy bs hs).rounds
 obtain ⟨K5, hk5⟩ := (ev_l3Copy (fillP bs) (fillP_small bs hs)).rounds
 have HV := Aside0.mk (fun w hC => spec_SheetValid.calls K3 A c bs (sheetOk bs) w hC hc hk3)
 have HC4 := Aside0.mk (fun w hC => spec_l3Copy.calls K4 A c bs bs w hC hc hk4)
 have HC5 := Aside0.mk (fun w B d hC hd => spec_l3Copy.calls K5 B d (fillP bs) (fillP bs) w hC hd hk5)
 have HR := Aside0.mk hr
 have HS := Aside0.mk hs
 have hn : bs.length ≤ 1048576 := hs.1
 clear hk3 hk4 hk5 hr hs
 have b2 := blk_new (w.alloc (.cells #[.slice A bs.length c] 47)) (.cells #[.slice none 0 0] 47)
 have s1 : (w.alloc (.cells #[.slice A bs.length c] 47)).heap.size = w.heap.size + 1 := by simp
 rw [s1] at b2
 have a2 : Below w.heap.size w ((w.alloc (.cells #[.slice A bs.length c] 47)).alloc (.cells #[.slice none 0 0] 47)) := ((Below.refl _ _).alloc (Nat.le_refl _) _).alloc (by simp) _
 cases hv : sheetOk bs with
 | false =>
  have hP : fillP bs = [] := by unfold fillP; rw [hv]; rfl
  rw [hP]
  rw [hv] at HV
  go_enter Tryd.func39, Tryd.ntmps39
  go_wp2_with fail
  refine (HV.out _ (Kd.C_below HR.out a2)).mono ?_
  rintro e w1 ⟨rfl, hb1⟩
  have k2 := Aside0.mk (blk_below b2 hb1)
  have B1 := Aside0.mk (a2.trans (hb1.mono a2.size))
  have z1 : w1.cell? ⟨w.heap.size + 1, 0, none⟩ = some (.slice none 0 0) := (blk_cell k2.out 0).trans rfl
  have f1 := blk_frozen k2.out 0
  clear hb1 a2 b2
  go_wp2
  refine bodyPost_ret (results_cell_row rfl _ _ (w.heap.size + 1) 47 #[.slice none 0 0] (0, 0) _ rfl ?blk Tryd.underlying47 rfl (by kernel_rfl)) rfl ⟨.slice none 0 0, rfl, ?ow, ?bel⟩
  case blk => exact blk_put k2.out 0 _ rfl
  case ow => exact ⟨none, 0, rfl, Nat.le_refl _, C_nil _ _ _⟩
  case bel => exact B1.out.setCell (p := ⟨w.heap.size + 1, 0, none⟩) (show w.heap.size ≤ w.heap.size + 1 by omega) _
 | true =>
  have hP : fillP bs = bs.map fillB := by unfold fillP; rw [if_pos hv]
  have HL := Aside0.mk (sheetOk_lines hv)
  rw [hP] at HC5
  rw [hP]
  rw [hv] at HV
  go_enter Tryd.func39, Tryd.ntmps39
  go_wp2_with fail
  refine (HV.out _ (Kd.C_below HR.out a2)).mono ?_
  rintro e w1 ⟨rfl, hb1⟩
  have k2 := Aside0.mk (blk_below b2 hb1)
  have B1 := Aside0.mk (a2.trans (hb1.mono a2.size))
  have x1 : w1.cell? ⟨w.heap.size, 0, none⟩ = some (.slice A bs.length c) := pw_cell_below hb1 (by go_simp)
  have n1 : w.heap.size + 2 ≤ w1.heap.size := by have := hb1.size; simp at this; omega
  clear hb1 a2 b2 HV
  go_wp2_with fail
  refine (HC4.out w1 (Kd.C_below HR.out B1.out)).mono ?_
  rintro e w2 ⟨v, rfl, ho, hb2⟩
  obtain ⟨D, d, rfl⟩ := Kd.R_slice ho
  have k3 := Aside0.mk (blk_alloc (blk_below k2.out hb2) (.cells #[.slice D bs.length d] 47))
  have b3 := Aside0.mk (blk_new w2 (.cells #[.slice D bs.length d] 47))
  have a3 : Below w2.heap.size w2 (w2.alloc (.cells #[.slice D bs.length d] 47)) := (Below.refl _ _).alloc (Nat.le_refl _) _
  have B3 := Aside0.mk ((B1.out.trans (hb2.mono B1.out.size)).trans (a3.mono (by have := B1.out.size; have := hb2.size; omega)))
  have HO := Aside0.mk (Kd.R_below ho a3)
  have n2 : w1.heap.size ≤ w2.heap.size := hb2.size
  clear hb2 x1 ho k2 B1 a3 HC4
  go_wp2
  go_loopw [4] (fun i wr => ∃ (j : Nat), i = .int .i64 j ∧ j ≤ bs.length ∧ Aside0 (Below w.heap.size w wr) ∧ Aside0 (wr.heap[w.heap.size + 1]? = some (.cells #[.slice none 0 0] 47 (0, 0))) ∧ Aside0 (wr.heap[w2.heap.size]? = some (.cells #[.slice D bs.length d] 47 (0, 0))) ∧ Aside0 (Kd.R k62 62 wr w1.heap.size (fun _ => True) (.slice D bs.length d) ((bs.take j).map fillB ++ bs.drop j))) (fun i _ => bs.length - (intOf i).toNat)
  case atStart => exact ⟨0, rfl, Nat.zero_le _, B3, k3, b3, by simpa using HO⟩
  case round =>
   obtain ⟨j, rfl, hj, HB, K1, K3, HF⟩ := hrel
   have x3 : wr.cell? ⟨w2.heap.size, 0, none⟩ = some (.slice D bs.length d) := (blk_cell K3.out 0).trans rfl
   by_cases hlt : j < bs.length
   ·obtain ⟨q1, q2, q3⟩ := half_upd bs fillB j hlt bs[j]
    obtain ⟨g, rfl, hg1, hg2, gc, hgc⟩ := R_some HF.out (by omega)
    have hgk1 := blk_ne K1.out hgc (by decide)
    have hgk3 := blk_ne K3.out hgc (by decide)
    obtain ⟨cs, hcl, hM, hcc, hfz⟩ := Kd.R_elem HF.out bs[j] (j : Int) (by omega) (by omega)
    rw [Int.toNat_natCast, List.getD_eq_getElem?_getD, q2] at hM
    simp only [Option.getD_some] at hM
    rw [Int.toNat_natCast] at hcc hfz
    have hok := HL.out _ (List.getElem_mem hlt)
    have hsm := (HS.out.2 _ (List.getElem_mem hlt)).2.2
    have Q3 := Aside0.mk (fun y => (half_upd bs fillB j hlt y).2.2)
    have Q4 := Aside0.mk (half_nxt bs fillB j hlt)
    have hq1 := Aside0.mk q2
    clear q1 q2 q3
    generalize bs[j] = bb at *
    obtain ⟨f0, f1, f2⟩ := bb
    obtain ⟨lv, rfl, hlo⟩ := k62_openM hM
    simp only at *
    obtain ⟨L, cl, rfl⟩ := Kd.R_slice hlo
    have c0 : wr.cell? ⟨g, j * 3, none⟩ = some (.string f0) := hcc 0 _ rfl
    have c1 : wr.cell? ⟨g, j * 3 + 1, none⟩ = some (.string f1) := hcc 1 _ rfl
    have c2 : wr.cell? ⟨g, j * 3 + 2, none⟩ = some (.slice L f2.length cl) := hcc 2 _ rfl
    have i1 : (j : Int) < (bs.length : Int) := by omega
    have HOK := Aside0.mk hok
    have HSM := Aside0.mk hsm
    have HF0 := HF.out
    rw [← set_same hq1.out, Q3.out] at HF0
    have HF1 := Aside0.mk HF0
    clear hok hsm hM hcc hfz hlo hcl hgc HF0 HF hq1
    go_wp2_with fail
    refine (specRules_any f0 wr).mono ?_
    rintro e w7 ⟨v7, rfl, hR7, hb7⟩
    obtain ⟨A7, d7, rfl⟩ := Kd.R_slice hR7
    have HRU := Aside0.mk (Kd.R_mono (Kd.R_bound hR7) (fun k hk => (show k ≠ g by have := hk.2.1; omega)))
    have B7 := Aside0.mk (HB.out.trans (hb7.mono HB.out.size))
    have K17 := Aside0.mk (blk_below K1.out hb7)
    have K37 := Aside0.mk (blk_below K3.out hb7)
    have HF7 := Aside0.mk (Kd.R_below HF1.out hb7)
    have hrl := rulesL_len f0
    obtain ⟨N7, hN7⟩ : ∃ N, N = wr.heap.size := ⟨_, rfl⟩
    rw [← hN7] at HRU
    have hgN : g < N7 := by omega
    have hbN : w1.heap.size ≤ N7 := by omega
    clear hR7 hb7 HF1 HB K1 K3 x3 c0 c1 c2 hN7
    go_wp2
    go_loopw [6] (fun i wi => ∃ (k : Nat) (cur : List S83), i = .int .i64 k ∧ k ≤ (rulesL f0).length ∧ Aside0 (cur = ((rulesL f0).take k).foldl (fillStep f0) f2) ∧ Aside0 (Below w.heap.size w wi) ∧ Aside0 (wi.heap[w.heap.size + 1]? = some (.cells #[.slice none 0 0] 47 (0, 0))) ∧ Aside0 (wi.heap[w2.heap.size]? = some (.cells #[.slice (some ⟨g, 0, none⟩) bs.length d] 47 (0, 0))) ∧ Aside0 (Kd.R k62 62 wi w1.heap.size (fun _ => True) (.slice (some ⟨g, 0, none⟩) bs.length d) ((bs.take j).map fillB ++ ⟨f0, f1, cur⟩ :: bs.drop (j + 1))) ∧ Aside0 (Kd.R k36 36 wi N7 (fun k => k ≠ g) (.slice A7 (rulesL f0).length d7) (rulesL f0))) (fun i _ => (rulesL f0).length - (intOf i).toNat)
    case atStart => exact ⟨0, f2, rfl, Nat.zero_le _, ⟨rfl⟩, B7, K17, K37, HF7, HRU⟩
    case round =>
     obtain ⟨k, cur, rfl, hk, HCU, HBi, K1i, K3i, HFi, HRi⟩ := hrel
     by_cases hkl : k < (rulesL f0).length
     ·obtain ⟨r, hrk⟩ : ∃ r, (rulesL f0)[k]? = some r := ⟨_, List.getElem?_eq_getElem hkl⟩
      obtain ⟨g7, rfl, h71, h72, _⟩ := R_some HRi.out (by omega)
      obtain ⟨cs7, _, hM7, hc7, _⟩ := Kd.R_elem HRi.out r (k : Int) (by omega) (by omega)
      rw [Int.toNat_natCast, List.getD_eq_getElem?_getD, hrk] at hM7
      simp only [Option.getD_some] at hM7
      rw [Int.toNat_natCast] at hc7
      have hnx := fold_next (ls := f2) hrk
      rw [← HCU.out] at hnx
      have hcs := fold_small HSM.out HOK.out.1 k
      rw [← HCU.out] at hcs
      have hrs := std_small (List.mem_of_getElem? hrk)
      obtain ⟨r0, r1, r2, r3⟩ := r
      obtain ⟨v1, v3, rfl, hr1, hr3⟩ := k36_openM hM7
      simp only at *
      obtain ⟨A6, c6, rfl⟩ := Kd.R_slice hr1
      obtain ⟨A8, c8, rfl⟩ := Kd.R_slice hr3
      have y0 : wr.cell? ⟨g7, k * 4, none⟩ = some (.string r0) := hc7 0 _ rfl
      have y2 : wr.cell? ⟨g7, k * 4 + 2, none⟩ = some (.bool r2) := hc7 2 _ rfl
      have y3 : wr.cell? ⟨g7, k * 4 + 3, none⟩ = some (.slice A8 r3.length c8) := hc7 3 _ rfl
      obtain ⟨ha1, ha2⟩ := half_at bs fillB j hlt ⟨f0, f1, cur⟩ ⟨f0, f1, putL f0 cur ⟨r0, r3⟩⟩
      obtain ⟨csB, _, hMB, hcB, _⟩ := Kd.R_elem HFi.out ⟨f0, f1, cur⟩ (j : Int) (by omega) (by omega)
      rw [Int.toNat_natCast, List.getD_eq_getElem?_getD, ha1] at hMB
      simp only [Option.getD_some] at hMB
      rw [Int.toNat_natCast] at hcB
      obtain ⟨lv, rfl, hlo⟩ := k62_openM hMB
      simp only at *
      obtain ⟨L, cl, rfl⟩ := Kd.R_slice hlo
      have b0 : wr.cell? ⟨g, j * 3, none⟩ = some (.string f0) := hcB 0 _ rfl
      have b1 : wr.cell? ⟨g, j * 3 + 1, none⟩ = some (.string f1) := hcB 1 _ rfl
      have b2 : wr.cell? ⟨g, j * 3 + 2, none⟩ = some (.slice L cur.length cl) := hcB 2 _ rfl
      have x3 : wr.cell? ⟨w2.heap.size, 0, none⟩ = some (.slice (some ⟨g, 0, none⟩) bs.length d) := (blk_cell K3i.out 0).trans rfl
      have HLO := Aside0.mk (Kd.R_mono hlo (fun k (hk : True ∧ k ≠ g) => hk.2))
      have HDO := Aside0.mk (Kd.R_lower (Kd.R_mono hr3 (fun k (hk : k ≠ g ∧ k ≠ g7) => hk.1)) hbN)
      have HNX := Aside0.mk hnx
      have HCS := Aside0.mk hcs
      have HRS := Aside0.mk hrs
      have HA2 := Aside0.mk ha2
      have i2 : (k : Int) < ((rulesL f0).length : Int) := by omega
      have i3 : (j : Int) < (bs.length : Int) := by omega
      have hgW : g < wr.heap.size := by omega
      clear hM7 hc7 hnx hcs hrs hr1 hr3 ha1 ha2 hMB hcB hlo hrk
      have hsame : r2 = true ∨ ¬ ((ofKey r0 cur).length : Int) = 0 → ((rulesL f0).take (k + 1)).foldl (fillStep f0) f2 = cur := fun h => by
       rw [HNX.out]
       unfold fillStep
       rw [if_neg]
       rcases h with h | h
       ·rw [h]; simp
       ·simp only [Bool.and_eq_true, List.isEmpty_iff, not_and]
        intro _ e
        rw [e] at h; simp at h
      have HSAME := Aside0.mk hsame
      clear hsame
      cases r2 with
      | true =>
       have q2 := fun p : BW wr => p.cell y2
       go_wp2_with fail
       refine wp_region_below (by kernel_rfl) (by kernel_rfl) ?_
       repeat ((with_reducible refine wpQuiet_step ?_); (with_reducible intro K hK); go_simp; first | ((with_reducible refine hK _ ?_); clear hK K) | ((with_reducible refine quiet_off (fun h => ?_) ?_); exact h; (with_reducible refine hK _ ?_); clear hK K))
       with_reducible refine wpQuiet_nil ?_
       intro w9 hw'
       obtain ⟨⟨_, h9'⟩, rfl⟩ := hw'
       have h9 := Aside0.mk h9'
       have HC9 := Aside0.mk (HSAME.out (by first | exact .inl rfl | exact .inl trivial | trivial)).symm
       have HB9 := Aside0.mk (HBi.out.trans (h9.out.mono HBi.out.size))
       have K19 := Aside0.mk (blk_below K1i.out h9.out)
       have K39 := Aside0.mk (blk_below K3i.out h9.out)
       have HF9 := Aside0.mk (Kd.R_below HFi.out h9.out)
       have HR9 := Aside0.mk (Kd.R_below HRi.out h9.out)
       clear h9' q2 b0 b1 b2 x3 y0 y2 y3 i3 HSAME HNX
       go_wp2
       go_roundw
       case rel => exact ⟨k + 1, cur, by go_num, hkl, HC9, HB9, K19, K39, HF9, HR9⟩
       case measure => simp [intOf]; omega
      | false =>
       obtain ⟨K5, hk5⟩ := (ev_l5Of f0 f1 r0 cur HCS.out).rounds
       have HL5 : Aside0 (∀ w', Below wr.heap.size wr w' → Calls Tryd.prog 84 #[.agg #[.string f0, .string f1, .slice L cur.length cl], .string r0] w' fun e w'' => ∃ A9 d9, e = .returned (.slice A9 (ofKey r0 cur).length d9) ∧ Below w'.heap.size w' w'') := ⟨fun w' hb => by
        obtain ⟨_, hl2, hC2⟩ := Kd.R_reads' HLO.out
        refine (spec_l5Of.calls K5 f0 f1 (fun k => k < w'.heap.size) L cl cur r0 (ofKey r0 cur) w' ⟨L, cl, rfl, hl2, Kd.C_F heapLine (Kd.C_below hC2 hb)⟩ hk5).mono ?_
        rintro e w9 ⟨v9, rfl, hN9, hb9⟩
        obtain ⟨A9, d9, rfl, _⟩ := Kd.N_reads hN9
        exact ⟨A9, d9, rfl, hb9⟩⟩
       clear hk5
       have HO0 : Aside0 (((ofKey r0 cur).length : Int) = 0 → ((rulesL f0).take (k + 1)).foldl (fillStep f0) f2 = putL f0 cur ⟨r0, r3⟩) := ⟨fun h => by
        have h0 : ofKey r0 cur = [] := List.eq_nil_of_length_eq_zero (by omega)
        rw [HNX.out]
        unfold fillStep
        rw [if_pos (by simp only [h0]; rfl)]
        rfl⟩
       clear HNX
       generalize ofKey r0 cur = okl at *
       by_cases hz : ((okl.length : Nat) : Int) = 0
       all_goals
        go_wp2_with fail
        go_region_held3 (fun w' => w'.cell? ⟨g7, k * 4 + 2, none⟩ = some (.bool false) ∧ w'.cell? ⟨w2.heap.size, 0, none⟩ = some (.slice (some ⟨g, 0, none⟩) bs.length d) ∧ w'.cell? ⟨g, j * 3, none⟩ = some (.string f0) ∧ w'.cell? ⟨g, j * 3 + 1, none⟩ = some (.string f1) ∧ w'.cell? ⟨g, j * 3 + 2, none⟩ = some (.slice L cur.length cl) ∧ w'.cell? ⟨g7, k * 4, none⟩ = some (.string r0)) (first | go_keep | exact ⟨pw_cell_below hbl y2, pw_cell_below hbl x3, pw_cell_below hbl b0, pw_cell_below hbl b1, pw_cell_below hbl b2, pw_cell_below hbl y0⟩) (first | (go_at_call 84; refine (HL5.out _ (below_drew (Below.refl _ _))).mono ?_; rintro e w9 ⟨A9, d9, rfl, hbl⟩))
        have h9 := Aside0.mk ((below_drew (Below.refl wr.heap.size wr)).trans (hbl.mono (Nat.le_refl _)))
        have HB9 := Aside0.mk (HBi.out.trans (h9.out.mono HBi.out.size))
        have K19 := Aside0.mk (blk_below K1i.out h9.out)
        have K39 := Aside0.mk (blk_below K3i.out h9.out)
        have HF9 := Aside0.mk (Kd.R_below HFi.out h9.out)
        have HR9 := Aside0.mk (Kd.R_below HRi.out h9.out)
        clear hbl HL5
       ·have HCn := Aside0.mk (HO0.out hz)
        have U0 : w9.drew.cell? ⟨w2.heap.size, 0, none⟩ = some (.slice (some ⟨g, 0, none⟩) bs.length d) := pw_cell_below h9.out x3
        have U1 : w9.drew.cell? ⟨g, j * 3, none⟩ = some (.string f0) := pw_cell_below h9.out b0
        have U2 : w9.drew.cell? ⟨g, j * 3 + 1, none⟩ = some (.string f1) := pw_cell_below h9.out b1
        have U3 : w9.drew.cell? ⟨g, j * 3 + 2, none⟩ = some (.slice L cur.length cl) := pw_cell_below h9.out b2
        have U4 : w9.drew.cell? ⟨g7, k * 4, none⟩ = some (.string r0) := pw_cell_below h9.out y0
        have U5 : w9.drew.cell? ⟨g7, k * 4 + 3, none⟩ = some (.slice A8 r3.length c8) := pw_cell_below h9.out y3
        have hgu : g < w9.drew.heap.size := Nat.lt_of_lt_of_le hgW h9.out.size
        have HBu : Aside0 (Below w.heap.size w w9.drew) := ⟨below_drew HB9.out⟩
        have K1u : Aside0 (w9.drew.heap[w.heap.size + 1]? = some (.cells #[.slice none 0 0] 47 (0, 0))) := ⟨K19.out⟩
        have K3u : Aside0 (w9.drew.heap[w2.heap.size]? = some (.cells #[.slice (some ⟨g, 0, none⟩) bs.length d] 47 (0, 0))) := ⟨K39.out⟩
        have HFu := Aside0.mk (Kd.R_below HF9.out (below_drew (Below.refl _ w9)))
        have HRu := Aside0.mk (Kd.R_below HR9.out (below_drew (Below.refl _ w9)))
        have hnb : w1.heap.size ≤ w9.drew.heap.size := by have h : N7 ≤ g7 := h71; have := h72; have := h9.out.size; show w1.heap.size ≤ w9.heap.size; omega
        have PL : Aside0 (Calls Tryd.prog 92 #[.agg #[.string f0, .string f1, .slice L cur.length cl], .agg #[.string r0, .slice A8 r3.length c8]] w9.drew fun e w' => ∃ L5 c5, e = .returned (.agg #[.string f0, .string f1, .slice L5 (putL f0 cur ⟨r0, r3⟩).length c5]) ∧ Kd.R k83 83 w' w1.heap.size (fun k => k ≠ g) (.slice L5 (putL f0 cur ⟨r0, r3⟩).length c5) (putL f0 cur ⟨r0, r3⟩) ∧ Below w9.drew.heap.size w9.drew w') := ⟨by
         refine (putLine_c f0 f1 r0 L A8 cl c8 w1.heap.size cur r3 (fun k => k ≠ g) HCS.out HRS.out w9.drew (Kd.R_below HLO.out (below_drew h9.out)) (Kd.R_below HDO.out (below_drew h9.out)) (fun k hk => by omega) hnb).mono ?_
         rintro e w' ⟨v, rfl, hR, hb⟩
         obtain ⟨L5, c5, rfl⟩ := Kd.R_slice hR
         exact ⟨L5, c5, rfl, hR, hb⟩⟩
        clear b0 b1 b2 x3 y0 y2 y3 HSAME HO0 HB9 K19 K39 HF9 HR9 h9 HLO HDO HCS HRS HBi K1i K3i HFi HRi hnb
        go_wp2_with fail
        refine start_ (n := 22) (S := (fun w' => w'.cell? ⟨w2.heap.size, 0, none⟩ = some (.slice (some ⟨g, 0, none⟩) bs.length d) ∧ w'.cell? ⟨g, j * 3, none⟩ = some (.string f0) ∧ w'.cell? ⟨g, j * 3 + 1, none⟩ = some (.string f1) ∧ w'.cell? ⟨g, j * 3 + 2, none⟩ = some (.slice L cur.length cl) ∧ w'.cell? ⟨g7, k * 4, none⟩ = some (.string r0) ∧ w'.cell? ⟨g7, k * 4 + 3, none⟩ = some (.slice A8 r3.length c8))) (ds := [21]) (bz 22 0) (by kernel_rfl) rfl rfl ⟨U0, U1, U2, U3, U4, U5⟩ (fun hHeld => ?_)
        generalize w9.drew = u at U0 U1 U2 U3 U4 U5 hgu HBu K1u K3u HFu HRu PL hHeld ⊢
        refine pure_ (i := 0) (N := some 54) (v := ?_) (a' := ?_) (bz 22 1) rfl rfl (by kernel_rfl) (fun _ _ _ h => h) (Or.inl ⟨by rfl, ?_⟩) ?_ ?_
        rotate_left
        ·intro w'
         go_simp
         with_reducible rfl
        rotate_left
        ·simp only [Act.put, List.setIfInBounds_toArray, List.set_cons_zero, List.set_cons_succ, i64_w, i32_w]
         rfl
        refine take_ (i := 1) (N := some 55) (v := ?_) (a' := ?_) (bz 22 3) rfl rfl (by kernel_rfl) (fun _ _ _ h => h) (Or.inl ⟨by rfl, ?_⟩) hHeld ?_ ?_
        rotate_left
        ·rintro w' ⟨s0, s1, s2, s3, s4, s5⟩
         go_simp
         with_reducible rfl
        rotate_left
        ·simp only [Act.put, List.setIfInBounds_toArray, List.set_cons_zero, List.set_cons_succ, i64_w, i32_w]
         rfl
        refine pure_ (i := 2) (N := some 56) (v := ?_) (a' := ?_) (bz 22 7) rfl rfl (by kernel_rfl) (fun _ _ _ h => h) (Or.inl ⟨by rfl, ?_⟩) ?_ ?_
        rotate_left
        ·intro w'
         go_simp
         with_reducible rfl
        rotate_left
        ·simp only [Act.put, List.setIfInBounds_toArray, List.set_cons_zero, List.set_cons_succ, i64_w, i32_w]
         rfl
        refine pure_ (i := 3) (N := some 57) (v := ?_) (a' := ?_) (bz 22 15) rfl rfl (by kernel_rfl) (fun _ _ _ h => h) (Or.inl ⟨by rfl, ?_⟩) ?_ ?_
        rotate_left
        ·intro w'
         go_simp
         with_reducible rfl
        rotate_left
        ·simp only [Act.put, List.setIfInBounds_toArray, List.set_cons_zero, List.set_cons_succ, i64_w, i32_w]
         rfl
        refine take_ (i := 4) (N := some 58) (v := ?_) (a' := ?_) (bz 22 31) rfl rfl (by kernel_rfl) (fun _ _ _ h => h) (Or.inl ⟨by rfl, ?_⟩) hHeld ?_ ?_
        rotate_left
        ·rintro w' ⟨s0, s1, s2, s3, s4, s5⟩
         go_simp
         with_reducible rfl
        rotate_left
        ·simp only [Act.put, List.setIfInBounds_toArray, List.set_cons_zero, List.set_cons_succ, i64_w, i32_w]
         rfl
        refine pure_ (i := 5) (N := some 59) (v := ?_) (a' := ?_) (bz 22 63) rfl rfl (by kernel_rfl) (fun _ _ _ h => h) (Or.inl ⟨by rfl, ?_⟩) ?_ ?_
        rotate_left
        ·intro w'
         go_simp
         with_reducible rfl
        rotate_left
        ·simp only [Act.put, List.setIfInBounds_toArray, List.set_cons_zero, List.set_cons_succ, i64_w, i32_w]
         rfl
        refine pure_ (i := 6) (N := some 60) (v := ?_) (a' := ?_) (bz 22 127) rfl rfl (by kernel_rfl) (fun _ _ _ h => h) (Or.inl ⟨by rfl, ?_⟩) ?_ ?_
        rotate_left
        ·intro w'
         go_simp
         with_reducible rfl
        rotate_left
        ·simp only [Act.put, List.setIfInBounds_toArray, List.set_cons_zero, List.set_cons_succ, i64_w, i32_w]
         rfl
        refine take_ (i := 7) (N := some 61) (v := ?_) (a' := ?_) (bz 22 255) rfl rfl (by kernel_rfl) (fun _ _ _ h => h) (Or.inl ⟨by rfl, ?_⟩) hHeld ?_ ?_
        rotate_left
        ·rintro w' ⟨s0, s1, s2, s3, s4, s5⟩
         go_simp
         with_reducible rfl
        rotate_left
        ·simp only [Act.put, List.setIfInBounds_toArray, List.set_cons_zero, List.set_cons_succ, i64_w, i32_w]
         rfl
        refine pure_ (i := 8) (N := some 62) (v := ?_) (a' := ?_) (bz 22 511) rfl rfl (by kernel_rfl) (fun _ _ _ h => h) (Or.inl ⟨by rfl, ?_⟩) ?_ ?_
        rotate_left
        ·intro w'
         go_simp
         with_reducible rfl
        rotate_left
        ·simp only [Act.put, List.setIfInBounds_toArray, List.set_cons_zero, List.set_cons_succ, i64_w, i32_w]
         rfl
        refine pure_ (i := 9) (N := some 63) (v := ?_) (a' := ?_) (bz 22 1023) rfl rfl (by kernel_rfl) (fun _ _ _ h => h) (Or.inl ⟨by rfl, ?_⟩) ?_ ?_
        rotate_left
        ·intro w'
         go_simp
         with_reducible rfl
        rotate_left
        ·simp only [Act.put, List.setIfInBounds_toArray, List.set_cons_zero, List.set_cons_succ, i64_w, i32_w]
         rfl
        refine pure_ (i := 10) (N := some 64) (v := ?_) (a' := ?_) (bz 22 2047) rfl rfl (by kernel_rfl) (fun _ _ _ h => h) (Or.inl ⟨by rfl, ?_⟩) ?_ ?_
        rotate_left
        ·intro w'
         go_simp
         with_reducible rfl
        rotate_left
        ·simp only [Act.put, List.setIfInBounds_toArray, List.set_cons_zero, List.set_cons_succ, i64_w, i32_w]
         rfl
        refine pure_ (i := 11) (N := some 65) (v := ?_) (a' := ?_) (bz 22 4095) rfl rfl (by kernel_rfl) (fun _ _ _ h => h) (Or.inl ⟨by rfl, ?_⟩) ?_ ?_
        rotate_left
        ·intro w'
         go_simp
         with_reducible rfl
        rotate_left
        ·simp only [Act.put, List.setIfInBounds_toArray, List.set_cons_zero, List.set_cons_succ, i64_w, i32_w]
         rfl
        refine take_ (i := 12) (N := some 66) (v := ?_) (a' := ?_) (bz 22 8191) rfl rfl (by kernel_rfl) (fun _ _ _ h => h) (Or.inl ⟨by rfl, ?_⟩) hHeld ?_ ?_
        rotate_left
        ·rintro w' ⟨s0, s1, s2, s3, s4, s5⟩
         go_simp
         with_reducible rfl
        rotate_left
        ·simp only [Act.put, List.setIfInBounds_toArray, List.set_cons_zero, List.set_cons_succ, i64_w, i32_w]
         rfl
        refine pure_ (i := 13) (N := some 67) (v := ?_) (a' := ?_) (bz 22 16383) rfl rfl (by kernel_rfl) (fun _ _ _ h => h) (Or.inl ⟨by rfl, ?_⟩) ?_ ?_
        rotate_left
        ·intro w'
         go_simp
         with_reducible rfl
        rotate_left
        ·simp only [Act.put, List.setIfInBounds_toArray, List.set_cons_zero, List.set_cons_succ, i64_w, i32_w]
         rfl
        refine pure_ (i := 14) (N := some 68) (v := ?_) (a' := ?_) (bz 22 32767) rfl rfl (by kernel_rfl) (fun _ _ _ h => h) (Or.inl ⟨by rfl, ?_⟩) ?_ ?_
        rotate_left
        ·intro w'
         go_simp
         with_reducible rfl
        rotate_left
        ·simp only [Act.put, List.setIfInBounds_toArray, List.set_cons_zero, List.set_cons_succ, i64_w, i32_w]
         rfl
        refine pure_ (i := 15) (N := some 69) (v := ?_) (a' := ?_) (bz 22 65535) rfl rfl (by kernel_rfl) (fun _ _ _ h => h) (Or.inl ⟨by rfl, ?_⟩) ?_ ?_
        rotate_left
        ·intro w'
         go_simp
         with_reducible rfl
        rotate_left
        ·simp only [Act.put, List.setIfInBounds_toArray, List.set_cons_zero, List.set_cons_succ, i64_w, i32_w]
         rfl
        refine pure_ (i := 16) (N := some 70) (v := ?_) (a' := ?_) (bz 22 131071) rfl rfl (by kernel_rfl) (fun _ _ _ h => h) (Or.inl ⟨by rfl, ?_⟩) ?_ ?_
        rotate_left
        ·intro w'
         go_simp
         with_reducible rfl
        rotate_left
        ·simp only [Act.put, List.setIfInBounds_toArray, List.set_cons_zero, List.set_cons_succ, i64_w, i32_w]
         rfl
        refine take_ (i := 17) (N := some 71) (v := ?_) (a' := ?_) (bz 22 262143) rfl rfl (by kernel_rfl) (fun _ _ _ h => h) (Or.inl ⟨by rfl, ?_⟩) hHeld ?_ ?_
        rotate_left
        ·rintro w' ⟨s0, s1, s2, s3, s4, s5⟩
         go_simp
         with_reducible rfl
        rotate_left
        ·simp only [Act.put, List.setIfInBounds_toArray, List.set_cons_zero, List.set_cons_succ, i64_w, i32_w]
         rfl
        refine pure_ (i := 18) (N := some 72) (v := ?_) (a' := ?_) (bz 22 524287) rfl rfl (by kernel_rfl) (fun _ _ _ h => h) (Or.inl ⟨by rfl, ?_⟩) ?_ ?_
        rotate_left
        ·intro w'
         go_simp
         with_reducible rfl
        rotate_left
        ·simp only [Act.put, List.setIfInBounds_toArray, List.set_cons_zero, List.set_cons_succ, i64_w, i32_w]
         rfl
        refine one_ (i := 19) (N := some 73) (bz 22 1048575) rfl rfl (by kernel_rfl) (by decide) (fun K hK => ?_)
        refine goes_ Tryd.func92 (by kernel_rfl) rfl #[.agg #[.string f0, .string f1, .slice L cur.length cl], .agg #[.string r0, .slice A8 r3.length c8]] (by rfl) rfl rfl (by (try simp only [List.map_toArray, List.map_cons, List.map_nil]); first | done | rfl) ?_
        with_reducible refine PL.out.mono ?_
        rintro e w13 ⟨L5, c5, rfl, hR13, hb13⟩
        refine ⟨_, rfl, ?_⟩
        refine hK.out _ _ ⟨pw_cell_below hb13 U0, pw_cell_below hb13 U1, pw_cell_below hb13 U2, pw_cell_below hb13 U3, pw_cell_below hb13 U4, pw_cell_below hb13 U5⟩ (fun hHeld => ?_)
        clear hK K
        refine norm_ (a' := ?_) ?_ ?_
        rotate_left
        ·show Act.put _ (some 73) _ = _
         simp only [putAll, Act.put, List.setIfInBounds_toArray, List.set_cons_zero, List.set_cons_succ, i64_w, i32_w]
         rfl
        refine pure_ (i := 20) (N := some 74) (v := ?_) (a' := ?_) (bz 22 2097151) rfl rfl (by kernel_rfl) (fun _ _ _ h => h) (Or.inl ⟨by rfl, ?_⟩) ?_ ?_
        rotate_left
        ·intro w'
         go_simp
         with_reducible rfl
        rotate_left
        ·simp only [Act.put, List.setIfInBounds_toArray, List.set_cons_zero, List.set_cons_succ, i64_w, i32_w]
         rfl
        have HF13 := Kd.R_below HFu.out hb13
        have HR13 := Aside0.mk (Kd.R_below HRu.out hb13)
        have HB13 := Aside0.mk (HBu.out.trans (hb13.mono HBu.out.size))
        have K113 := Aside0.mk (blk_below K1u.out hb13)
        have K313 := Aside0.mk (blk_below K3u.out hb13)
        have HRL := Aside0.mk hR13
        obtain ⟨_, hgg, _, _, gc, hgc⟩ := R_some HF13 (by omega)
        injection hgg with hgg
        injection hgg with hgg
        subst hgg
        have fz0 := blk_frozen hgc (j * 3)
        have fz1 := blk_frozen hgc (j * 3 + 1)
        have fz2 := blk_frozen hgc (j * 3 + 2)
        have T1 := pw_cell_below hb13 U1
        have T2 := pw_cell_below hb13 U2
        have T3 := pw_cell_below hb13 U3
        obtain ⟨csD, hclD, _, hccD, _⟩ := Kd.R_elem HF13 ⟨f0, f1, cur⟩ (j : Int) (by omega) (by omega)
        have hdD : csD.take 0 ++ [.string f0, .string f1, .slice L5 (putL f0 cur ⟨r0, r3⟩).length c5] ++ csD.drop (0 + 3) = [.string f0, .string f1, .slice L5 (putL f0 cur ⟨r0, r3⟩).length c5] := by
         rw [List.drop_eq_nil_of_le (by rw [hclD]; exact Nat.le_refl _)]; simp
        have hS := Kd.R_seg HF13 (j : Int) (by omega) (by omega) (seg := [.string f0, .string f1, .slice L5 (putL f0 cur ⟨r0, r3⟩).length c5]) (j := 0) hclD hccD (Nat.le_refl _) (x' := ⟨f0, f1, putL f0 cur ⟨r0, r3⟩⟩) (okp := fun k => k ≠ g) (by rw [show ([.string f0, .string f1, .slice L5 (putL f0 cur ⟨r0, r3⟩).length c5] : List Value).length = 3 from rfl, hdD]; exact k62_mkM _ _ _ ⟨f0, f1, putL f0 cur ⟨r0, r3⟩⟩ hR13) (fun k hk => ⟨trivial, hk⟩)
        rw [Int.toNat_natCast, HA2.out] at hS
        have e3 : w13.setCells g (j * 3 + 0) [.string f0, .string f1, .slice L5 (putL f0 cur ⟨r0, r3⟩).length c5] = ((w13.setCell ⟨g, j * 3, none⟩ (.string f0)).setCell ⟨g, j * 3 + 1, none⟩ (.string f1)).setCell ⟨g, j * 3 + 2, none⟩ (.slice L5 (putL f0 cur ⟨r0, r3⟩).length c5) := rfl
        have hS2 : Kd.R k62 62 (((w13.setCell ⟨g, j * 3, none⟩ (.string f0)).setCell ⟨g, j * 3 + 1, none⟩ (.string f1)).setCell ⟨g, j * 3 + 2, none⟩ (.slice L5 (putL f0 cur ⟨r0, r3⟩).length c5)) w1.heap.size (fun _ => True) (.slice (some ⟨g, 0, none⟩) bs.length d) ((bs.take j).map fillB ++ ⟨f0, f1, putL f0 cur ⟨r0, r3⟩⟩ :: bs.drop (j + 1)) := e3 ▸ hS.1
        have hG2 : w13.grownBy (((w13.setCell ⟨g, j * 3, none⟩ (.string f0)).setCell ⟨g, j * 3 + 1, none⟩ (.string f1)).setCell ⟨g, j * 3 + 2, none⟩ (.slice L5 (putL f0 cur ⟨r0, r3⟩).length c5)) (some g) := e3 ▸ hS.2
        have HSn := Aside0.mk hS2
        have HRn := Aside0.mk (Kd.R_grown HR13.out hG2 (fun k hk e => hk (by injection e)))
        have K1n := Aside0.mk (blk_grown K113.out hG2 (fun e => hgk1 (by injection e)))
        have K3n := Aside0.mk (blk_grown K313.out hG2 (fun e => hgk3 (by injection e)))
        have HBn := Aside0.mk (below_grown HB13.out hG2 (show w.heap.size ≤ g by omega) (Nat.le_refl _))
        clear hS hS2 hG2 e3 hdD hclD hccD hgc HF13 HR13 HB13 K113 K313 hR13 hb13 PL
        refine last_ (i := 21) (N := none) (bz 22 4194303) rfl rfl (by kernel_rfl) (by decide) (fun K hK => ?_)
        refine skip_ (w1 := ?_) (by rfl) rfl ?_ ?_
        rotate_left
        ·go_simp
         rfl
        refine hK.out _ _ ?_
        clear hK K
        refine done_ (by kernel_rfl) ?_
        clear U0 U1 U2 U3 U4 U5 T1 T2 T3 fz0 fz1 fz2 hHeld HFu HRu HBu K1u K3u
        go_wp2
        go_roundw
        case rel => exact ⟨k + 1, _, by go_num, hkl, ⟨HCn.out.symm⟩, HBn, K1n, K3n, HSn, HRn⟩
        case measure => simp [intOf]; omega
       ·have HC9 := Aside0.mk (HSAME.out (.inr hz)).symm
        clear b0 b1 b2 x3 y0 y2 y3 i3 HSAME HO0
        go_wp2
        go_roundw
        case rel => exact ⟨k + 1, cur, by go_num, hkl, HC9, HB9, K19, K39, HF9, HR9⟩
        case measure => simp [intOf]; omega
     ·obtain rfl : k = (rulesL f0).length := by omega
      have hcur := HCU.out
      rw [List.take_length, fill_all f0 f2 HOK.out.1] at hcur
      subst hcur
      have HQ := Q4.out
      have HFn := HFi.out
      have eb : (⟨f0, f1, fillLs f0 f2⟩ : S62) = fillB ⟨f0, f1, f2⟩ := rfl
      rw [eb, HQ] at HFn
      have HFn2 := Aside0.mk HFn
      clear HFn HQ eb
      go_wp2
      go_roundw
      case rel => exact ⟨j + 1, by go_num, hlt, HBi, K1i, K3i, HFn2⟩
      case measure => simp [intOf]; omega
   ·obtain rfl : j = bs.length := by omega
    have i1 : ¬ (bs.length : Int) < (bs.length : Int) := by omega
    rw [List.take_length, List.drop_length, List.append_nil] at HF
    have hC := Kd.R_reads' HF.out
    rw [List.length_map] at hC
    have HCF := Aside0.mk hC
    have hl5 : bs.length = (bs.map fillB).length := by rw [List.length_map]
    have C5 := HC5.out wr D d (by have := HCF.out.2.2; simpa using this) (by simpa using HCF.out.2.1)
    rw [List.length_map] at C5
    have HC6 := Aside0.mk C5
    clear C5 hl5 hC HC5
    go_wp2_with fail
    refine HC6.out.mono ?_
    rintro e w5 ⟨v5, rfl, ho5, hb5⟩
    obtain ⟨A5, d5, rfl⟩ := Kd.R_slice ho5
    rw [List.length_map] at ho5
    have k5 := Aside0.mk (blk_below K1.out hb5)
    have z1 : w5.cell? ⟨w.heap.size + 1, 0, none⟩ = some (.slice none 0 0) := (blk_cell k5.out 0).trans rfl
    have f1 := blk_frozen k5.out 0
    have B5 := Aside0.mk (HB.out.trans (hb5.mono HB.out.size))
    have H5 := Aside0.mk (BlocksV.of_R (Kd.R_set ho5 k5.out (by decide) 0 (.slice A5 bs.length d5)))
    clear ho5 hb5
    go_wp2
    refine bodyPost_ret (results_cell_row rfl _ _ (w.heap.size + 1) 47 #[.slice A5 bs.length d5] (0, 0) _ rfl ?blk Tryd.underlying47 rfl (by kernel_rfl)) rfl ⟨.slice A5 bs.length d5, rfl, H5.out, ?bel⟩
    case blk => exact blk_put k5.out 0 _ rfl
    case bel => exact B5.out.setCell (p := ⟨w.heap.size + 1, 0, none⟩) (show w.heap.size ≤ w.heap.size + 1 by omega) _
end Go.Proofs.YtmcdnpooclelgaaDoor.PAll

namespace Go.Proofs.YtmcdnpooclelgaaDoor.PAll
open Go.RowKit Go.Proofs.YtmcdnpooclelgaaDoorW.PrintWords
set_option maxRecDepth 100000 in
set_option maxHeartbeats 2000000 in
theorem heldLines_any (A : Option Addr) (c : Nat) (xs : List S83) (k : Int) (w : World) (hr : Kd.C k83 w A (markAll mkLine cntLine xs k).length (markAll mkLine cntLine xs k)) (hk : 0 ≤ k) (hk2 : k + cntAll cntLine xs ≤ 1099511627776) :
    Calls Tryd.prog 38 #[.slice A xs.length c, .int .i64 k] w fun e w' => e = .returned (.int .i64 (k + (cntAll cntLine xs : Int))) ∧ Below w.heap.size w w' := by
  have HR := Aside0.mk hr
  clear hr
  have hlen : xs.length ≤ 1099511627776 := by have := len_cnt cntLine cntLine_pos xs; omega
  go_enter Tryd.func38, Tryd.ntmps38
  go_wp2
  go_loopw [1, 5] (fun kv i wr => ∃ j : Nat, kv = .int .i64 (k + (cntAll cntLine (xs.take j) : Int)) ∧ i = .int .i64 j ∧ j ≤ xs.length ∧ Below w.heap.size w wr) (fun _ i _ => xs.length - (intOf i).toNat)
  case atStart => exact ⟨0, by simp [cntAll], rfl, Nat.zero_le _, Below.refl _ _⟩
  case round =>
    obtain ⟨j, rfl, rfl, hj, hB⟩ := hrel
    by_cases hlt : j < xs.length
    · have hct := cntAll_take cntLine xs j hlt
      have hle := cntAll_le cntLine xs (j + 1)
      have hget := markAll_get mkLine cntLine xs j k hlt
      obtain ⟨ad, A3, c3, rfl, hx0, hx1, hl3, hC3⟩ := line_at (Kd.C_below HR.out hB) j _ hget
      clear hget
      generalize xs[j] = x at *
      obtain ⟨s0, d0⟩ := x
      have HCT := Aside0.mk hct
      have hkk0 : 0 ≤ k + (cntAll cntLine (xs.take j) : Int) := by omega
      have hkk1 : k + (cntAll cntLine (xs.take j) : Int) + 1 + d0.length ≤ 1099511627776 := by
        have : cntLine ⟨s0, d0⟩ = 1 + d0.length := rfl
        omega
      clear hct hle
      generalize hkk : k + (cntAll cntLine (xs.take j) : Int) = kk at *
      have HKK := Aside0.mk hkk
      clear hkk
      simp only [mkLine] at hx0 hx1 hl3 hC3
      rw [marks_len] at hx1
      have N3 := Aside0.mk hl3
      have HC3 := Aside0.mk hC3
      clear hl3 hC3
      obtain ⟨t, ht⟩ : ∃ t, t = mtP kk := ⟨_, rfl⟩
      have Ht := Aside0.mk ht
      rw [← ht] at hx0
      clear ht
      go_wp2_with fail
      go_region_held3 (fun w' => w'.cell? (ad.add (j * 2)) = some (.string t)) (first | go_keep | exact (pw_cell_below hbl (by simpa using hx0))) (first | (go_at_call 57; refine (markText_any _ _ (by omega)).mono ?_; rw [← Ht.out]; rintro e w1 ⟨rfl, hbl⟩))
      all_goals
        have hbl0 := Aside0.mk ((below_drew (Below.refl wr.heap.size wr)).trans (hbl.mono (Nat.le_refl _)))
        have hB1 : Below w.heap.size w w1 := hB.trans (hbl0.out.mono hB.size)
        have hy1 := pw_cell_below hbl0.out hx1
        clear hx0 hx1 hbl hB
        go_wp2_with fail
        refine (heldStr_any A3 c3 d0.length (kk + 1) _ (Kd.C_below HC3.out hbl0.out) N3.out (by omega) (by omega)).mono ?_
        rintro e w3 ⟨rfl, hb3⟩
        have hB3 : Below w.heap.size w w3 := hB1.trans (hb3.mono hB1.size)
        have hkn : Aside0 (kk + 1 + (d0.length : Int) = k + (cntAll cntLine (xs.take (j + 1)) : Int)) := ⟨by rw [HCT.out, ← HKK.out]; show _ = k + ((_ + (1 + d0.length) : Nat) : Int); omega⟩
        go_wp2
        go_roundw
        case rel => exact ⟨j + 1, by rw [hkn.out], by go_num, hlt, hB3⟩
        case measure => simp [intOf]; omega
    · obtain rfl : j = xs.length := by omega
      have he : xs.take xs.length = xs := List.take_length
      rw [he]
      go_wp2
      go_ret
      exact ⟨rfl, hB⟩
set_option maxRecDepth 100000 in
set_option maxHeartbeats 2000000 in
theorem markSheet_any (A : Option Addr) (c : Nat) (xs : List S62) (F : List Nat) (b : Nat) (k : Int) (w : World) (ho : blocksS.ow w b [.slice A xs.length c] xs F) (hk : 0 ≤ k) (hk2 : k + cntAll cntBlock xs ≤ 1099511627776) :
    Calls Tryd.prog 36 #[.agg #[.slice A xs.length c], .int .i64 k] w fun e w' => e = .returned (.int .i64 (k + (cntAll cntBlock xs : Int))) ∧ Upd F w w' := by
  have HO := Aside0.mk ho
  clear ho
  go_enter Tryd.func36, Tryd.ntmps36
  go_wp2_with fail
  have a1 : Below w.heap.size w (w.alloc (.cells #[.slice A xs.length c] 47)) := (Below.refl _ _).alloc (Nat.le_refl _) _
  refine (markBlocks_any _ xs F b k _ (blocksS.obelow HO.out a1) hk hk2).mono ?_
  rintro e w1 ⟨rfl, _, hu⟩
  have U1 := Aside0.mk (upd_in (Upd.of_below a1 F) hu (fun _ hx => hx))
  clear hu a1
  go_wp2
  go_ret
  exact ⟨rfl, U1.out⟩
end Go.Proofs.YtmcdnpooclelgaaDoor.PAll

namespace Go.Proofs.YtmcdnpooclelgaaDoor.PAll
open Go.RowKit Go.Proofs.YtmcdnpooclelgaaDoorW.PrintWords
set_option maxRecDepth 100000 in
set_option maxHeartbeats 2000000 in
theorem heldBlocks_any (A : Option Addr) (c : Nat) (xs : List S62) (k : Int) (w : World) (hr : Kd.C k62 w A (markAll mkBlock cntBlock xs k).length (markAll mkBlock cntBlock xs k)) (hk : 0 ≤ k) (hk2 : k + cntAll cntBlock xs ≤ 1099511627776) :
    Calls Tryd.prog 94 #[.slice A xs.length c, .int .i64 k] w fun e w' => e = .returned (.int .i64 (k + (cntAll cntBlock xs : Int))) ∧ Below w.heap.size w w' := by
  have HR := Aside0.mk hr
  clear hr
  have hlen : xs.length ≤ 1099511627776 := by have := len_cnt cntBlock cntBlock_pos xs; omega
  go_enter Tryd.func94, Tryd.ntmps94
  go_wp2
  go_loopw [1, 5] (fun kv i wr => ∃ j : Nat, kv = .int .i64 (k + (cntAll cntBlock (xs.take j) : Int)) ∧ i = .int .i64 j ∧ j ≤ xs.length ∧ Below w.heap.size w wr) (fun _ i _ => xs.length - (intOf i).toNat)
  case atStart => exact ⟨0, by simp [cntAll], rfl, Nat.zero_le _, Below.refl _ _⟩
  case round =>
    obtain ⟨j, rfl, rfl, hj, hB⟩ := hrel
    by_cases hlt : j < xs.length
    · have hct := cntAll_take cntBlock xs j hlt
      have hle := cntAll_le cntBlock xs (j + 1)
      have hget := markAll_get mkBlock cntBlock xs j k hlt
      obtain ⟨ad, A3, c3, rfl, hx0, hx1, hx2, hl3, hC3⟩ := block_at (Kd.C_below HR.out hB) j _ hget
      clear hget
      generalize xs[j] = x at *
      obtain ⟨s0, n0, d0⟩ := x
      have HCT := Aside0.mk hct
      have hkk0 : 0 ≤ k + (cntAll cntBlock (xs.take j) : Int) := by omega
      have hkk1 : k + (cntAll cntBlock (xs.take j) : Int) + 2 + cntAll cntLine d0 ≤ 1099511627776 := by
        have : cntBlock ⟨s0, n0, d0⟩ = 2 + cntAll cntLine d0 := rfl
        omega
      clear hct hle
      generalize hkk : k + (cntAll cntBlock (xs.take j) : Int) = kk at *
      have HKK := Aside0.mk hkk
      clear hkk
      simp only [mkBlock] at hx0 hx1 hx2 hl3 hC3
      rw [markAll_len] at hx2
      rw [show kk + 2 = kk + 1 + 1 by omega] at hC3
      have HH := Aside0.mk (fun w' hb => heldLines_any A3 c3 d0 (kk + 1 + 1) w' (Kd.C_below hC3 hb) (by omega) (by omega))
      clear hl3 hC3
      obtain ⟨t, ht⟩ : ∃ t, t = mtP kk := ⟨_, rfl⟩
      have Ht := Aside0.mk ht
      rw [← ht] at hx0
      obtain ⟨t2, ht2⟩ : ∃ t2, t2 = mtP (kk + 1) := ⟨_, rfl⟩
      have Ht2 := Aside0.mk ht2
      rw [← ht2] at hx1
      clear ht ht2
      have HCN : Aside0 (kk + 1 + 1 + (cntAll cntLine d0 : Int) = k + (cntAll cntBlock (xs.take (j + 1)) : Int)) := ⟨by rw [HCT.out, ← HKK.out]; show _ = k + ((_ + (2 + cntAll cntLine d0) : Nat) : Int); omega⟩
      have hm0 : 0 ≤ kk + 1 + 1 + (cntAll cntLine d0 : Int) := by omega
      have hkb : kk + 2 ≤ 1099511627776 := by omega
      have hw1 : wrap64 (kk + 1) = kk + 1 := w64 (by omega) (by omega)
      generalize kk + 1 + 1 + (cntAll cntLine d0 : Int) = mm at *
      clear HCT HKK
      go_wp2_with fail
      go_region_held3 (fun w' => w'.cell? (ad.add (j * 3)) = some (.string t)) (first | go_keep | exact (pw_cell_below hbl (by simpa using hx0))) (first | (go_at_call 57; refine (markText_any _ _ (by omega)).mono ?_; rw [← Ht.out]; rintro e w1 ⟨rfl, hbl⟩))
      all_goals
        have hbl0 := Aside0.mk ((below_drew (Below.refl wr.heap.size wr)).trans (hbl.mono (Nat.le_refl _)))
        have hB1 : Below w.heap.size w w1 := hB.trans (hbl0.out.mono hB.size)
        have hy1 := pw_cell_below hbl0.out hx1
        have hy2 := pw_cell_below hbl0.out hx2
        clear hx0 hx1 hx2 hbl hB
        go_wp2_with fail
        go_region_held3 (fun w' => w'.cell? ⟨(ad.add (j * 3)).block, (ad.add (j * 3)).off + 1, none⟩ = some (.string t2)) (first | go_keep | exact (pw_cell_below hbl2 (by simpa using hy1))) (first | (go_at_call 57; refine (markText_any _ _ (by omega)).mono ?_; (try rw [hw1]); rw [← Ht2.out]; rintro e w2 ⟨rfl, hbl2⟩))
        all_goals
          have hbl3 := Aside0.mk (hbl0.out.trans (((below_drew (Below.refl w1.heap.size w1)).trans (hbl2.mono (Nat.le_refl _))).mono hbl0.out.size))
          have hB2 : Below w.heap.size w w2 := hB1.trans (((below_drew (Below.refl w1.heap.size w1)).trans (hbl2.mono (Nat.le_refl _))).mono hB1.size)
          have hz2 := pw_cell_below ((below_drew (Below.refl w1.heap.size w1)).trans (hbl2.mono (Nat.le_refl _))) hy2
          clear hy1 hy2 hbl2 hB1 hbl0
          go_wp2_with fail
          refine (HH.out w2 hbl3.out).mono ?_
          rintro e w3 ⟨rfl, hb3⟩
          have hB3 : Below w.heap.size w w3 := hB2.trans (hb3.mono hB2.size)
          go_wp2
          go_roundw
          case rel => exact ⟨j + 1, by rw [HCN.out], by go_num, hlt, hB3⟩
          case measure => simp [intOf]; omega
    · obtain rfl : j = xs.length := by omega
      have he : xs.take xs.length = xs := List.take_length
      rw [he]
      go_wp2
      go_ret
      exact ⟨rfl, hB⟩
set_option maxRecDepth 100000 in
set_option maxHeartbeats 2000000 in
theorem heldSheet_any (A : Option Addr) (c : Nat) (xs : List S62) (k : Int) (w : World) (hr : Kd.C k62 w A (markAll mkBlock cntBlock xs k).length (markAll mkBlock cntBlock xs k)) (hk : 0 ≤ k) (hk2 : k + cntAll cntBlock xs ≤ 1099511627776) :
    Calls Tryd.prog 41 #[.agg #[.slice A xs.length c], .int .i64 k] w fun e w' => e = .returned (.int .i64 (k + (cntAll cntBlock xs : Int))) ∧ Below w.heap.size w w' := by
  have HH := Aside0.mk (fun w' hb => heldBlocks_any A c xs k w' (Kd.C_below hr hb) hk hk2)
  have hm0 : 0 ≤ k + (cntAll cntBlock xs : Int) := by omega
  clear hr
  generalize k + (cntAll cntBlock xs : Int) = mm at *
  go_enter Tryd.func41, Tryd.ntmps41
  go_wp2_with fail
  have a1 : Below w.heap.size w (w.alloc (.cells #[.slice A xs.length c] 47)) := (Below.refl _ _).alloc (Nat.le_refl _) _
  refine (HH.out _ a1).mono ?_
  rintro e w1 ⟨rfl, hb⟩
  have B1 := Aside0.mk (a1.trans (hb.mono a1.size))
  clear hb a1
  go_wp2
  go_ret
  exact ⟨rfl, B1.out⟩
end Go.Proofs.YtmcdnpooclelgaaDoor.PAll

namespace Go.Proofs.YtmcdnpooclelgaaDoor.PAll
open Go.RowKit Go.Proofs.YtmcdnpooclelgaaDoorW.PrintWords
theorem szL_tot (xs : List ByteArray) (left : Int) (h : 0 ≤ szL xs left) : szL xs left + (xs.length : Int) ≤ left ∧ ∀ s ∈ xs, (s.size : Int) ≤ left := by
  unfold szL at h ⊢
  split at h
  · omega
  · rename_i q
    rw [if_neg q]
    obtain ⟨h1, h2⟩ := szS_le _ _ h
    exact ⟨by omega, fun s hs => by have := h2 s hs; omega⟩
theorem szLine_t (l : S155) (left : Int) (hb : LB l) (h0 : 0 ≤ left) (h9 : left ≤ 1048576) :
    ∃ r : Int, Ev (fun k => laws_szSheetLine.f k l.f0 l.f1 left) r ∧ (0 ≤ r → r + (l.f1.length : Int) ≤ left ∧ LF l) := by
  have e : wrap64 (left - (l.f0.size : Int)) = left - l.f0.size := by have := hb.1; exact w64 (by omega) (by omega)
  unfold laws_szSheetLine.f
  simp only [e]
  by_cases q : left - (l.f0.size : Int) < 0
  · simp only [if_pos q]
    exact ⟨-1, Ev.now _, fun h => by omega⟩
  · simp only [if_neg q]
    have hr := ev_szStringS l.f1 (left - l.f0.size) hb.2.1 hb.2.2 (by omega) (by omega)
    have hle := szL_tot l.f1 (left - l.f0.size)
    generalize szL l.f1 (left - (l.f0.size : Int)) = r at *
    by_cases q2 : r < 0
    · exact ⟨-1, Ev.bind hr (by simp only [if_pos q2]; exact Ev.now _), fun h => by omega⟩
    · obtain ⟨a1, a3⟩ := hle (by omega)
      exact ⟨r, Ev.bind hr (by simp only [if_neg q2]; exact Ev.now _), fun _ => ⟨by omega, by omega, by omega, fun s hs => by have := a3 s hs; omega⟩⟩
def lenL (l : S155) : Nat := l.f1.length
def lenB (b : S128) : Nat := b.f2.length + cntAll lenL b.f2
theorem szLines_l0t (ls : List S155) (hb : LBs ls) : ∀ (d i : Nat) (left : Int), i + d = ls.length → 0 ≤ left → left ≤ 1048576 →
    ∃ r : Int, Ev (fun k => laws_szSheetLineS.l0 k ls left i) r ∧ (0 ≤ r → r + (cntAll lenL (ls.drop i) : Int) ≤ left ∧ ∀ l ∈ ls.drop i, LF l)
  | 0, i, left, h, h0, h9 => ⟨left, Ev.unf (fun _ => some left) (fun k => by simp only [laws_szSheetLineS.l0]; rw [if_neg (by omega)]) (Ev.now _), fun _ => by rw [List.drop_eq_nil_of_le (by omega)]; simp [cntAll]⟩
  | d + 1, i, left, h, h0, h9 => by
    have hi : i < ls.length := by omega
    have hn := hb.1
    obtain ⟨r, hr, hle⟩ := szLine_t ls[i] left (hb.2 _ (List.getElem_mem hi)) h0 h9
    have st : ∀ R : Int, Ev (fun k => if r < 0 then some (-1) else laws_szSheetLineS.l0 k ls r ((i + 1 : Nat) : Int)) R → Ev (fun k => laws_szSheetLineS.l0 k ls left i) R := fun R hR => by
      refine Ev.unf (fun k => (laws_szSheetLine.f k ls[i].f0 ls[i].f1 left).bind fun t => if t < 0 then some (-1) else laws_szSheetLineS.l0 k ls t ((i + 1 : Nat) : Int)) (fun k => ?_) (Ev.bind hr hR)
      simp only [laws_szSheetLineS.l0]
      rw [if_pos (by omega), if_pos (by omega), rdLl hi, inc (by omega)]
    by_cases q : r < 0
    · exact ⟨-1, st _ (by simp only [if_pos q]; exact Ev.now _), fun h => by omega⟩
    · obtain ⟨a1, a2⟩ := hle (by omega)
      obtain ⟨R, hR, hRle⟩ := szLines_l0t ls hb d (i + 1) r (by omega) (by omega) (by omega)
      refine ⟨R, st _ (by simp only [if_neg q]; exact hR), fun h => ?_⟩
      obtain ⟨b1, b2⟩ := hRle h
      rw [List.drop_eq_getElem_cons hi]
      refine ⟨by simp only [cntAll, lenL] at *; omega, fun l hl => ?_⟩
      rcases List.mem_cons.1 hl with rfl | hl
      · exact a2
      · exact b2 l hl
theorem szBlock_t (b : S128) (left : Int) (hb : KB b) (h0 : 0 ≤ left) (h9 : left ≤ 1048576) :
    ∃ r : Int, Ev (fun k => laws_szSheetBlock.f k b.f0 b.f1 b.f2 left) r ∧ (0 ≤ r → r + (lenB b : Int) ≤ left ∧ KF b) := by
  have e1 : wrap64 (left - (b.f0.size : Int)) = left - b.f0.size := by have := hb.1; exact w64 (by omega) (by omega)
  have lines : ∀ left : Int, 0 ≤ left → left ≤ 1048576 → ∃ r : Int, Ev (fun k => laws_szSheetLineS.f k b.f2 left) r ∧ (0 ≤ r → r + (lenB b : Int) ≤ left ∧ LFs b.f2) := fun left h0 h9 => by
    have hn := hb.2.2.1
    have e : wrap64 (left - (b.f2.length : Int)) = left - b.f2.length := w64 (by omega) (by omega)
    unfold laws_szSheetLineS.f
    simp only [e]
    by_cases q : left - (b.f2.length : Int) < 0
    · simp only [if_pos q]; exact ⟨-1, Ev.now _, fun h => by omega⟩
    · simp only [if_neg q]
      obtain ⟨R, hR, hle⟩ := szLines_l0t b.f2 hb.2.2 b.f2.length 0 (left - b.f2.length) (by omega) (by omega) (by omega)
      refine ⟨R, hR, fun h => ?_⟩
      obtain ⟨h1, h2⟩ := hle h
      rw [List.drop_zero] at h1 h2
      exact ⟨by unfold lenB; omega, by omega, h2⟩
  unfold laws_szSheetBlock.f
  simp only [e1]
  by_cases q : left - (b.f0.size : Int) < 0
  · simp only [if_pos q]
    exact ⟨-1, Ev.now _, fun h => by omega⟩
  · simp only [if_neg q]
    have e2 : wrap64 (left - (b.f0.size : Int) - (b.f1.size : Int)) = left - b.f0.size - b.f1.size := by have := hb.2.1; exact w64 (by omega) (by omega)
    simp only [e2]
    by_cases q1 : left - (b.f0.size : Int) - (b.f1.size : Int) < 0
    · simp only [if_pos q1]
      exact ⟨-1, Ev.now _, fun h => by omega⟩
    · simp only [if_neg q1]
      obtain ⟨r, hr, hle⟩ := lines (left - b.f0.size - b.f1.size) (by omega) (by omega)
      by_cases q2 : r < 0
      · exact ⟨-1, Ev.bind hr (by simp only [if_pos q2]; exact Ev.now _), fun h => by omega⟩
      · obtain ⟨a1, a2⟩ := hle (by omega)
        exact ⟨r, Ev.bind hr (by simp only [if_neg q2]; exact Ev.now _), fun _ => ⟨by omega, by omega, by omega, a2⟩⟩
theorem szBlocks_l0t (bs : List S128) (hb : KBs bs) : ∀ (d i : Nat) (left : Int), i + d = bs.length → 0 ≤ left → left ≤ 1048576 →
    ∃ r : Int, Ev (fun k => laws_szSheetBlockS.l0 k bs left i) r ∧ (0 ≤ r → r + (cntAll lenB (bs.drop i) : Int) ≤ left ∧ ∀ b ∈ bs.drop i, KF b)
  | 0, i, left, h, h0, h9 => ⟨left, Ev.unf (fun _ => some left) (fun k => by simp only [laws_szSheetBlockS.l0]; rw [if_neg (by omega)]) (Ev.now _), fun _ => by rw [List.drop_eq_nil_of_le (by omega)]; simp [cntAll]⟩
  | d + 1, i, left, h, h0, h9 => by
    have hi : i < bs.length := by omega
    have hn := hb.1
    obtain ⟨r, hr, hle⟩ := szBlock_t bs[i] left (hb.2 _ (List.getElem_mem hi)) h0 h9
    have st : ∀ R : Int, Ev (fun k => if r < 0 then some (-1) else laws_szSheetBlockS.l0 k bs r ((i + 1 : Nat) : Int)) R → Ev (fun k => laws_szSheetBlockS.l0 k bs left i) R := fun R hR => by
      refine Ev.unf (fun k => (laws_szSheetBlock.f k bs[i].f0 bs[i].f1 bs[i].f2 left).bind fun t => if t < 0 then some (-1) else laws_szSheetBlockS.l0 k bs t ((i + 1 : Nat) : Int)) (fun k => ?_) (Ev.bind hr hR)
      simp only [laws_szSheetBlockS.l0]
      rw [if_pos (by omega), if_pos (by omega), rdBl hi, inc (by omega)]
    by_cases q : r < 0
    · exact ⟨-1, st _ (by simp only [if_pos q]; exact Ev.now _), fun h => by omega⟩
    · obtain ⟨a1, a2⟩ := hle (by omega)
      obtain ⟨R, hR, hRle⟩ := szBlocks_l0t bs hb d (i + 1) r (by omega) (by omega) (by omega)
      refine ⟨R, st _ (by simp only [if_neg q]; exact hR), fun h => ?_⟩
      obtain ⟨b1, b2⟩ := hRle h
      rw [List.drop_eq_getElem_cons hi]
      refine ⟨by simp only [cntAll]; omega, fun l hl => ?_⟩
      rcases List.mem_cons.1 hl with rfl | hl
      · exact a2
      · exact b2 l hl
theorem cnt_cvL : ∀ ls : List S155, cntAll cntLine (ls.map cvL) = ls.length + cntAll lenL ls
  | [] => rfl
  | l :: ls => by
    simp only [List.map_cons, cntAll, cnt_cvL ls, cntLine, cvL, lenL, List.length_cons]
    omega
theorem cnt_cvB : ∀ bs : List S128, cntAll cntBlock (cvBs bs) = 2 * bs.length + cntAll lenB bs
  | [] => rfl
  | b :: bs => by
    have ih := cnt_cvB bs
    unfold cvBs at ih ⊢
    simp only [List.map_cons, cntAll, ih, cntBlock, cvB, cnt_cvL, lenB, List.length_cons]
    omega
theorem szSheet_t (bs : List S128) (left : Int) (hb : KBs bs) (h0 : 0 ≤ left) (h9 : left ≤ 1048576) : ∃ r : Int, Ev (fun k => laws_szSheet.f k bs left) r ∧ (0 ≤ r → KFs bs ∧ cntAll cntBlock (cvBs bs) ≤ 2097152) := by
  have hn := hb.1
  have e : wrap64 (left - (bs.length : Int)) = left - bs.length := w64 (by omega) (by omega)
  have inner : ∃ r : Int, Ev (fun k => laws_szSheetBlockS.f k bs left) r ∧ (0 ≤ r → KFs bs ∧ cntAll cntBlock (cvBs bs) ≤ 2097152) := by
    unfold laws_szSheetBlockS.f
    simp only [e]
    by_cases q : left - (bs.length : Int) < 0
    · simp only [if_pos q]; exact ⟨-1, Ev.now _, fun h => by omega⟩
    · simp only [if_neg q]
      obtain ⟨R, hR, hle⟩ := szBlocks_l0t bs hb bs.length 0 (left - bs.length) (by omega) (by omega) (by omega)
      refine ⟨R, hR, fun h => ?_⟩
      obtain ⟨h1, h2⟩ := hle h
      rw [List.drop_zero] at h1 h2
      exact ⟨⟨by omega, h2⟩, by rw [cnt_cvB]; omega⟩
  obtain ⟨r, hr, hle⟩ := inner
  unfold laws_szSheet.f
  by_cases q2 : r < 0
  · exact ⟨-1, Ev.bind hr (by simp only [if_pos q2]; exact Ev.now _), fun h => by omega⟩
  · exact ⟨r, Ev.bind hr (by simp only [if_neg q2]; exact Ev.now _), fun h => hle h⟩
end Go.Proofs.YtmcdnpooclelgaaDoor.PAll

namespace Go.Proofs.YtmcdnpooclelgaaDoor.PAll
open Go.RowKit Go.Proofs.YtmcdnpooclelgaaDoorW.PrintWords
set_option maxRecDepth 100000 in
set_option maxHeartbeats 2000000 in
theorem markSheet_own (A : Option Addr) (c : Nat) (xs : List S62) (F : List Nat) (b : Nat) (k : Int) (w : World) (ho : blocksS.ow w b [.slice A xs.length c] xs F) (hk : 0 ≤ k) (hk2 : k + cntAll cntBlock xs ≤ 1099511627776) :
    Calls Tryd.prog 36 #[.agg #[.slice A xs.length c], .int .i64 k] w fun e w' => e = .returned (.int .i64 (k + (cntAll cntBlock xs : Int))) ∧ blocksS.ow w' b [.slice A xs.length c] (markAll mkBlock cntBlock xs k) F ∧ Upd F w w' := by
  have HO := Aside0.mk ho
  clear ho
  go_enter Tryd.func36, Tryd.ntmps36
  go_wp2_with fail
  have a1 : Below w.heap.size w (w.alloc (.cells #[.slice A xs.length c] 47)) := (Below.refl _ _).alloc (Nat.le_refl _) _
  refine (markBlocks_any _ xs F b k _ (blocksS.obelow HO.out a1) hk hk2).mono ?_
  rintro e w1 ⟨rfl, hw, hu⟩
  have U1 := Aside0.mk (And.intro hw (upd_in (Upd.of_below a1 F) hu (fun _ hx => hx)))
  clear hu hw a1
  go_wp2
  go_ret
  exact ⟨rfl, U1.out⟩
theorem blocks_reads {w : World} {b : Nat} {A : Option Addr} {n c : Nat} {xs : List S62} {F : List Nat} (h : blocksS.ow w b [.slice A n c] xs F) : n = xs.length ∧ xs.length ≤ c ∧ Kd.C k62 w A xs.length xs := by
  obtain ⟨A', c', hv, hl, hC⟩ := blocksS.ord h
  injection hv with hv _
  injection hv with h1 h2 h3
  subst h1 h3
  exact ⟨h2, hl, hC⟩
theorem blk_upd {w w' : World} {F : List Nat} {g : Nat} {o : Obj} (h : w.heap[g]? = some o) (hu : Upd F w w') (hn : g ∉ F) : w'.heap[g]? = some o := (hu.block g (blk_lt h) hn).trans h
theorem blk_up {w w' : World} {N g : Nat} {o : Obj} (h : w.heap[g]? = some o) (hb : Below N w w') (hn : g < N) : w'.heap[g]? = some o := (hb.block g hn).trans h
end Go.Proofs.YtmcdnpooclelgaaDoor.PAll

namespace Go.Proofs.YtmcdnpooclelgaaDoor
open Go.ChangeShapes Go.WideShapes Go.ChangeAt Go.RowKit
theorem deep_of_change {H : Type} {enc : TypeId × Value → H} {a : Assume} {C : Checked} {os : Os} {f : FuncId} {fn : Func} {s : ChangeSpec} {conds : List PathCond} {apart fresh handsOn again : Bool} {X : World → Array Value → Prop}
    (own : ownKnob C.prog.godebug = none) (started : os.Started) (noInit : C.prog.inits.idxOf? f = none) (hfn : C.prog.funcs[f]? = some fn)
    (witness : ∃ (w : World) (tape : Tape) (i : Input), w.os = os ∧ (w.forCall tape i).Shaped C.prog ∧ i.vars = [] ∧ Input.okWide C.prog (w.forCall tape i) .any w.heap.size f i ∧
      ((s.pre enc C.prog fn conds apart (w.forCall tape i).memory i.args ∧ X (w.forCall tape i).memory i.args) ∧ sizedMet enc C.prog fn (OpenSpec.ofChange s) apart (w.forCall tape i).memory i.args) ∧ a.holds C.prog (lone (Frame.enter C.prog f i.args .normal) [] (w.forCall tape i)))
    (contract : ∀ (W : World) (base : Nat) (args : Array Value) (ds gs : List (DataW H)) (before : List MemPlace),
      (∀ (j : Nat) t v, fn.params[j]? = some t → args[j]? = some v → Value.okWide C.prog W .any base t v) →
      DataW.Whole enc C.prog fn.params.toList s.vars apart W args.toList ds gs before →
      conds.all (PathCond.test C.prog ⟨fn.params.toList, ds, s.plain.varTypes C.prog, gs⟩) = true →
      (DataW.weightsEach C.prog (fn.params.toList ++ s.plain.varTypes C.prog) (ds ++ gs)).all (· ≤ reachBytes) = true →
      W.ShapedOpen C.prog →
      a.holds C.prog (lone (Frame.enter C.prog f args .normal) [] W) →
      Calls C.prog f args W fun e W' => ∃ v, e = .returned v ∧ s.post enc C.prog fn apart fresh handsOn again W args v W') :
    ReturnsInHanded a C os f .any (fun w args => (s.pre enc C.prog fn conds apart w args ∧ X w args) ∧ sizedMet enc C.prog fn (OpenSpec.ofChange s) apart w args) (s.post enc C.prog fn apart fresh handsOn again) := by
  refine returnsInHanded_of_calls own started noInit witness ?_
  intro w tape i _ hsh _ hok hpre hholds
  obtain ⟨_, _, _, fn', hfn', _, _, _, _, hval⟩ := hok
  have e : fn' = fn := Option.some.inj (hfn'.symm.trans hfn)
  subst e
  obtain ⟨⟨⟨ds, gs, before, hw, hc⟩, _⟩, hz⟩ := hpre
  have hw' := DataW.Whole.of_heap (w' := w.forCall tape i) (by rfl) hw
  refine (contract (w.forCall tape i) w.heap.size i.args ds gs before hval hw' hc (hz.weights hw) hsh hholds).mono fun e W' ⟨v, he, hp⟩ => ?_
  subst he
  exact ChangeSpec.post_blind hp
end Go.Proofs.YtmcdnpooclelgaaDoor
