import Derived.Test.YtjjmmjgkdmnbcaaKf
import Derived.BigQuiet
namespace Go.Proofs.Ytjjmmjgkdmnbcaa
open Go.RowKit Go.Proofs.YtjjmmjgkdmnbcaaW.PrintWords
/-! the draws: bending a text -/
theorem lit_any {N : Nat} {vs : Array Value} (hall : vs.all (strOk N) = true) (j : Int) (h0 : 0 ≤ j) (h1 : j < vs.size) :
    ∃ x : ByteArray, x.size ≤ N ∧ ∀ (w w3 : World) (m : Nat) (t : TypeId) (bs : List Nat), w.heap[m]? = some (.cells vs t (0, 0)) → Upd bs w w3 → m ∉ bs → w3.cell? ⟨m, j.toNat, none⟩ = some (.string x) := by
  have hl : j.toNat < vs.size := by omega
  have hx := (Array.all_eq_true.1 hall) j.toNat hl
  cases hv : vs[j.toNat] with
  | string b => 
    rw [hv] at hx
    refine ⟨b, by simpa [strOk] using hx, fun w w3 m t bs hm hU hg => ?_⟩
    have hb := hU.block m (Array.getElem?_eq_some_iff.1 hm).1 hg
    refine (blk_cell (hb.trans hm) j.toNat).trans ?_
    rw [Array.getElem?_eq_getElem hl, hv]
  | _ => rw [hv] at hx; simp [strOk] at hx
set_option maxRecDepth 100000 in
set_option maxHeartbeats 2000000 in
theorem l1Bend_any (w0 w : World) (g : Nat) (P : Int) (s : ByteArray) (h : Rdr w0 w g P) (hP : P ≤ 1000000) (hs : s.size ≤ 16777216) :
    Calls Try.prog 29 #[.pointer (some ⟨g, 0, none⟩), .string s] w (TextPost w0 w g (P + 3) (2 * s.size + 4)) := by
  have hlt := h.lt
  go_enter Try.func29, Try.ntmps29
  go_wp2_with fail
  refine (pick_any w0 w g P 256 h (by omega) (by omega)).mono ?_
  rintro e w1 ⟨a, rfl, a0, a1, -, hR1, hU1⟩
  have a1 := a1 (by omega)
  have H1 := Lib.hid hR1
  have U1 := Lib.hid hU1
  clear hR1 hU1 h
  have m0 : 0 ≤ a * ((s.size : Int) + 1) := Int.mul_nonneg a0 (by omega)
  have m1 : a * ((s.size : Int) + 1) ≤ 255 * ((s.size : Int) + 1) := Int.mul_le_mul_of_nonneg_right (by omega) (by omega)
  go_wp2_with fail
  refine (pick_any w0 w1 g (P + 1) 5 H1.out (by omega) (by omega)).mono ?_
  rintro e w2 ⟨b, rfl, b0, b1, -, hR2, hU2⟩
  have b1 := b1 (by omega)
  have i0 : 0 ≤ a * ((s.size : Int) + 1) / 256 := by omega
  have i1 : a * ((s.size : Int) + 1) / 256 ≤ s.size := by omega
  generalize a * ((s.size : Int) + 1) / 256 = i at *
  clear m0 m1 a0 a1
  obtain ⟨n, rfl⟩ := Int.eq_ofNat_of_zero_le i0
  have H2 := Lib.hid (show Rdr w0 w2 g (P + 2) by simpa [Int.add_assoc] using hR2)
  have U2 := Lib.hid (U1.out.trans hU2 (fun _ h _ => h))
  have hlt2 := hR2.lt
  clear hR2 hU2 U1 H1
  have fin : Aside0 (∀ t : ByteArray, t.size ≤ 2 * s.size + 4 → ∀ w3, Rdr w0 w3 g (P + 3) → Upd [g] w2 w3 → TextPost w0 w g (P + 3) (2 * s.size + 4) (.returned (.string t)) w3) := ⟨fun t ht w3 hR hU => ⟨t, rfl, ht, hR, U2.out.trans hU (fun _ h _ => h)⟩⟩
  have same : Aside0 (∀ k, Rdr w0 (w2.drewN k) g (P + 3) ∧ Upd [g] w2 (w2.drewN k)) := ⟨fun k => by
    have u : Upd [] w2 (w2.drewN k) := (Upd.refl _ _).drewN k
    obtain ⟨A, c, zs, p, hb, hr, hz, hl, hp0, hp1, hg, hB⟩ := H2.out.upd u
    exact ⟨⟨A, c, zs, p, hb, hr, hz, hl, hp0, by omega, hg, hB⟩, (Upd.refl _ _).drewN k⟩⟩
  have hcase : b = 0 ∨ b = 1 ∨ b = 2 ∨ b = 3 ∨ b = 4 := by omega
  have last : Aside0 True := ⟨trivial⟩
  rcases hcase with rfl | rfl | rfl | rfl | rfl
  · go_wp2_with fail
    go_ret
    exact fin.out _ (by simp; omega) _ (same.out 0).1 (same.out 0).2
  · have hmn : min n s.size = n := by omega
    go_wp2
    go_region_law (go_simp; go_at_call 26; refine (pick_any w0 _ g (P + 2) 8 (H2.out.upd (by repeat (first | exact Upd.refl _ _ | assumption | refine Upd.drew ?_ | refine Upd.drewN ?_ _ | refine Upd.alloc ?_ _))) (by omega) (by omega)).mono ?_; rintro e w3 ⟨c, rfl, c0, c1, -, hR3, hU3⟩; have c1 := c1 (by omega); have H3 := Lib.hid (show Rdr w0 w3 g (P + 3) by simpa [Int.add_assoc] using hR3); have U3 := Lib.hid (show Upd [g] w2 w3 from Upd.trans (by repeat (first | exact Upd.refl _ _ | assumption | refine Upd.drew ?_ | refine Upd.drewN ?_ _ | refine Upd.alloc ?_ _)) hU3 (fun _ h _ => h)); obtain ⟨x, hx, F⟩ := lit_any (N := 4) (vs := #[.string ⟨#[32]⟩, .string ⟨#[10]⟩, .string ⟨#[34]⟩, .string ⟨#[35]⟩, .string ⟨#[92]⟩, .string ⟨#[48]⟩, .string ⟨#[101, 110, 100, 10]⟩, .string ⟨#[120]⟩]) (by kernel_rfl) c c0 c1; have F1 : ∀ (W : World) (m : Nat), m = W.heap.size → (W.alloc (.cells #[.string ⟨#[32]⟩, .string ⟨#[10]⟩, .string ⟨#[34]⟩, .string ⟨#[35]⟩, .string ⟨#[92]⟩, .string ⟨#[48]⟩, .string ⟨#[101, 110, 100, 10]⟩, .string ⟨#[120]⟩] 9)).cell? ⟨m, c.toNat, none⟩ = some (.string x) := (fun W m hm => F _ _ m _ [] (by subst hm; exact blk_new W _) (Upd.refl _ _) (by simp)); (try have F2 := F _ _ w2.heap.size _ _ (by exact blk_new w2 _) hU3 (by simp; omega)); have hn1 : (9223372036854775807 < n + x.size) = False := (by simp; omega); have hn2 : (9223372036854775807 < n + x.size + (s.size - n)) = False := (by simp; omega); clear F hU3 hR3)
    all_goals
      go_wp2
      go_ret
      refine fin.out _ (by simp; omega) _ (H3.out.upd (by repeat (first | exact Upd.refl _ _ | assumption | refine Upd.drew ?_ | refine Upd.drewN ?_ _ | refine Upd.alloc ?_ _))) (U3.out.trans (b := _) (c := _) (cs := []) (by repeat (first | exact Upd.refl _ _ | assumption | refine Upd.drew ?_ | refine Upd.drewN ?_ _ | refine Upd.alloc ?_ _)) (fun _ h _ => by cases h))
  · by_cases hl : (n : Int) < s.size
    · go_wp2
      go_quiet (fail)
      go_wp2
      go_ret
      exact fin.out _ (by simp; omega) _ (same.out _).1 (same.out _).2
    · go_wp2
      go_ret
      exact fin.out _ (by simp; omega) _ (same.out 0).1 (same.out 0).2
  · by_cases hl : (n : Int) < s.size
    · have hb := bt_cast s n
      have hmn : min n s.size = n := by omega
      have K1 : IntKind.i64.wrap ((n : Int) + 1) = (n : Int) + 1 := IntWalk.i64_in _ (by omega)
      have K3 : ((n : Int) + 1).toNat = n + 1 := by omega
      have K5 : (0 : Int) ≤ (n : Int) + 1 ∧ (n : Int) + 1 ≤ (s.size : Int) := by omega
      have hn1 : (9223372036854775807 < n + 1) = False := by simp; omega
      have hn2 : (9223372036854775807 < n + 1 + (s.size - (n + 1))) = False := by simp; omega
      have hz : ∀ v : Int, (strOfNums [v]).size = 1 := fun v => strOf_size [v]
      have Hst : ∀ (W : World) (m : Nat) (v : Int), m = W.heap.size → (convert 31 9 (.slice (some ⟨m, 0, none⟩) 1 1)).run Try.prog (W.alloc (.cells #[.int .u8 v] 5)) = .ok (.string (strOfNums [v])) (W.alloc (.cells #[.int .u8 v] 5)) := fun W m v hm => by
        subst hm
        exact own_string (P := Try.prog) Try.underlying31 Try.underlying5 Try.underlying9 (NR.lit W 0 5 .u8 [v] (Nat.zero_le _) (by simp))
      go_wp2
      go_region_law (go_simp; go_at_call 26; refine (pick_any w0 _ g (P + 2) 8 (H2.out.upd (by repeat (first | exact Upd.refl _ _ | assumption | refine Upd.drew ?_ | refine Upd.drewN ?_ _ | refine Upd.alloc ?_ _))) (by omega) (by omega)).mono ?_; rintro e w3 ⟨c, rfl, c0, c1, -, hR3, hU3⟩; have c1 := c1 (by omega); have H3 := Lib.hid (show Rdr w0 w3 g (P + 3) by simpa [Int.add_assoc] using hR3); have U3 := Lib.hid (show Upd [g] w2 w3 from Upd.trans (by repeat (first | exact Upd.refl _ _ | assumption | refine Upd.drew ?_ | refine Upd.drewN ?_ _ | refine Upd.alloc ?_ _)) hU3 (fun _ h _ => h)); clear hU3 hR3)
      all_goals
        go_wp2
        go_ret
        refine fin.out _ (by simp [hz]; omega) _ (H3.out.upd (by repeat (first | exact Upd.refl _ _ | assumption | refine Upd.drew ?_ | refine Upd.drewN ?_ _ | refine Upd.alloc ?_ _))) (U3.out.trans (b := _) (c := _) (cs := []) (by repeat (first | exact Upd.refl _ _ | assumption | refine Upd.drew ?_ | refine Upd.drewN ?_ _ | refine Upd.alloc ?_ _)) (fun _ h _ => by cases h))
    · go_wp2
      go_ret
      exact fin.out _ (by simp; omega) _ (same.out 0).1 (same.out 0).2
  · go_wp2
    go_ret
    exact fin.out _ (by simp; omega) _ (same.out 0).1 (same.out 0).2
end Go.Proofs.Ytjjmmjgkdmnbcaa
