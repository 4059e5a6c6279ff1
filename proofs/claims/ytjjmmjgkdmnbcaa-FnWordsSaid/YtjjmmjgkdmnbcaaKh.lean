import Derived.Test.YtjjmmjgkdmnbcaaKg
import Derived.Test.YtjjmmjgkdmnbcaaKa
namespace Go.Proofs.Ytjjmmjgkdmnbcaa
open Go.RowKit Go.Proofs.YtjjmmjgkdmnbcaaW.PrintWords
/-! the draws: a word, a line -/
theorem Rdr.mono {w0 w : World} {g : Nat} {P Q : Int} (h : Rdr w0 w g P) (hPQ : P ≤ Q) : Rdr w0 w g Q := by
  obtain ⟨A, c, zs, p, hb, hr, hz, hl, hp0, hp1, hg, hB⟩ := h
  exact ⟨A, c, zs, p, hb, hr, hz, hl, hp0, by omega, hg, hB⟩
theorem Rdr.below {w0 w : World} {g : Nat} {P : Int} (h : Rdr w0 w g P) : Below w0.heap.size w0 w := by
  obtain ⟨A, c, zs, p, hb, hr, hz, hl, hp0, hp1, hg, hB⟩ := h
  exact hB
theorem esc_len (c : Int) : (escP c).length ≤ 3 := by unfold escP; split <;> simp
theorem wordP_len (s : ByteArray) : (wordP s).size ≤ 3 * s.size + 2 := by
  unfold wordP
  split
  · omega
  · rw [strOf_size]
    have h : ∀ l : List Int, (l.flatMap escP).length ≤ 3 * l.length := fun l => by
      induction l with
      | nil => simp
      | cons c r ih => have := esc_len c; simp only [List.flatMap_cons, List.length_append, List.length_cons]; omega
    have := h (from_ s 0)
    simp only [from_, List.drop_zero, bytesOf_length] at this ⊢
    simp only [List.length_append, List.length_cons, List.length_nil]
    omega
set_option maxRecDepth 100000 in
set_option maxHeartbeats 1000000 in
theorem drawSheetWord_any (w : World) (A : Option Addr) (len cap : Nat) (zs : List Int) (hr : Rd (Value.int .u8) w A zs) (hz : ∀ z ∈ zs, 0 ≤ z ∧ z ≤ 255) (hl : zs.length = len) (hc : len ≤ cap) (hc2 : cap ≤ 9223372036854775807) :
    Calls Try.prog 16 #[.slice A len cap] w (fun e w' => ∃ s : ByteArray, e = .returned (.string s) ∧ s.size ≤ 404 ∧ Below w.heap.size w w') := by
  go_enter Try.func16, Try.ntmps16
  go_wp2_with fail
  refine (l1Open_any w A len cap zs hr hz hl hc hc2).mono ?_
  rintro e w1 ⟨rfl, hR, -⟩
  clear hr hz hl hc hc2
  go_wp2_with fail
  refine (l1Text_any w w1 w.heap.size 0 hR (by omega)).mono ?_
  rintro e w2 ⟨s, rfl, hs, hR2, -⟩
  clear hR
  go_wp2_with fail
  refine (l1Bend_any w w2 w.heap.size _ s hR2 (by omega) (by omega)).mono ?_
  rintro e w3 ⟨t, rfl, ht, hR3, -⟩
  clear hR2
  have hR := Lib.hid hR3
  clear hR3
  go_wp2_with fail
  go_ret
  exact ⟨t, rfl, by omega, hR.out.below⟩
set_option maxRecDepth 100000 in
set_option maxHeartbeats 2000000 in
theorem drawSheetWords_any (w : World) (A : Option Addr) (len cap : Nat) (zs : List Int) (hr : Rd (Value.int .u8) w A zs) (hz : ∀ z ∈ zs, 0 ≤ z ∧ z ≤ 255) (hl : zs.length = len) (hc : len ≤ cap) (hc2 : cap ≤ 9223372036854775807) :
    Calls Try.prog 14 #[.slice A len cap] w (fun e w' => ∃ s : ByteArray, e = .returned (.string s) ∧ s.size ≤ 10000 ∧ Below w.heap.size w w') := by
  go_enter Try.func14, Try.ntmps14
  go_wp2_with fail
  refine (l1Open_any w A len cap zs hr hz hl hc hc2).mono ?_
  rintro e w1 ⟨rfl, hR, -⟩
  clear hr hz hl hc hc2
  go_wp2_with fail
  refine (pick_any w w1 w.heap.size 0 5 hR (by omega) (by omega)).mono ?_
  rintro e w2 ⟨n, rfl, n0, n1, -, hR2, -⟩
  have n1 := n1 (by omega)
  have R2 := Aside0.mk hR2
  clear hR hR2
  go_wp2_with fail
  go_loopw [4, 5] (fun o m wr => ∃ (z : ByteArray) (k : Nat), o = .string z ∧ m = .int .i64 k ∧ k ≤ 4 ∧ z.size ≤ 604 * (4 - k) ∧ Aside0 (Rdr w wr w.heap.size (1 + 4 * (4 - (k : Int))))) (fun _ m _ => (intOf m).toNat)
  case atStart =>
    obtain ⟨k, rfl⟩ := Int.eq_ofNat_of_zero_le n0
    exact ⟨.empty, k, rfl, rfl, by omega, by simp, ⟨R2.out.mono (by omega)⟩⟩
  case round =>
    obtain ⟨z, k, rfl, rfl, hk, hzs, hR⟩ := hrel
    by_cases h0 : k = 0
    · subst h0
      go_wp2_with fail
      refine (pick_any w _ w.heap.size _ 10 hR.out (by omega) (by omega)).mono ?_
      rintro e w3 ⟨b, rfl, b0, b1, -, hR3, -⟩
      have b1 := b1 (by omega)
      clear hR
      have R3 := Aside0.mk (hR3.mono (Q := 18) (by omega))
      clear hR3
      have hcase : b = 0 ∨ b = 1 ∨ b = 2 ∨ b = 3 ∨ 4 ≤ b := by omega
      rcases hcase with rfl | rfl | rfl | rfl | hb
      · go_wp2_with fail
        go_ret
        exact ⟨_, rfl, by rw [ByteArray.size_append]; exact Nat.le_trans (Nat.add_le_add hzs (show _ ≤ 100 by decide)) (by decide), R3.out.below⟩
      · go_wp2_with fail
        go_ret
        exact ⟨_, rfl, by rw [ByteArray.size_append]; exact Nat.le_trans (Nat.add_le_add hzs (show _ ≤ 100 by decide)) (by decide), R3.out.below⟩
      · go_wp2_with fail
        refine (l1Bend_any w _ w.heap.size 18 z R3.out (by omega) (by omega)).mono ?_
        rintro e w4 ⟨t, rfl, ht, hR4, -⟩
        have R4 := Lib.hid hR4
        clear hR4
        go_wp2_with fail
        go_ret
        exact ⟨t, rfl, by omega, R4.out.below⟩
      · go_wp2_with fail
        refine (pick_any w _ w.heap.size 18 2 R3.out (by omega) (by omega)).mono ?_
        rintro e w4 ⟨c, rfl, c0, c1, -, hR4, -⟩
        have c1 := c1 (by omega)
        have R4 := Aside0.mk hR4
        clear hR4
        go_wp2_with fail
        refine (l1Many_int _ _ _ (by decide) (by omega) (by omega)).mono ?_
        rintro e w5 ⟨t, rfl, ht, rfl⟩
        have ht2 : t.size ≤ 203 := by rw [ht]; simp [ByteArray.size]; omega
        clear ht
        go_wp2_with fail
        refine (pick_any w _ w.heap.size 19 2 R4.out (by omega) (by omega)).mono ?_
        rintro e w6 ⟨d, rfl, d0, d1, -, hR5, -⟩
        have d1 := d1 (by omega)
        have R5 := Aside0.mk hR5
        clear hR5
        go_wp2_with fail
        refine (l1Many_int _ _ _ (by decide) (by omega) (by omega)).mono ?_
        rintro e w7 ⟨u, rfl, hu, rfl⟩
        have hu2 : u.size ≤ 201 := by rw [hu]; simp [ByteArray.size]; omega
        clear hu
        have hlt := R5.out.lt
        have hq : 1 + u.size + 1 ≤ 203 := by omega
        go_wp2_with fail
        refine (pick_any w _ w.heap.size 20 16 (R5.out.upd ((Upd.refl _ _).alloc _)) (by omega) (by omega)).mono ?_
        rintro e w8 ⟨f, rfl, f0, f1, -, hR6, hU⟩
        have f1 := f1 (by omega)
        obtain ⟨x, hx, hc⟩ := lit_at (N := 203) hU (fun k hk => by simp at hk; subst hk; exact hlt) (by simp [strOk, ht2, ByteArray.size_append, show (⟨#[34]⟩ : ByteArray).size = 1 from rfl, hq]; decide) f f0 (by simpa using f1)
        have R6 := Lib.hid hR6
        clear hU hR6
        go_wp2_with fail
        go_ret
        exact ⟨_, rfl, by omega, R6.out.below⟩
      · have e0 : (b == 0) = false := by simp; omega
        have e1 : (b == 1) = false := by simp; omega
        have e2 : (b == 2) = false := by simp; omega
        have e3 : (b == 3) = false := by simp; omega
        go_wp2_with fail
        go_ret
        exact ⟨z, rfl, by omega, R3.out.below⟩
    · have hk0 : 0 < (k : Int) := by omega
      go_wp2_with fail
      refine (pick_any w _ w.heap.size _ 2 hR.out (by omega) (by omega)).mono ?_
      rintro e w3 ⟨a, rfl, a0, a1, -, hR3, -⟩
      have a1 := a1 (by omega)
      clear hR
      go_wp2_with fail
      refine (l1Many_int _ _ _ (by decide) (by omega) (by omega)).mono ?_
      rintro e w4 ⟨t, rfl, ht, rfl⟩
      have ht2 : t.size ≤ 2 := by rw [ht]; simp [ByteArray.size]; omega
      clear ht
      go_wp2_with fail
      refine (l1Text_any w _ w.heap.size _ hR3 (by omega)).mono ?_
      rintro e w5 ⟨x, rfl, hx, hR5, -⟩
      clear hR3
      go_wp2_with fail
      refine (specSheetWord_any _ _ (by omega)).mono ?_
      rintro e w6 ⟨rfl, hb6⟩
      have hw := wordP_len x
      have hR6 := Aside0.mk (hR5.upd (Upd.of_below hb6 []))
      clear hR5 hb6
      go_wp2_with fail
      go_roundw
      case rel => exact ⟨_, k - 1, rfl, by go_num, by omega, by simp; omega, ⟨hR6.out.mono (by omega)⟩⟩
      case measure => simp [intOf]; omega
end Go.Proofs.Ytjjmmjgkdmnbcaa
