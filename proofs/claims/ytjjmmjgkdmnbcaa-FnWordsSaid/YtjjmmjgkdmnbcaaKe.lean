import Derived.Test.YtjjmmjgkdmnbcaaKd
namespace Go.Proofs.Ytjjmmjgkdmnbcaa
open Go.RowKit Go.Proofs.YtjjmmjgkdmnbcaaW.PrintWords
/-! the draws: opening, texts -/
theorem Rdr.upd {w0 w w1 : World} {g : Nat} {P : Int} (h : Rdr w0 w g P) (hu : Upd [] w w1) : Rdr w0 w1 g P := by
  obtain ⟨A, c, zs, p, hb, hr, hz, hl, hp0, hp1, hg, hB⟩ := h
  have hlt : g < w.heap.size := (Array.getElem?_eq_some_iff.1 hb).1
  exact ⟨A, c, zs, p, (hu.block g hlt (by simp)).trans hb, hr, hz, hl, hp0, hp1, hg, hB.trans ((hu.below (Nat.le_refl _) (by simp)).mono hB.size)⟩
set_option maxRecDepth 100000 in
set_option maxHeartbeats 1000000 in
theorem l1Open_any (w : World) (A : Option Addr) (len cap : Nat) (zs : List Int) (hr : Rd (Value.int .u8) w A zs) (hz : ∀ z ∈ zs, 0 ≤ z ∧ z ≤ 255) (hl : zs.length = len) (hc : len ≤ cap) (hc2 : cap ≤ 9223372036854775807) :
    Calls Try.prog 25 #[.slice A len cap] w (fun e w' => e = .returned (.pointer (some ⟨w.heap.size, 0, none⟩)) ∧ Rdr w w' w.heap.size 0 ∧ Below w.heap.size w w') := by
  have fin : ∀ (B : Option Addr) (c : Nat) (ys : List Int), Rd (Value.int .u8) w B ys → (∀ z ∈ ys, 0 ≤ z ∧ z ≤ 255) → ys.length ≤ 2000 → Rdr w (w.alloc (.cells #[.slice B ys.length c, .int .i64 0] 51)) w.heap.size 0 ∧ Below w.heap.size w (w.alloc (.cells #[.slice B ys.length c, .int .i64 0] 51)) := fun B c ys h1 h2 h3 =>
    ⟨⟨B, c, ys, 0, blk_new w _, h1, h2, h3, by omega, by omega, Nat.le_refl _, (Below.refl _ _).alloc (Nat.le_refl _) _⟩, (Below.refl _ _).alloc (Nat.le_refl _) _⟩
  by_cases h : 2000 < len
  · have F := Lib.hid (fin A cap (zs.take 2000) (fun j x hx => hr j x (by rw [List.getElem?_take] at hx; split at hx <;> simp_all)) (fun z hz' => hz z (List.mem_of_mem_take hz')) (by simp; omega))
    have e : (zs.take 2000).length = 2000 := by simp; omega
    rw [e] at F
    clear fin hr hz e
    go_enter Try.func25, Try.ntmps25
    go_wp2
    go_ret
    exact ⟨rfl, F.out⟩
  · have F := Lib.hid (fin A cap zs hr hz (by omega))
    rw [hl] at F
    clear fin hr hz
    go_enter Try.func25, Try.ntmps25
    go_wp2
    go_ret
    exact ⟨rfl, F.out⟩
set_option maxRecDepth 100000 in
set_option maxHeartbeats 1000000 in
theorem l1Many_any (w : World) (s : ByteArray) (n : Nat) (hs : s.size ≤ 4096) (hn : n ≤ 4096) :
    Calls Try.prog 27 #[.string s, .int .i64 n] w (fun e w' => ∃ r : ByteArray, e = .returned (.string r) ∧ r.size = s.size * n ∧ w' = w) := by
  have hB : s.size * n ≤ 4096 * 4096 := Nat.mul_le_mul hs hn
  go_enter Try.func27, Try.ntmps27
  go_wp2
  go_loopw [0, 1, 5] (fun x m o wr => ∃ (y z : ByteArray) (k : Nat), x = .string y ∧ m = .int .i64 k ∧ o = .string z ∧ k ≤ 4096 ∧ Aside0 (z.size + y.size * k = s.size * n) ∧ (y.size ≤ 2 * (4096 * 4096)) ∧ wr = w) (fun _ m _ _ => (intOf m).toNat)
  case atStart => exact ⟨s, .empty, n, rfl, rfl, rfl, hn, ⟨by simp⟩, by omega, rfl⟩
  case round =>
    obtain ⟨y, z, k, rfl, rfl, rfl, hk, hE, hy, rfl⟩ := hrel
    have hE2 := hE.out
    by_cases h0 : k = 0
    · subst h0
      clear hE
      go_wp2
      go_ret
      exact ⟨_, rfl, by simpa using hE2, rfl⟩
    · have hk0 : 0 < (k : Int) := by omega
      have hy2 : y.size ≤ 4096 * 4096 := by
        have : y.size * 1 ≤ y.size * k := Nat.mul_le_mul_left _ (by omega)
        omega
      have hz2 : z.size ≤ 4096 * 4096 := by omega
      clear hE2
      by_cases h1 : (k : Int) % 2 = 1
      · go_wp2
        go_roundw
        case rel => 
          refine ⟨y ++ y, z ++ y, k / 2, rfl, by go_num, rfl, by omega, ⟨?_⟩, by simp; omega, trivial⟩
          rw [← hE.out]
          simp
          have e : k = 2 * (k / 2) + 1 := by omega
          generalize k / 2 = q at *
          subst e
          rw [Nat.mul_add, Nat.add_mul, Nat.mul_one, Nat.mul_comm 2 q, ← Nat.mul_assoc, Nat.mul_comm _ 2, Nat.two_mul]
          omega
        case measure => simp [intOf]; omega
      · go_wp2
        go_roundw
        case rel => 
          refine ⟨y ++ y, z, k / 2, rfl, by go_num, rfl, by omega, ⟨?_⟩, by simp; omega, trivial⟩
          rw [← hE.out]
          simp
          have e : k = 2 * (k / 2) := by omega
          generalize k / 2 = q at *
          subst e
          rw [Nat.add_mul, Nat.mul_comm 2 q, ← Nat.mul_assoc, Nat.mul_comm _ 2, Nat.two_mul]
        case measure => simp [intOf]; omega
end Go.Proofs.Ytjjmmjgkdmnbcaa
