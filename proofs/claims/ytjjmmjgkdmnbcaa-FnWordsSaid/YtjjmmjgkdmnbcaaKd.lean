import Derived.Test.YtjjmmjgkdmnbcaaKv
import Derived.Laws.BitsLemmas
namespace Go.Proofs.Ytjjmmjgkdmnbcaa
open Go.RowKit Go.Proofs.YtjjmmjgkdmnbcaaW.PrintWords
/-! the draws: a reader in memory -/
theorem xor_pos (a b : Int) (ha : 0 ≤ a) (hb : 0 ≤ b) (ha2 : a < 4611686018427387904) (hb2 : b < 4611686018427387904) : 0 ≤ Go.bits .xor .i64 a b ∧ Go.bits .xor .i64 a b < 4611686018427387904 := by
  obtain ⟨m, rfl⟩ := Int.eq_ofNat_of_zero_le ha
  obtain ⟨n, rfl⟩ := Int.eq_ofNat_of_zero_le hb
  have ha' : m % 2 ^ IntKind.i64.bits = m := Nat.mod_eq_of_lt (by simp [IntKind.bits]; omega)
  have hb' : n % 2 ^ IntKind.i64.bits = n := Nat.mod_eq_of_lt (by simp [IntKind.bits]; omega)
  have hx : m ^^^ n < 2 ^ 62 := Nat.xor_lt_two_pow (by omega) (by omega)
  have e : Go.bits .xor .i64 (m : Int) (n : Int) = ((m ^^^ n : Nat) : Int) := by
    simp only [bits, BitVec.ofInt_natCast, BitVec.toNat_xor, BitVec.toNat_ofNat, ha', hb']
    exact IntWalk.i64_in _ (by omega)
  rw [e]; omega
def Rdr (w0 w : World) (g : Nat) (P : Int) : Prop := ∃ (A : Option Addr) (c : Nat) (zs : List Int) (p : Int), w.heap[g]? = some (.cells #[.slice A zs.length c, .int .i64 p] 51 (0, 0)) ∧ Rd (Value.int .u8) w0 A zs ∧ (∀ z ∈ zs, 0 ≤ z ∧ z ≤ 255) ∧ zs.length ≤ 2000 ∧ 0 ≤ p ∧ p ≤ P ∧ w0.heap.size ≤ g ∧ Below w0.heap.size w0 w
def PickPost (w0 w : World) (g : Nat) (P m : Int) (e : Ending) (w' : World) : Prop := ∃ r : Int, e = .returned (.int .i64 r) ∧ 0 ≤ r ∧ (0 < m → r < m) ∧ (m ≤ 0 → r = 0) ∧ Rdr w0 w' g (P + 1) ∧ Upd [g] w w'
theorem Rdr.set {w0 w : World} {g : Nat} {P : Int} {A : Option Addr} {c : Nat} {zs : List Int} {p : Int} (hb : w.heap[g]? = some (.cells #[.slice A zs.length c, .int .i64 p] 51 (0, 0))) (hr : Rd (Value.int .u8) w0 A zs) (hz : ∀ z ∈ zs, 0 ≤ z ∧ z ≤ 255) (hl : zs.length ≤ 2000) (hg : w0.heap.size ≤ g) (hB : Below w0.heap.size w0 w) (p' : Int) (h0 : 0 ≤ p') (h1 : p' ≤ P) (n : Nat) :
    Rdr w0 ((w.setCell ⟨g, 1, none⟩ (.int .i64 p')).drewN n) g P ∧ Upd [g] w ((w.setCell ⟨g, 1, none⟩ (.int .i64 p')).drewN n) := by
  refine ⟨⟨A, c, zs, p', blk_drewN (blk_put hb 1 _ rfl) n, hr, hz, hl, h0, h1, hg, pw_below_drewN (hB.setCell hg _) n⟩, Upd.drewN (a := w) (b := w.setCell ⟨g, 1, none⟩ (.int .i64 p')) ⟨rfl, rfl, rfl, by simp, fun k _ hk => ?_⟩ n⟩
  exact Below.heap_setCell w ⟨g, 1, none⟩ _ k (fun e => hk (by simp [e]))
set_option maxRecDepth 100000 in
set_option maxHeartbeats 1000000 in
theorem pick_any (w0 w : World) (g : Nat) (P m : Int) (h : Rdr w0 w g P) (hP : P ≤ 1099511627776) (hm : m ≤ 1099511627776) :
    Calls Try.prog 26 #[.pointer (some ⟨g, 0, none⟩), .int .i64 m] w (PickPost w0 w g P m) := by
  obtain ⟨A, c, zs, p, hb, hr, hz, hl, hp0, hp1, hg, hB⟩ := h
  have HS := fun n => Lib.hid (Rdr.set (P := P + 1) hb hr hz hl hg hB (p + 1) (by omega) (by omega) n)
  obtain ⟨f1, f2, f3, f4⟩ := blk_two hb
  have HB := Aside0.mk hB
  have HR := Aside0.mk hr
  have hr0 := hr
  have HZ := Aside0.mk hz
  clear hb hz hB hr
  by_cases h1 : m < 1
  · go_enter Try.func26, Try.ntmps26
    go_wp2
    go_ret
    refine ⟨0, rfl, by omega, fun h => by omega, fun _ => rfl, ?_⟩
    have := (HS 0).out
    exact this
  · by_cases h2 : zs.length = 0
    · have e2 : ((zs.length : Int) == 0) = true := by simp [h2]
      clear h2
      go_enter Try.func26, Try.ntmps26
      go_wp2
      go_ret
      exact ⟨0, rfl, by omega, fun h => by omega, fun _ => rfl, (HS 0).out⟩
    · have e2 : ((zs.length : Int) == 0) = false := by simp [h2]
      have hpos : 0 < (zs.length : Int) := by omega
      clear h2
      obtain ⟨ad, rfl, -⟩ := HR.out 0 _ (List.getElem?_eq_getElem (by omega))
      have HC : Aside0 (∀ j : Int, 0 ≤ j → j < (zs.length : Int) → ∃ z : Int, 0 ≤ z ∧ z ≤ 255 ∧ ∀ v, (w.setCell ⟨g, 1, none⟩ v).cell? (ad.add j.toNat) = some (.int .u8 z)) := Aside0.mk fun j j0 j1 => by
        obtain ⟨ad', ea, hc⟩ := hr0 j.toNat _ (List.getElem?_eq_getElem (by omega))
        cases ea
        have hzz := HZ.out _ (List.getElem_mem (l := zs) (n := j.toNat) (by omega))
        refine ⟨_, hzz.1, hzz.2, fun v => ?_⟩
        have hlt := block_lt_of_cell hc
        rw [World.cell?_setCell_far w ⟨g, 1, none⟩ (ad.add j.toNat) v (by have : (ad.add j.toNat).block < w0.heap.size := hlt; show g ≠ _; omega)]
        exact pw_cell_below HB.out hc
      by_cases h3 : p < (zs.length : Int)
      · obtain ⟨z, z0, z1, hc2⟩ := HC.out p hp0 h3
        clear HC HB HR HZ
        go_enter Try.func26, Try.ntmps26
        go_wp2
        go_ret
        exact ⟨_, rfl, Int.emod_nonneg _ (by omega), fun _ => Int.emod_lt_of_pos _ (by omega), fun h => absurd h (by omega), (HS 0).out⟩
      · obtain ⟨y, y0, y1, hcy⟩ := HC.out (p % (zs.length : Int)) (Int.emod_nonneg _ (by omega)) (Int.emod_lt_of_pos _ (by omega))
        obtain ⟨z, z0, z1, hcz⟩ := HC.out ((p * 7 + 3) % (zs.length : Int)) (Int.emod_nonneg _ (by omega)) (Int.emod_lt_of_pos _ (by omega))
        have i0 : 0 ≤ p % (zs.length : Int) := Int.emod_nonneg _ (by omega)
        have i1 : p % (zs.length : Int) < zs.length := Int.emod_lt_of_pos _ (by omega)
        have j0 : 0 ≤ (p * 7 + 3) % (zs.length : Int) := Int.emod_nonneg _ (by omega)
        have j1 : (p * 7 + 3) % (zs.length : Int) < zs.length := Int.emod_lt_of_pos _ (by omega)
        have q0 : 0 ≤ p / (zs.length : Int) := Int.ediv_nonneg hp0 (by omega)
        have q1 : p / (zs.length : Int) ≤ p := Int.ediv_le_self _ hp0
        clear HC HB HR HZ
        go_enter Try.func26, Try.ntmps26
        go_wp2
        go_quiet (fail)
        have x0 : 0 ≤ y * 131 + z * 1117 + p * 29 + p / (zs.length : Int) * 53 := by omega
        have x1 : y * 131 + z * 1117 + p * 29 + p / (zs.length : Int) * 53 < 4611686018427387904 := by omega
        generalize y * 131 + z * 1117 + p * 29 + p / (zs.length : Int) * 53 = x at *
        have ⟨b0, b1⟩ := xor_pos x (x / 64) x0 (by omega) x1 (by omega)
        clear hcy hcz hr0
        go_wp2
        go_ret
        exact ⟨_, rfl, Int.emod_nonneg _ (by omega), fun _ => Int.emod_lt_of_pos _ (by omega), fun h => absurd h (by omega), (HS nq).out⟩
end Go.Proofs.Ytjjmmjgkdmnbcaa
