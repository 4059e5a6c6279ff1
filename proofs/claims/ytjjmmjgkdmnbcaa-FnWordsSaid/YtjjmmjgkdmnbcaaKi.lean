import Derived.Test.YtjjmmjgkdmnbcaaKh
import Derived.Test.YtjjmmjgkdmnbcaaKv
namespace Go.Proofs.Ytjjmmjgkdmnbcaa
open Go.RowKit Go.Proofs.YtjjmmjgkdmnbcaaW.PrintWords
/-! words compared by the law -/
set_option maxRecDepth 100000 in
set_option maxHeartbeats 1000000 in
theorem wWords_any (A B : Option Addr) (c d : Nat) (xs ys : List ByteArray) (w : World) (h1 : Rd Value.string w A xs) (h2 : Rd Value.string w B ys) (hx : xs.length ≤ 4611686018427387904) (hy : ys.length ≤ 4611686018427387904) :
    Calls Try.prog 15 #[.slice A xs.length c, .slice B ys.length d] w fun e w' => e = .returned (.bool (decide (xs = ys))) ∧ Drawn0 w w' := by
  have H1 := Aside0.mk h1
  have H2 := Aside0.mk h2
  clear h1 h2
  by_cases hl : xs.length = ys.length
  · have e1 : ((xs.length : Int) != (ys.length : Int)) = false := by simp [hl]
    have e2 : (xs.length != ys.length) = false := by simp [hl]
    have Hl := Lib.hid hl
    clear hl
    go_enter Try.func15, Try.ntmps15
    go_wp2
    go_loopw [5] (fun i wr => ∃ k : Nat, i = .int .i64 k ∧ k ≤ xs.length ∧ Drawn0 w wr ∧ Aside0 (xs.take k = ys.take k)) (fun i _ => xs.length - (intOf i).toNat)
    case atStart => exact ⟨0, rfl, Nat.zero_le _, Drawn0.refl _, ⟨rfl⟩⟩
    case round =>
      obtain ⟨k, rfl, hk, ⟨m, rfl⟩, ht⟩ := hrel
      by_cases hlt : k < xs.length
      · have hlt2 : k < ys.length := by rw [← Hl.out]; exact hlt
        have i1 : (k : Int) < (ys.length : Int) := by omega
        obtain ⟨a1, rfl, hc1⟩ := H1.out k _ (List.getElem?_eq_getElem hlt)
        obtain ⟨a2, rfl, hc2⟩ := H2.out k _ (List.getElem?_eq_getElem hlt2)
        have hT := Aside0.mk (fun e => take_eq_snoc ht.out (List.getElem?_eq_getElem hlt) (List.getElem?_eq_getElem hlt2) e)
        have hF : Aside0 (¬ xs[k] = ys[k] → ¬ xs = ys) := ⟨fun h e => h (by subst e; rfl)⟩
        have hs := str_eqb xs[k] ys[k]
        generalize xs[k] = p at *
        generalize ys[k] = q at *
        by_cases hpq : p = q
        · have e3 : (p.toList == q.toList) = true := by rw [hs]; simp [hpq]
          have e4 : (p.toList != q.toList) = false := by simp [bne, e3]
          have HT := Aside0.mk (hT.out hpq)
          clear hT hF hs hpq
          go_wp2
          go_quiet (fail)
          go_wp2
          go_roundw
          case rel => exact ⟨k + 1, by go_num, hlt, (by first | exact ⟨⟨_, rfl⟩⟩ | exact Drawn0.step ⟨⟨_, rfl⟩⟩ _), HT⟩
          case measure => simp [intOf]; omega
        · have e3 : (p.toList == q.toList) = false := by rw [hs]; simp [hpq]
          have e4 : (p.toList != q.toList) = true := by simp [bne, e3]
          have HF := Aside0.mk (hF.out hpq)
          clear hT hF hs hpq
          go_wp2
          go_quiet (fail)
          go_wp2
          go_ret
          exact ⟨ret_bool (decide_eq_false HF.out).symm, (by first | exact ⟨⟨_, rfl⟩⟩ | exact Drawn0.step ⟨⟨_, rfl⟩⟩ _)⟩
      · obtain rfl : k = xs.length := by omega
        have HF : Aside0 (xs = ys) := ⟨by have := ht.out; rw [List.take_length, Hl.out, List.take_length] at this; exact this⟩
        go_wp2
        go_ret
        exact ⟨ret_bool (decide_eq_true HF.out).symm, (by first | exact ⟨⟨_, rfl⟩⟩ | exact Drawn0.step ⟨⟨_, rfl⟩⟩ _)⟩
  · have e1 : ((xs.length : Int) != (ys.length : Int)) = true := by simp; omega
    have e2 : (xs.length != ys.length) = true := by simp [hl]
    have HF : Aside0 (¬ xs = ys) := ⟨fun e => hl (by rw [e])⟩
    clear hl
    go_enter Try.func15, Try.ntmps15
    go_wp2
    go_ret
    exact ⟨ret_bool (decide_eq_false HF.out).symm, Drawn0.refl _⟩
end Go.Proofs.Ytjjmmjgkdmnbcaa
