import Derived.Test.YtjjmmjgkdmnbcaaKe
namespace Go.Proofs.Ytjjmmjgkdmnbcaa
open Go.RowKit Go.Proofs.YtjjmmjgkdmnbcaaW.PrintWords
/-! the draws: texts -/
def strOk (N : Nat) : Value → Bool
  | .string b => decide (b.size ≤ N)
  | _ => false
theorem lit_at {N : Nat} {w w3 : World} {vs : Array Value} {t : TypeId} {fr : Nat × Nat} {bs : List Nat} (hU : Upd bs (w.alloc (.cells vs t fr)) w3) (hg : ∀ g ∈ bs, g < w.heap.size) (hall : vs.all (strOk N) = true) (j : Int) (h0 : 0 ≤ j) (h1 : j < vs.size) :
    ∃ x : ByteArray, x.size ≤ N ∧ w3.cell? ⟨w.heap.size, j.toNat, none⟩ = some (.string x) := by
  have hl : j.toNat < vs.size := by omega
  have hx := (Array.all_eq_true.1 hall) j.toNat hl
  have hc : (w.alloc (.cells vs t fr)).cell? ⟨w.heap.size, j.toNat, none⟩ = some vs[j.toNat] := by
    rw [World.cell?_alloc_mark]; exact Array.getElem?_eq_getElem hl
  have hb := hU.block w.heap.size (by simp) (fun h => by have := hg _ h; omega)
  rw [World.cell?_of_block (a := ⟨w.heap.size, j.toNat, none⟩) hb, hc]
  cases hv : vs[j.toNat] with
  | string b => rw [hv] at hx; exact ⟨b, by simpa [strOk] using hx, rfl⟩
  | _ => rw [hv] at hx; simp [strOk] at hx
theorem Rdr.lt {w0 w : World} {g : Nat} {P : Int} (h : Rdr w0 w g P) : g < w.heap.size := by
  obtain ⟨A, c, zs, p, hb, _⟩ := h
  exact (Array.getElem?_eq_some_iff.1 hb).1
theorem l1Many_int (w : World) (s : ByteArray) (n : Int) (hs : s.size ≤ 4096) (h0 : 0 ≤ n) (hn : n ≤ 4096) :
    Calls Try.prog 27 #[.string s, .int .i64 n] w (fun e w' => ∃ r : ByteArray, e = .returned (.string r) ∧ r.size = s.size * n.toNat ∧ w' = w) := by
  obtain ⟨m, rfl⟩ := Int.eq_ofNat_of_zero_le h0
  exact l1Many_any w s m hs (by omega)
def TextPost (w0 w : World) (g : Nat) (P : Int) (N : Nat) (e : Ending) (w' : World) : Prop := ∃ s : ByteArray, e = .returned (.string s) ∧ s.size ≤ N ∧ Rdr w0 w' g P ∧ Upd [g] w w'
set_option maxRecDepth 100000 in
set_option maxHeartbeats 1000000 in
theorem l1Text_any (w0 w : World) (g : Nat) (P : Int) (h : Rdr w0 w g P) (hP : P ≤ 1000000) :
    Calls Try.prog 28 #[.pointer (some ⟨g, 0, none⟩)] w (TextPost w0 w g (P + 2) 200) := by
  have hlt := h.lt
  go_enter Try.func28, Try.ntmps28
  go_wp2_with fail
  refine (pick_any w0 w g P 2 h (by omega) (by omega)).mono ?_
  rintro e w1 ⟨a, rfl, a0, a1, -, hR1, hU1⟩
  have a1 := a1 (by omega)
  have H1 := Lib.hid hR1
  have U1 := Lib.hid hU1
  clear hR1 hU1 h
  go_wp2_with fail
  refine (l1Many_int _ _ _ (by decide) (by omega) (by omega)).mono ?_
  rintro e w2 ⟨z, rfl, hz, rfl⟩
  have hz2 : z.size ≤ 200 := by rw [hz]; simp [ByteArray.size]; omega
  clear hz
  go_wp2_with fail
  refine (pick_any w0 _ g (P + 1) 8 (H1.out.upd ((Upd.refl _ _).alloc _)) (by omega) (by omega)).mono ?_
  rintro e w3 ⟨b, rfl, b0, b1, -, hR2, hU2⟩
  have b1 := b1 (by omega)
  obtain ⟨x, hx, hc⟩ := lit_at (N := 200) hU2 (fun k hk => by simp at hk; subst hk; exact Nat.lt_of_lt_of_le hlt U1.out.size) (by simp [strOk, hz2]; decide) b b0 (by simpa using b1)
  have H2 := Lib.hid hR2
  have U2 := Lib.hid hU2
  clear hR2 hU2
  go_wp2_with fail
  go_ret
  exact ⟨_, rfl, hx, by simpa [Int.add_assoc] using H2.out, U1.out.trans (Upd.trans ((Upd.refl _ _).alloc _) U2.out (fun _ h _ => h)) (fun _ h _ => h)⟩
end Go.Proofs.Ytjjmmjgkdmnbcaa
