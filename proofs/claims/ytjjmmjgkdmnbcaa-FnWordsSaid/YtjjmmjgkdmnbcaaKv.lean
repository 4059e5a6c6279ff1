import Derived.Test.YtjjmmjgkdmnbcaaKu
import Derived.Deep.RegionHeld3
namespace Go.Proofs.Ytjjmmjgkdmnbcaa
open Go.RowKit Go.Proofs.YtjjmmjgkdmnbcaaW.PrintWords
/-- a row of one-cell elements that can be read -/
def Rd {α : Type} (enc : α → Value) (w : World) (A : Option Addr) (xs : List α) : Prop := ∀ (j : Nat) (x : α), xs[j]? = some x → ∃ ad, A = some ad ∧ w.cell? (ad.add j) = some (enc x)
theorem Rd.of_own {α : Type} {enc : α → Value} {w : World} {base e n c : Nat} {A : Option Addr} {xs : List α} (h : ER enc w base e (.slice A n c) xs) : Rd enc w A xs := by
  obtain ⟨A', c', he, hf⟩ := ER.form h
  injection he with h1 h2 h3
  subst h1
  intro j x hx
  have hj := (List.getElem?_eq_some_iff.1 hx).1
  obtain ⟨g, rfl, _, _, _, hc⟩ := hf (by omega)
  exact ⟨_, rfl, by rw [add_plain]; exact hc j x hx⟩
theorem Rd.move {α : Type} {enc : α → Value} {w w1 : World} {A : Option Addr} {xs : List α} (h : Rd enc w A xs) (hb : Below w.heap.size w w1) : Rd enc w1 A xs := fun j x hx => by
  obtain ⟨ad, h1, h2⟩ := h j x hx
  exact ⟨ad, h1, pw_cell_below hb h2⟩
theorem str_eqb (a b : ByteArray) : (a.toList == b.toList) = decide (a = b) := by
  by_cases h : a = b
  · subst h; simp
  · simp only [h, decide_false]; rw [beq_eq_false_iff_ne]; exact fun e => h (bytes_inj' e)
theorem str_eq (a b : ByteArray) : (a.toList != b.toList) = decide (a ≠ b) := by
  by_cases h : a = b
  · subst h; simp
  · simp only [h, ne_eq, not_false_eq_true, decide_true]; rw [bne_iff_ne]; exact fun e => h (bytes_inj' e)
theorem take_eq_snoc {α : Type} {xs ys : List α} {k : Nat} {a b : α} (h : xs.take k = ys.take k) (ha : xs[k]? = some a) (hb : ys[k]? = some b) (e : a = b) : xs.take (k + 1) = ys.take (k + 1) := by
  rw [List.take_add_one, List.take_add_one, h, ha, hb, e]
set_option maxRecDepth 100000 in
set_option maxHeartbeats 1000000 in
theorem eqStringS_any (A B : Option Addr) (c d : Nat) (xs ys : List ByteArray) (w : World) (h1 : Rd Value.string w A xs) (h2 : Rd Value.string w B ys) (hx : xs.length ≤ 4611686018427387904) (hy : ys.length ≤ 4611686018427387904) :
    Calls Try.prog 22 #[.slice A xs.length c, .slice B ys.length d] w fun e w' => e = .returned (.bool (decide (xs = ys))) ∧ Drawn0 w w' := by
  have H1 := Aside0.mk h1
  have H2 := Aside0.mk h2
  clear h1 h2
  by_cases hl : xs.length = ys.length
  · have e1 : ((xs.length : Int) != (ys.length : Int)) = false := by simp [hl]
    have e2 : (xs.length != ys.length) = false := by simp [hl]
    have Hl := Lib.hid hl
    clear hl
    go_enter Try.func22, Try.ntmps22
    go_wp2
    go_loopw [5] (fun i wr => ∃ k : Nat, i = .int .i64 k ∧ k ≤ xs.length ∧ Drawn0 w wr ∧ Aside0 (xs.take k = ys.take k)) (fun i _ => xs.length - (intOf i).toNat)
    case atStart => exact ⟨0, rfl, Nat.zero_le _, Drawn0.refl _, ⟨rfl⟩⟩
    case round =>
      obtain ⟨k, rfl, hk, ⟨m, rfl⟩, ht⟩ := hrel
      by_cases hlt : k < xs.length
      · have hlt2 : k < ys.length := by rw [← Hl.out]; exact hlt
        have i1 : (k : Int) < (ys.length : Int) := by omega
        obtain ⟨a1, rfl, hc1⟩ := H1.out k _ (List.getElem?_eq_getElem hlt)
        obtain ⟨a2, rfl, hc2⟩ := H2.out k _ (List.getElem?_eq_getElem hlt2)
        have hT := Aside0.mk (fun e => take_eq_snoc ht.out (List.getElem?_eq_getElem hlt) (List.getElem?_eq_getElem hlt2) e)
        have hF : Aside0 (¬ xs[k] = ys[k] → ¬ xs = ys) := ⟨fun h e => h (by subst e; rfl)⟩
        have hs := str_eqb xs[k] ys[k]
        generalize xs[k] = p at *
        generalize ys[k] = q at *
        by_cases hpq : p = q
        · have e3 : (p.toList == q.toList) = true := by rw [hs]; simp [hpq]
          have e4 : (p.toList != q.toList) = false := by simp [bne, e3]
          have HT := Aside0.mk (hT.out hpq)
          clear hT hF hs hpq
          go_wp2
          go_quiet (fail)
          go_wp2
          go_roundw
          case rel => exact ⟨k + 1, by go_num, hlt, (by first | exact ⟨⟨_, rfl⟩⟩ | exact Drawn0.step ⟨⟨_, rfl⟩⟩ _), HT⟩
          case measure => simp [intOf]; omega
        · have e3 : (p.toList == q.toList) = false := by rw [hs]; simp [hpq]
          have e4 : (p.toList != q.toList) = true := by simp [bne, e3]
          have HF := Aside0.mk (hF.out hpq)
          clear hT hF hs hpq
          go_wp2
          go_quiet (fail)
          go_wp2
          go_ret
          exact ⟨ret_bool (decide_eq_false HF.out).symm, (by first | exact ⟨⟨_, rfl⟩⟩ | exact Drawn0.step ⟨⟨_, rfl⟩⟩ _)⟩
      · obtain rfl : k = xs.length := by omega
        have HF : Aside0 (xs = ys) := ⟨by have := ht.out; rw [List.take_length, Hl.out, List.take_length] at this; exact this⟩
        go_wp2
        go_ret
        exact ⟨ret_bool (decide_eq_true HF.out).symm, (by first | exact ⟨⟨_, rfl⟩⟩ | exact Drawn0.step ⟨⟨_, rfl⟩⟩ _)⟩
  · have e1 : ((xs.length : Int) != (ys.length : Int)) = true := by simp; omega
    have e2 : (xs.length != ys.length) = true := by simp [hl]
    have HF : Aside0 (¬ xs = ys) := ⟨fun e => hl (by rw [e])⟩
    clear hl
    go_enter Try.func22, Try.ntmps22
    go_wp2
    go_ret
    exact ⟨ret_bool (decide_eq_false HF.out).symm, Drawn0.refl _⟩
theorem strOf_size (xs : List Int) : (strOfNums xs).size = xs.length := by simp [strOfNums, ByteArray.size]
set_option maxRecDepth 100000 in
set_option maxHeartbeats 1000000 in
theorem markText_any (n : Int) (w : World) (h : n ≤ 1099511627776) : Calls Try.prog 32 #[.int .i64 n] w fun e w' => e = .returned (.string (mtP n)) ∧ Below w.heap.size w w' := by
  by_cases h0 : n ≤ 0
  · have HF : Aside0 (mtP n = ⟨#[109, 48]⟩) := ⟨if_pos h0⟩
    go_enter Try.func32, Try.ntmps32
    go_wp2
    go_ret
    exact ⟨ret_str HF.out.symm, Below.refl _ _⟩
  · obtain ⟨k, rfl⟩ := Int.eq_ofNat_of_zero_le (show 0 ≤ n by omega)
    have HF : Aside0 (mtP (k : Int) = (⟨#[109]⟩ : ByteArray) ++ digsP k ⟨#[]⟩) := ⟨by unfold mtP; rw [if_neg h0, Int.toNat_natCast]⟩
    go_enter Try.func32, Try.ntmps32
    go_wp2
    go_loopw [0, 3] (fun i o wr => ∃ (m : Nat) (out : ByteArray), i = .int .i64 m ∧ o = .string out ∧ out.size + m ≤ k ∧ Aside0 (digsP m out = digsP k ⟨#[]⟩) ∧ Below w.heap.size w wr) (fun i _ _ => (intOf i).toNat)
    case atStart => exact ⟨k, _, rfl, rfl, by show 0 + k ≤ k; omega, ⟨rfl⟩, Below.refl _ _⟩
    case round =>
      obtain ⟨m, out, rfl, rfl, hm, hd, hB⟩ := hrel
      by_cases hp : 0 < m
      · have W1 : IntKind.u8.wrap (48 + (m : Int) % 10) = 48 + (m : Int) % 10 := wrap8_in (by omega) (by omega)
        have hsz := strOf_size [48 + (m : Int) % 10]
        have Hsz : Aside0 ((strOfNums [48 + (m : Int) % 10]).size = 1) := ⟨hsz⟩
        clear hsz
        have HD : Aside0 (digsP (m / 10) (strOfNums [48 + (m % 10 : Nat)] ++ out) = digsP k ⟨#[]⟩) := ⟨by rw [← hd.out, digsP_pos m out (by omega)]⟩
        have Hst : (convert 31 9 (.slice (some ⟨wr.heap.size, 0, none⟩) 1 1)).run Try.prog (wr.alloc (.cells #[.int .u8 (48 + (m : Int) % 10)] 5)) = .ok (.string (strOfNums [48 + (m : Int) % 10])) (wr.alloc (.cells #[.int .u8 (48 + (m : Int) % 10)] 5)) := own_string (P := Try.prog) Try.underlying31 Try.underlying5 Try.underlying9 (NR.lit wr 0 5 .u8 [48 + (m : Int) % 10] (Nat.zero_le _) (by simp))
        have hs9 : (strOfNums [48 + (m : Int) % 10]).size + out.size ≤ 9223372036854775807 := by rw [Hsz.out]; omega
        obtain ⟨t, ht⟩ : ∃ t, t = strOfNums [48 + (m : Int) % 10] := ⟨_, rfl⟩
        rw [← ht] at Hst hs9 Hsz
        have HD2 : Aside0 (digsP (m / 10) (t ++ out) = digsP k ⟨#[]⟩) := ⟨by rw [ht, ← HD.out]; simp⟩
        clear ht HD
        go_wp2
        go_roundw
        case rel => exact ⟨m / 10, t ++ out, by go_num, rfl, by rw [ByteArray.size_append, Hsz.out]; omega, HD2, hB.alloc hB.size _⟩
        case measure => simp [intOf]; omega
      · obtain rfl : m = 0 := by omega
        have HE : Aside0 ((⟨#[109]⟩ : ByteArray) ++ out = mtP (k : Int)) := ⟨by rw [HF.out, ← hd.out, digsP_zero]⟩
        have hs9 : (⟨#[109]⟩ : ByteArray).size + out.size ≤ 9223372036854775807 := by show 1 + out.size ≤ _; omega
        go_wp2
        go_ret
        exact ⟨ret_str HE.out, hB⟩
def marks (k : Int) (n : Nat) : List ByteArray := (List.range n).map fun (j : Nat) => mtP (k + (j : Int))
theorem marks_len (k : Int) (n : Nat) : (marks k n).length = n := by simp [marks]
theorem marks_succ (k : Int) (n : Nat) : marks k (n + 1) = marks k n ++ [mtP (k + (n : Int))] := by simp [marks, List.range_succ]
theorem marks_get (k : Int) (n j : Nat) (h : j < n) : (marks k n)[j]? = some (mtP (k + (j : Int))) := by simp [marks, h]
theorem marks_set (k : Int) (xs : List ByteArray) (j : Nat) (h : j < xs.length) : (marks k j ++ xs.drop j).set j (mtP (k + (j : Int))) = marks k (j + 1) ++ xs.drop (j + 1) := by
  rw [List.set_append_right _ _ (by rw [marks_len]; exact Nat.le_refl _), marks_len, Nat.sub_self, List.drop_eq_getElem_cons h, List.set_cons_zero, marks_succ, List.append_assoc]; rfl
set_option maxRecDepth 100000 in
set_option maxHeartbeats 1000000 in
theorem markStringS_any (A : Option Addr) (c base : Nat) (xs : List ByteArray) (k : Int) (w : World) (ho : ER Value.string w base 9 (.slice A xs.length c) xs) (hk : 0 ≤ k) (hk2 : k + xs.length ≤ 1099511627776) :
    Calls Try.prog 23 #[.slice A xs.length c, .int .i64 k] w fun e w' => e = .returned (.int .i64 (k + (xs.length : Int))) ∧ ER Value.string w' base 9 (.slice A xs.length c) (marks k xs.length) ∧ Upd (Value.slice A xs.length c).ownBlock.toList w w' := by
  have HO := Aside0.mk ho
  clear ho
  go_enter Try.func23, Try.ntmps23
  go_wp2
  go_loopw [1, 5] (fun kv i wr => ∃ j : Nat, kv = .int .i64 (k + (j : Int)) ∧ i = .int .i64 j ∧ j ≤ xs.length ∧ Aside0 (ER Value.string wr base 9 (.slice A xs.length c) (marks k j ++ xs.drop j)) ∧ Aside0 (Upd (Value.slice A xs.length c).ownBlock.toList w wr)) (fun _ i _ => xs.length - (intOf i).toNat)
  case atStart => exact ⟨0, by simp, rfl, Nat.zero_le _, ⟨by simpa [marks] using HO.out⟩, ⟨Upd.refl _ _⟩⟩
  case round =>
    obtain ⟨j, rfl, rfl, hj, ho, hu⟩ := hrel
    by_cases hlt : j < xs.length
    · have hL : Aside0 ((marks k j ++ xs.drop j).length = xs.length) := ⟨by rw [List.length_append, marks_len, List.length_drop]; omega⟩
      obtain ⟨A', c', he, hf⟩ := ER.form ho.out
      injection he with he1 he2 he3
      subst he1
      obtain ⟨g, rfl, hb0, hb1, hfz, hcl⟩ := hf (by rw [hL.out]; omega)
      have hc0 := hcl j _ (List.getElem?_eq_getElem (by rw [hL.out]; exact hlt))
      have hfj := hfz j
      clear hf hfz hcl he2 he3
      generalize (marks k j ++ xs.drop j)[j]'(by rw [hL.out]; exact hlt) = old at hc0
      have hgo : Aside0 ((Value.slice (some ⟨g, 0, none⟩) xs.length c).ownBlock.toList = [g]) := ⟨rfl⟩
      go_wp2_with (go_at_call 32; refine (markText_any _ _ (by omega)).mono ?_; rintro e w1 ⟨rfl, hbl⟩; have hc1 := pw_cell_below hbl hc0; have hf1 := (hbl.frozen (p := ⟨g, j, none⟩) hb1).trans hfj; have ho1 := Aside0.mk (ho.out.below hbl))
      go_roundw
      case rel =>
        have h1 := ho1.out
        unfold ER at h1
        rw [hL.out] at h1
        have hst : ER Value.string (w1.setCell ⟨g, j, none⟩ (.string (mtP (k + (j : Int))))) base 9 (.slice (some ⟨g, 0, none⟩) xs.length c) (marks k (j + 1) ++ xs.drop (j + 1)) ∧ w1.grownBy (w1.setCell ⟨g, j, none⟩ (.string (mtP (k + (j : Int))))) (some g) := by
          obtain ⟨q1, q2⟩ := World.ownsRow.stored h1 j (.string (mtP (k + (j : Int))))
          refine ⟨?_, q2⟩
          unfold ER
          rw [← marks_set k xs j hlt, List.length_set, hL.out, List.map_set]
          exact q1
        exact ⟨j + 1, by go_num, by go_num, hlt, ⟨hst.1⟩, ⟨(hu.out.trans (Upd.of_below hbl []) (fun _ hx => by cases hx)).trans (Upd.of_grown hst.2) (fun x hx _ => hx)⟩⟩
      case measure => simp [intOf]; omega
    · obtain rfl : j = xs.length := by omega
      go_wp2
      go_ret
      exact ⟨rfl, by simpa using ho.out, hu.out⟩
set_option maxRecDepth 100000 in
set_option maxHeartbeats 1000000 in
theorem heldStringS_any (A : Option Addr) (c n : Nat) (k : Int) (w : World) (hr : Rd Value.string w A (marks k n)) (hk : 0 ≤ k) (hk2 : k + n ≤ 1099511627776) :
    Calls Try.prog 24 #[.slice A n c, .int .i64 k] w fun e w' => e = .returned (.int .i64 (k + (n : Int))) ∧ Below w.heap.size w w' := by
  have HR := Aside0.mk hr
  clear hr
  go_enter Try.func24, Try.ntmps24
  go_wp2
  go_loopw [1, 5] (fun kv i wr => ∃ j : Nat, kv = .int .i64 (k + (j : Int)) ∧ i = .int .i64 j ∧ j ≤ n ∧ Below w.heap.size w wr) (fun _ i _ => n - (intOf i).toNat)
  case atStart => exact ⟨0, by simp, rfl, Nat.zero_le _, Below.refl _ _⟩
  case round =>
    obtain ⟨j, rfl, rfl, hj, hB⟩ := hrel
    by_cases hlt : j < n
    · obtain ⟨ad, rfl, hc⟩ := HR.out.move hB j _ (marks_get k n j hlt)
      have hlt2 : (j : Int) < (n : Int) := by omega
      obtain ⟨t, ht⟩ : ∃ t, t = mtP (k + (j : Int)) := ⟨_, rfl⟩
      have Ht := Aside0.mk ht
      rw [← ht] at hc
      clear ht
      go_wp2_with fail
      go_region_held3 (fun w' => w'.cell? (ad.add j) = some (.string t)) (first | go_keep | exact (pw_cell_below hbl (by simpa using hc))) (first | (go_at_call 32; refine (markText_any _ _ (by omega)).mono ?_; rw [← Ht.out]; rintro e w1 ⟨rfl, hbl⟩))
      all_goals
        have hB1 : Below w.heap.size w w1 := (below_drew hB).trans (hbl.mono hB.size)
        go_wp2
        go_roundw
        case rel => exact ⟨j + 1, by go_num, by go_num, hlt, hB1⟩
        case measure => simp [intOf]; omega
    · obtain rfl : j = n := by omega
      go_wp2
      go_ret
      exact ⟨rfl, hB⟩
theorem eqSheetCut_any (A B : Option Addr) (c d : Nat) (xs ys : List ByteArray) (p q : Bool) (w : World) (h1 : Rd Value.string w A xs) (h2 : Rd Value.string w B ys) (hx : xs.length ≤ 4611686018427387904) (hy : ys.length ≤ 4611686018427387904) :
    Calls Try.prog 11 #[.agg #[.slice A xs.length c, .bool p], .agg #[.slice B ys.length d, .bool q]] w fun e w' => e = .returned (.bool (decide (xs = ys) && p == q)) ∧ Below w.heap.size w w' := by
  have H1 := Aside0.mk h1
  have H2 := Aside0.mk h2
  clear h1 h2
  go_enter Try.func11, Try.ntmps11
  cases hD : decide (xs = ys) with
  | true =>
    go_wp2_with (go_at_call 22; refine (eqStringS_any _ _ _ _ _ _ _ (H1.out.move (((Below.refl _ _).alloc (Nat.le_refl _) _).alloc (by simp) _)) (H2.out.move (((Below.refl _ _).alloc (Nat.le_refl _) _).alloc (by simp) _)) hx hy).mono ?_; rw [hD]; rintro e w1 ⟨rfl, ⟨m, rfl⟩⟩)
    all_goals (go_ret; refine ⟨ret_bool ?_, pw_below_drewN (((Below.refl _ _).alloc (Nat.le_refl _) _).alloc (by simp) _) _⟩; simp_all)
  | false =>
    go_wp2_with (go_at_call 22; refine (eqStringS_any _ _ _ _ _ _ _ (H1.out.move (((Below.refl _ _).alloc (Nat.le_refl _) _).alloc (by simp) _)) (H2.out.move (((Below.refl _ _).alloc (Nat.le_refl _) _).alloc (by simp) _)) hx hy).mono ?_; rw [hD]; rintro e w1 ⟨rfl, ⟨m, rfl⟩⟩)
    go_ret
    exact ⟨rfl, pw_below_drewN (((Below.refl _ _).alloc (Nat.le_refl _) _).alloc (by simp) _) _⟩
theorem markSheetCut_any (A : Option Addr) (c base : Nat) (xs : List ByteArray) (p : Bool) (k : Int) (w : World) (ho : ER Value.string w base 9 (.slice A xs.length c) xs) (hk : 0 ≤ k) (hk2 : k + xs.length ≤ 1099511627776) :
    Calls Try.prog 12 #[.agg #[.slice A xs.length c, .bool p], .int .i64 k] w fun e w' => e = .returned (.int .i64 (k + (xs.length : Int))) ∧ ER Value.string w' base 9 (.slice A xs.length c) (marks k xs.length) ∧ Upd (Value.slice A xs.length c).ownBlock.toList w w' := by
  have HO := Aside0.mk ho
  clear ho
  go_enter Try.func12, Try.ntmps12
  go_wp2_with (go_at_call 23; refine (markStringS_any _ _ _ _ _ _ (HO.out.alloc _) hk hk2).mono ?_; rintro e w1 ⟨rfl, ho1, hu1⟩; have HO1 := Aside0.mk ho1; have HU1 := Aside0.mk hu1; clear ho1 hu1)
  go_ret
  exact ⟨rfl, HO1.out, ((Upd.refl _ _).alloc _).trans HU1.out (fun x hx _ => hx)⟩
theorem heldSheetCut_any (A : Option Addr) (c n : Nat) (p : Bool) (k : Int) (w : World) (hr : Rd Value.string w A (marks k n)) (hk : 0 ≤ k) (hk2 : k + n ≤ 1099511627776) :
    Calls Try.prog 13 #[.agg #[.slice A n c, .bool p], .int .i64 k] w fun e w' => e = .returned (.int .i64 (k + (n : Int))) ∧ Below w.heap.size w w' := by
  have HR := Aside0.mk hr
  clear hr
  have hkn : 0 ≤ k + (n : Int) := by omega
  go_enter Try.func13, Try.ntmps13
  go_wp2_with (go_at_call 24; refine (heldStringS_any _ _ _ _ _ (HR.out.move ((Below.refl _ _).alloc (Nat.le_refl _) _)) hk hk2).mono ?_; rintro e w1 ⟨rfl, hb1⟩)
  go_ret
  exact ⟨rfl, ((Below.refl _ _).alloc (Nat.le_refl _) _).trans (hb1.mono (by simp))⟩
end Go.Proofs.Ytjjmmjgkdmnbcaa
