import Derived.Test.YtjjmmjgkdmnbcaaKt
namespace Go.Proofs.Ytjjmmjgkdmnbcaa
open Go.RowKit Go.Proofs.YtjjmmjgkdmnbcaaW.PrintWords
/-! words written and cut again are the same -/
theorem bytesOf_append (a b : ByteArray) : bytesOf (a ++ b) = bytesOf a ++ bytesOf b := by
  unfold bytesOf
  rw [ByteArray.data_append, Array.toList_append, List.map_append]
theorem bytesOf_range (s : ByteArray) : ∀ c ∈ bytesOf s, 0 ≤ c ∧ c ≤ 255 := by
  intro c hc
  unfold bytesOf at hc
  obtain ⟨b, _, rfl⟩ := List.mem_map.1 hc
  have := b.toNat_lt
  omega
theorem bytesOf_strOf (xs : List Int) (h : ∀ c ∈ xs, 0 ≤ c ∧ c ≤ 255) : bytesOf (strOfNums xs) = xs := by
  unfold bytesOf
  rw [strOfNums_data, List.map_map]
  conv => rhs; rw [← List.map_id xs]
  refine List.map_congr_left fun c hc => ?_
  have := h c hc
  simp
  omega
theorem strOf_bytesOf (s : ByteArray) : strOfNums (bytesOf s) = s := by
  have h : (strOfNums (bytesOf s)).data.toList = s.data.toList := by
    rw [strOfNums_data]
    unfold bytesOf
    rw [List.map_map]
    conv => rhs; rw [← List.map_id s.data.toList]
    refine List.map_congr_left fun c _ => ?_
    simp
  exact ByteArray.ext (Array.toList_inj.1 h)
theorem bytesOf_inj {a b : ByteArray} (h : bytesOf a = bytesOf b) : a = b := by rw [← strOf_bytesOf a, h, strOf_bytesOf b]
theorem from_zero (s : ByteArray) : from_ s 0 = bytesOf s := rfl
theorem from_add (s : ByteArray) (i k : Nat) : from_ s (i + k) = (from_ s i).drop k := by unfold from_; rw [List.drop_drop]
theorem from_head {s : ByteArray} {i : Nat} {c : Int} {r : List Int} (h : from_ s i = c :: r) : i < s.size ∧ bt s i = c ∧ from_ s (i + 1) = r := by
  by_cases hi : i < s.size
  · rw [from_cons s i hi] at h
    injection h with h1 h2
    exact ⟨hi, h1, h2⟩
  · rw [from_nil s i (by omega)] at h; cases h
theorem bytesOf_extract (s : ByteArray) (i k : Nat) : bytesOf (s.extract i (i + k)) = (from_ s i).take k := by
  unfold from_ bytesOf
  rw [← List.map_drop, ← List.map_take]
  congr 1
  rw [ByteArray.data_extract, Array.toList_extract, List.extract_eq_take_drop]
  congr 1
  omega
theorem esc_hex : ∀ n : Fin 256, hexP (bt hexs ((n.val : Int) / 16)) = (n.val : Int) / 16 ∧ hexP (bt hexs ((n.val : Int) % 16)) = (n.val : Int) % 16 := by decide +kernel
theorem esc_range (c : Int) (h : 0 ≤ c ∧ c ≤ 255) : ∀ d ∈ escP c, 0 ≤ d ∧ d ≤ 255 := by
  intro d hd
  unfold escP at hd
  split at hd
  · simp at hd; subst hd; exact h
  · simp at hd
    rcases hd with rfl | rfl | rfl
    · omega
    · exact bt_range _ _
    · exact bt_range _ _
theorem quot_esc : ∀ (l r acc : List Int) (n : Int), (∀ c ∈ l, 0 ≤ c ∧ c ≤ 255) → quotP (l.flatMap escP ++ 34 :: r) acc n = some (acc ++ l, n + (l.flatMap escP).length + 1)
  | [], r, acc, n, _ => by
    rw [List.flatMap_nil, List.nil_append, quotP_end]; simp
  | c :: l, r, acc, n, h => by
    have hc := h c (by simp)
    have ih := fun acc n => quot_esc l r acc n (fun d hd => h d (by simp [hd]))
    rw [List.flatMap_cons, List.append_assoc]
    cases hs : selfP c with
    | true =>
      have e : escP c = [c] := by unfold escP; rw [if_pos hs]
      rw [e, List.singleton_append, quotP_self _ _ _ _ hs, ih]
      simp; omega
    | false =>
      have e : escP c = [92, bt hexs (c / 16), bt hexs (c % 16)] := by unfold escP; rw [if_neg (by rw [hs]; simp)]
      obtain ⟨q1, q2⟩ := esc_hex ⟨c.toNat, by omega⟩
      simp only [Int.toNat_of_nonneg hc.1] at q1 q2
      rw [e]
      show quotP (92 :: bt hexs (c / 16) :: bt hexs (c % 16) :: (l.flatMap escP ++ 34 :: r)) acc n = _
      rw [quotP_hex _ _ _ _ _ (by omega) (by omega), ih, q1, q2, show 16 * (c / 16) + c % 16 = c from by omega]
      simp; omega
def render (ws : List ByteArray) : List Int := ws.flatMap fun w => bytesOf (wordP w) ++ [32]
theorem wordP_bytes (w : ByteArray) : (0 < w.size ∧ (bytesOf w).all bareP = true ∧ wordP w = w) ∨ bytesOf (wordP w) = 34 :: ((bytesOf w).flatMap escP ++ [34]) := by
  unfold wordP
  split
  · rename_i h
    simp only [Bool.and_eq_true, decide_eq_true_eq, from_zero] at h
    exact .inl ⟨h.1, h.2, rfl⟩
  · right
    rw [from_zero, bytesOf_strOf]
    · rfl
    · intro c hc
      simp only [List.mem_append, List.mem_singleton, List.mem_flatMap] at hc
      rcases hc with (rfl | ⟨a, ha, hc⟩) | rfl
      · omega
      · exact esc_range a (bytesOf_range w a ha) c hc
      · omega
theorem bareP_facts {c : Int} (h : bareP c = true) : c ≠ 32 ∧ c ≠ 34 ∧ c ≠ 35 := by
  simp only [bareP, Bool.and_eq_true, decide_eq_true_eq, bne_iff_ne, ne_eq] at h
  omega
theorem badAt_no (s : ByteArray) (i n : Nat) (w : ByteArray) (acc : List ByteArray) (hw : wordAt s i = (w, n)) (hn : 0 < n) (hs : w.size ≤ 200) (ha : acc.length < 8) (h32 : bt s (i + n : Nat) = 32) : badAt s i acc = false := by
  unfold badAt
  rw [hw]
  simp only [h32]
  simp; omega
theorem rt (out : ByteArray) : ∀ (ws acc : List ByteArray) (i : Nat), i ≤ out.size → from_ out i = render ws → acc.length + ws.length ≤ 8 → (∀ w ∈ ws, w.size ≤ 200) → WR out i acc (some (acc ++ ws))
  | [], acc, i, hi, hf, _, _ => by
    have : out.size ≤ i := by
      have := from_len out i
      rw [hf] at this
      simp [render] at this
      omega
    rw [List.append_nil]
    exact .stop (wstep_end this)
  | w :: ws, acc, i, hi, hf, hl, hs => by
    have hf' : from_ out i = bytesOf (wordP w) ++ (32 :: render ws) := by rw [hf]; simp [render]
    have step : ∀ n, wordAt out i = (w, n) → 0 < n → i < out.size → bt out i ≠ 32 → bt out i ≠ 35 → from_ out (i + n) = 32 :: render ws → WR out i acc (some (acc ++ w :: ws)) := by
      intro n hw hn hi1 h32 h35 hr
      obtain ⟨j1, j2, j3⟩ := from_head hr
      simp only [List.length_cons] at hl
      have hb := badAt_no out i n w acc hw hn (hs w (by simp)) (by omega) j2
      refine .go (wstep_word hi1 h32 h35 hb) ?_
      rw [hw]
      refine .go (wstep_space j1 j2) ?_
      have := rt out ws (acc ++ [w]) (i + n + 1) (by omega) j3 (by simp; omega) (fun v hv => hs v (by simp [hv]))
      simpa using this
    rcases wordP_bytes w with ⟨h0, hb, he⟩ | he
    · rw [he] at hf'
      have hlen := bytesOf_length w
      cases hW : bytesOf w with
      | nil => rw [hW] at hlen; simp at hlen; omega
      | cons c r =>
        have hc : bareP c = true := by rw [hW] at hb; simp at hb; exact hb.1
        obtain ⟨n32, n34, n35⟩ := bareP_facts hc
        have hf2 := hf'
        rw [hW] at hf2
        obtain ⟨j1, j2, j3⟩ := from_head hf2
        have hrun : runP out i = w.size := by
          unfold runP
          rw [hf', List.takeWhile_append_of_pos (by simpa using hb), List.takeWhile_cons_of_neg (by decide), List.append_nil, hlen]
        refine step w.size ?_ h0 j1 (by rw [j2]; exact n32) (by rw [j2]; exact n35) ?_
        · rw [wordAt_bare out i (by rw [j2]; exact n34), hrun]
          have : out.extract i (i + w.size) = w := bytesOf_inj (by rw [bytesOf_extract, hf', List.take_append_of_le_length (by omega), List.take_of_length_le (by omega)])
          rw [this]
        · rw [from_add, hf', List.drop_append_of_le_length (by omega), List.drop_of_length_le (by omega)]; rfl
    · rw [he] at hf'
      have hf2 : from_ out i = 34 :: ((bytesOf w).flatMap escP ++ (34 :: 32 :: render ws)) := by rw [hf']; simp
      obtain ⟨j1, j2, j3⟩ := from_head hf2
      have hq := quot_esc (bytesOf w) (32 :: render ws) [] 0 (bytesOf_range w)
      refine step (((bytesOf w).flatMap escP).length + 1 + 1) ?_ (by omega) j1 (by rw [j2]; decide) (by rw [j2]; decide) ?_
      · rw [wordAt_quote out i j2, j3, hq]
        simp only [List.nil_append, strOf_bytesOf]
        congr 1
        omega
      · rw [from_add, hf', show ((bytesOf w).flatMap escP).length + 1 + 1 = (34 :: ((bytesOf w).flatMap escP ++ [34])).length from by simp, List.drop_left]
theorem rt_words (out : ByteArray) (ws : List ByteArray) (h : bytesOf out = render ws) (hl : ws.length ≤ 8) (hs : ∀ w ∈ ws, w.size ≤ 200) : WR out 0 [] (some ws) :=
  rt out ws [] 0 (Nat.zero_le _) h (by simpa using hl) hs
theorem WR.small {s : ByteArray} {i : Nat} {acc : List ByteArray} {l : List ByteArray} {r : Option (List ByteArray)} (h : WR s i acc r) (hr : r = some l) (ha : ∀ w ∈ acc, w.size ≤ 200) : ∀ w ∈ l, w.size ≤ 200 := by
  induction h with
  | stop e =>
    unfold wstep at e
    subst hr
    split at e
    · injection e with e; injection e with e; subst e; exact ha
    · split at e
      · cases e
      · split at e
        · injection e with e; injection e with e; subst e; exact ha
        · split at e
          · injection e with e; cases e
          · cases e
  | go e _ ih =>
    refine ih hr ?_
    unfold wstep at e
    split at e
    · cases e
    · split at e
      · injection e with e; injection e with e1 e2; subst e2; exact ha
      · split at e
        · cases e
        · split at e
          · cases e
          · rename_i hb
            injection e with e; injection e with e1 e2
            subst e2
            simp only [badAt, Bool.or_eq_true, decide_eq_true_eq, not_or] at hb
            intro w hw
            rcases List.mem_append.1 hw with h | h
            · exact ha w h
            · simp at h; subst h; omega
end Go.Proofs.Ytjjmmjgkdmnbcaa
