import Derived.Test.YtjjmmjgkdmnbcaaKm
namespace Go.Proofs.Ytjjmmjgkdmnbcaa
open Go.RowKit Go.Proofs.YtjjmmjgkdmnbcaaW.PrintWords
/-! the words of a line, in plain lists -/
def hexP (c : Int) : Int := if 48 ≤ c ∧ c ≤ 57 then c - 48 else if 97 ≤ c ∧ c ≤ 102 then c - 87 else -1
theorem hexP_range (c : Int) : -1 ≤ hexP c ∧ hexP c ≤ 15 := by unfold hexP; split <;> (try split) <;> omega
def quotP : List Int → List Int → Int → Option (List Int × Int)
  | [], _, _ => none
  | c :: r, acc, n => if c = 34 then some (acc, n + 1) else if c = 92 then (match r with | a :: b :: r' => if hexP a < 0 ∨ hexP b < 0 then none else quotP r' (acc ++ [16 * hexP a + hexP b]) (n + 3) | _ => none) else if selfP c = true then quotP r (acc ++ [c]) (n + 1) else none
def unq (q : Option (List Int × Int)) : ByteArray × Int := match q with | some (a, n) => (strOfNums a, n) | none => (⟨#[]⟩, 0)
def quotR (s : ByteArray) (i : Nat) : ByteArray × Int := unq (quotP (from_ s i) [] i)
theorem quotP_cons (c : Int) (r acc : List Int) (n : Int) : quotP (c :: r) acc n = if c = 34 then some (acc, n + 1) else if c = 92 then (match r with | a :: b :: r' => if hexP a < 0 ∨ hexP b < 0 then none else quotP r' (acc ++ [16 * hexP a + hexP b]) (n + 3) | _ => none) else if selfP c = true then quotP r (acc ++ [c]) (n + 1) else none := by
  rw [quotP.eq_def]
theorem quotP_nil (acc : List Int) (n : Int) : quotP [] acc n = none := by rw [quotP.eq_def]
theorem quotP_end (r acc : List Int) (n : Int) : quotP (34 :: r) acc n = some (acc, n + 1) := by rw [quotP_cons, if_pos rfl]
theorem quotP_hex (a b : Int) (r acc : List Int) (n : Int) (ha : 0 ≤ hexP a) (hb : 0 ≤ hexP b) : quotP (92 :: a :: b :: r) acc n = quotP r (acc ++ [16 * hexP a + hexP b]) (n + 3) := by
  rw [quotP_cons, if_neg (by omega), if_pos rfl]; exact if_neg (by omega)
theorem quotP_hex_no (a b : Int) (r acc : List Int) (n : Int) (h : hexP a < 0 ∨ hexP b < 0) : quotP (92 :: a :: b :: r) acc n = none := by
  rw [quotP_cons, if_neg (by omega), if_pos rfl]; exact if_pos h
theorem quotP_hex_short (l acc : List Int) (n : Int) (h : l.length < 2) : quotP (92 :: l) acc n = none := by
  match l, h with
  | [], _ => rw [quotP_cons]; simp
  | [a], _ => rw [quotP_cons]; simp
  | a :: b :: r, h => simp at h; omega
theorem quotP_self (c : Int) (r acc : List Int) (n : Int) (h : selfP c = true) : quotP (c :: r) acc n = quotP r (acc ++ [c]) (n + 1) := by
  have h' := h
  simp only [selfP, Bool.and_eq_true, decide_eq_true_eq, bne_iff_ne, ne_eq] at h'
  rw [quotP_cons, if_neg h'.1.2, if_neg h'.2, if_pos h]
theorem quotP_no (c : Int) (r acc : List Int) (n : Int) (h1 : c ≠ 34) (h2 : c ≠ 92) (h : selfP c = false) : quotP (c :: r) acc n = none := by
  rw [quotP_cons, if_neg h1, if_neg h2, if_neg (by rw [h]; simp)]
theorem quotP_shift (d : Int) : ∀ (m : Nat) (l acc : List Int) (n : Int), l.length ≤ m → quotP l acc (n + d) = (quotP l acc n).map fun q => (q.1, q.2 + d)
  | m, [], acc, n, _ => by rw [quotP_nil, quotP_nil]; rfl
  | 0, c :: r, acc, n, h => by simp at h
  | m + 1, c :: r, acc, n, h => by
    simp only [List.length_cons] at h
    by_cases h1 : c = 34
    · subst h1; rw [quotP_end, quotP_end]; simp; omega
    · by_cases h2 : c = 92
      · subst h2
        by_cases h3 : r.length < 2
        · rw [quotP_hex_short _ _ _ h3, quotP_hex_short _ _ _ h3]; rfl
        · match r, h, h3 with
          | a :: b :: r, h, _ =>
            simp only [List.length_cons] at h
            by_cases h4 : hexP a < 0 ∨ hexP b < 0
            · rw [quotP_hex_no _ _ _ _ _ h4, quotP_hex_no _ _ _ _ _ h4]; rfl
            · rw [quotP_hex _ _ _ _ _ (by omega) (by omega), quotP_hex _ _ _ _ _ (by omega) (by omega), ← quotP_shift d m r _ _ (by omega)]
              rw [show n + d + 3 = n + 3 + d from by omega]
          | [a], _, h3 => simp at h3
          | [], _, h3 => simp at h3
      · cases h3 : selfP c with
        | true => rw [quotP_self _ _ _ _ h3, quotP_self _ _ _ _ h3, ← quotP_shift d m r _ _ (by omega), show n + d + 1 = n + 1 + d from by omega]
        | false => rw [quotP_no _ _ _ _ h1 h2 h3, quotP_no _ _ _ _ h1 h2 h3]; rfl
/-- what it takes lies in the list: the place is behind the start and not behind the end -/
theorem quotP_place : ∀ (m : Nat) (l acc : List Int) (n : Int) (a : List Int) (k : Int), l.length ≤ m → quotP l acc n = some (a, k) → n < k ∧ k ≤ n + l.length ∧ a.length ≤ acc.length + l.length
  | m, [], acc, n, a, k, _, h => by rw [quotP_nil] at h; cases h
  | 0, c :: r, acc, n, a, k, h, _ => by simp at h
  | m + 1, c :: r, acc, n, a, k, h, hq => by
    simp only [List.length_cons] at h ⊢
    by_cases h1 : c = 34
    · subst h1; rw [quotP_end] at hq; simp at hq; obtain ⟨rfl, rfl⟩ := hq; omega
    · by_cases h2 : c = 92
      · subst h2
        by_cases h3 : r.length < 2
        · rw [quotP_hex_short _ _ _ h3] at hq; cases hq
        · match r, h, h3 with
          | a' :: b :: r, h, _ =>
            simp only [List.length_cons] at h ⊢
            by_cases h4 : hexP a' < 0 ∨ hexP b < 0
            · rw [quotP_hex_no _ _ _ _ _ h4] at hq; cases hq
            · rw [quotP_hex _ _ _ _ _ (by omega) (by omega)] at hq
              have := quotP_place m r _ _ a k (by omega) hq
              simp only [List.length_append, List.length_cons, List.length_nil] at this
              omega
          | [a], _, h3 => simp at h3
          | [], _, h3 => simp at h3
      · cases h3 : selfP c with
        | true =>
          rw [quotP_self _ _ _ _ h3] at hq
          have := quotP_place m r _ _ a k (by omega) hq
          simp only [List.length_append, List.length_cons, List.length_nil] at this
          omega
        | false => rw [quotP_no _ _ _ _ h1 h2 h3] at hq; cases hq
theorem from_len (s : ByteArray) (i : Nat) : (from_ s i).length = s.size - i := by unfold from_; rw [List.length_drop, bytesOf_length]
theorem from_extract (s : ByteArray) (a : Nat) (ha : a ≤ s.size) (j : Nat) : from_ (s.extract a s.size) j = from_ s (a + j) := by
  unfold from_ bytesOf
  rw [← List.drop_drop]
  congr 1
  rw [← List.map_drop]
  congr 1
  have : (s.extract a s.size).data.toList = s.data.toList.drop a := by
    rw [ByteArray.data_extract, Array.toList_extract, List.extract_eq_take_drop]
    have hl : s.data.toList.length = s.size := data_length s
    rw [List.take_of_length_le]; rw [List.length_drop]; omega
  exact this
/-- the same read from the quotation mark on and from behind it -/
theorem quot_two (s : ByteArray) (i : Nat) (h : i < s.size) :
    quotR (s.extract i s.size) 1 = match quotP (from_ s (i + 1)) [] 0 with | some (a, n) => (strOfNums a, n + 1) | none => (⟨#[]⟩, 0) := by
  unfold quotR
  rw [from_extract s i (by omega) 1, show ((1 : Nat) : Int) = 0 + 1 from rfl, quotP_shift 1 _ _ _ _ (Nat.le_refl _)]
  cases quotP (from_ s (i + 1)) [] 0 with
  | none => rfl
  | some q => rfl
theorem quot_one (s : ByteArray) (i : Nat) (h : i < s.size) : quotR (s.extract (i + 1) s.size) 0 = unq (quotP (from_ s (i + 1)) [] 0) := by
  unfold quotR
  rw [from_extract s (i + 1) (by omega) 0]; rfl
def runP (s : ByteArray) (i : Nat) : Nat := ((from_ s i).takeWhile bareP).length
theorem runP_stop (s : ByteArray) (i : Nat) (h : s.size ≤ i) : runP s i = 0 := by unfold runP; rw [from_nil s i h]; rfl
theorem runP_no (s : ByteArray) (i : Nat) (h : i < s.size) (hb : bareP (bt s i) = false) : runP s i = 0 := by unfold runP; rw [from_cons s i h, List.takeWhile_cons_of_neg (by rw [hb]; simp)]; rfl
theorem runP_yes (s : ByteArray) (i : Nat) (h : i < s.size) (hb : bareP (bt s i) = true) : runP s i = runP s (i + 1) + 1 := by unfold runP; rw [from_cons s i h, List.takeWhile_cons_of_pos hb]; rfl
theorem runP_le (s : ByteArray) (i : Nat) : i + runP s i ≤ max i s.size := by
  have h : runP s i ≤ (from_ s i).length := by unfold runP; exact (List.takeWhile_prefix _).length_le
  rw [from_len] at h; omega
/-- the word that begins at place i (no space, no '#'), and how many bytes it takes; 0: none -/
def wordAt (s : ByteArray) (i : Nat) : ByteArray × Nat :=
  if bt s i = 34 then (match quotP (from_ s (i + 1)) [] 0 with | some (a, n) => (strOfNums a, n.toNat + 1) | none => (⟨#[]⟩, 0))
  else (s.extract i (i + runP s i), runP s i)
def badAt (s : ByteArray) (i : Nat) (acc : List ByteArray) : Bool :=
  decide ((wordAt s i).2 = 0) || decide (200 < (wordAt s i).1.size) || decide (8 ≤ acc.length) || (decide (i + (wordAt s i).2 < s.size) && (bt s (i + (wordAt s i).2 : Nat) != 32) && (bt s (i + (wordAt s i).2 : Nat) != 35))
def wstep (s : ByteArray) (i : Nat) (acc : List ByteArray) : Option (List ByteArray) ⊕ (Nat × List ByteArray) :=
  if s.size ≤ i then .inl (some acc) else if bt s i = 32 then .inr (i + 1, acc) else if bt s i = 35 then .inl (some acc)
  else if badAt s i acc = true then .inl none else .inr (i + (wordAt s i).2, acc ++ [(wordAt s i).1])
inductive WR (s : ByteArray) : Nat → List ByteArray → Option (List ByteArray) → Prop
  | stop {i : Nat} {acc : List ByteArray} {r : Option (List ByteArray)} : wstep s i acc = .inl r → WR s i acc r
  | go {i i' : Nat} {acc acc' : List ByteArray} {r : Option (List ByteArray)} : wstep s i acc = .inr (i', acc') → WR s i' acc' r → WR s i acc r
theorem WR.det {s : ByteArray} {i : Nat} {acc : List ByteArray} {r r' : Option (List ByteArray)} (h : WR s i acc r) (h' : WR s i acc r') : r = r' := by
  induction h with
  | stop e =>
    cases h' with
    | stop e' => rw [e] at e'; injection e'
    | go e' _ => rw [e] at e'; cases e'
  | go e _ ih =>
    cases h' with
    | stop e' => rw [e] at e'; cases e'
    | go e' k =>
      rw [e] at e'
      injection e' with e'
      injection e' with e1 e2
      subst e1; subst e2
      exact ih k
theorem WR.len {s : ByteArray} {i : Nat} {acc : List ByteArray} {l : List ByteArray} {r : Option (List ByteArray)} (h : WR s i acc r) (hr : r = some l) (ha : acc.length ≤ 8) : l.length ≤ 8 := by
  induction h with
  | stop e =>
    unfold wstep at e
    subst hr
    split at e
    · injection e with e; injection e with e; subst e; exact ha
    · split at e
      · cases e
      · split at e
        · injection e with e; injection e with e; subst e; exact ha
        · split at e
          · injection e with e; cases e
          · cases e
  | go e _ ih =>
    refine ih hr ?_
    unfold wstep at e
    split at e
    · cases e
    · split at e
      · injection e with e; injection e with e1 e2; subst e2; exact ha
      · split at e
        · cases e
        · split at e
          · cases e
          · rename_i hb
            injection e with e; injection e with e1 e2
            subst e2
            simp only [badAt, Bool.or_eq_true, decide_eq_true_eq, not_or] at hb
            rw [List.length_append]; simp; omega
theorem wstep_end {s : ByteArray} {i : Nat} {acc : List ByteArray} (h : s.size ≤ i) : wstep s i acc = .inl (some acc) := by unfold wstep; rw [if_pos h]
theorem wstep_space {s : ByteArray} {i : Nat} {acc : List ByteArray} (h : i < s.size) (hc : bt s i = 32) : wstep s i acc = .inr (i + 1, acc) := by unfold wstep; rw [if_neg (by omega), if_pos hc]
theorem wstep_hash {s : ByteArray} {i : Nat} {acc : List ByteArray} (h : i < s.size) (hc : bt s i = 35) : wstep s i acc = .inl (some acc) := by unfold wstep; rw [if_neg (by omega), if_neg (by omega), if_pos hc]
theorem wstep_bad {s : ByteArray} {i : Nat} {acc : List ByteArray} (h : i < s.size) (h1 : bt s i ≠ 32) (h2 : bt s i ≠ 35) (hb : badAt s i acc = true) : wstep s i acc = .inl none := by unfold wstep; rw [if_neg (by omega), if_neg h1, if_neg h2, if_pos hb]
theorem wstep_word {s : ByteArray} {i : Nat} {acc : List ByteArray} (h : i < s.size) (h1 : bt s i ≠ 32) (h2 : bt s i ≠ 35) (hb : badAt s i acc = false) : wstep s i acc = .inr (i + (wordAt s i).2, acc ++ [(wordAt s i).1]) := by unfold wstep; rw [if_neg (by omega), if_neg h1, if_neg h2, if_neg (by rw [hb]; simp)]
/-- the decimal text behind a mark -/
def digsP (k : Nat) (out : ByteArray) : ByteArray := if _h : k = 0 then out else digsP (k / 10) (strOfNums [48 + (k % 10 : Nat)] ++ out)
termination_by k
decreasing_by omega
theorem digsP_zero (out : ByteArray) : digsP 0 out = out := by rw [digsP]; simp
theorem digsP_pos (k : Nat) (out : ByteArray) (h : k ≠ 0) : digsP k out = digsP (k / 10) (strOfNums [48 + (k % 10 : Nat)] ++ out) := by rw [digsP, dif_neg h]
def mtP (k : Int) : ByteArray := if k ≤ 0 then ⟨#[109, 48]⟩ else (⟨#[109]⟩ : ByteArray) ++ digsP k.toNat ⟨#[]⟩
end Go.Proofs.Ytjjmmjgkdmnbcaa
