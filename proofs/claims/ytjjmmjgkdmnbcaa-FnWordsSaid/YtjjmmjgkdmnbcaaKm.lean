import Derived.Test.YtjjmmjgkdmnbcaaKw
namespace Go.Proofs.Ytjjmmjgkdmnbcaa
open Go.RowKit Go.Proofs.YtjjmmjgkdmnbcaaW.PrintWords
/-! words and quotes: what SheetWord and SheetWords compute, in plain lists -/
def bareP (c : Int) : Bool := decide (33 ≤ c) && decide (c ≤ 126) && (c != 34) && (c != 35) && (c != 92)
def selfP (c : Int) : Bool := decide (32 ≤ c) && decide (c ≤ 126) && (c != 34) && (c != 92)
def hexs : ByteArray := ⟨#[48, 49, 50, 51, 52, 53, 54, 55, 56, 57, 97, 98, 99, 100, 101, 102]⟩
def escP (c : Int) : List Int := if selfP c = true then [c] else [92, bt hexs (c / 16), bt hexs (c % 16)]
def from_ (s : ByteArray) (i : Nat) : List Int := (bytesOf s).drop i
def wordP (s : ByteArray) : ByteArray := if (decide (0 < s.size) && (from_ s 0).all bareP) = true then s else strOfNums ([34] ++ (from_ s 0).flatMap escP ++ [34])
theorem from_nil (s : ByteArray) (i : Nat) (h : s.size ≤ i) : from_ s i = [] := by
  unfold from_; exact List.drop_eq_nil_of_le (by rw [bytesOf_length]; exact h)
theorem from_cons (s : ByteArray) (i : Nat) (h : i < s.size) : from_ s i = bt s i :: from_ s (i + 1) := by
  have hl : i < (bytesOf s).length := by rw [bytesOf_length]; exact h
  have e : (bytesOf s)[i] = bt s i := by
    rw [← rd_bytesOf]; unfold rd
    rw [List.getD_eq_getElem?_getD, Int.toNat_natCast, List.getElem?_eq_getElem hl]; rfl
  unfold from_; rw [List.drop_eq_getElem_cons hl, e]
theorem bt_cast (s : ByteArray) (k : Nat) : ∀ h : k < s.size, ((s[k]'h).toNat : Int) = bt s k := fun h => by simp [bt, h]
theorem hexs_at (i : Int) : ∀ h : i.toNat < 16, (((⟨#[48, 49, 50, 51, 52, 53, 54, 55, 56, 57, 97, 98, 99, 100, 101, 102]⟩ : ByteArray)[i.toNat]'h).toNat : Int) = bt hexs i := fun h => by
  unfold bt; rw [dif_pos (show i.toNat < hexs.size from h)]; rfl
theorem and15 : ∀ n : Fin 256, Go.bits .and .u8 (n.val : Int) 15 = (n.val : Int) % 16 := by decide +kernel
theorem and_15 (c : Int) (h0 : 0 ≤ c) (h1 : c ≤ 255) : Go.bits .and .u8 c 15 = c % 16 := by
  have := and15 ⟨c.toNat, by omega⟩
  simp only [Int.toNat_of_nonneg h0] at this; exact this
theorem bytes_len (s : ByteArray) : s.toList.length = s.size := by rw [ByteArray.toList_eq]; exact data_length s
theorem bytes_inj' {a b : ByteArray} (h : a.toList = b.toList) : a = b := by
  rw [ByteArray.toList_eq, ByteArray.toList_eq] at h
  cases a; cases b; congr 1; exact Array.toList_inj.1 h
theorem bytes_pos (s : ByteArray) : (s.toList != ([] : List UInt8)) = decide (0 < s.size) := by
  have h := bytes_len s
  cases hL : s.toList with
  | nil => rw [hL] at h; simp at h; simp [← h]
  | cons a t => rw [hL] at h; simp at h; simp [← h]
theorem bytes_empty (s : ByteArray) : (!s.toList.isEmpty) = decide (0 < s.size) := by
  have h := bytes_len s
  cases hL : s.toList with
  | nil => rw [hL] at h; simp at h; simp [← h]
  | cons a t => rw [hL] at h; simp at h; simp [← h]
theorem wrap_in {i : Int} (h0 : -9223372036854775808 ≤ i) (h1 : i ≤ 9223372036854775807) : wrap64 i = i := by
  unfold wrap64; omega
theorem ret_bool {a b : Bool} (h : a = b) : Ending.returned (.bool a) = .returned (.bool b) := by rw [h]
theorem ret_str {a b : ByteArray} (h : a = b) : Ending.returned (.string a) = .returned (.string b) := by rw [h]
theorem ret_int64 {a b : Int} (h : a = b) : Ending.returned (.int .i64 a) = .returned (.int .i64 b) := by rw [h]
end Go.Proofs.Ytjjmmjgkdmnbcaa
