/- Texts of this claim, packed: contracts of functions and plain lemmas that the law is proved from. -/
import Derived.Deep.CutBlock
import Derived.Deep.DeepCutAuto
import Derived.Deep.LoopGhost
import Derived.Deep.RegionHeld3
import Derived.HandedShaped
import Derived.LaidMore
import Derived.LaidOnce
import Derived.Lib.FrozenHead2
import Derived.Lib.OthersKept
import Derived.OpenShut
import Derived.ProofKit
import Derived.Shelf.Vars
import Derived.Test.YtmcdnpooclelgaaDoorRows
import Derived.Test.YtmcdnpooclelgaaDoorQPrint1
import Derived.Test.YtmcdnpooclelgaaDoorQPrint2
import Derived.Test.YtmcdnpooclelgaaDoorQPrint3
import Derived.Test.YtmcdnpooclelgaaDoorQPrint4
import Derived.Test.YtmcdnpooclelgaaDoorQPrint5
set_option linter.unusedVariables false
set_option linter.unusedSimpArgs false
namespace Go.Proofs.YtmcdnpooclelgaaDoor.PAll
open Go.RowKit Go.Proofs.YtmcdnpooclelgaaDoorW.PrintWords
def LB (l : S155) : Prop := l.f0.size ≤ 9223372036854775807 ∧ l.f1.length ≤ 9223372036854775807 ∧ BS l.f1
def LBs (ls : List S155) : Prop := ls.length ≤ 9223372036854775807 ∧ ∀ l ∈ ls, LB l
def KB (b : S128) : Prop := b.f0.size ≤ 9223372036854775807 ∧ b.f1.size ≤ 9223372036854775807 ∧ LBs b.f2
def KBs (bs : List S128) : Prop := bs.length ≤ 9223372036854775807 ∧ ∀ b ∈ bs, KB b
theorem szStr_r (ws : List ByteArray) (left : Int) (hn : ws.length ≤ 9223372036854775807) (hb : BS ws) (h0 : 0 ≤ left) (h9 : left ≤ 1048576) :
    ∃ r : Int, Ev (fun k => laws_szStringS.f k ws left) r ∧ (0 ≤ r → r ≤ left ∧ (ws.length : Int) ≤ left ∧ ∀ s ∈ ws, (s.size : Int) ≤ left) := ⟨_, ev_szStringS ws left hn hb h0 h9, szL_le ws left⟩
theorem szLine_r (l : S155) (left : Int) (hb : LB l) (h0 : 0 ≤ left) (h9 : left ≤ 1048576) :
    ∃ r : Int, Ev (fun k => laws_szSheetLine.f k l.f0 l.f1 left) r ∧ (0 ≤ r → r ≤ left ∧ (l.f0.size : Int) ≤ left ∧ (l.f1.length : Int) ≤ left ∧ ∀ s ∈ l.f1, (s.size : Int) ≤ left) := by
  have e : wrap64 (left - (l.f0.size : Int)) = left - l.f0.size := by have := hb.1; exact w64 (by omega) (by omega)
  unfold laws_szSheetLine.f
  simp only [e]
  by_cases q : left - (l.f0.size : Int) < 0
  · simp only [if_pos q]
    exact ⟨-1, Ev.now _, fun h => by omega⟩
  · simp only [if_neg q]
    obtain ⟨r, hr, hle⟩ := szStr_r l.f1 (left - l.f0.size) hb.2.1 hb.2.2 (by omega) (by omega)
    by_cases q2 : r < 0
    · exact ⟨-1, Ev.bind hr (by simp only [if_pos q2]; exact Ev.now _), fun h => by omega⟩
    · obtain ⟨a1, a2, a3⟩ := hle (by omega)
      exact ⟨r, Ev.bind hr (by simp only [if_neg q2]; exact Ev.now _), fun _ => ⟨by omega, by omega, by omega, fun s hs => by have := a3 s hs; omega⟩⟩
def LF (l : S155) : Prop := l.f0.size ≤ 1048576 ∧ l.f1.length ≤ 1048576 ∧ ∀ s ∈ l.f1, s.size ≤ 1048576
def LFs (ls : List S155) : Prop := ls.length ≤ 1048576 ∧ ∀ l ∈ ls, LF l
theorem rdLl {ls : List S155} {i : Nat} (h : i < ls.length) : rd_T155 ls (i : Int) = ls[i] := by unfold rd_T155; rw [List.getD_eq_getElem?_getD, Int.toNat_natCast, List.getElem?_eq_getElem h]; rfl
theorem szLines_l0 (ls : List S155) (hb : LBs ls) : ∀ (d i : Nat) (left : Int), i + d = ls.length → 0 ≤ left → left ≤ 1048576 →
    ∃ r : Int, Ev (fun k => laws_szSheetLineS.l0 k ls left i) r ∧ (0 ≤ r → r ≤ left ∧ ∀ l ∈ ls.drop i, LF l)
  | 0, i, left, h, h0, h9 => ⟨left, Ev.unf (fun _ => some left) (fun k => by simp only [laws_szSheetLineS.l0]; rw [if_neg (by omega)]) (Ev.now _), fun _ => ⟨Int.le_refl _, by rw [List.drop_eq_nil_of_le (by omega)]; simp⟩⟩
  | d + 1, i, left, h, h0, h9 => by
    have hi : i < ls.length := by omega
    have hn := hb.1
    obtain ⟨r, hr, hle⟩ := szLine_r ls[i] left (hb.2 _ (List.getElem_mem hi)) h0 h9
    have st : ∀ R : Int, Ev (fun k => if r < 0 then some (-1) else laws_szSheetLineS.l0 k ls r ((i + 1 : Nat) : Int)) R → Ev (fun k => laws_szSheetLineS.l0 k ls left i) R := fun R hR => by
      refine Ev.unf (fun k => (laws_szSheetLine.f k ls[i].f0 ls[i].f1 left).bind fun t => if t < 0 then some (-1) else laws_szSheetLineS.l0 k ls t ((i + 1 : Nat) : Int)) (fun k => ?_) (Ev.bind hr hR)
      simp only [laws_szSheetLineS.l0]
      rw [if_pos (by omega), if_pos (by omega), rdLl hi, inc (by omega)]
    by_cases q : r < 0
    · exact ⟨-1, st _ (by simp only [if_pos q]; exact Ev.now _), fun h => by omega⟩
    · obtain ⟨a1, a2, a3, a4⟩ := hle (by omega)
      obtain ⟨R, hR, hRle⟩ := szLines_l0 ls hb d (i + 1) r (by omega) (by omega) (by omega)
      refine ⟨R, st _ (by simp only [if_neg q]; exact hR), fun h => ?_⟩
      obtain ⟨b1, b2⟩ := hRle h
      refine ⟨by omega, fun l hl => ?_⟩
      rw [List.drop_eq_getElem_cons hi] at hl
      rcases List.mem_cons.1 hl with rfl | hl
      · exact ⟨by omega, by omega, fun s hs => by have := a4 s hs; omega⟩
      · exact b2 l hl
theorem szLines_r (ls : List S155) (left : Int) (hb : LBs ls) (h0 : 0 ≤ left) (h9 : left ≤ 1048576) : ∃ r : Int, Ev (fun k => laws_szSheetLineS.f k ls left) r ∧ (0 ≤ r → r ≤ left ∧ LFs ls) := by
  have hn := hb.1
  have e : wrap64 (left - (ls.length : Int)) = left - ls.length := w64 (by omega) (by omega)
  unfold laws_szSheetLineS.f
  simp only [e]
  by_cases q : left - (ls.length : Int) < 0
  · simp only [if_pos q]; exact ⟨-1, Ev.now _, fun h => by omega⟩
  · simp only [if_neg q]
    obtain ⟨R, hR, hle⟩ := szLines_l0 ls hb ls.length 0 (left - ls.length) (by omega) (by omega) (by omega)
    exact ⟨R, hR, fun h => ⟨by have := (hle h).1; omega, by omega, (hle h).2⟩⟩
def KF (b : S128) : Prop := b.f0.size ≤ 1048576 ∧ b.f1.size ≤ 1048576 ∧ LFs b.f2
def KFs (bs : List S128) : Prop := bs.length ≤ 1048576 ∧ ∀ b ∈ bs, KF b
theorem rdBl {bs : List S128} {i : Nat} (h : i < bs.length) : rd_T128 bs (i : Int) = bs[i] := by unfold rd_T128; rw [List.getD_eq_getElem?_getD, Int.toNat_natCast, List.getElem?_eq_getElem h]; rfl
theorem szBlock_r (b : S128) (left : Int) (hb : KB b) (h0 : 0 ≤ left) (h9 : left ≤ 1048576) :
    ∃ r : Int, Ev (fun k => laws_szSheetBlock.f k b.f0 b.f1 b.f2 left) r ∧ (0 ≤ r → r ≤ left ∧ KF b) := by
  have e1 : wrap64 (left - (b.f0.size : Int)) = left - b.f0.size := by have := hb.1; exact w64 (by omega) (by omega)
  unfold laws_szSheetBlock.f
  simp only [e1]
  by_cases q : left - (b.f0.size : Int) < 0
  · simp only [if_pos q]
    exact ⟨-1, Ev.now _, fun h => by omega⟩
  · simp only [if_neg q]
    have e2 : wrap64 (left - (b.f0.size : Int) - (b.f1.size : Int)) = left - b.f0.size - b.f1.size := by have := hb.2.1; exact w64 (by omega) (by omega)
    simp only [e2]
    by_cases q1 : left - (b.f0.size : Int) - (b.f1.size : Int) < 0
    · simp only [if_pos q1]
      exact ⟨-1, Ev.now _, fun h => by omega⟩
    · simp only [if_neg q1]
      obtain ⟨r, hr, hle⟩ := szLines_r b.f2 (left - b.f0.size - b.f1.size) hb.2.2 (by omega) (by omega)
      by_cases q2 : r < 0
      · exact ⟨-1, Ev.bind hr (by simp only [if_pos q2]; exact Ev.now _), fun h => by omega⟩
      · obtain ⟨a1, a2⟩ := hle (by omega)
        exact ⟨r, Ev.bind hr (by simp only [if_neg q2]; exact Ev.now _), fun _ => ⟨by omega, by omega, by omega, a2⟩⟩
theorem szBlocks_l0 (bs : List S128) (hb : KBs bs) : ∀ (d i : Nat) (left : Int), i + d = bs.length → 0 ≤ left → left ≤ 1048576 →
    ∃ r : Int, Ev (fun k => laws_szSheetBlockS.l0 k bs left i) r ∧ (0 ≤ r → r ≤ left ∧ ∀ b ∈ bs.drop i, KF b)
  | 0, i, left, h, h0, h9 => ⟨left, Ev.unf (fun _ => some left) (fun k => by simp only [laws_szSheetBlockS.l0]; rw [if_neg (by omega)]) (Ev.now _), fun _ => ⟨Int.le_refl _, by rw [List.drop_eq_nil_of_le (by omega)]; simp⟩⟩
  | d + 1, i, left, h, h0, h9 => by
    have hi : i < bs.length := by omega
    have hn := hb.1
    obtain ⟨r, hr, hle⟩ := szBlock_r bs[i] left (hb.2 _ (List.getElem_mem hi)) h0 h9
    have st : ∀ R : Int, Ev (fun k => if r < 0 then some (-1) else laws_szSheetBlockS.l0 k bs r ((i + 1 : Nat) : Int)) R → Ev (fun k => laws_szSheetBlockS.l0 k bs left i) R := fun R hR => by
      refine Ev.unf (fun k => (laws_szSheetBlock.f k bs[i].f0 bs[i].f1 bs[i].f2 left).bind fun t => if t < 0 then some (-1) else laws_szSheetBlockS.l0 k bs t ((i + 1 : Nat) : Int)) (fun k => ?_) (Ev.bind hr hR)
      simp only [laws_szSheetBlockS.l0]
      rw [if_pos (by omega), if_pos (by omega), rdBl hi, inc (by omega)]
    by_cases q : r < 0
    · exact ⟨-1, st _ (by simp only [if_pos q]; exact Ev.now _), fun h => by omega⟩
    · obtain ⟨a1, a2⟩ := hle (by omega)
      obtain ⟨R, hR, hRle⟩ := szBlocks_l0 bs hb d (i + 1) r (by omega) (by omega) (by omega)
      refine ⟨R, st _ (by simp only [if_neg q]; exact hR), fun h => ?_⟩
      obtain ⟨b1, b2⟩ := hRle h
      refine ⟨by omega, fun l hl => ?_⟩
      rw [List.drop_eq_getElem_cons hi] at hl
      rcases List.mem_cons.1 hl with rfl | hl
      · exact a2
      · exact b2 l hl
theorem szSheet_r (bs : List S128) (left : Int) (hb : KBs bs) (h0 : 0 ≤ left) (h9 : left ≤ 1048576) : ∃ r : Int, Ev (fun k => laws_szSheet.f k bs left) r ∧ (0 ≤ r → r ≤ left ∧ KFs bs) := by
  have hn := hb.1
  have e : wrap64 (left - (bs.length : Int)) = left - bs.length := w64 (by omega) (by omega)
  have inner : ∃ r : Int, Ev (fun k => laws_szSheetBlockS.f k bs left) r ∧ (0 ≤ r → r ≤ left ∧ KFs bs) := by
    unfold laws_szSheetBlockS.f
    simp only [e]
    by_cases q : left - (bs.length : Int) < 0
    · simp only [if_pos q]; exact ⟨-1, Ev.now _, fun h => by omega⟩
    · simp only [if_neg q]
      obtain ⟨R, hR, hle⟩ := szBlocks_l0 bs hb bs.length 0 (left - bs.length) (by omega) (by omega) (by omega)
      exact ⟨R, hR, fun h => ⟨by have := (hle h).1; omega, by omega, (hle h).2⟩⟩
  obtain ⟨r, hr, hle⟩ := inner
  unfold laws_szSheet.f
  by_cases q2 : r < 0
  · exact ⟨-1, Ev.bind hr (by simp only [if_pos q2]; exact Ev.now _), fun h => by omega⟩
  · exact ⟨r, Ev.bind hr (by simp only [if_neg q2]; exact Ev.now _), fun h => hle h⟩
end Go.Proofs.YtmcdnpooclelgaaDoor.PAll

namespace Go.Proofs.YtmcdnpooclelgaaDoor.PAll
open Go.RowKit Go.Proofs.YtmcdnpooclelgaaDoorW.PrintWords
def cvL (l : S155) : S83 := ⟨l.f0, l.f1⟩
def cvB (b : S128) : S62 := ⟨b.f0, b.f1, b.f2.map cvL⟩
def cvBs (bs : List S128) : List S62 := bs.map cvB
def smallL (l : S83) : Prop := l.f0.size ≤ 1048576 ∧ l.f1.length ≤ 1048576 ∧ ∀ s ∈ l.f1, s.size ≤ 1048576
def smallLs (ls : List S83) : Prop := ls.length ≤ 1048576 ∧ ∀ l ∈ ls, smallL l
def smallB (b : S62) : Prop := b.f0.size ≤ 1048576 ∧ b.f1.size ≤ 1048576 ∧ smallLs b.f2
def smallBs (bs : List S62) : Prop := bs.length ≤ 1048576 ∧ ∀ b ∈ bs, smallB b
theorem small_cv (bs : List S128) (h : KFs bs) : smallBs (cvBs bs) := by
  refine ⟨by rw [cvBs, List.length_map]; exact h.1, fun b hb => ?_⟩
  obtain ⟨x, hx, rfl⟩ := List.mem_map.1 hb
  obtain ⟨h1, h2, h3⟩ := h.2 x hx
  refine ⟨h1, h2, by rw [show (cvB x).f2 = x.f2.map cvL from rfl, List.length_map]; exact h3.1, fun l hl => ?_⟩
  obtain ⟨y, hy, rfl⟩ := List.mem_map.1 hl
  exact h3.2 y hy
theorem fit_small (ls : List S83) (h : smallLs ls) : fitB ls := ⟨by have := h.1; omega, fun l hl => by
  obtain ⟨h1, h2, h3⟩ := h.2 l hl
  exact ⟨by omega, by omega, fun s hs => by have := h3 s hs; omega⟩⟩
theorem fits_small (bs : List S62) (h : smallBs bs) : fitBB bs := fun b hb => by
  obtain ⟨h1, h2, h3⟩ := h.2 b hb
  exact ⟨by omega, by omega, fit_small _ h3⟩
end Go.Proofs.YtmcdnpooclelgaaDoor.PAll

namespace Go.Proofs.YtmcdnpooclelgaaDoor.PAll
open Go.RowKit Go.Proofs.YtmcdnpooclelgaaDoorW.PrintWords
theorem LBs_of {w : World} {A : Option Addr} {ls : List S155} (h : Kd.C k155 w A ls.length ls) (hb : BLs ls) : LBs ls := by
  refine ⟨h.2.1, fun l hl => ?_⟩
  obtain ⟨i, hi, rfl⟩ := List.getElem_of_mem hl
  obtain ⟨ad, A1, c1, _, _, _, _, h5⟩ := at_T155 h (i : Int) (by omega) (by omega)
  rw [rdLl hi] at h5
  exact ⟨(hb _ hl).1, h5.2.1, (hb _ hl).2⟩
theorem KBs_of {w : World} {A : Option Addr} {bs : List S128} (h : Kd.C k128 w A bs.length bs) (hb : BBs bs) : KBs bs := by
  refine ⟨h.2.1, fun b hl => ?_⟩
  obtain ⟨i, hi, rfl⟩ := List.getElem_of_mem hl
  obtain ⟨ad, A2, c2, _, _, _, _, _, h5⟩ := at_T128 h (i : Int) (by omega) (by omega)
  rw [rdBl hi] at h5
  exact ⟨(hb _ hl).1, (hb _ hl).2.1, LBs_of h5 (hb _ hl).2.2⟩
end Go.Proofs.YtmcdnpooclelgaaDoor.PAll

namespace Go.Proofs.YtmcdnpooclelgaaDoor.PAll
open Go.RowKit Go.Proofs.YtmcdnpooclelgaaDoorW.PrintWords
theorem ones_cells {α : Type} {enc : α → Value} {h1 : ∀ x, (enc x).oneCell' = true} {w : World} {b : Nat} : ∀ (vss : List (List Value)) (xs : List α) (F : List Nat), Els (.one enc h1) w b vss xs F → vss = xs.map (fun x => [enc x]) ∧ F = []
  | [], [], F, h => ⟨rfl, h⟩
  | vs :: vss, x :: xs, F, h => by
    obtain ⟨G, H, rfl, ⟨h1, h2⟩, h3, _⟩ := h
    obtain ⟨h4, h5⟩ := ones_cells vss xs H h3
    exact ⟨by rw [h1, h4]; rfl, by rw [h2, h5]; rfl⟩
theorem ones_ER {α : Type} {enc : α → Value} {h1 : ∀ x, (enc x).oneCell' = true} {e : TypeId} {w : World} {b : Nat} {v : Value} {xs : List α} {F : List Nat} : (Sh.row (.one enc h1) e).ow w b [v] xs F ↔ ER enc w b e v xs ∧ F = v.ownBlock.toList := by
  constructor
  · rintro ⟨v', vss, Gs, hv, ho, he, rfl, _⟩
    injection hv with hv _
    subst hv
    obtain ⟨rfl, rfl⟩ := ones_cells _ _ _ he
    rw [ones_flat] at ho
    exact ⟨ho, by simp⟩
  · rintro ⟨ho, rfl⟩
    exact ⟨v, _, [], rfl, by rw [ones_flat]; exact ho, Els.ones enc h1 w b xs, by simp, by simp⟩
end Go.Proofs.YtmcdnpooclelgaaDoor.PAll

namespace Go.Proofs.YtmcdnpooclelgaaDoor.PAll
open Go.RowKit Go.Proofs.YtmcdnpooclelgaaDoorW.PrintWords
theorem strs_ER {w : World} {b : Nat} {v : Value} {xs : List ByteArray} {F : List Nat} : strsS.ow w b [v] xs F ↔ ER Value.string w b 9 v xs ∧ F = v.ownBlock.toList := ones_ER
theorem own_form {α : Type} {A : Sh α} {e : TypeId} {w : World} {b : Nat} {v : Value} {xs : List α} {F : List Nat} (h : (Sh.row A e).ow w b [v] xs F) : ∃ Ad c, v = .slice Ad xs.length c := by
  obtain ⟨Ad, c, hv, _⟩ := (Sh.row A e).ord h
  injection hv with hv _
  exact ⟨Ad, c, hv⟩
section
variable {w w' : World} {b : Nat} {v av dv : Value} {ys : List S36} {F : List Nat} {j g c : Nat} {s0 : ByteArray} {n0 : List Int} {m0 : Bool} {d0 : List ByteArray} {G : List Nat}
end
end Go.Proofs.YtmcdnpooclelgaaDoor.PAll

namespace Go.Proofs.YtmcdnpooclelgaaDoor.PAll
open Go.RowKit Go.Proofs.YtmcdnpooclelgaaDoorW.PrintWords
def lineS : Sh S83 := .iso (.pair strS strsS) (fun x : S83 => (x.f0, x.f1))
abbrev linesS : Sh (List S83) := .row lineS 83
def blockS : Sh S62 := .iso (.pair strS (.pair strS linesS)) (fun x : S62 => (x.f0, x.f1, x.f2))
abbrev blocksS : Sh (List S62) := .row blockS 62
theorem line_ow {w : World} {b : Nat} {key : ByteArray} {dv : Value} {ds : List ByteArray} {H : List Nat} (h : strsS.ow w b [dv] ds H) : lineS.ow w b [.string key, dv] ⟨key, ds⟩ H :=
  ⟨[.string key], [dv], [], H, rfl, rfl, ⟨rfl, rfl⟩, h, by simp⟩
theorem block_ow {w : World} {b : Nat} {kind name : ByteArray} {lv : Value} {ls : List S83} {H : List Nat} (h : linesS.ow w b [lv] ls H) : blockS.ow w b [.string kind, .string name, lv] ⟨kind, name, ls⟩ H :=
  ⟨[.string kind], [.string name, lv], [], H, rfl, rfl, ⟨rfl, rfl⟩, ⟨[.string name], [lv], [], H, rfl, rfl, ⟨rfl, rfl⟩, h, by simp⟩, by simp⟩
section
variable {w w' : World} {b : Nat} {v dv lv : Value} {ys : List S83} {bs : List S62} {F : List Nat} {j g c : Nat} {s0 s1 : ByteArray} {d0 : List ByteArray} {l0 : List S83} {G : List Nat}
end
end Go.Proofs.YtmcdnpooclelgaaDoor.PAll

namespace Go.Proofs.YtmcdnpooclelgaaDoor
open Go.RowKit Go.Proofs.YtmcdnpooclelgaaDoorW.PrintWords
theorem Els.split {α : Type} {A : Sh α} {w : World} {b : Nat} : ∀ (vss : List (List Value)) (xs : List α) (F : List Nat), Els A w b vss xs F → ∀ (j : Nat) (x : α), xs[j]? = some x → ∃ us F1 G F2, F = F1 ++ (G ++ F2) ∧ Els A w b (vss.take j) (xs.take j) F1 ∧ A.ow w b us x G ∧ Els A w b (vss.drop (j + 1)) (xs.drop (j + 1)) F2 ∧ vss = vss.take j ++ us :: vss.drop (j + 1)
  | [], [], F, h, j, x, hj => by simp at hj
  | vs :: vss, y :: xs, F, h, j, x, hj => by
    obtain ⟨G, H, rfl, h1, h2, h3⟩ := h
    cases j with
    | zero =>
      simp only [List.getElem?_cons_zero, Option.some.injEq] at hj
      subst hj
      exact ⟨vs, [], G, H, rfl, rfl, h1, h2, rfl⟩
    | succ j =>
      rw [List.getElem?_cons_succ] at hj
      obtain ⟨us, F1, G', F2, rfl, e1, e2, e3, e4⟩ := Els.split vss xs H h2 j x hj
      refine ⟨us, G ++ F1, G', F2, by simp, ?_, e2, e3, ?_⟩
      · exact ⟨G, F1, rfl, h1, e1, fun g hg hg' => h3 g hg (List.mem_append_left _ hg')⟩
      · rw [List.take_succ_cons, List.drop_succ_cons, List.cons_append, ← e4]
theorem Els.nodup {α : Type} {A : Sh α} {w : World} {b : Nat} {vss : List (List Value)} {xs : List α} {F : List Nat} (h : Els A w b vss xs F) : F.Nodup := (Els.mem _ _ _ h).2.1
theorem Els.lenv {α : Type} {A : Sh α} {w : World} {b : Nat} {vss : List (List Value)} {xs : List α} {F : List Nat} (h : Els A w b vss xs F) : vss.length = xs.length := (Els.mem _ _ _ h).2.2.1
def Foc {α : Type} (A : Sh α) (e : TypeId) (w : World) (b : Nat) (v : Value) (xs1 : List α) (x : α) (xs2 : List α) (g c : Nat) (us : List Value) (F1 G F2 : List Nat) : Prop :=
  ∃ (vs1 vs2 : List (List Value)), v = .slice (some ⟨g, 0, none⟩) (xs1 ++ x :: xs2).length c ∧ w.ownsRow b e A.k v (xs1 ++ x :: xs2).length (vs1 ++ us :: vs2).flatten ∧ Els A w b vs1 xs1 F1 ∧ A.ow w b us x G ∧ Els A w b vs2 xs2 F2 ∧ (g :: (F1 ++ (G ++ F2))).Nodup
section
variable {α : Type} {A : Sh α} {e : TypeId} {w w' : World} {b : Nat} {v : Value} {xs xs1 xs2 : List α} {F F1 F2 : List Nat} {j g c : Nat} {us : List Value} {x x' : α} {G G' : List Nat}
theorem Foc.of (h : (Sh.row A e).ow w b [v] xs F) (hj : xs[j]? = some x) : ∃ g c us F1 G F2, F = g :: (F1 ++ (G ++ F2)) ∧ Foc A e w b v (xs.take j) x (xs.drop (j + 1)) g c us F1 G F2 := by
  have hnd := (Sh.row A e).ond h
  obtain ⟨v', vss, Gs, hv, h1, h2, rfl, h3⟩ := h
  injection hv with hv _
  subst hv
  have hjl := (List.getElem?_eq_some_iff.1 hj).1
  have hx : xs = xs.take j ++ x :: xs.drop (j + 1) := by
    have : xs.drop j = x :: xs.drop (j + 1) := by rw [List.drop_eq_getElem_cons hjl]; congr 1; exact (List.getElem?_eq_some_iff.1 hj).2
    rw [← this, List.take_append_drop]
  rcases ownSl h1 with ⟨rfl, hn⟩ | ⟨g, c, rfl⟩
  · omega
  · obtain ⟨us, F1, G, F2, rfl, e1, e2, e3, e4⟩ := Els.split _ _ _ h2 j x hj
    refine ⟨g, c, us, F1, G, F2, by simp [Value.ownBlock], vss.take j, vss.drop (j + 1), by rw [← hx], ?_, e1, e2, e3, by simpa [Value.ownBlock] using hnd⟩
    rw [← hx, ← e4]
    exact h1
theorem Foc.row (h : Foc A e w b v xs1 x xs2 g c us F1 G F2) : (Sh.row A e).ow w b [v] (xs1 ++ x :: xs2) (g :: (F1 ++ (G ++ F2))) := by
  obtain ⟨vs1, vs2, rfl, h1, h2, h3, h4, h5⟩ := h
  have hn := List.nodup_cons.1 h5
  have hn2 := List.nodup_append.1 hn.2
  have hn3 := List.nodup_append.1 hn2.2.1
  refine ⟨_, vs1 ++ us :: vs2, F1 ++ (G ++ F2), rfl, h1, ?_, by simp [Value.ownBlock], fun y hy => by simp [Value.ownBlock] at hy; subst hy; exact hn.1⟩
  exact Els.append _ _ _ h2 ⟨G, F2, rfl, h3, h4, fun y hy hy' => hn3.2.2 y hy y hy' rfl⟩ (fun y hy hy' => hn2.2.2 y hy y hy' rfl)
theorem Foc.ow (h : Foc A e w b v xs1 x xs2 g c us F1 G F2) : A.ow w b us x G := by
  obtain ⟨vs1, vs2, _, _, _, h3, _⟩ := h
  exact h3
theorem Foc.nodup (h : Foc A e w b v xs1 x xs2 g c us F1 G F2) : (g :: (F1 ++ (G ++ F2))).Nodup := by
  obtain ⟨vs1, vs2, _, _, _, _, _, h5⟩ := h
  exact h5
theorem Foc.val (h : Foc A e w b v xs1 x xs2 g c us F1 G F2) : v = .slice (some ⟨g, 0, none⟩) (xs1 ++ x :: xs2).length c := by
  obtain ⟨vs1, vs2, h, _⟩ := h
  exact h
theorem Foc.lt (h : Foc A e w b v xs1 x xs2 g c us F1 G F2) : b ≤ g ∧ g < w.heap.size := by
  obtain ⟨vs1, vs2, rfl, h1, _⟩ := h
  exact ⟨own_base h1 g rfl, own_lt h1 g rfl⟩
theorem Foc.in (h : Foc A e w b v xs1 x xs2 g c us F1 G F2) : ∀ y ∈ g :: (F1 ++ (G ++ F2)), b ≤ y ∧ y < w.heap.size := fun y hy => (Sh.row A e).oin h.row y hy
theorem Foc.cell (h : Foc A e w b v xs1 x xs2 g c us F1 G F2) (i : Nat) (hi : i < A.k) : w.cell? ⟨g, xs1.length * A.k + i, none⟩ = us[i]? := by
  obtain ⟨vs1, vs2, rfl, h1, h2, h3, h4, _⟩ := h
  have hl1 := h2.lenv
  have hv : (vs1 ++ us :: vs2)[xs1.length]? = some us := by rw [List.getElem?_append_right (by omega), hl1, Nat.sub_self]; rfl
  have hls : ∀ vs ∈ vs1 ++ us :: vs2, vs.length = A.k := by
    intro vs hvs
    rcases List.mem_append.1 hvs with hvs | hvs
    · exact Els.lens _ _ _ h2 vs hvs
    · rcases List.mem_cons.1 hvs with rfl | hvs
      · exact A.olen h3
      · exact Els.lens _ _ _ h4 vs hvs
  have hb : xs1.length * A.k + i < (xs1 ++ x :: xs2).length * A.k := by
    have : (xs1.length + 1) * A.k ≤ (xs1 ++ x :: xs2).length * A.k := Nat.mul_le_mul_right _ (by simp)
    rw [Nat.add_mul] at this
    omega
  rw [World.ownsRow.cellAt h1 (xs1.length * A.k + i) hb, flat_at _ xs1.length us hls hv i hi]
theorem Foc.below (h : Foc A e w b v xs1 x xs2 g c us F1 G F2) (hb : Below w.heap.size w w') : Foc A e w' b v xs1 x xs2 g c us F1 G F2 := by
  obtain ⟨vs1, vs2, h0, h1, h2, h3, h4, h5⟩ := h
  exact ⟨vs1, vs2, h0, own_move h1 (fun k hk => hb.block k (own_lt h1 k hk)), h2.below hb, A.obelow h3 hb, h4.below hb, h5⟩
theorem Foc.set (h : Foc A e w b v xs1 x xs2 g c us F1 G F2) (i : Nat) (u : Value) (hi : i < A.k) (ho : A.ow w b (us.set i u) x' G') (hn : (g :: (F1 ++ (G' ++ F2))).Nodup) : Foc A e (w.setCell ⟨g, xs1.length * A.k + i, none⟩ u) b v xs1 x' xs2 g c (us.set i u) F1 G' F2 := by
  obtain ⟨vs1, vs2, rfl, h1, h2, h3, h4, _⟩ := h
  have hfar : ∀ y, y ≠ g → (w.setCell ⟨g, xs1.length * A.k + i, none⟩ u).heap[y]? = w.heap[y]? := fun y hy => Below.heap_setCell w ⟨g, xs1.length * A.k + i, none⟩ u y hy
  have hng := (List.nodup_cons.1 hn).1
  have hl1 := h2.lenv
  have hv : (vs1 ++ us :: vs2)[xs1.length]? = some us := by rw [List.getElem?_append_right (by omega), hl1, Nat.sub_self]; rfl
  have hls : ∀ vs ∈ vs1 ++ us :: vs2, vs.length = A.k := by
    intro vs hvs
    rcases List.mem_append.1 hvs with hvs | hvs
    · exact Els.lens _ _ _ h2 vs hvs
    · rcases List.mem_cons.1 hvs with rfl | hvs
      · exact A.olen h3
      · exact Els.lens _ _ _ h4 vs hvs
  have hset : vs1 ++ (us.set i u) :: vs2 = (vs1 ++ us :: vs2).set xs1.length (us.set i u) := by rw [List.set_append_right _ _ (by omega), hl1, Nat.sub_self, List.set_cons_zero]
  have hlen : (xs1 ++ x' :: xs2).length = (xs1 ++ x :: xs2).length := by simp
  refine ⟨vs1, vs2, by rw [hlen], ?_, h2.frame fun y hy => hfar y (fun e => hng (e ▸ List.mem_append_left _ hy)), A.oframe ho fun y hy => hfar y (fun e => hng (e ▸ List.mem_append_right _ (List.mem_append_left _ hy))), h4.frame fun y hy => hfar y (fun e => hng (e ▸ List.mem_append_right _ (List.mem_append_right _ hy))), hn⟩
  rw [hlen, hset, flat_set _ xs1.length us hls hv i u hi]
  exact (World.ownsRow.stored h1 (xs1.length * A.k + i) u).1
end
structure Part (α : Type) where
  us : List Value
  x : α
  G : List Nat
def Parts {α : Type} (A : Sh α) (w : World) (b : Nat) (T : List (Part α)) : Prop := (∀ t ∈ T, A.ow w b t.us t.x t.G) ∧ (T.flatMap Part.G).Nodup
theorem Els.parts {α : Type} {A : Sh α} {w : World} {b : Nat} : ∀ (vss : List (List Value)) (xs : List α) (F : List Nat), Els A w b vss xs F → ∃ T : List (Part α), vss = T.map Part.us ∧ xs = T.map Part.x ∧ F = T.flatMap Part.G ∧ Parts A w b T
  | [], [], F, h => by
    have h : F = [] := h
    subst h
    exact ⟨[], rfl, rfl, rfl, by simp, by simp⟩
  | vs :: vss, x :: xs, F, h => by
    have hnd := h.nodup
    obtain ⟨G, H, rfl, h1, h2, h3⟩ := h
    obtain ⟨T, rfl, rfl, rfl, h4, _⟩ := Els.parts vss xs H h2
    refine ⟨⟨vs, x, G⟩ :: T, rfl, rfl, rfl, fun t ht => ?_, hnd⟩
    rcases List.mem_cons.1 ht with rfl | ht
    · exact h1
    · exact h4 t ht
theorem own_at {W : World} {b e k n : Nat} {v v1 : Value} {cs : List Value} (hr : W.ownsRow b e k v n cs) (hb : b ≤ W.heap.size) (hat : v1.ownBlock = v.ownBlock ∨ ∃ k, v1.ownBlock = some k ∧ W.heap.size ≤ k) (g : Nat) (hg : v1.ownBlock = some g) : b ≤ g := by
  rcases hat with hat | ⟨k, hat, hk⟩
  · exact own_base hr g (by rw [← hat, hg])
  · rw [hg] at hat
    injection hat with hat
    omega
section
variable {P : Program} {ops : Array Oper} {rest : List Oper} {o : Oper} {a : Act} {Q : Exit → Act → World → Prop} {K : Act → World → Prop} {α : Type} {A : Sh α}
theorem row_grown {e : TypeId} {W w1 : World} {b : Nat} {v v1 : Value} {xs : List α} {F G : List Nat} {us : List Value} {x : α} {vss : List (List Value)} {Gs : List Nat}
    (h2 : Els A W b vss xs Gs) (hF : F = v.ownBlock.toList ++ Gs) (h3 : ∀ g ∈ v.ownBlock.toList, g ∉ Gs) (hx : A.ow W b us x G) (hd : ∀ g ∈ G, g ∉ F)
    (hown : w1.ownsRow b e A.k v1 (xs.length + 1) (vss.flatten ++ us)) (hg : W.grownBy w1 v.ownBlock) (hat : v1.ownBlock = v.ownBlock ∨ ∃ k, v1.ownBlock = some k ∧ W.heap.size ≤ k) :
    ∃ F1, (Sh.row A e).ow w1 b [v1] (xs ++ [x]) F1 ∧ (∀ g ∈ F1, g ∈ F ∨ g ∈ G ∨ W.heap.size ≤ g) ∧ (∀ g ∈ F, g ∉ F1 → v.ownBlock = some g) := by
  subst hF
  have hk : ∀ y, y ∈ Gs ∨ y ∈ G → w1.heap[y]? = W.heap[y]? := by
    intro y hy
    refine hg.block y ?_ ?_
    · rcases hy with hy | hy
      · exact ((Els.mem _ _ _ h2).1 y hy).2
      · exact (A.oin hx y hy).2
    · intro he
      rcases hy with hy | hy
      · exact h3 y (by rw [← he]; simp) hy
      · exact hd y hy (List.mem_append_left _ (by rw [← he]; simp))
  have hE : Els A w1 b (vss ++ [us]) (xs ++ [x]) (Gs ++ G) :=
    Els.append _ _ _ (h2.frame fun y hy => hk y (.inl hy)) ⟨G, [], by simp, A.oframe hx fun y hy => hk y (.inr hy), rfl, by simp⟩ (fun y hy hy' => hd y hy' (List.mem_append_right _ hy))
  refine ⟨v1.ownBlock.toList ++ (Gs ++ G), ⟨v1, vss ++ [us], Gs ++ G, rfl, by simpa using hown, hE, rfl, fun y hy hy' => ?_⟩, fun y hy => ?_, fun y hy hn => ?_⟩
  · have hy : v1.ownBlock = some y := by simpa using hy
    rcases hat with hat | ⟨k, hat, hk'⟩
    · have hv : v.ownBlock = some y := by rw [← hat, hy]
      rcases List.mem_append.1 hy' with hy' | hy'
      · exact h3 y (by rw [hv]; simp) hy'
      · exact hd y hy' (List.mem_append_left _ (by rw [hv]; simp))
    · rw [hy] at hat
      injection hat with hat
      subst hat
      rcases List.mem_append.1 hy' with hy' | hy'
      · have := ((Els.mem _ _ _ h2).1 y hy').2; omega
      · have := (A.oin hx y hy').2; omega
  · rcases List.mem_append.1 hy with hy | hy
    · have hy : v1.ownBlock = some y := by simpa using hy
      rcases hat with hat | ⟨k, hat, hk'⟩
      · exact .inl (List.mem_append_left _ (by rw [← hat, hy]; simp))
      · rw [hy] at hat
        injection hat with hat
        subst hat
        exact .inr (.inr hk')
    · rcases List.mem_append.1 hy with hy | hy
      · exact .inl (List.mem_append_right _ hy)
      · exact .inr (.inl hy)
  · rcases List.mem_append.1 hy with hy | hy
    · simpa using hy
    · exact absurd (List.mem_append_right _ (List.mem_append_left _ hy)) hn
theorem Sh.app {w0 W : World} {base b : Nat} {e : TypeId} {v : Value} {xs : List α} {F G : List Nat} {us : List Value} {x : α} (z : Value) (bytes : Nat) (s y : Operand) (t : TypeId)
    (HO : (Sh.row A e).ow W b [v] xs F) (hx : A.ow W b us x G) (hd : ∀ g ∈ G, g ∉ F) (HB : Below base w0 W) (hbb : base ≤ b) (hl : (xs.length + 1) * bytes ≤ 140737488355328)
    (hgd : o.guard = none)
    (ho : o.op = .call { callee := .builtin .append, args := #[s, y], argTypes := #[t, t] })
    (ht : P.underlying t = some (.slice e)) (hinfo : (P.info? e).map (fun i => (i.zero, i.size, i.bytes)) = some (some z, A.k, bytes)) (hz : z.cells.size = A.k) (hk0 : 0 < A.k) (hb0 : 0 < bytes)
    (hbase : b ≤ W.heap.size) (hs : a.eval s = v) (hy : a.eval y = .slice (some ⟨W.heap.size, 0, none⟩) 1 1) (h1 : ∀ u ∈ us, u.oneCell' = true)
    (h : ∀ v1 w1 F1, Aside0 ((Sh.row A e).ow w1 b [v1] (xs ++ [x]) F1) → Aside0 (Below base w0 w1) → Aside0 (∀ g ∈ F1, g ∈ F ∨ g ∈ G ∨ W.heap.size ≤ g) → Aside0 (W.grownBy w1 v.ownBlock) → wpList P ops Q rest (a.put o.dst v1) w1) :
    wpList P ops Q (o :: rest) a (W.alloc (.cells us.toArray e)) := by
  obtain ⟨v', vss, Gs, hv, hr, h2, hF, h3⟩ := HO
  injection hv with hv _
  subst hv
  refine ap_lit (w0 := w0) base hgd s y t e z A.k bytes ho ht hinfo hz hk0 hb0 v xs.length 1 vss.flatten us hs hy (by rw [A.olen hx, Nat.one_mul]) h1 (own_weaken hr hbb) HB (by omega) hl ?_
  intro v1 w1 q1 q2 q3 q4
  obtain ⟨F1, r1, r2, _⟩ := row_grown h2 hF h3 hx hd (own_raise q1 fun g hg => own_at hr hbase q4 g (by simpa using hg)) q3 q4
  exact h v1 w1 F1 ⟨r1⟩ ⟨q2⟩ ⟨r2⟩ ⟨q3⟩
theorem Sh.app_step {w0 W : World} {base b : Nat} {e : TypeId} {v : Value} {xs : List α} {F G : List Nat} {us : List Value} {x : α} (z : Value) (bytes : Nat) (s y : Operand) (t : TypeId)
    (HO : (Sh.row A e).ow W b [v] xs F) (hx : A.ow W b us x G) (hd : ∀ g ∈ G, g ∉ F) (HB : Below base w0 W) (hbb : base ≤ b) (hl : (xs.length + 1) * bytes ≤ 140737488355328)
    (hw : Region.wanted o (yielded ops a.tmps) = true)
    (ho : o.op = .call { callee := .builtin .append, args := #[s, y], argTypes := #[t, t] })
    (ht : P.underlying t = some (.slice e)) (hinfo : (P.info? e).map (fun i => (i.zero, i.size, i.bytes)) = some (some z, A.k, bytes)) (hz : z.cells.size = A.k) (hk0 : 0 < A.k) (hb0 : 0 < bytes)
    (hbase : b ≤ W.heap.size) (hs : a.eval s = v) (hy : a.eval y = .slice (some ⟨W.heap.size, 0, none⟩) 1 1) (h1 : ∀ u ∈ us, u.oneCell' = true)
    (h : ∀ v1 w1 F1, Aside0 ((Sh.row A e).ow w1 b [v1] (xs ++ [x]) F1) → Aside0 (Below base w0 w1) → Aside0 (∀ g ∈ F1, g ∈ F ∨ g ∈ G ∨ W.heap.size ≤ g) → Aside0 (W.grownBy w1 v.ownBlock) → K (a.put o.dst v1) w1) :
    if Region.wanted o (yielded ops a.tmps) = true then Oper.wp P o a (W.alloc (.cells us.toArray e)) K Q else K (a.put o.dst undef) (W.alloc (.cells us.toArray e)) := by
  obtain ⟨v', vss, Gs, hv, hr, h2, hF, h3⟩ := HO
  injection hv with hv _
  subst hv
  refine ap_lit_step (w0 := w0) base hw s y t e z A.k bytes ho ht hinfo hz hk0 hb0 v xs.length 1 vss.flatten us hs hy (by rw [A.olen hx, Nat.one_mul]) h1 (own_weaken hr hbb) HB (by omega) hl ?_
  intro v1 w1 q1 q2 q3 q4
  obtain ⟨F1, r1, r2, _⟩ := row_grown h2 hF h3 hx hd (own_raise q1 fun g hg => own_at hr hbase q4 g (by simpa using hg)) q3 q4
  exact h v1 w1 F1 ⟨r1⟩ ⟨q2⟩ ⟨r2⟩ ⟨q3⟩
end
end Go.Proofs.YtmcdnpooclelgaaDoor

namespace Go.Proofs.YtmcdnpooclelgaaDoor.PAll
open Go.RowKit Go.Proofs.YtmcdnpooclelgaaDoorW.PrintWords
def Half {α : Type} (A : Sh α) (e : TypeId) (z : List Value) (w : World) (b : Nat) (v : Value) (n : Nat) (xs : List α) (Gs : List Nat) : Prop :=
  ∃ vss : List (List Value), xs.length ≤ n ∧ w.ownsRow b e A.k v n (vss.flatten ++ (List.replicate (n - xs.length) z).flatten) ∧ Els A w b vss xs Gs ∧ ∀ g ∈ v.ownBlock.toList, g ∉ Gs
theorem Half.done {α : Type} {A : Sh α} {e : TypeId} {z : List Value} {w : World} {b : Nat} {v : Value} {xs : List α} {Gs : List Nat} (h : Half A e z w b v xs.length xs Gs) : (Sh.row A e).ow w b [v] xs (v.ownBlock.toList ++ Gs) := by
  obtain ⟨vss, _, h1, h2, h3⟩ := h
  rw [Nat.sub_self] at h1
  exact ⟨v, vss, Gs, rfl, by simpa using h1, h2, rfl, h3⟩
theorem Half.below {α : Type} {A : Sh α} {e : TypeId} {z : List Value} {w w' : World} {b n : Nat} {v : Value} {xs : List α} {Gs : List Nat} (h : Half A e z w b v n xs Gs) (hb : Below w.heap.size w w') : Half A e z w' b v n xs Gs := by
  obtain ⟨vss, h0, h1, h2, h3⟩ := h
  exact ⟨vss, h0, own_move h1 (fun k hk => hb.block k (own_lt h1 k hk)), h2.below hb, h3⟩
theorem Half.cell {α : Type} {A : Sh α} {e : TypeId} {z : List Value} {w : World} {b g c n : Nat} {xs : List α} {Gs : List Nat} (h : Half A e z w b (.slice (some ⟨g, 0, none⟩) n c) n xs Gs) (hz : z.length = A.k) (hlt : xs.length < n) (i : Nat) (hi : i < A.k) : w.cell? ⟨g, xs.length * A.k + i, none⟩ = z[i]? ∧ w.frozen? ⟨g, xs.length * A.k + i, none⟩ = false := by
  obtain ⟨vss, h0, h1, h2, h3⟩ := h
  have hf : vss.flatten.length = xs.length * A.k := (Els.mem _ _ _ h2).2.2.2
  have hb : xs.length * A.k + i < n * A.k := by
    have : (xs.length + 1) * A.k ≤ n * A.k := Nat.mul_le_mul_right _ hlt
    rw [Nat.add_mul] at this
    omega
  refine ⟨?_, World.ownsRow.frozenAt h1 _⟩
  rw [World.ownsRow.cellAt h1 (xs.length * A.k + i) hb, List.getElem?_append_right (by omega), hf, Nat.add_sub_cancel_left]
  obtain ⟨m, hm⟩ : ∃ m, n - xs.length = m + 1 := ⟨n - xs.length - 1, by omega⟩
  rw [hm, List.replicate_succ, List.flatten_cons, List.getElem?_append_left (by omega)]
theorem set2 {P R : List Value} {z0 z1 u0 u1 : Value} : ((P ++ (z0 :: z1 :: R)).set P.length u0).set (P.length + 1) u1 = P ++ (u0 :: u1 :: R) := by
  rw [List.set_append_right _ _ (Nat.le_refl _), Nat.sub_self, List.set_cons_zero, List.set_append_right _ _ (by omega), Nat.add_sub_cancel_left, List.set_cons_succ, List.set_cons_zero]
theorem set3 {P R : List Value} {z0 z1 z2 u0 u1 u2 : Value} : (((P ++ (z0 :: z1 :: z2 :: R)).set P.length u0).set (P.length + 1) u1).set (P.length + 2) u2 = P ++ (u0 :: u1 :: u2 :: R) := by
  rw [List.set_append_right _ _ (Nat.le_refl _), Nat.sub_self, List.set_cons_zero, List.set_append_right _ _ (by omega), Nat.add_sub_cancel_left, List.set_cons_succ, List.set_cons_zero, List.set_append_right _ _ (by omega), Nat.add_sub_cancel_left, List.set_cons_succ, List.set_cons_succ, List.set_cons_zero]
section
variable {α : Type} {A : Sh α} {e : TypeId} {w : World} {b g c n : Nat} {xs : List α} {Gs G : List Nat} {x : α} {z0 z1 z2 u0 u1 u2 : Value}
theorem Half.step2 (h : Half A e [z0, z1] w b (.slice (some ⟨g, 0, none⟩) n c) n xs Gs) (hk : A.k = 2) (hlt : xs.length < n) (hx : A.ow w b [u0, u1] x G) (hd : ∀ y ∈ G, y ≠ g ∧ y ∉ Gs) :
    Half A e [z0, z1] ((w.setCell ⟨g, xs.length * 2, none⟩ u0).setCell ⟨g, xs.length * 2 + 1, none⟩ u1) b (.slice (some ⟨g, 0, none⟩) n c) n (xs ++ [x]) (Gs ++ G) := by
  obtain ⟨vss, h0, h1, h2, h3⟩ := h
  have hf : vss.flatten.length = xs.length * 2 := by rw [(Els.mem _ _ _ h2).2.2.2, hk]
  have hfar : ∀ y, y ≠ g → ((w.setCell ⟨g, xs.length * 2, none⟩ u0).setCell ⟨g, xs.length * 2 + 1, none⟩ u1).heap[y]? = w.heap[y]? := fun y hy => (Below.heap_setCell _ ⟨g, xs.length * 2 + 1, none⟩ u1 y hy).trans (Below.heap_setCell w ⟨g, xs.length * 2, none⟩ u0 y hy)
  obtain ⟨m, hm⟩ : ∃ m, n - xs.length = m + 1 := ⟨n - xs.length - 1, by omega⟩
  have hgs : g ∉ Gs := h3 g (by simp [Value.ownBlock])
  refine ⟨vss ++ [[u0, u1]], by simp; omega, ?_, ?_, fun y hy hy' => ?_⟩
  · have h4 := (World.ownsRow.stored (World.ownsRow.stored h1 (xs.length * 2) u0).1 (xs.length * 2 + 1) u1).1
    rw [hm, List.replicate_succ, List.flatten_cons] at h4
    rw [← hf] at h4 ⊢
    rw [show ([z0, z1] ++ (List.replicate m [z0, z1]).flatten) = z0 :: z1 :: (List.replicate m [z0, z1]).flatten from rfl, set2] at h4
    rw [show n - (xs ++ [x]).length = m by simp; omega]
    simpa using h4
  · exact Els.append _ _ _ (h2.frame fun y hy => hfar y (fun e => hgs (e ▸ hy))) ⟨G, [], by simp, A.oframe hx (fun y hy => hfar y (hd y hy).1), rfl, by simp⟩ (fun y hy hy' => (hd y hy').2 hy)
  · rcases List.mem_append.1 hy' with hy' | hy'
    · exact h3 y hy hy'
    · simp [Value.ownBlock] at hy; exact (hd y hy').1 hy
theorem Half.step3 (h : Half A e [z0, z1, z2] w b (.slice (some ⟨g, 0, none⟩) n c) n xs Gs) (hk : A.k = 3) (hlt : xs.length < n) (hx : A.ow w b [u0, u1, u2] x G) (hd : ∀ y ∈ G, y ≠ g ∧ y ∉ Gs) :
    Half A e [z0, z1, z2] (((w.setCell ⟨g, xs.length * 3, none⟩ u0).setCell ⟨g, xs.length * 3 + 1, none⟩ u1).setCell ⟨g, xs.length * 3 + 2, none⟩ u2) b (.slice (some ⟨g, 0, none⟩) n c) n (xs ++ [x]) (Gs ++ G) := by
  obtain ⟨vss, h0, h1, h2, h3⟩ := h
  have hf : vss.flatten.length = xs.length * 3 := by rw [(Els.mem _ _ _ h2).2.2.2, hk]
  have hfar : ∀ y, y ≠ g → (((w.setCell ⟨g, xs.length * 3, none⟩ u0).setCell ⟨g, xs.length * 3 + 1, none⟩ u1).setCell ⟨g, xs.length * 3 + 2, none⟩ u2).heap[y]? = w.heap[y]? := fun y hy => (Below.heap_setCell _ ⟨g, xs.length * 3 + 2, none⟩ u2 y hy).trans ((Below.heap_setCell _ ⟨g, xs.length * 3 + 1, none⟩ u1 y hy).trans (Below.heap_setCell w ⟨g, xs.length * 3, none⟩ u0 y hy))
  obtain ⟨m, hm⟩ : ∃ m, n - xs.length = m + 1 := ⟨n - xs.length - 1, by omega⟩
  have hgs : g ∉ Gs := h3 g (by simp [Value.ownBlock])
  refine ⟨vss ++ [[u0, u1, u2]], by simp; omega, ?_, ?_, fun y hy hy' => ?_⟩
  · have h4 := (World.ownsRow.stored (World.ownsRow.stored (World.ownsRow.stored h1 (xs.length * 3) u0).1 (xs.length * 3 + 1) u1).1 (xs.length * 3 + 2) u2).1
    rw [hm, List.replicate_succ, List.flatten_cons] at h4
    rw [← hf] at h4 ⊢
    rw [show ([z0, z1, z2] ++ (List.replicate m [z0, z1, z2]).flatten) = z0 :: z1 :: z2 :: (List.replicate m [z0, z1, z2]).flatten from rfl, set3] at h4
    rw [show n - (xs ++ [x]).length = m by simp; omega]
    simpa using h4
  · exact Els.append _ _ _ (h2.frame fun y hy => hfar y (fun e => hgs (e ▸ hy))) ⟨G, [], by simp, A.oframe hx (fun y hy => hfar y (hd y hy).1), rfl, by simp⟩ (fun y hy hy' => (hd y hy').2 hy)
  · rcases List.mem_append.1 hy' with hy' | hy'
    · exact h3 y hy hy'
    · simp [Value.ownBlock] at hy; exact (hd y hy').1 hy
end
theorem made_flat (z : Array Value) (n : Nat) (hk : 0 < z.size) : (madeCells z (n * z.size)).toList = (List.replicate n z.toList).flatten := by
  apply List.ext_getElem?
  intro m
  by_cases hm : m < n * z.size
  · have e : m = (m / z.size) * z.size + m % z.size := (Nat.div_add_mod' m z.size).symm
    have hd : m / z.size < n := Nat.div_lt_of_lt_mul (by rw [Nat.mul_comm]; exact hm)
    have h2 := flat_at (k := z.size) (List.replicate n z.toList) (m / z.size) z.toList (by intro vs hvs; rw [List.eq_of_mem_replicate hvs]; simp) (by rw [List.getElem?_replicate, if_pos hd]) (m % z.size) (Nat.mod_lt _ hk)
    rw [← e] at h2
    rw [h2]
    have h3 := Nat.mod_lt m hk
    unfold madeCells
    simp [hm, h3]
  · rw [List.getElem?_eq_none (by rw [Array.length_toList, size_madeCells]; omega), List.getElem?_eq_none (by simp; omega)]
theorem toStrs_any (ss : List ByteArray) (hn : ss.length ≤ 1048576) (A : Option Addr) (c : Nat) (w : World) (hr : Kd.C Kd.string w A ss.length ss) (hc : ss.length ≤ c) :
    Calls Tryd.prog 20 #[.slice A ss.length c] w fun e w' => ∃ v G, e = .returned v ∧ strsS.ow w' w.heap.size [v] ss G ∧ Below w.heap.size w w' := by
  obtain ⟨k, hk⟩ := (ev_toStringS ss (by omega)).rounds
  refine (laws_toStringS.calls k A c ss ss w hr hc hk).mono ?_
  rintro e w' ⟨v, rfl, hR, hb⟩
  exact ⟨v, _, rfl, strs_ER.2 ⟨Kd.own_of_R hR, rfl⟩, hb⟩
theorem far3 {w : World} {a b c : Addr} {u v x : Value} {g : Nat} (h1 : g ≠ a.block) (h2 : g ≠ b.block) (h3 : g ≠ c.block) : (((w.setCell a u).setCell b v).setCell c x).heap[g]? = w.heap[g]? :=
  (Below.heap_setCell _ c x g h3).trans ((Below.heap_setCell _ b v g h2).trans (Below.heap_setCell _ a u g h1))
set_option maxRecDepth 100000 in
set_option maxHeartbeats 2000000 in
theorem toLine_any (l : S155) (h : LF l) (A : Option Addr) (c : Nat) (w : World) (hr : Kd.C Kd.string w A l.f1.length l.f1) (hc : l.f1.length ≤ c) :
    Calls Tryd.prog 152 #[.agg #[.string l.f0, .slice A l.f1.length c]] w fun e w' => ∃ dv G, e = .returned (.agg #[.string l.f0, dv]) ∧ strsS.ow w' w.heap.size [dv] l.f1 G ∧ Below w.heap.size w w' := by
  have HR := Aside0.mk hr
  have HL := Aside0.mk h
  clear hr h
  go_enter Tryd.func152, Tryd.ntmps152
  go_wp2_with fail
  have b1 := blk_alloc (blk_new (w.alloc (.cells #[.string l.f0, .slice A l.f1.length c] 155)) (.cells #[.string ⟨#[]⟩, .slice none 0 0] 83)) (.cells #[.string l.f0, .slice none 0 0] 83)
  have b2 := blk_new ((w.alloc (.cells #[.string l.f0, .slice A l.f1.length c] 155)).alloc (.cells #[.string ⟨#[]⟩, .slice none 0 0] 83)) (.cells #[.string l.f0, .slice none 0 0] 83)
  have hB : Below w.heap.size w (((w.alloc (.cells #[.string l.f0, .slice A l.f1.length c] 155)).alloc (.cells #[.string ⟨#[]⟩, .slice none 0 0] 83)).alloc (.cells #[.string l.f0, .slice none 0 0] 83)) := (((Below.refl _ _).alloc (Nat.le_refl _) _).alloc (by simp) _).alloc (by simp; omega) _
  have hs : (((w.alloc (.cells #[.string l.f0, .slice A l.f1.length c] 155)).alloc (.cells #[.string ⟨#[]⟩, .slice none 0 0] 83)).alloc (.cells #[.string l.f0, .slice none 0 0] 83)).heap.size = w.heap.size + 1 + 1 + 1 := by simp
  rw [show (w.alloc (.cells #[.string l.f0, .slice A l.f1.length c] 155)).heap.size = w.heap.size + 1 by simp] at b1
  rw [show ((w.alloc (.cells #[.string l.f0, .slice A l.f1.length c] 155)).alloc (.cells #[.string ⟨#[]⟩, .slice none 0 0] 83)).heap.size = w.heap.size + 1 + 1 by simp] at b2
  generalize ((w.alloc (.cells #[.string l.f0, .slice A l.f1.length c] 155)).alloc (.cells #[.string ⟨#[]⟩, .slice none 0 0] 83)).alloc (.cells #[.string l.f0, .slice none 0 0] 83) = W3 at *
  refine (toStrs_any l.f1 HL.out.2.1 A c W3 (Kd.C_below HR.out hB) hc).mono ?_
  rintro e w4 ⟨dv, G, rfl, ho, hb⟩
  obtain ⟨D, d, rfl⟩ := own_form ho
  have HO := Aside0.mk ho
  have k1 := blk_below b1 hb
  have k2 := blk_below b2 hb
  have K1 := Aside0.mk k1
  have c10 := (blk_cell k1 0).trans rfl
  have c11 := (blk_cell k1 1).trans rfl
  have c20 := (blk_cell k2 0).trans rfl
  have c21 := (blk_cell k2 1).trans rfl
  have f10 := blk_frozen k1 0
  have f11 := blk_frozen k1 1
  have f21 := blk_frozen k2 1
  have hB4 : Aside0 (Below w.heap.size w w4) := ⟨hB.trans (hb.mono (by omega))⟩
  clear b1 b2 hB hb ho k1 k2
  go_wp2_with fail
  refine bodyPost_ret (results_cell_row rfl _ _ (w.heap.size + 1) 83 #[.string l.f0, .slice D l.f1.length d] (0, 0) _ rfl ?blk Tryd.underlying83 rfl (by kernel_rfl)) rfl ⟨_, G, rfl, ?ow, ?bel⟩
  case blk =>
    refine blk_put (cs := #[.string l.f0, .slice none 0 0]) ?_ 1 _ rfl
    refine blk_put (cs := #[.string ⟨#[]⟩, .slice none 0 0]) ?_ 0 _ rfl
    refine blk_far ?_ (show w.heap.size + 1 ≠ w.heap.size + 1 + 1 by omega) _
    exact K1.out
  case ow =>
    refine strsS.olow (strsS.oframe HO.out fun g hg => ?_) (show w.heap.size ≤ W3.heap.size by omega)
    have hgb := (strsS.oin HO.out g hg).1
    exact far3 (show g ≠ w.heap.size + 1 + 1 by omega) (show g ≠ w.heap.size + 1 by omega) (show g ≠ w.heap.size + 1 by omega)
  case bel => exact ((hB4.out.setCell (p := ⟨w.heap.size + 1 + 1, 1, none⟩) (show w.heap.size ≤ w.heap.size + 1 + 1 by omega) _).setCell (p := ⟨w.heap.size + 1, 0, none⟩) (show w.heap.size ≤ w.heap.size + 1 by omega) _).setCell (p := ⟨w.heap.size + 1, 1, none⟩) (show w.heap.size ≤ w.heap.size + 1 by omega) _
set_option maxRecDepth 100000 in
set_option maxHeartbeats 2000000 in
theorem toLines_any (ls : List S155) (h : LFs ls) (A : Option Addr) (c : Nat) (w : World) (hr : Kd.C k155 w A ls.length ls) :
    Calls Tryd.prog 138 #[.slice A ls.length c] w fun e w' => ∃ v G, e = .returned v ∧ linesS.ow w' w.heap.size [v] (ls.map cvL) G ∧ Below w.heap.size w w' := by
  have HR := Aside0.mk hr
  have HL := Aside0.mk h
  have hlen : ls.length ≤ 1048576 := h.1
  clear hr h
  obtain ⟨i0, hi, hz0, hz1, hz2⟩ := info_parts (show (Tryd.prog.info? 83).map (fun i => (i.zero, i.size, i.bytes)) = some (some (.agg #[.string ⟨#[]⟩, .slice none 0 0]), 2, 40) by kernel_rfl)
  go_enter Tryd.func138, Tryd.ntmps138
  go_wp2_with (at_make; refine wpList_make_full _ rfl _ _ 52 rfl w.heap.size 83 i0 _ 2 Tryd.underlying52 hi hz0 hz1 .i64 .i64 ls.length ls.length ls.length rfl rfl rfl rfl ?b2 ?b3 (Nat.le_refl _) ?_)
  case b2 => rw [hz2]; omega
  case b3 => unfold maxLen; omega
  intro w1 hown hg
  have hz := made_flat #[.string ⟨#[]⟩, .slice none 0 0] ls.length (by decide)
  have hH : Aside0 (∃ Gs, Half lineS 83 [.string ⟨#[]⟩, .slice none 0 0] w1 w.heap.size (.slice (some ⟨w.heap.size, 0, none⟩) ls.length ls.length) ls.length ((ls.take 0).map cvL) Gs) :=
    ⟨[], [], by simp, by have h2 := hown; rw [show ls.length * 2 = ls.length * (#[Value.string ⟨#[]⟩, .slice none 0 0] : Array Value).size from rfl] at h2; change w1.ownsRow _ _ _ _ _ (madeCells #[.string ⟨#[]⟩, .slice none 0 0] _).toList at h2; rw [hz] at h2; have h3 : w1.ownsRow w.heap.size 83 lineS.k (.slice (some ⟨w.heap.size, 0, none⟩) ls.length ls.length) ls.length (List.replicate ls.length [Value.string ⟨#[]⟩, .slice none 0 0]).flatten := h2; simpa using h3, rfl, by simp⟩
  have hB1 : Below w.heap.size w w1 := (Below.refl _ _).grown hg (Nat.le_refl _) (fun k hk => by cases hk)
  have hs1 : w.heap.size < w1.heap.size := own_lt hown _ rfl
  clear hown hg hz hi hz0 hz1 hz2
  go_wp2_with fail
  go_loopw [4] (fun v wr => ∃ j : Nat, v = .int .i64 j ∧ j ≤ ls.length ∧ Below w.heap.size w wr ∧ w.heap.size < wr.heap.size ∧ Aside0 (∃ Gs, Half lineS 83 [.string ⟨#[]⟩, .slice none 0 0] wr w.heap.size (.slice (some ⟨w.heap.size, 0, none⟩) ls.length ls.length) ls.length ((ls.take j).map cvL) Gs)) (fun v _ => ls.length - (intOf v).toNat)
  case atStart => exact ⟨0, rfl, Nat.zero_le _, hB1, hs1, hH⟩
  case round =>
    clear hH hB1 hs1
    obtain ⟨j, rfl, hj, hB, hs, hH⟩ := hrel
    by_cases hlt : j < ls.length
    · obtain ⟨ad, A1, c1, rfl, hx0, hx1, hl1, hC1⟩ := at_T155 (Kd.C_below HR.out hB) (j : Int) (by omega) (by omega)
      rw [rdLl hlt, Int.toNat_natCast] at hx0 hx1
      rw [rdLl hlt] at hl1 hC1
      have hL := HL.out.2 _ (List.getElem_mem hlt)
      have hnx : (ls.take (j + 1)).map cvL = (ls.take j).map cvL ++ [cvL ls[j]] := by rw [List.take_add_one, List.getElem?_eq_getElem hlt, List.map_append]; rfl
      have hjl : ((ls.take j).map cvL).length = j := by rw [List.length_map, List.length_take]; omega
      generalize ls[j] = l at *
      obtain ⟨f0, f1⟩ := l
      have HNX := Aside0.mk hnx
      have HJL := Aside0.mk hjl
      have HL1 := Aside0.mk hL
      have HC1 := Aside0.mk hC1
      clear hnx hjl hL hC1
      have i1 : (j : Int) < (ls.length : Int) := by omega
      go_wp2_with fail
      refine (toLine_any ⟨f0, f1⟩ HL1.out A1 c1 _ HC1.out hl1).mono ?_
      rintro e w2 ⟨dv, G, rfl, ho, hb⟩
      obtain ⟨D, d, rfl⟩ := own_form ho
      obtain ⟨Gs, hGs⟩ := hH.out
      have hG2 := hGs.below hb
      have q0 := hG2.cell rfl (by rw [HJL.out]; exact hlt) 0 (by decide)
      have q1 := hG2.cell rfl (by rw [HJL.out]; exact hlt) 1 (by decide)
      rw [HJL.out] at q0 q1
      obtain ⟨q00, q01⟩ := q0
      obtain ⟨q10, q11⟩ := q1
      have q00 : w2.cell? ⟨w.heap.size, j * 2, none⟩ = some (.string ⟨#[]⟩) := q00
      have q01 : w2.frozen? ⟨w.heap.size, j * 2, none⟩ = false := q01
      have q10 : w2.cell? ⟨w.heap.size, j * 2 + 1, none⟩ = some (.slice none 0 0) := q10
      have q11 : w2.frozen? ⟨w.heap.size, j * 2 + 1, none⟩ = false := q11
      have hst := Aside0.mk (hG2.step2 (x := cvL ⟨f0, f1⟩) rfl (by rw [HJL.out]; exact hlt) (line_ow (key := f0) (strsS.olow ho hB.size)) (fun y hy => ⟨by have := (strsS.oin ho y hy).1; omega, fun hy' => by
        have h1 := (strsS.oin ho y hy).1
        obtain ⟨vss, _, _, h2, _⟩ := hGs
        have := ((Els.mem _ _ _ h2).1 y hy').2
        omega⟩))
      have hB2 : Below w.heap.size w w2 := hB.trans (hb.mono hB.size)
      have hs2 : w.heap.size < w2.heap.size := by have := hb.size; omega
      clear hb ho hG2 hGs hx0 hx1 hB hs hH
      go_wp2_with fail
      go_roundw
      case rel => exact ⟨j + 1, by go_num, hlt, (hB2.setCell (p := ⟨w.heap.size, j * 2, none⟩) (Nat.le_refl _) _).setCell (p := ⟨w.heap.size, j * 2 + 1, none⟩) (Nat.le_refl _) _, by simpa using hs2, ⟨_, by rw [HNX.out]; have := hst.out; rw [HJL.out] at this; exact this⟩⟩
      case measure => simp [intOf]; omega
    · obtain rfl : j = ls.length := by omega
      obtain ⟨Gs, hGs⟩ := hH.out
      rw [List.take_length] at hGs
      have hd : Aside0 (linesS.ow wr w.heap.size [.slice (some ⟨w.heap.size, 0, none⟩) ls.length ls.length] (ls.map cvL) ((Value.slice (some ⟨w.heap.size, 0, none⟩) ls.length ls.length).ownBlock.toList ++ Gs)) := ⟨Half.done (by rw [List.length_map]; exact hGs)⟩
      clear hGs hH
      go_wp2
      go_ret
      exact ⟨_, _, rfl, hd.out, hB⟩
theorem far4 {w : World} {a b c d : Addr} {u v x y : Value} {g : Nat} (h1 : g ≠ a.block) (h2 : g ≠ b.block) (h3 : g ≠ c.block) (h4 : g ≠ d.block) : ((((w.setCell a u).setCell b v).setCell c x).setCell d y).heap[g]? = w.heap[g]? :=
  (Below.heap_setCell _ d y g h4).trans (far3 h1 h2 h3)
set_option maxRecDepth 100000 in
set_option maxHeartbeats 2000000 in
theorem toBlock_any (b : S128) (h : KF b) (A : Option Addr) (c : Nat) (w : World) (hr : Kd.C k155 w A b.f2.length b.f2) :
    Calls Tryd.prog 115 #[.agg #[.string b.f0, .string b.f1, .slice A b.f2.length c]] w fun e w' => ∃ lv G, e = .returned (.agg #[.string b.f0, .string b.f1, lv]) ∧ linesS.ow w' w.heap.size [lv] (b.f2.map cvL) G ∧ Below w.heap.size w w' := by
  have HR := Aside0.mk hr
  have HL := Aside0.mk h
  clear hr h
  go_enter Tryd.func115, Tryd.ntmps115
  go_wp2_with fail
  have b1 := blk_alloc (blk_new (w.alloc (.cells #[.string b.f0, .string b.f1, .slice A b.f2.length c] 128)) (.cells #[.string ⟨#[]⟩, .string ⟨#[]⟩, .slice none 0 0] 62)) (.cells #[.string b.f0, .string b.f1, .slice none 0 0] 62)
  have b2 := blk_new ((w.alloc (.cells #[.string b.f0, .string b.f1, .slice A b.f2.length c] 128)).alloc (.cells #[.string ⟨#[]⟩, .string ⟨#[]⟩, .slice none 0 0] 62)) (.cells #[.string b.f0, .string b.f1, .slice none 0 0] 62)
  have hB : Below w.heap.size w (((w.alloc (.cells #[.string b.f0, .string b.f1, .slice A b.f2.length c] 128)).alloc (.cells #[.string ⟨#[]⟩, .string ⟨#[]⟩, .slice none 0 0] 62)).alloc (.cells #[.string b.f0, .string b.f1, .slice none 0 0] 62)) := (((Below.refl _ _).alloc (Nat.le_refl _) _).alloc (by simp) _).alloc (by simp; omega) _
  have hs : (((w.alloc (.cells #[.string b.f0, .string b.f1, .slice A b.f2.length c] 128)).alloc (.cells #[.string ⟨#[]⟩, .string ⟨#[]⟩, .slice none 0 0] 62)).alloc (.cells #[.string b.f0, .string b.f1, .slice none 0 0] 62)).heap.size = w.heap.size + 1 + 1 + 1 := by simp
  rw [show (w.alloc (.cells #[.string b.f0, .string b.f1, .slice A b.f2.length c] 128)).heap.size = w.heap.size + 1 by simp] at b1
  rw [show ((w.alloc (.cells #[.string b.f0, .string b.f1, .slice A b.f2.length c] 128)).alloc (.cells #[.string ⟨#[]⟩, .string ⟨#[]⟩, .slice none 0 0] 62)).heap.size = w.heap.size + 1 + 1 by simp] at b2
  generalize ((w.alloc (.cells #[.string b.f0, .string b.f1, .slice A b.f2.length c] 128)).alloc (.cells #[.string ⟨#[]⟩, .string ⟨#[]⟩, .slice none 0 0] 62)).alloc (.cells #[.string b.f0, .string b.f1, .slice none 0 0] 62) = W3 at *
  refine (toLines_any b.f2 HL.out.2.2 A c W3 (Kd.C_below HR.out hB)).mono ?_
  rintro e w4 ⟨dv, G, rfl, ho, hb⟩
  obtain ⟨D, d, rfl⟩ := own_form ho
  rw [List.length_map] at ho
  have HO := Aside0.mk ho
  have k1 := blk_below b1 hb
  have k2 := blk_below b2 hb
  have K1 := Aside0.mk k1
  have c10 := (blk_cell k1 0).trans rfl
  have c11 := (blk_cell k1 1).trans rfl
  have c12 := (blk_cell k1 2).trans rfl
  have c20 := (blk_cell k2 0).trans rfl
  have c21 := (blk_cell k2 1).trans rfl
  have c22 := (blk_cell k2 2).trans rfl
  have f10 := blk_frozen k1 0
  have f11 := blk_frozen k1 1
  have f12 := blk_frozen k1 2
  have f22 := blk_frozen k2 2
  have hB4 : Aside0 (Below w.heap.size w w4) := ⟨hB.trans (hb.mono (by omega))⟩
  clear b1 b2 hB hb ho k1 k2
  go_wp2_with fail
  refine bodyPost_ret (results_cell_row rfl _ _ (w.heap.size + 1) 62 #[.string b.f0, .string b.f1, .slice D b.f2.length d] (0, 0) _ rfl ?blk Tryd.underlying62 rfl (by kernel_rfl)) rfl ⟨_, G, rfl, ?ow, ?bel⟩
  case blk =>
    refine blk_put (cs := #[.string b.f0, .string b.f1, .slice none 0 0]) ?_ 2 _ rfl
    refine blk_put (cs := #[.string b.f0, .string ⟨#[]⟩, .slice none 0 0]) ?_ 1 _ rfl
    refine blk_put (cs := #[.string ⟨#[]⟩, .string ⟨#[]⟩, .slice none 0 0]) ?_ 0 _ rfl
    refine blk_far ?_ (show w.heap.size + 1 ≠ w.heap.size + 1 + 1 by omega) _
    exact K1.out
  case ow =>
    refine linesS.olow (linesS.oframe HO.out fun g hg => ?_) (show w.heap.size ≤ W3.heap.size by omega)
    have hgb := (linesS.oin HO.out g hg).1
    exact far4 (show g ≠ w.heap.size + 1 + 1 by omega) (show g ≠ w.heap.size + 1 by omega) (show g ≠ w.heap.size + 1 by omega) (show g ≠ w.heap.size + 1 by omega)
  case bel => exact (((hB4.out.setCell (p := ⟨w.heap.size + 1 + 1, 2, none⟩) (show w.heap.size ≤ w.heap.size + 1 + 1 by omega) _).setCell (p := ⟨w.heap.size + 1, 0, none⟩) (show w.heap.size ≤ w.heap.size + 1 by omega) _).setCell (p := ⟨w.heap.size + 1, 1, none⟩) (show w.heap.size ≤ w.heap.size + 1 by omega) _).setCell (p := ⟨w.heap.size + 1, 2, none⟩) (show w.heap.size ≤ w.heap.size + 1 by omega) _
set_option maxRecDepth 100000 in
set_option maxHeartbeats 2000000 in
theorem toBlocks_any (ls : List S128) (h : KFs ls) (A : Option Addr) (c : Nat) (w : World) (hr : Kd.C k128 w A ls.length ls) :
    Calls Tryd.prog 74 #[.slice A ls.length c] w fun e w' => ∃ v G, e = .returned v ∧ blocksS.ow w' w.heap.size [v] (ls.map cvB) G ∧ Below w.heap.size w w' := by
  have HR := Aside0.mk hr
  have HL := Aside0.mk h
  have hlen : ls.length ≤ 1048576 := h.1
  clear hr h
  obtain ⟨i0, hi, hz0, hz1, hz2⟩ := info_parts (show (Tryd.prog.info? 62).map (fun i => (i.zero, i.size, i.bytes)) = some (some (.agg #[.string ⟨#[]⟩, .string ⟨#[]⟩, .slice none 0 0]), 3, 56) by kernel_rfl)
  go_enter Tryd.func74, Tryd.ntmps74
  go_wp2_with (at_make; refine wpList_make_full _ rfl _ _ 45 rfl w.heap.size 62 i0 _ 3 Tryd.underlying45 hi hz0 hz1 .i64 .i64 ls.length ls.length ls.length rfl rfl rfl rfl ?b2 ?b3 (Nat.le_refl _) ?_)
  case b2 => rw [hz2]; omega
  case b3 => unfold maxLen; omega
  intro w1 hown hg
  have hz := made_flat #[.string ⟨#[]⟩, .string ⟨#[]⟩, .slice none 0 0] ls.length (by decide)
  have hH : Aside0 (∃ Gs, Half blockS 62 [.string ⟨#[]⟩, .string ⟨#[]⟩, .slice none 0 0] w1 w.heap.size (.slice (some ⟨w.heap.size, 0, none⟩) ls.length ls.length) ls.length ((ls.take 0).map cvB) Gs) :=
    ⟨[], [], by simp, by have h2 := hown; rw [show ls.length * 3 = ls.length * (#[Value.string ⟨#[]⟩, .string ⟨#[]⟩, .slice none 0 0] : Array Value).size from rfl] at h2; change w1.ownsRow _ _ _ _ _ (madeCells #[.string ⟨#[]⟩, .string ⟨#[]⟩, .slice none 0 0] _).toList at h2; rw [hz] at h2; have h3 : w1.ownsRow w.heap.size 62 blockS.k (.slice (some ⟨w.heap.size, 0, none⟩) ls.length ls.length) ls.length (List.replicate ls.length [Value.string ⟨#[]⟩, .string ⟨#[]⟩, .slice none 0 0]).flatten := h2; simpa using h3, rfl, by simp⟩
  have hB1 : Below w.heap.size w w1 := (Below.refl _ _).grown hg (Nat.le_refl _) (fun k hk => by cases hk)
  have hs1 : w.heap.size < w1.heap.size := own_lt hown _ rfl
  clear hown hg hz hi hz0 hz1 hz2
  go_wp2_with fail
  go_loopw [4] (fun v wr => ∃ j : Nat, v = .int .i64 j ∧ j ≤ ls.length ∧ Below w.heap.size w wr ∧ w.heap.size < wr.heap.size ∧ Aside0 (∃ Gs, Half blockS 62 [.string ⟨#[]⟩, .string ⟨#[]⟩, .slice none 0 0] wr w.heap.size (.slice (some ⟨w.heap.size, 0, none⟩) ls.length ls.length) ls.length ((ls.take j).map cvB) Gs)) (fun v _ => ls.length - (intOf v).toNat)
  case atStart => exact ⟨0, rfl, Nat.zero_le _, hB1, hs1, hH⟩
  case round =>
    clear hH hB1 hs1
    obtain ⟨j, rfl, hj, hB, hs, hH⟩ := hrel
    by_cases hlt : j < ls.length
    · obtain ⟨ad, A1, c1, rfl, hx0, hx1, hx2, hl1, hC1⟩ := at_T128 (Kd.C_below HR.out hB) (j : Int) (by omega) (by omega)
      rw [rdBl hlt, Int.toNat_natCast] at hx0 hx1 hx2
      rw [rdBl hlt] at hl1 hC1
      have hL := HL.out.2 _ (List.getElem_mem hlt)
      have hnx : (ls.take (j + 1)).map cvB = (ls.take j).map cvB ++ [cvB ls[j]] := by rw [List.take_add_one, List.getElem?_eq_getElem hlt, List.map_append]; rfl
      have hjl : ((ls.take j).map cvB).length = j := by rw [List.length_map, List.length_take]; omega
      generalize ls[j] = l at *
      obtain ⟨f0, f1, f2⟩ := l
      have HNX := Aside0.mk hnx
      have HJL := Aside0.mk hjl
      have HL1 := Aside0.mk hL
      have HC1 := Aside0.mk hC1
      clear hnx hjl hL hC1
      have i1 : (j : Int) < (ls.length : Int) := by omega
      go_wp2_with fail
      refine (toBlock_any ⟨f0, f1, f2⟩ HL1.out A1 c1 _ HC1.out).mono ?_
      rintro e w2 ⟨dv, G, rfl, ho, hb⟩
      obtain ⟨D, d, rfl⟩ := own_form ho
      rw [List.length_map] at ho
      obtain ⟨Gs, hGs⟩ := hH.out
      have hG2 := hGs.below hb
      have q0 := hG2.cell rfl (by rw [HJL.out]; exact hlt) 0 (by decide)
      have q1 := hG2.cell rfl (by rw [HJL.out]; exact hlt) 1 (by decide)
      have q2 := hG2.cell rfl (by rw [HJL.out]; exact hlt) 2 (by decide)
      rw [HJL.out] at q0 q1 q2
      obtain ⟨q00, q01⟩ := q0
      obtain ⟨q10, q11⟩ := q1
      obtain ⟨q20, q21⟩ := q2
      have q00 : w2.cell? ⟨w.heap.size, j * 3, none⟩ = some (.string ⟨#[]⟩) := q00
      have q01 : w2.frozen? ⟨w.heap.size, j * 3, none⟩ = false := q01
      have q10 : w2.cell? ⟨w.heap.size, j * 3 + 1, none⟩ = some (.string ⟨#[]⟩) := q10
      have q20 : w2.cell? ⟨w.heap.size, j * 3 + 2, none⟩ = some (.slice none 0 0) := q20
      have q21 : w2.frozen? ⟨w.heap.size, j * 3 + 2, none⟩ = false := q21
      have q11 : w2.frozen? ⟨w.heap.size, j * 3 + 1, none⟩ = false := q11
      have hst := Aside0.mk (hG2.step3 (x := cvB ⟨f0, f1, f2⟩) rfl (by rw [HJL.out]; exact hlt) (block_ow (kind := f0) (name := f1) (linesS.olow ho hB.size)) (fun y hy => ⟨by have := (linesS.oin ho y hy).1; omega, fun hy' => by
        have h1 := (linesS.oin ho y hy).1
        obtain ⟨vss, _, _, h2, _⟩ := hGs
        have := ((Els.mem _ _ _ h2).1 y hy').2
        omega⟩))
      have hB2 : Below w.heap.size w w2 := hB.trans (hb.mono hB.size)
      have hs2 : w.heap.size < w2.heap.size := by have := hb.size; omega
      clear hb ho hG2 hGs hx0 hx1 hx2 hB hs hH
      go_wp2_with fail
      go_roundw
      case rel => exact ⟨j + 1, by go_num, hlt, ((hB2.setCell (p := ⟨w.heap.size, j * 3, none⟩) (Nat.le_refl _) _).setCell (p := ⟨w.heap.size, j * 3 + 1, none⟩) (Nat.le_refl _) _).setCell (p := ⟨w.heap.size, j * 3 + 2, none⟩) (Nat.le_refl _) _, by simpa using hs2, ⟨_, by rw [HNX.out]; have := hst.out; rw [HJL.out] at this; exact this⟩⟩
      case measure => simp [intOf]; omega
    · obtain rfl : j = ls.length := by omega
      obtain ⟨Gs, hGs⟩ := hH.out
      rw [List.take_length] at hGs
      have hd : Aside0 (blocksS.ow wr w.heap.size [.slice (some ⟨w.heap.size, 0, none⟩) ls.length ls.length] (ls.map cvB) ((Value.slice (some ⟨w.heap.size, 0, none⟩) ls.length ls.length).ownBlock.toList ++ Gs)) := ⟨Half.done (by rw [List.length_map]; exact hGs)⟩
      clear hGs hH
      go_wp2
      go_ret
      exact ⟨_, _, rfl, hd.out, hB⟩
set_option maxRecDepth 100000 in
set_option maxHeartbeats 2000000 in
theorem toSheet_any (bs : List S128) (h : KFs bs) (A : Option Addr) (c : Nat) (w : World) (hr : Kd.C k128 w A bs.length bs) :
    Calls Tryd.prog 28 #[.agg #[.slice A bs.length c]] w fun e w' => ∃ v G, e = .returned (.agg #[v]) ∧ blocksS.ow w' w.heap.size [v] (cvBs bs) G ∧ Below w.heap.size w w' := by
  have HR := Aside0.mk hr
  have HL := Aside0.mk h
  clear hr h
  go_enter Tryd.func28, Tryd.ntmps28
  go_wp2_with fail
  have b1 := blk_alloc (blk_new (w.alloc (.cells #[.slice A bs.length c] 42)) (.cells #[.slice none 0 0] 47)) (.cells #[.slice none 0 0] 47)
  have b2 := blk_new ((w.alloc (.cells #[.slice A bs.length c] 42)).alloc (.cells #[.slice none 0 0] 47)) (.cells #[.slice none 0 0] 47)
  have hB : Below w.heap.size w (((w.alloc (.cells #[.slice A bs.length c] 42)).alloc (.cells #[.slice none 0 0] 47)).alloc (.cells #[.slice none 0 0] 47)) := (((Below.refl _ _).alloc (Nat.le_refl _) _).alloc (by simp) _).alloc (by simp; omega) _
  have hs : (((w.alloc (.cells #[.slice A bs.length c] 42)).alloc (.cells #[.slice none 0 0] 47)).alloc (.cells #[.slice none 0 0] 47)).heap.size = w.heap.size + 1 + 1 + 1 := by simp
  rw [show (w.alloc (.cells #[.slice A bs.length c] 42)).heap.size = w.heap.size + 1 by simp] at b1
  rw [show ((w.alloc (.cells #[.slice A bs.length c] 42)).alloc (.cells #[.slice none 0 0] 47)).heap.size = w.heap.size + 1 + 1 by simp] at b2
  generalize ((w.alloc (.cells #[.slice A bs.length c] 42)).alloc (.cells #[.slice none 0 0] 47)).alloc (.cells #[.slice none 0 0] 47) = W3 at *
  refine (toBlocks_any bs HL.out A c W3 (Kd.C_below HR.out hB)).mono ?_
  rintro e w4 ⟨dv, G, rfl, ho, hb⟩
  obtain ⟨D, d, rfl⟩ := own_form ho
  rw [List.length_map] at ho
  have HO := Aside0.mk ho
  have k1 := blk_below b1 hb
  have k2 := blk_below b2 hb
  have K1 := Aside0.mk k1
  have c10 := (blk_cell k1 0).trans rfl
  have c20 := (blk_cell k2 0).trans rfl
  have f10 := blk_frozen k1 0
  have f20 := blk_frozen k2 0
  have hB4 : Aside0 (Below w.heap.size w w4) := ⟨hB.trans (hb.mono (by omega))⟩
  clear b1 b2 hB hb ho k1 k2
  go_wp2_with fail
  refine bodyPost_ret (results_cell_row rfl _ _ (w.heap.size + 1) 47 #[.slice D bs.length d] (0, 0) _ rfl ?blk Tryd.underlying47 rfl (by kernel_rfl)) rfl ⟨.slice D bs.length d, G, rfl, ?ow, ?bel⟩
  case blk =>
    refine blk_put (cs := #[.slice none 0 0]) ?_ 0 _ rfl
    refine blk_far ?_ (show w.heap.size + 1 ≠ w.heap.size + 1 + 1 by omega) _
    exact K1.out
  case ow =>
    refine blocksS.olow (blocksS.oframe HO.out fun g hg => ?_) (show w.heap.size ≤ W3.heap.size by omega)
    have hgb := (blocksS.oin HO.out g hg).1
    exact (Below.heap_setCell _ ⟨w.heap.size + 1, 0, none⟩ _ g (show g ≠ w.heap.size + 1 by omega)).trans (Below.heap_setCell _ ⟨w.heap.size + 1 + 1, 0, none⟩ _ g (show g ≠ w.heap.size + 1 + 1 by omega))
  case bel => exact (hB4.out.setCell (p := ⟨w.heap.size + 1 + 1, 0, none⟩) (show w.heap.size ≤ w.heap.size + 1 + 1 by omega) _).setCell (p := ⟨w.heap.size + 1, 0, none⟩) (show w.heap.size ≤ w.heap.size + 1 by omega) _
end Go.Proofs.YtmcdnpooclelgaaDoor.PAll

namespace Go.Proofs.YtmcdnpooclelgaaDoor.PAll
open Go.RowKit Go.Proofs.YtmcdnpooclelgaaDoorW.PrintWords
theorem eqStr_c (ws : List ByteArray) (hn : ws.length ≤ 1048576) (A B : Option Addr) (c d : Nat) (w : World) (ha : Kd.C Kd.string w A ws.length ws) (hc : ws.length ≤ c) (hb : Kd.C Kd.string w B ws.length ws) (hd : ws.length ≤ d) :
    Calls Tryd.prog 22 #[.slice A ws.length c, .slice B ws.length d] w fun e w' => e = .returned (.bool true) ∧ Below w.heap.size w w' := by
  have h := ev_eqStringS ws ws (by omega)
  rw [decide_eq_true rfl] at h
  obtain ⟨k, hk⟩ := h.rounds
  exact (laws_eqStringS.calls k A c ws B d ws true w ha hc hb hd hk).mono fun e w' ⟨he, hd⟩ => ⟨he, hd.below⟩
set_option maxRecDepth 100000 in
set_option maxHeartbeats 1000000 in
theorem eqLine_c (l : S83) (h : smallL l) (A B : Option Addr) (c d : Nat) (w : World) (ha : Kd.C Kd.string w A l.f1.length l.f1) (hc : l.f1.length ≤ c) (hb : Kd.C Kd.string w B l.f1.length l.f1) (hd : l.f1.length ≤ d) :
    Calls Tryd.prog 89 #[.agg #[.string l.f0, .slice A l.f1.length c], .agg #[.string l.f0, .slice B l.f1.length d]] w fun e w' => e = .returned (.bool true) ∧ Below w.heap.size w w' := by
  have HA := Aside0.mk (fun w' hb' => eqStr_c l.f1 h.2.1 A B c d w' (Kd.C_below ha hb') hc (Kd.C_below hb hb') hd)
  clear ha hb h
  go_enter Tryd.func89, Tryd.ntmps89
  go_wp2_with fail
  have hB : ∀ x y, Below w.heap.size w ((w.alloc x).alloc y) := fun x y => ((Below.refl _ _).alloc (Nat.le_refl _) _).alloc (by simp) _
  refine (HA.out _ (hB _ _)).mono ?_
  rintro e w1 ⟨rfl, hb1⟩
  have hB1 := Aside0.mk ((hB _ _).trans (hb1.mono (by simp; omega)))
  clear hb1 hB
  go_wp2_with fail
  go_ret
  exact ⟨rfl, hB1.out⟩
set_option maxRecDepth 100000 in
set_option maxHeartbeats 2000000 in
theorem eqLines_c (ls : List S83) (h : smallLs ls) (A B : Option Addr) (c d : Nat) (w : World) (ha : Kd.C k83 w A ls.length ls) (hb : Kd.C k83 w B ls.length ls) :
    Calls Tryd.prog 35 #[.slice A ls.length c, .slice B ls.length d] w fun e w' => e = .returned (.bool true) ∧ Below w.heap.size w w' := by
  have HA := Aside0.mk ha
  have HB := Aside0.mk hb
  have HS := Aside0.mk h
  have hn : ls.length ≤ 1048576 := h.1
  clear ha hb h
  go_enter Tryd.func35, Tryd.ntmps35
  go_wp2
  go_loopw [5] (fun v wr => ∃ k : Nat, v = .int .i64 k ∧ k ≤ ls.length ∧ Below w.heap.size w wr) (fun v _ => ls.length - (intOf v).toNat)
  case atStart => exact ⟨0, rfl, Nat.zero_le _, Below.refl _ _⟩
  case round =>
    obtain ⟨k, rfl, hk, hBr⟩ := hrel
    by_cases hlt : k < ls.length
    · obtain ⟨ad, A1, c1, rfl, hx0, hx1, hl1, hC1⟩ := line_at (Kd.C_below HA.out hBr) k ls[k] (List.getElem?_eq_getElem hlt)
      obtain ⟨bd, B1, d1, rfl, hy0, hy1, hm1, hD1⟩ := line_at (Kd.C_below HB.out hBr) k ls[k] (List.getElem?_eq_getElem hlt)
      have hL := HS.out.2 _ (List.getElem_mem hlt)
      generalize ls[k] = l at *
      have i1 : (k : Int) < (ls.length : Int) := by omega
      go_upto_region 6 with (fail)
      have FC := fun p : BW wr => eqLine_c l hL A1 B1 c1 d1 p.w' (Kd.C_below hC1 p.h) hl1 (Kd.C_below hD1 p.h) hm1
      have q0 := fun p : BW wr => p.cell hx0
      have q1 := fun p : BW wr => p.cell hx1
      have r0 := fun p : BW wr => p.cell hy0
      have r1 := fun p : BW wr => p.cell hy1
      clear hx0 hx1 hy0 hy1 hC1 hD1
      refine wp_region_below (by kernel_rfl) (by kernel_rfl) ?_
      repeat ((with_reducible refine wpQuiet_step ?_); (with_reducible intro K hK); go_simp; first | ((with_reducible refine hK _ ?_); clear hK K) | (apply Exists.intro; refine ⟨fun _ => ?_, hK _ ?_⟩; (first | (go_at_call 89; exact BW.calls (FC _))); clear hK K))
      with_reducible refine wpQuiet_nil ?_
      intro wn hw'
      obtain ⟨⟨_, hBn⟩, rfl⟩ := hw'
      clear FC q0 q1 r0 r1
      have hB2 := hBr.trans (hBn.mono hBr.size)
      go_wp2
      go_roundw
      case rel => exact ⟨k + 1, by go_num, hlt, hB2⟩
      case measure => simp [intOf]; omega
    · obtain rfl : k = ls.length := by omega
      go_wp2
      go_ret
      exact ⟨rfl, hBr⟩
theorem block_at {w : World} {A : Option Addr} {n : Nat} {ls : List S62} (h : Kd.C k62 w A n ls) (j : Nat) (l : S62) (hj : ls[j]? = some l) : ∃ ad A1 c1, A = some ad ∧ w.cell? (ad.add (j * 3)) = some (.string l.f0) ∧ w.cell? ⟨(ad.add (j * 3)).block, (ad.add (j * 3)).off + 1, none⟩ = some (.string l.f1) ∧ w.cell? ⟨(ad.add (j * 3)).block, (ad.add (j * 3)).off + 2, none⟩ = some (.slice A1 l.f2.length c1) ∧ l.f2.length ≤ c1 ∧ Kd.C k83 w A1 l.f2.length l.f2 := by
  have hjl := (List.getElem?_eq_some_iff.1 hj).1
  obtain ⟨ad, A1, c1, h1, h2, h3, h4, h5, h6⟩ := at_T62 h (j : Int) (by omega) (by have := h.1; omega)
  have hg : rd_T62 ls (j : Int) = l := by unfold rd_T62; rw [List.getD_eq_getElem?_getD, Int.toNat_natCast, hj]; rfl
  rw [hg] at h2 h3 h4 h5 h6
  rw [Int.toNat_natCast] at h2 h3 h4
  exact ⟨ad, A1, c1, h1, h2, h3, h4, h5, h6⟩
set_option maxRecDepth 100000 in
set_option maxHeartbeats 1000000 in
theorem eqBlock_c (l : S62) (h : smallB l) (A B : Option Addr) (c d : Nat) (w : World) (ha : Kd.C k83 w A l.f2.length l.f2) (hb : Kd.C k83 w B l.f2.length l.f2) :
    Calls Tryd.prog 118 #[.agg #[.string l.f0, .string l.f1, .slice A l.f2.length c], .agg #[.string l.f0, .string l.f1, .slice B l.f2.length d]] w fun e w' => e = .returned (.bool true) ∧ Below w.heap.size w w' := by
  have HA := Aside0.mk (fun w' hb' => eqLines_c l.f2 h.2.2 A B c d w' (Kd.C_below ha hb') (Kd.C_below hb hb'))
  clear ha hb h
  go_enter Tryd.func118, Tryd.ntmps118
  go_wp2_with fail
  have hB : ∀ x y, Below w.heap.size w ((w.alloc x).alloc y) := fun x y => ((Below.refl _ _).alloc (Nat.le_refl _) _).alloc (by simp) _
  refine (HA.out _ (hB _ _)).mono ?_
  rintro e w1 ⟨rfl, hb1⟩
  have hB1 := Aside0.mk ((hB _ _).trans (hb1.mono (by simp; omega)))
  clear hb1 hB
  go_wp2_with fail
  go_ret
  exact ⟨rfl, hB1.out⟩
set_option maxRecDepth 100000 in
set_option maxHeartbeats 2000000 in
theorem eqBlocks_c (ls : List S62) (h : smallBs ls) (A B : Option Addr) (c d : Nat) (w : World) (ha : Kd.C k62 w A ls.length ls) (hb : Kd.C k62 w B ls.length ls) :
    Calls Tryd.prog 77 #[.slice A ls.length c, .slice B ls.length d] w fun e w' => e = .returned (.bool true) ∧ Below w.heap.size w w' := by
  have HA := Aside0.mk ha
  have HB := Aside0.mk hb
  have HS := Aside0.mk h
  have hn : ls.length ≤ 1048576 := h.1
  clear ha hb h
  go_enter Tryd.func77, Tryd.ntmps77
  go_wp2
  go_loopw [5] (fun v wr => ∃ k : Nat, v = .int .i64 k ∧ k ≤ ls.length ∧ Below w.heap.size w wr) (fun v _ => ls.length - (intOf v).toNat)
  case atStart => exact ⟨0, rfl, Nat.zero_le _, Below.refl _ _⟩
  case round =>
    obtain ⟨k, rfl, hk, hBr⟩ := hrel
    by_cases hlt : k < ls.length
    · obtain ⟨ad, A1, c1, rfl, hx0, hx1, hx2, hl1, hC1⟩ := block_at (Kd.C_below HA.out hBr) k ls[k] (List.getElem?_eq_getElem hlt)
      obtain ⟨bd, B1, d1, rfl, hy0, hy1, hy2, hm1, hD1⟩ := block_at (Kd.C_below HB.out hBr) k ls[k] (List.getElem?_eq_getElem hlt)
      have hL := HS.out.2 _ (List.getElem_mem hlt)
      generalize ls[k] = l at *
      have i1 : (k : Int) < (ls.length : Int) := by omega
      go_upto_region 6 with (fail)
      have FC := fun p : BW wr => eqBlock_c l hL A1 B1 c1 d1 p.w' (Kd.C_below hC1 p.h) (Kd.C_below hD1 p.h)
      have q0 := fun p : BW wr => p.cell hx0
      have q1 := fun p : BW wr => p.cell hx1
      have q2 := fun p : BW wr => p.cell hx2
      have r2 := fun p : BW wr => p.cell hy2
      have r0 := fun p : BW wr => p.cell hy0
      have r1 := fun p : BW wr => p.cell hy1
      clear hx0 hx1 hx2 hy0 hy1 hy2 hC1 hD1
      refine wp_region_below (by kernel_rfl) (by kernel_rfl) ?_
      repeat ((with_reducible refine wpQuiet_step ?_); (with_reducible intro K hK); go_simp; first | ((with_reducible refine hK _ ?_); clear hK K) | (apply Exists.intro; refine ⟨fun _ => ?_, hK _ ?_⟩; (first | (go_at_call 118; exact BW.calls (FC _))); clear hK K))
      with_reducible refine wpQuiet_nil ?_
      intro wn hw'
      obtain ⟨⟨_, hBn⟩, rfl⟩ := hw'
      clear FC q0 q1 q2 r0 r1 r2
      have hB2 := hBr.trans (hBn.mono hBr.size)
      go_wp2
      go_roundw
      case rel => exact ⟨k + 1, by go_num, hlt, hB2⟩
      case measure => simp [intOf]; omega
    · obtain rfl : k = ls.length := by omega
      go_wp2
      go_ret
      exact ⟨rfl, hBr⟩
set_option maxRecDepth 100000 in
set_option maxHeartbeats 1000000 in
theorem eqSheet_c (bs : List S62) (h : smallBs bs) (A B : Option Addr) (c d : Nat) (w : World) (ha : Kd.C k62 w A bs.length bs) (hb : Kd.C k62 w B bs.length bs) :
    Calls Tryd.prog 30 #[.agg #[.slice A bs.length c], .agg #[.slice B bs.length d]] w fun e w' => e = .returned (.bool true) ∧ Below w.heap.size w w' := by
  have HA := Aside0.mk (fun w' hb' => eqBlocks_c bs h A B c d w' (Kd.C_below ha hb') (Kd.C_below hb hb'))
  clear ha hb h
  go_enter Tryd.func30, Tryd.ntmps30
  go_wp2_with fail
  have hB : ∀ x y, Below w.heap.size w ((w.alloc x).alloc y) := fun x y => ((Below.refl _ _).alloc (Nat.le_refl _) _).alloc (by simp) _
  refine (HA.out _ (hB _ _)).mono ?_
  rintro e w1 ⟨rfl, hb1⟩
  have hB1 := Aside0.mk ((hB _ _).trans (hb1.mono (by simp; omega)))
  clear hb1 hB
  go_wp2_with fail
  go_ret
  exact ⟨rfl, hB1.out⟩
end Go.Proofs.YtmcdnpooclelgaaDoor.PAll

namespace Go.Proofs.YtmcdnpooclelgaaDoor.PAll
open Go.RowKit Go.Proofs.YtmcdnpooclelgaaDoorW.PrintWords
theorem place_le {kind : ByteArray} {a b : S83} (h : lineLt kind a b = true) : placeL kind a.f0 ≤ placeL kind b.f0 := by
  unfold lineLt at h
  simp only [Bool.or_eq_true, Bool.and_eq_true, decide_eq_true_eq] at h
  omega
theorem linesFrom_ok (kind : ByteArray) : ∀ (ls pre : List S83), linesFrom kind pre ls = true → (∀ l ∈ ls, fitsL kind l.f0 l.f1 = true) ∧ ls.Pairwise (fun a b => placeL kind a.f0 ≤ placeL kind b.f0) ∧ (∀ p, pre.getLast? = some p → ∀ l ∈ ls, placeL kind p.f0 ≤ placeL kind l.f0)
  | [], pre, _ => ⟨by simp, List.Pairwise.nil, by simp⟩
  | l :: ls, pre, h => by
    simp only [linesFrom, Bool.and_eq_true] at h
    obtain ⟨h1, h2, h3, h4⟩ := h
    obtain ⟨a1, a2, a3⟩ := linesFrom_ok kind ls _ h4
    have hb : ∀ m ∈ ls, placeL kind l.f0 ≤ placeL kind m.f0 := a3 l (by simp)
    refine ⟨fun m hm => ?_, List.pairwise_cons.2 ⟨hb, a2⟩, fun p hp m hm => ?_⟩
    · rcases List.mem_cons.1 hm with rfl | hm
      · exact h1
      · exact a1 m hm
    · have hpl : placeL kind p.f0 ≤ placeL kind l.f0 := by
        unfold headOk at h2
        rw [hp] at h2
        exact place_le h2
      rcases List.mem_cons.1 hm with rfl | hm
      · exact hpl
      · exact Int.le_trans hpl (hb m hm)
theorem blocksOk_all : ∀ (p : Option S62) (bs : List S62), blocksOk p bs = true → ∀ b ∈ bs, blockOkL b.f0 b.f1 b.f2 = true
  | _, [], _ => by simp
  | p, x :: bs, h => by
    simp only [blocksOk, Bool.and_eq_true] at h
    intro b hb
    rcases List.mem_cons.1 hb with rfl | hb
    · exact h.1
    · exact blocksOk_all _ bs h.2.2 b hb
theorem sheetOk_lines {bs : List S62} (h : sheetOk bs = true) : ∀ b ∈ bs, linesOkL b.f0 b.f2 = true ∧ nameOk b.f1 = true ∧ rulesL b.f0 ≠ [] := by
  intro b hb
  have := blocksOk_all none bs (by unfold sheetOk at h; exact (Bool.and_eq_true _ _ ▸ h).2) b hb
  unfold blockOkL at this
  simp only [Bool.and_eq_true] at this
  exact ⟨this.2.2, this.2.1, fun e => by rw [e] at this; simp at this⟩
end Go.Proofs.YtmcdnpooclelgaaDoor.PAll

namespace Go.Proofs.YtmcdnpooclelgaaDoor
open Go.RowKit Go.Proofs.YtmcdnpooclelgaaDoorW.PrintWords
def bareP (c : Int) : Bool := decide (33 ≤ c) && decide (c ≤ 126) && (c != 34) && (c != 35) && (c != 92)
def selfP (c : Int) : Bool := decide (32 ≤ c) && decide (c ≤ 126) && (c != 34) && (c != 92)
def hexs : ByteArray := ⟨#[48, 49, 50, 51, 52, 53, 54, 55, 56, 57, 97, 98, 99, 100, 101, 102]⟩
def escP (c : Int) : List Int := if selfP c = true then [c] else [92, bt hexs (c / 16), bt hexs (c % 16)]
def from_ (s : ByteArray) (i : Nat) : List Int := (bytesOf s).drop i
def wordP (s : ByteArray) : ByteArray := if (decide (0 < s.size) && (from_ s 0).all bareP) = true then s else strOfNums ([34] ++ (from_ s 0).flatMap escP ++ [34])
theorem from_nil (s : ByteArray) (i : Nat) (h : s.size ≤ i) : from_ s i = [] := by
  unfold from_; exact List.drop_eq_nil_of_le (by rw [bytesOf_length]; exact h)
theorem from_cons (s : ByteArray) (i : Nat) (h : i < s.size) : from_ s i = bt s i :: from_ s (i + 1) := by
  have hl : i < (bytesOf s).length := by rw [bytesOf_length]; exact h
  have e : (bytesOf s)[i] = bt s i := by
    rw [← rd_bytesOf]; unfold rd
    rw [List.getD_eq_getElem?_getD, Int.toNat_natCast, List.getElem?_eq_getElem hl]; rfl
  unfold from_; rw [List.drop_eq_getElem_cons hl, e]
theorem bt_cast (s : ByteArray) (k : Nat) : ∀ h : k < s.size, ((s[k]'h).toNat : Int) = bt s k := fun h => by simp [bt, h]
theorem hexs_at (i : Int) : ∀ h : i.toNat < 16, (((⟨#[48, 49, 50, 51, 52, 53, 54, 55, 56, 57, 97, 98, 99, 100, 101, 102]⟩ : ByteArray)[i.toNat]'h).toNat : Int) = bt hexs i := fun h => by
  unfold bt; rw [dif_pos (show i.toNat < hexs.size from h)]; rfl
theorem and15 : ∀ n : Fin 256, Go.bits .and .u8 (n.val : Int) 15 = (n.val : Int) % 16 := by decide +kernel
theorem and_15 (c : Int) (h0 : 0 ≤ c) (h1 : c ≤ 255) : Go.bits .and .u8 c 15 = c % 16 := by
  have := and15 ⟨c.toNat, by omega⟩
  simp only [Int.toNat_of_nonneg h0] at this; exact this
theorem bytes_len (s : ByteArray) : s.toList.length = s.size := by rw [ByteArray.toList_eq]; exact data_length s
theorem bytes_empty (s : ByteArray) : (!s.toList.isEmpty) = decide (0 < s.size) := by
  have h := bytes_len s
  cases hL : s.toList with
  | nil => rw [hL] at h; simp at h; simp [← h]
  | cons a t => rw [hL] at h; simp at h; simp [← h]
theorem ret_bool {a b : Bool} (h : a = b) : Ending.returned (.bool a) = .returned (.bool b) := by rw [h]
theorem ret_str {a b : ByteArray} (h : a = b) : Ending.returned (.string a) = .returned (.string b) := by rw [h]
end Go.Proofs.YtmcdnpooclelgaaDoor

namespace Go.Proofs.YtmcdnpooclelgaaDoor.PAll
open Go.RowKit Go.Proofs.YtmcdnpooclelgaaDoorW.PrintWords
theorem byt_app (a b : ByteArray) : bytesOf (a ++ b) = bytesOf a ++ bytesOf b := by
  unfold bytesOf
  rw [ByteArray.data_append, Array.toList_append, List.map_append]
theorem byt_range (s : ByteArray) : ∀ c ∈ bytesOf s, 0 ≤ c ∧ c ≤ 255 := by
  intro c hc
  unfold bytesOf at hc
  obtain ⟨b, _, rfl⟩ := List.mem_map.1 hc
  have := b.toNat_lt
  omega
theorem byt_str (xs : List Int) (h : ∀ c ∈ xs, 0 ≤ c ∧ c ≤ 255) : bytesOf (strOfNums xs) = xs := by
  unfold bytesOf
  rw [strOfNums_data, List.map_map]
  conv => rhs; rw [← List.map_id xs]
  refine List.map_congr_left fun c hc => ?_
  have := h c hc
  simp
  omega
theorem toList_size {s : ByteArray} {l : List UInt8} (h : s.toList = l) : s.size = l.length := by rw [← h, bytes_len]
theorem fitsP_size (t : Int) (s : ByteArray) (h : fitsP t s = true) : s.size ≤ 200 := by
  unfold fitsP at h
  have hnum : ∀ x : ByteArray, numOk x = true → x.size ≤ 7 := by
    intro x hx
    unfold numOk at hx
    simp only [Bool.and_eq_true, decide_eq_true_eq] at hx
    exact hx.2.1
  split at h
  · have := hnum s h; omega
  split at h
  · simp only [Bool.or_eq_true, Bool.and_eq_true, decide_eq_true_eq] at h
    rcases h with h | h
    · have := hnum s h; omega
    · have := hnum _ h.2.2.2
      unfold tailP at this
      rw [ByteArray.size_extract] at this
      omega
  split at h
  · unfold nameOk at h
    simp only [Bool.and_eq_true, decide_eq_true_eq] at h
    omega
  split at h
  · simpa using h
  split at h
  · simp only [Bool.or_eq_true, beq_iff_eq] at h
    rcases h with h | h <;> (have := toList_size h; simp at this; omega)
  · simp only [Bool.or_eq_true, beq_iff_eq] at h
    rcases h with h | h | h <;> (have := toList_size h; simp at this; omega)
theorem fitsAll_size : ∀ (ts : List Int) (ws : List ByteArray), ws.length = ts.length → fitsAll ts ws = true → ∀ s ∈ ws, s.size ≤ 200
  | [], ws, hl, _ => by intro s hs; rw [List.length_eq_zero_iff.1 hl] at hs; cases hs
  | t :: ts, [], hl, _ => by simp at hl
  | t :: ts, w :: ws, hl, h => by
    simp only [fitsAll, Bool.and_eq_true] at h
    intro s hs
    rcases List.mem_cons.1 hs with rfl | hs
    · exact fitsP_size t _ h.1
    · exact fitsAll_size ts ws (by simpa using hl) h.2 s hs
def keyB (s : ByteArray) : Bool := decide (s.size ≤ 10) && (bytesOf s).all fun c => c != 10
theorem rules_keyB (kind : ByteArray) : ∀ r ∈ rulesL kind, keyB r.f0 = true := by
  unfold rulesL; split; · unfold rules_team; decide +kernel
  split; · unfold rules_berth; decide +kernel
  split; · unfold rules_service; decide +kernel
  intro r h; cases h
theorem fits_facts {kind key : ByteArray} {ws : List ByteArray} (h : fitsL kind key ws = true) : keyB key = true ∧ ws.length ≤ 3 ∧ ∀ s ∈ ws, s.size ≤ 200 := by
  unfold fitsL at h
  cases hl : lookL kind key with
  | none => rw [hl] at h; cases h
  | some q =>
    obtain ⟨r, i⟩ := q
    rw [hl] at h
    simp only [Bool.and_eq_true, decide_eq_true_eq] at h
    obtain ⟨h1, h2, _, _⟩ := lookFrom_mem key _ _ _ _ hl
    have h3 := (rules_types kind r h1).1
    exact ⟨by rw [← h2]; exact rules_keyB kind r h1, by omega, fitsAll_size _ _ h.1 h.2⟩
def noNl (xs : List Int) : Prop := ∀ c ∈ xs, c ≠ 10
theorem noNl_app {a b : List Int} (h1 : noNl a) (h2 : noNl b) : noNl (a ++ b) := fun c hc => by
  rcases List.mem_append.1 hc with hc | hc
  · exact h1 c hc
  · exact h2 c hc
theorem keyB_nl {s : ByteArray} (h : keyB s = true) : noNl (bytesOf s) ∧ s.size ≤ 10 := by
  unfold keyB at h
  simp only [Bool.and_eq_true, decide_eq_true_eq, List.all_eq_true, bne_iff_ne] at h
  exact ⟨h.2, h.1⟩
theorem bt_mem {s : ByteArray} {c : Int} (h : c ∈ bytesOf s) : ∃ j : Nat, j < s.size ∧ bt s j = c := by
  obtain ⟨j, hj, rfl⟩ := List.getElem_of_mem h
  have hj' : j < s.size := by rw [bytesOf_length] at hj; exact hj
  refine ⟨j, hj', ?_⟩
  rw [← rd_bytesOf]
  unfold rd
  rw [List.getD_eq_getElem?_getD, Int.toNat_natCast, List.getElem?_eq_getElem hj]
  rfl
theorem name_nl {s : ByteArray} (h : nameOk s = true) : noNl (bytesOf s) ∧ s.size ≤ 20 := by
  unfold nameOk at h
  simp only [Bool.and_eq_true, decide_eq_true_eq] at h
  refine ⟨fun c hc => ?_, h.2.1⟩
  obtain ⟨j, hj, rfl⟩ := bt_mem hc
  have := (allFrom_iff nameB s s.size 0).1 h.2.2 j (by omega) (by omega)
  unfold nameB at this
  simp only [decide_eq_true_eq] at this
  omega
theorem kind_nl {kind : ByteArray} (h : rulesL kind ≠ []) : noNl (bytesOf kind) ∧ kind.size ≤ 10 := by
  rcases kind_cases kind with rfl | rfl | rfl | ⟨_, _, _, h4⟩
  · exact keyB_nl (by decide +kernel)
  · exact keyB_nl (by decide +kernel)
  · exact keyB_nl (by decide +kernel)
  · exact absurd h4 h
theorem hexs_ok : ∀ k : Fin 16, 48 ≤ bt hexs (k.val : Int) ∧ bt hexs (k.val : Int) ≤ 102 := by decide +kernel
theorem esc_ok (c : Int) (h0 : 0 ≤ c) (h1 : c ≤ 255) : (∀ d ∈ escP c, 0 ≤ d ∧ d ≤ 255 ∧ d ≠ 10) ∧ (escP c).length ≤ 3 := by
  unfold escP
  by_cases hs : selfP c = true
  · rw [if_pos hs]
    unfold selfP at hs
    simp only [Bool.and_eq_true, decide_eq_true_eq, bne_iff_ne] at hs
    refine ⟨fun d hd => ?_, by simp⟩
    rw [List.mem_singleton] at hd
    subst hd
    omega
  · rw [if_neg hs]
    have a1 := hexs_ok ⟨(c / 16).toNat, by omega⟩
    have a2 := hexs_ok ⟨(c % 16).toNat, by omega⟩
    simp only [Int.toNat_of_nonneg (show 0 ≤ c / 16 by omega), Int.toNat_of_nonneg (show 0 ≤ c % 16 by omega)] at a1 a2
    refine ⟨fun d hd => ?_, by simp⟩
    simp only [List.mem_cons, List.mem_nil_iff, or_false] at hd
    rcases hd with rfl | rfl | rfl <;> omega
theorem esc_len : ∀ xs : List Int, (∀ c ∈ xs, 0 ≤ c ∧ c ≤ 255) → (xs.flatMap escP).length ≤ 3 * xs.length
  | [], _ => by simp
  | c :: xs, h => by
    have h1 := (esc_ok c (h c (by simp)).1 (h c (by simp)).2).2
    have h2 := esc_len xs fun d hd => h d (by simp [hd])
    rw [List.flatMap_cons, List.length_append, List.length_cons]
    omega
theorem word_facts (s : ByteArray) : noNl (bytesOf (wordP s)) ∧ (wordP s).size ≤ 3 * s.size + 2 := by
  unfold wordP
  by_cases hb : (decide (0 < s.size) && (from_ s 0).all bareP) = true
  · rw [if_pos hb]
    refine ⟨fun c hc => ?_, by omega⟩
    simp only [Bool.and_eq_true, List.all_eq_true] at hb
    have := hb.2 c hc
    unfold bareP at this
    simp only [Bool.and_eq_true, decide_eq_true_eq] at this
    omega
  · rw [if_neg hb]
    have hr : ∀ c ∈ [34] ++ (from_ s 0).flatMap escP ++ [34], (0 ≤ c ∧ c ≤ 255) ∧ c ≠ 10 := by
      intro c hc
      simp only [List.mem_append, List.mem_singleton, List.mem_flatMap] at hc
      rcases hc with (rfl | ⟨d, hd, hc⟩) | rfl
      · omega
      · have hdr := byt_range s d hd
        have := (esc_ok d hdr.1 hdr.2).1 c hc
        omega
      · omega
    refine ⟨?_, ?_⟩
    · rw [byt_str _ fun c hc => (hr c hc).1]
      exact fun c hc => (hr c hc).2
    · rw [strOfNums_size]
      have := esc_len (from_ s 0) (byt_range s)
      have e : (from_ s 0).length = s.size := bytesOf_length s
      simp only [List.length_append, List.length_cons, List.length_nil]
      omega
def lineB : ByteArray → List ByteArray → ByteArray
  | out, [] => out
  | out, w :: ws => lineB ((out ++ (⟨#[32]⟩ : ByteArray)) ++ wordP w) ws
theorem lineB_nl : ∀ (ws : List ByteArray) (out : ByteArray), noNl (bytesOf out) → noNl (bytesOf (lineB out ws))
  | [], out, h => h
  | w :: ws, out, h => lineB_nl ws _ (by
      rw [byt_app, byt_app]
      refine noNl_app (noNl_app h ?_) (word_facts w).1
      intro c hc
      have : bytesOf (⟨#[32]⟩ : ByteArray) = [32] := by decide +kernel
      rw [this, List.mem_singleton] at hc
      omega)
theorem lineB_size : ∀ (ws : List ByteArray) (out : ByteArray) (m : Nat), (∀ s ∈ ws, s.size ≤ m) → (lineB out ws).size ≤ out.size + ws.length * (3 * m + 3)
  | [], out, m, _ => by simp [lineB]
  | w :: ws, out, m, h => by
    have h1 := (word_facts w).2
    have h2 := h w (by simp)
    have := lineB_size ws ((out ++ (⟨#[32]⟩ : ByteArray)) ++ wordP w) m fun s hs => h s (by simp [hs])
    have e : ((out ++ (⟨#[32]⟩ : ByteArray)) ++ wordP w).size = out.size + 1 + (wordP w).size := by rw [ByteArray.size_append, ByteArray.size_append]; rfl
    rw [e] at this
    unfold lineB
    rw [List.length_cons, Nat.add_mul]
    omega
def nlB : ByteArray := ⟨#[10]⟩
def headB (b : S62) : ByteArray := ((b.f0 ++ (⟨#[32]⟩ : ByteArray)) ++ b.f1) ++ nlB
def rowB (l : S83) : ByteArray := ((⟨#[32, 32]⟩ : ByteArray) ++ lineB l.f0 l.f1) ++ nlB
def endB : ByteArray := ⟨#[101, 110, 100, 10]⟩
def piecesB (b : S62) : List ByteArray := headB b :: (b.f2.map rowB ++ [endB])
def pieces (bs : List S62) : List ByteArray := bs.flatMap piecesB
def textOf (ps : List ByteArray) : List Int := ps.flatMap bytesOf
def finish (ps : List ByteArray) : ByteArray := if ((textOf ps).length : Int) > 20000 then ⟨#[]⟩ else if ((ps.length : Nat) : Int) > 400 then ⟨#[]⟩ else strOfNums (textOf ps)
def printP (bs : List S62) : ByteArray := if sheetOk bs = true then finish (pieces bs) else ⟨#[]⟩
theorem textOf_app (a b : List ByteArray) : textOf (a ++ b) = textOf a ++ textOf b := by simp [textOf]
theorem textOf_one (a : ByteArray) : textOf [a] = bytesOf a := by simp [textOf]
def lineOk (p : ByteArray) : Prop := ∃ q : List Int, bytesOf p = q ++ [10] ∧ noNl q
theorem row_ok {kind : ByteArray} {l : S83} (h : fitsL kind l.f0 l.f1 = true) : lineOk (rowB l) ∧ (rowB l).size ≤ 2000 := by
  obtain ⟨h1, h2, h3⟩ := fits_facts h
  obtain ⟨k1, k2⟩ := keyB_nl h1
  have hs := lineB_size l.f1 l.f0 200 h3
  have h4 : l.f1.length * (3 * 200 + 3) ≤ 3 * 603 := Nat.mul_le_mul_right 603 h2
  refine ⟨⟨bytesOf ((⟨#[32, 32]⟩ : ByteArray) ++ lineB l.f0 l.f1), ?_, ?_⟩, ?_⟩
  · unfold rowB; rw [byt_app]; rfl
  · rw [byt_app]
    refine noNl_app ?_ (lineB_nl _ _ k1)
    intro c hc
    have : bytesOf (⟨#[32, 32]⟩ : ByteArray) = [32, 32] := by decide +kernel
    rw [this] at hc
    simp at hc
    omega
  · unfold rowB
    rw [ByteArray.size_append, ByteArray.size_append]
    have : (⟨#[32, 32]⟩ : ByteArray).size = 2 := rfl
    have : nlB.size = 1 := rfl
    omega
theorem head_ok {b : S62} (h1 : nameOk b.f1 = true) (h2 : rulesL b.f0 ≠ []) : lineOk (headB b) ∧ (headB b).size ≤ 2000 := by
  obtain ⟨k1, k2⟩ := kind_nl h2
  obtain ⟨n1, n2⟩ := name_nl h1
  refine ⟨⟨bytesOf ((b.f0 ++ (⟨#[32]⟩ : ByteArray)) ++ b.f1), ?_, ?_⟩, ?_⟩
  · unfold headB; rw [byt_app]; rfl
  · rw [byt_app, byt_app]
    refine noNl_app (noNl_app k1 ?_) n1
    intro c hc
    have : bytesOf (⟨#[32]⟩ : ByteArray) = [32] := by decide +kernel
    rw [this, List.mem_singleton] at hc
    omega
  · unfold headB
    rw [ByteArray.size_append, ByteArray.size_append, ByteArray.size_append]
    have : (⟨#[32]⟩ : ByteArray).size = 1 := rfl
    have : nlB.size = 1 := rfl
    omega
theorem end_ok : lineOk endB ∧ endB.size ≤ 2000 := ⟨⟨[101, 110, 100], by decide +kernel, fun c hc => by simp at hc; omega⟩, by decide⟩
theorem pieces_ok {bs : List S62} (h : sheetOk bs = true) : ∀ p ∈ pieces bs, lineOk p ∧ p.size ≤ 2000 := by
  intro p hp
  obtain ⟨b, hb, hp⟩ := List.mem_flatMap.1 hp
  obtain ⟨h1, h2, h3⟩ := sheetOk_lines h b hb
  unfold piecesB at hp
  rcases List.mem_cons.1 hp with rfl | hp
  · exact head_ok h2 h3
  rcases List.mem_append.1 hp with hp | hp
  · obtain ⟨l, hl, rfl⟩ := List.mem_map.1 hp
    exact row_ok ((linesFrom_ok b.f0 b.f2 [] h1).1 l hl)
  · rw [List.mem_singleton] at hp
    subst hp
    exact end_ok
theorem text_len : ∀ (ps : List ByteArray) (m : Nat), (∀ p ∈ ps, p.size ≤ m) → (textOf ps).length ≤ ps.length * m
  | [], _, _ => by simp [textOf]
  | p :: ps, m, h => by
    have := text_len ps m fun q hq => h q (by simp [hq])
    have h1 := h p (by simp)
    have e : textOf (p :: ps) = bytesOf p ++ textOf ps := by simp [textOf]
    rw [e, List.length_append, bytesOf_length, List.length_cons, Nat.add_mul]
    omega
theorem pieces_len : ∀ (bs : List S62), (∀ b ∈ bs, b.f2.length ≤ 1048576) → (pieces bs).length ≤ bs.length * 1048578
  | [], _ => by simp [pieces]
  | b :: bs, h => by
    have := pieces_len bs fun q hq => h q (by simp [hq])
    have h1 := h b (by simp)
    have e : pieces (b :: bs) = piecesB b ++ pieces bs := by simp [pieces]
    rw [e, List.length_append, List.length_cons, Nat.add_mul]
    have e2 : (piecesB b).length = b.f2.length + 2 := by simp [piecesB]
    omega
theorem print_bound {bs : List S62} (h : sheetOk bs = true) (hs : smallBs bs) : (textOf (pieces bs)).length < 140000000000 := by
  have h1 := text_len (pieces bs) 2000 fun p hp => (pieces_ok h p hp).2
  have h2 := pieces_len bs fun b hb => (hs.2 b hb).2.2.1
  have h3 : bs.length ≤ 60 := by unfold sheetOk at h; simp only [Bool.and_eq_true, decide_eq_true_eq] at h; exact h.1
  have h4 : bs.length * 1048578 ≤ 60 * 1048578 := Nat.mul_le_mul_right _ h3
  omega
end Go.Proofs.YtmcdnpooclelgaaDoor.PAll

namespace Go.Proofs.YtmcdnpooclelgaaDoor.PAll
open Go.RowKit Go.Proofs.YtmcdnpooclelgaaDoorW.PrintWords Go.Proofs.YtmcdnpooclelgaaDoorW.PrintLast Go.Proofs.YtmcdnpooclelgaaDoorW.PrintMore
attribute [local go_sem] max2_int min2_int max_two min_two max_three min_three max_four min_four   -- for this text's walks alone
set_option linter.unusedVariables false
set_option linter.unusedSimpArgs false
def impl_lines.f (a0 : ByteArray) : Option (List ByteArray) := (strings_Split.f a0 (⟨#[10]⟩ : ByteArray)).bind fun t119 => (if 0 ≤ (wrap64 ((t119.length : Int) - 1)) then (if (wrap64 ((t119.length : Int) - 1)) < (t119.length : Int) then (if (rdOf ByteArray.empty t119 (wrap64 ((t119.length : Int) - 1))).toList = ([] : List UInt8) then (if (wrap64 ((t119.length : Int) - 1)) ≤ (t119.length : Int) then (some (t119.take ((wrap64 ((t119.length : Int) - 1)) : Int).toNat)) else (none)) else (some t119)) else (none)) else (none))
set_option maxHeartbeats 8000000 in
set_option maxRecDepth 100000 in
theorem impl_lines.calls (a0 : ByteArray) (r : List ByteArray) (w : World) (h : impl_lines.f a0 = some r) :
  Calls Tryd.prog 122 #[.string a0] w fun e w' => ∃ v0_ : Value, e = .returned (v0_) ∧ Kd.R Kd.string 9 w' w.heap.size (fun _ => True) v0_ r ∧ Below w.heap.size w w' := by
 have HB := Aside0.mk (Below.refl w.heap.size w)
 have H : ((strings_Split.f a0 (⟨#[10]⟩ : ByteArray)).bind fun t119 => (if 0 ≤ (wrap64 ((t119.length : Int) - 1)) then (if (wrap64 ((t119.length : Int) - 1)) < (t119.length : Int) then (if (rdOf ByteArray.empty t119 (wrap64 ((t119.length : Int) - 1))).toList = ([] : List UInt8) then (if (wrap64 ((t119.length : Int) - 1)) ≤ (t119.length : Int) then (some (t119.take ((wrap64 ((t119.length : Int) - 1)) : Int).toNat)) else (none)) else (some t119)) else (none)) else (none))) = some r := h
 clear h
 replace H := Option.bind_eq_some_iff.mp H
 obtain ⟨t119, A20, H⟩ := H
 replace H : (if 0 ≤ (wrap64 ((t119.length : Int) - 1)) then (if (wrap64 ((t119.length : Int) - 1)) < (t119.length : Int) then (if (rdOf ByteArray.empty t119 (wrap64 ((t119.length : Int) - 1))).toList = ([] : List UInt8) then (if (wrap64 ((t119.length : Int) - 1)) ≤ (t119.length : Int) then (some (t119.take ((wrap64 ((t119.length : Int) - 1)) : Int).toNat)) else (none)) else (some t119)) else (none)) else (none)) = some r := H
 have A2 := Aside0.mk A20
 clear A20
 obtain ⟨ji3, hji3⟩ : ∃ j_ : Int, (wrap64 ((t119.length : Int) - 1)) = j_ := ⟨_, rfl⟩
 replace H : (if 0 ≤ (ji3) then (if (ji3) < (t119.length : Int) then (if (rdOf ByteArray.empty t119 (ji3)).toList = ([] : List UInt8) then (if (ji3) ≤ (t119.length : Int) then (some (t119.take ((ji3) : Int).toNat)) else (none)) else (some t119)) else (none)) else (none)) = some r := by first | (rw [hji3] at H; exact H) | (simp only [hji3] at H ⊢; exact H)
 (try rw [hji3] at A2)
 have hji3w : (IntKind.i64.wrap ((t119.length : Int) - 1)) = ji3 := (i64_w _).trans hji3
 by_cases c4 : 0 ≤ (ji3)
 ·rw [if_pos c4] at H
  have c4b0 : decide (0 ≤ (ji3)) = true := decide_eq_true c4
  clear c4
  by_cases c5 : (ji3) < (t119.length : Int)
  ·rw [if_pos c5] at H
   have c5b0 : decide ((ji3) < (t119.length : Int)) = true := decide_eq_true c5
   clear c5
   by_cases c6 : (rdOf ByteArray.empty t119 (ji3)).toList = ([] : List UInt8)
   ·rw [if_pos c6] at H
    have c6b0 : ((rdOf ByteArray.empty t119 (ji3)).toList == ([] : List UInt8)) = true := beq_iff_eq.mpr c6
    have c6b1 : ((rdOf ByteArray.empty t119 (ji3)).toList != ([] : List UInt8)) = false := bne_eq_false_iff_eq.mpr c6
    clear c6
    by_cases c7 : (ji3) ≤ (t119.length : Int)
    ·rw [if_pos c7] at H
     have c7b0 := eq_true c7
     have c7b1 : decide ((ji3) ≤ (t119.length : Int)) = true := decide_eq_true c7
     clear c7
     obtain ⟨y123, hy123⟩ : ∃ y_ : List ByteArray, y_ = (t119.take ((ji3) : Int).toNat) := ⟨_, rfl⟩
     replace H : (some y123) = some r := by first | (rw [hy123]; with_reducible exact H) | (have H2_ := (Option.bind_some _ _).symm.trans H; rw [hy123]; with_reducible exact H2_) | (have H2_ := (Option.bind_some _ _).symm.trans H; with_reducible exact H2_) | with_reducible exact H | (rw [hy123]; exact H) | exact H
     have Ny123 := Aside0.mk hy123
     clear hy123
     obtain rfl := Option.some.inj H
     go_enter Tryd.func122, Tryd.ntmps122
     go_wp2_with (first | ((with_reducible refine gate_callee (f := 104) rfl ?_); refine goesL_ (some 5) rfl rfl Tryd.func104 (by kernel_rfl) rfl #[.string a0, .string (⟨#[10]⟩ : ByteArray)] rfl (by (try simp only [List.map_toArray, List.map_cons, List.map_nil]); first | done | rfl | (simp only [List.length_drop, List.length_take]; rfl)) ?_; (with_reducible refine (strings_Split.calls a0 (⟨#[10]⟩ : ByteArray) t119 _ A2.out).mono ?_); rintro e w8 ⟨v120, rfl, ho0, hb⟩; refine ⟨_, rfl, ?_⟩; have n0_ := Aside0.mk (Kd.R_lower ho0 (below_size (stB HB.out))); have n1_ := Aside0.mk (below_step (stB HB.out) hb); clear HB; have HO121 := n0_; have HB := n1_; clear n0_ n1_; (try clear hb); (try clear hb2); (try clear hk); (try clear hi); (try clear ho0); obtain ⟨Ao9, co9, eo9⟩ := Kd.R_slice HO121.out; subst eo9; have p122 : 0 ≤ ((ji3) : Int) := of_decide_eq_true (by first | (with_reducible assumption) | assumption); have q122 : (ji3) < (t119.length : Int) := of_decide_eq_true (by first | (with_reducible assumption) | assumption); obtain ⟨ad122, e122, hx122_0⟩ := Kd.at_string (Kd.R_reads' HO121.out).2.2 (ji3) p122 q122; cases e122; replace p122 := eq_true p122; replace q122 := eq_true q122; have q10 : ((ji3) : Int) ≤ ((t119.length : Int) : Int) := of_decide_eq_true (by first | (with_reducible assumption) | assumption); obtain ⟨i010, hi010, _, hsz10, _⟩ := info_parts info9; have hcut10 := cut_to (P := Tryd.prog) 27 9 .i64 Tryd.underlying27 hi010 (some ad122) t119.length co9 (ji3) (of_decide_eq_true (by first | (with_reducible assumption) | assumption)) q10 (Kd.R_reads' HO121.out).2.1; have hr10 := Kd.R_take (m := ((ji3) : Int).toNat) HO121.out (by omega); have hy10 : y123.length = ((ji3) : Int).toNat := (by rw [Ny123.out, List.length_take]; omega); rw [← Ny123.out] at hr10; rw [← hy10] at hr10 hcut10; clear hy10 hi010 hsz10 HO121; have HO125 := Aside0.mk hr10; clear hr10; replace q10 := eq_true q10))
     go_ret
     exact ⟨_, by first | rfl | (simp [errW_none, errW_some] <;> rfl) | (simp only [← hji3]; first | rfl | (simp [errW_none, errW_some] <;> rfl)) | (simp [*, errW_none, errW_some] <;> rfl), by (with_reducible repeat (first | apply Kd.R_alloc | apply Kd.R_drewN | apply Kd.R_drew)); exact HO125.out, by repeat (first | (with_reducible first | exact HB.out | apply below_alloc | apply pw_below_drewN | apply below_drew1) | exact HB.out)⟩
    ·rw [if_neg c7] at H
     exact absurd H (by simp)
   ·rw [if_neg c6] at H
    have c6b0 : ((rdOf ByteArray.empty t119 (ji3)).toList == ([] : List UInt8)) = false := beq_eq_false_iff_ne.mpr c6
    have c6b1 : ((rdOf ByteArray.empty t119 (ji3)).toList != ([] : List UInt8)) = true := bne_iff_ne.mpr c6
    obtain rfl := Option.some.inj H
    go_enter Tryd.func122, Tryd.ntmps122
    go_wp2_with (first | ((with_reducible refine gate_callee (f := 104) rfl ?_); refine goesL_ (some 5) rfl rfl Tryd.func104 (by kernel_rfl) rfl #[.string a0, .string (⟨#[10]⟩ : ByteArray)] rfl (by (try simp only [List.map_toArray, List.map_cons, List.map_nil]); first | done | rfl | (simp only [List.length_drop, List.length_take]; rfl)) ?_; (with_reducible refine (strings_Split.calls a0 (⟨#[10]⟩ : ByteArray) t119 _ A2.out).mono ?_); rintro e w11 ⟨v120, rfl, ho0, hb⟩; refine ⟨_, rfl, ?_⟩; have n0_ := Aside0.mk (Kd.R_lower ho0 (below_size (stB HB.out))); have n1_ := Aside0.mk (below_step (stB HB.out) hb); clear HB; have HO121 := n0_; have HB := n1_; clear n0_ n1_; (try clear hb); (try clear hb2); (try clear hk); (try clear hi); (try clear ho0); obtain ⟨Ao12, co12, eo12⟩ := Kd.R_slice HO121.out; subst eo12; have p122 : 0 ≤ ((ji3) : Int) := of_decide_eq_true (by first | (with_reducible assumption) | assumption); have q122 : (ji3) < (t119.length : Int) := of_decide_eq_true (by first | (with_reducible assumption) | assumption); obtain ⟨ad122, e122, hx122_0⟩ := Kd.at_string (Kd.R_reads' HO121.out).2.2 (ji3) p122 q122; cases e122; replace p122 := eq_true p122; replace q122 := eq_true q122))
    go_ret
    exact ⟨_, by first | rfl | (simp [errW_none, errW_some] <;> rfl) | (simp only [← hji3]; first | rfl | (simp [errW_none, errW_some] <;> rfl)) | (simp [*, errW_none, errW_some] <;> rfl), by (with_reducible repeat (first | apply Kd.R_alloc | apply Kd.R_drewN | apply Kd.R_drew)); exact HO121.out, by repeat (first | (with_reducible first | exact HB.out | apply below_alloc | apply pw_below_drewN | apply below_drew1) | exact HB.out)⟩
  ·rw [if_neg c5] at H
   exact absurd H (by simp)
 ·rw [if_neg c4] at H
  exact absurd H (by simp)
end Go.Proofs.YtmcdnpooclelgaaDoor.PAll

namespace Go.Proofs.YtmcdnpooclelgaaDoor.PAll
open Go.RowKit Go.Proofs.YtmcdnpooclelgaaDoorW.PrintWords Go.Proofs.YtmcdnpooclelgaaDoorW.PrintLast Go.Proofs.YtmcdnpooclelgaaDoorW.PrintMore
attribute [local go_sem] max2_int min2_int max_two min_two max_three min_three max_four min_four   -- for this text's walks alone
set_option linter.unusedVariables false
set_option linter.unusedSimpArgs false
def impl_long.f (a0 : ByteArray) : Option (Bool) := if (a0.size : Int) > 20000 then (some true) else ((impl_lines.f a0).bind fun t126 => (some (decide ((t126.length : Int) > 400))))
set_option maxHeartbeats 8000000 in
set_option maxRecDepth 100000 in
theorem impl_long.calls (a0 : ByteArray) (r : Bool) (w : World) (h : impl_long.f a0 = some r) :
  Calls Tryd.prog 81 #[.string a0] w fun e w' => e = .returned (.bool r) ∧ Below w.heap.size w w' := by
 have HB := Aside0.mk (Below.refl w.heap.size w)
 have H : (if (a0.size : Int) > 20000 then (some true) else ((impl_lines.f a0).bind fun t126 => (some (decide ((t126.length : Int) > 400))))) = some r := h
 clear h
 by_cases c2 : (a0.size : Int) > 20000
 ·rw [if_pos c2] at H
  have c2b0 : decide (20000 < (a0.size : Int)) = true := decide_eq_true c2
  have c2b1 : decide (20000 < a0.size) = true := decide_eq_true (by omega)
  clear c2
  obtain rfl := Option.some.inj H
  go_enter Tryd.func81, Tryd.ntmps81
  go_wp2
  go_ret
  exact ⟨by first | rfl | (simp [errW_none, errW_some] <;> rfl) | (simp [*, errW_none, errW_some] <;> rfl), by repeat (first | (with_reducible first | exact HB.out | apply below_alloc | apply pw_below_drewN | apply below_drew1) | exact HB.out)⟩
 ·rw [if_neg c2] at H
  have c2b0 : decide (20000 < (a0.size : Int)) = false := decide_eq_false c2
  have c2b1 : decide (20000 < a0.size) = false := decide_eq_false (by omega)
  clear c2
  replace H := Option.bind_eq_some_iff.mp H
  obtain ⟨t126, A30, H⟩ := H
  replace H : (some (decide ((t126.length : Int) > 400))) = some r := H
  have A3 := Aside0.mk A30
  clear A30
  obtain rfl := Option.some.inj H
  go_enter Tryd.func81, Tryd.ntmps81
  go_wp2_with (first | (go_at_call 122; (with_reducible refine (impl_lines.calls a0 t126 _ A3.out).mono ?_); rintro e w4 ⟨v127, rfl, ho0, hb⟩; have n0_ := Aside0.mk (Kd.R_lower ho0 (below_size (stB HB.out))); have n1_ := Aside0.mk (below_step (stB HB.out) hb); clear HB; have HO128 := n0_; have HB := n1_; clear n0_ n1_; (try clear hb); (try clear hb2); (try clear hk); (try clear hi); (try clear ho0); obtain ⟨Ao5, co5, eo5⟩ := Kd.R_slice HO128.out; subst eo5))
  go_ret
  exact ⟨by first | rfl | (simp [errW_none, errW_some] <;> rfl) | (simp [*, errW_none, errW_some] <;> rfl), by repeat (first | (with_reducible first | exact HB.out | apply below_alloc | apply pw_below_drewN | apply below_drew1) | exact HB.out)⟩
end Go.Proofs.YtmcdnpooclelgaaDoor.PAll

namespace Go.Proofs.YtmcdnpooclelgaaDoor.PAll
open Go.RowKit Go.Proofs.YtmcdnpooclelgaaDoorW.PrintWords
def cutsU (c : UInt8) : List UInt8 → List (List UInt8)
  | [] => [[]]
  | b :: l => if b = c then [] :: cutsU c l else match cutsU c l with | [] => [[b]] | h :: t => (b :: h) :: t
theorem splitK_cuts (c : UInt8) : ∀ s : List UInt8, Lib.splitK [c] 0 (Lib.count s [c]) s = cutsU c s
  | [] => by rw [Lib.count_one]; rfl
  | b :: l => by
    have ih := splitK_cuts c l
    by_cases h : b = c
    · subst h
      have hix : Lib.index (b :: l) [b] = ((0 : Nat) : Int) := by rw [Lib.index]; simp [List.isPrefixOf]
      rw [Lib.count_cons_eq, Nat.add_comm 1, Lib.splitK, hix]
      simp only [cutsU, if_true]
      rw [if_neg (by simp)]
      simp only [Int.toNat_natCast, Nat.zero_add, List.length_cons, List.length_nil, List.take_zero, List.drop_succ_cons, List.drop_zero]
      rw [ih]
    · rw [Lib.count_cons_ne b c l h]
      have hp : ([c] : List UInt8).isPrefixOf (b :: l) = false := by simp [List.isPrefixOf, Ne.symm h]
      have hix : Lib.index (b :: l) [c] = if Lib.index l [c] == -1 then -1 else Lib.index l [c] + 1 := by rw [Lib.index, hp]; simp
      simp only [cutsU, if_neg h]
      by_cases hm : Lib.index l [c] = -1
      · have hc := Lib.count_miss hm
        rw [hc] at ih ⊢
        rw [← ih]
        rfl
      · have hge := Lib.index_ge l [c]
        obtain ⟨j, hj⟩ : ∃ j : Nat, Lib.index l [c] = j := ⟨(Lib.index l [c]).toNat, by omega⟩
        have hc := Lib.count_hit (by simp) hj
        rw [Nat.add_comm] at hc
        have hn : ¬ (Lib.index l [c] == -1) = true := by simpa using hm
        rw [if_neg hn] at hix
        have hn2 : ¬ (Lib.index (b :: l) [c] == -1) = true := by rw [hix, hj]; simp; omega
        rw [hc, Lib.splitK, if_neg hn] at ih
        rw [hc, Lib.splitK, if_neg hn2, ← ih, hix, hj]
        have e1 : ((j : Int) + 1).toNat = j + 1 := by omega
        rw [e1]
        simp only [Int.toNat_natCast, Nat.add_zero, List.length_cons, List.length_nil, Nat.zero_add, List.take_succ_cons, List.drop_succ_cons]
theorem cutsU_len (c : UInt8) : ∀ s : List UInt8, (cutsU c s).length = s.count c + 1
  | [] => rfl
  | b :: l => by
    have ih := cutsU_len c l
    unfold cutsU
    by_cases h : b = c
    · rw [if_pos h, List.length_cons, ih, h, List.count_cons_self]
    · rw [if_neg h, List.count_cons_of_ne h]
      cases hx : cutsU c l with
      | nil => rw [hx] at ih; simp at ih
      | cons x t => rw [hx] at ih; simpa using ih
theorem cutsU_snoc (c : UInt8) : ∀ s : List UInt8, cutsU c (s ++ [c]) = cutsU c s ++ [[]]
  | [] => by simp [cutsU]
  | b :: l => by
    have ih := cutsU_snoc c l
    rw [List.cons_append]
    unfold cutsU
    by_cases h : b = c
    · rw [if_pos h, if_pos h, ih]; rfl
    · rw [if_neg h, if_neg h, ih]
      cases hx : cutsU c l with
      | nil => have := cutsU_len c l; rw [hx] at this; simp at this
      | cons x t => rfl
def textU (ps : List ByteArray) : List UInt8 := ps.flatMap fun p => p.data.toList
theorem text_strOf : ∀ ps : List ByteArray, strOfNums (textOf ps) = ⟨(textU ps).toArray⟩ := by
  intro ps
  have : (textOf ps).map (fun n => UInt8.ofNat n.toNat) = textU ps := by
    induction ps with
    | nil => rfl
    | cons p ps ih =>
      have e1 : textOf (p :: ps) = bytesOf p ++ textOf ps := by simp [textOf]
      have e2 : textU (p :: ps) = p.data.toList ++ textU ps := by simp [textU]
      rw [e1, e2, List.map_append, ih]
      congr 1
      unfold bytesOf
      rw [List.map_map]
      conv => rhs; rw [← List.map_id p.data.toList]
      refine List.map_congr_left fun c _ => ?_
      simp
  unfold strOfNums
  rw [this]
theorem textU_len (ps : List ByteArray) : (textU ps).length = (textOf ps).length := by
  induction ps with
  | nil => rfl
  | cons p ps ih =>
    have e1 : textOf (p :: ps) = bytesOf p ++ textOf ps := by simp [textOf]
    have e2 : textU (p :: ps) = p.data.toList ++ textU ps := by simp [textU]
    rw [e1, e2, List.length_append, List.length_append, ih, bytesOf_length, Array.length_toList]; rfl
theorem lineOk_u {p : ByteArray} (h : lineOk p) : ∃ q, p.data.toList = q ++ [10] ∧ q.count 10 = 0 := by
  obtain ⟨q, h1, h2⟩ := h
  unfold bytesOf at h1
  obtain ⟨l1, l2, e1, e2, e3⟩ := List.map_eq_append_iff.1 h1
  obtain ⟨b, r, e4, e5, e6⟩ := List.map_eq_cons_iff.1 e3
  have hr : r = [] := List.map_eq_nil_iff.1 e6
  subst hr
  have hb : b = 10 := by
    apply UInt8.toNat_inj.1
    have : (b.toNat : Int) = 10 := e5
    simp
    omega
  subst hb
  refine ⟨l1, by rw [e1, e4], List.count_eq_zero.2 fun hm => ?_⟩
  exact h2 10 (by rw [← e2]; exact List.mem_map.2 ⟨10, hm, rfl⟩) rfl
theorem text_cuts : ∀ ps : List ByteArray, (∀ p ∈ ps, lineOk p) → (textU ps).count 10 = ps.length ∧ (textU ps = [] ∨ ∃ q, textU ps = q ++ [10])
  | [], _ => ⟨rfl, .inl rfl⟩
  | p :: ps, h => by
    obtain ⟨q, hq, hc⟩ := lineOk_u (h p (by simp))
    obtain ⟨i1, i2⟩ := text_cuts ps fun x hx => h x (by simp [hx])
    have e2 : textU (p :: ps) = (q ++ [10]) ++ textU ps := by simp [textU, ← hq]
    refine ⟨?_, .inr ?_⟩
    · rw [e2, List.count_append, List.count_append, hc, i1, List.length_cons]; simp; omega
    · rcases i2 with i2 | ⟨r, i2⟩
      · exact ⟨q, by rw [e2, i2, List.append_nil]⟩
      · exact ⟨q ++ [10] ++ r, by rw [e2, i2]; simp only [List.append_assoc]⟩
theorem lines_text (ps : List ByteArray) (h : ∀ p ∈ ps, lineOk p) (hl : (textOf ps).length < 4294967281) (hn : ps.length ≤ 4294967281) : ∃ L, impl_lines.f (strOfNums (textOf ps)) = some L ∧ L.length = ps.length := by
  obtain ⟨c1, c2⟩ := text_cuts ps h
  rw [text_strOf]
  generalize hT : (⟨(textU ps).toArray⟩ : ByteArray) = T
  have hsz : T.size < 4294967281 := by
    rw [← hT]
    show (textU ps).toArray.size < _
    rw [List.size_toArray, textU_len]
    exact hl
  have hd : T.data.toList = textU ps := by rw [← hT]
  have hcnt : Lib.countB T ⟨#[10]⟩ = ps.length := by
    show Lib.count T.data.toList [10] = _
    rw [hd, Lib.count_one, c1]
  have hmap := Lib.splitB_data ⟨#[10]⟩ 0 (Lib.countB T ⟨#[10]⟩) T
  have hcuts : Lib.splitK (⟨#[10]⟩ : ByteArray).data.toList 0 (Lib.countB T ⟨#[10]⟩) T.data.toList = cutsU 10 T.data.toList := splitK_cuts 10 T.data.toList
  rw [hcuts, hd] at hmap
  have hlast : ∃ M, cutsU 10 (textU ps) = M ++ [[]] := by
    rcases c2 with c2 | ⟨q, c2⟩
    · exact ⟨[], by rw [c2]; rfl⟩
    · exact ⟨cutsU 10 q, by rw [c2, cutsU_snoc]⟩
  obtain ⟨M, hM⟩ := hlast
  have hlen := cutsU_len 10 (textU ps)
  rw [hM] at hmap hlen
  obtain ⟨l1, l2, e1, e2, e3⟩ := List.map_eq_append_iff.1 hmap
  obtain ⟨x, r, e4, e5, e6⟩ := List.map_eq_cons_iff.1 e3
  have hr : r = [] := List.map_eq_nil_iff.1 e6
  subst hr
  subst e4
  have hx : x.toList = [] := by rw [toList_data]; exact e5
  have hl1 : l1.length = ps.length := by
    have : l1.length = M.length := by rw [← e2, List.length_map]
    rw [List.length_append, c1] at hlen
    simp at hlen
    omega
  refine ⟨l1, ?_, hl1⟩
  have hw : wrap64 (((l1 ++ [x]).length : Int) - 1) = (ps.length : Int) := by
    rw [List.length_append, hl1, List.length_cons, List.length_nil, w64 (by omega) (by omega)]
    omega
  have hrd : rdOf ByteArray.empty (l1 ++ [x]) (ps.length : Int) = x := by
    unfold rdOf
    rw [Int.toNat_natCast, List.getD_eq_getElem?_getD, List.getElem?_append_right (by omega), hl1, Nat.sub_self]
    rfl
  unfold impl_lines.f strings_Split.f
  rw [if_pos ⟨rfl, hsz⟩, e1]
  simp only [Option.bind_some, hw, hrd, hx]
  rw [if_pos (by omega), if_pos (by rw [List.length_append, hl1, List.length_cons, List.length_nil]; omega)]
  simp only [if_true]
  rw [if_pos (by rw [List.length_append, hl1]; omega), Int.toNat_natCast, ← hl1, List.take_left]
theorem long_text (ps : List ByteArray) (h : ∀ p ∈ ps, lineOk p) (hn : ps.length ≤ 4294967281) : impl_long.f (strOfNums (textOf ps)) = some (decide (((textOf ps).length : Int) > 20000) || decide ((ps.length : Int) > 400)) := by
  unfold impl_long.f
  rw [strOfNums_size]
  by_cases q : ((textOf ps).length : Int) > 20000
  · rw [if_pos q, decide_eq_true q]; rfl
  · obtain ⟨L, h1, h2⟩ := lines_text ps h (by omega) hn
    rw [if_neg q, h1, decide_eq_false q]
    simp only [Option.bind_some, Bool.false_or, h2]
theorem finish_long (ps : List ByteArray) (h : ∀ p ∈ ps, lineOk p) (hn : ps.length ≤ 4294967281) : ∃ b, impl_long.f (strOfNums (textOf ps)) = some b ∧ finish ps = if b = true then ⟨#[]⟩ else strOfNums (textOf ps) := by
  refine ⟨_, long_text ps h hn, ?_⟩
  unfold finish
  by_cases q : ((textOf ps).length : Int) > 20000
  · rw [if_pos q, decide_eq_true q]; rfl
  · rw [if_neg q, decide_eq_false q, Bool.false_or]
    by_cases r : (ps.length : Int) > 400
    · rw [if_pos r, decide_eq_true r]; rfl
    · rw [if_neg r, decide_eq_false r]; rfl
end Go.Proofs.YtmcdnpooclelgaaDoor.PAll

namespace Go.Proofs.YtmcdnpooclelgaaDoor
open Go.RowKit Go.Proofs.YtmcdnpooclelgaaDoorW.PrintWords
set_option maxHeartbeats 400000 in
theorem l1Bare_any (c : Int) (w : World) : Calls Tryd.prog 141 #[.int .u8 c] w fun e w' => e = .returned (.bool (bareP c)) ∧ w = w' := by
  go_enter Tryd.func141, Tryd.ntmps141
  go_wp2
  all_goals (go_ret; refine ⟨ret_bool ?_, rfl⟩; unfold bareP)
  all_goals (simp [*]; try omega)
theorem infoU8 : (Tryd.prog.info? 5).map (fun i => (i.zero, i.size, i.bytes)) = some (some (.int .u8 0), 1, 1) := by kernel_rfl
set_option maxHeartbeats 1000000 in
theorem specSheetWord_any (s : ByteArray) (w : World) (hs : s.size ≤ 1048576) :
    Calls Tryd.prog 119 #[.string s] w fun e w' => e = .returned (.string (wordP s)) ∧ Below w.heap.size w w' := by
  go_enter Tryd.func119, Tryd.ntmps119
  go_wp2
  go_loop [3, 4] (fun b i => ∃ (k : Nat) (q : Bool), k ≤ s.size ∧ i = .int .i64 k ∧ b = .bool q ∧ Aside0 ((q && (from_ s k).all bareP) = (decide (0 < s.size) && (from_ s 0).all bareP))) (fun _ i => s.size - (intOf i).toNat)
  case atStart => exact ⟨0, _, Nat.zero_le _, rfl, rfl, ⟨by simp⟩⟩
  case round =>
    obtain ⟨k, q, hk, rfl, rfl, hq⟩ := hrel
    by_cases hlt : k < s.size
    · have hb := bt_cast s k
      go_wp2_with (go_at_call 141; refine (l1Bare_any _ _).mono ?_; rintro e w' ⟨rfl, rfl⟩)
      all_goals
        go_round
        case rel => exact ⟨k + 1, _, hlt, by go_num, rfl, ⟨by have := hq.out; rw [from_cons s k hlt] at this; first | simpa using this | simp_all⟩⟩
        case measure => simp [intOf]; omega
    · obtain rfl : k = s.size := by omega
      have hq2 : q = (decide (0 < s.size) && (from_ s 0).all bareP) := by have := hq.out; rw [from_nil s _ (Nat.le_refl _)] at this; simpa using this
      clear hq
      cases q with
      | true =>
        have Hw : Aside0 (wordP s = s) := ⟨by unfold wordP; rw [if_pos hq2.symm]⟩
        clear hq2
        go_wp2
        go_ret
        exact ⟨congrArg (fun z => Ending.returned (.string z)) Hw.out.symm, Below.refl _ _⟩
      | false =>
        have Hw : Aside0 (wordP s = strOfNums ([34] ++ (from_ s 0).flatMap escP ++ [34])) := ⟨by unfold wordP; rw [if_neg (by rw [← hq2]; simp)]⟩
        clear hq2
        go_wp2
        go_loopw [5, 7] (fun v i wr => ∃ (k : Nat) (acc : List Int), k ≤ s.size ∧ i = .int .i64 k ∧ Aside0 (acc.length ≤ 1 + 3 * k) ∧ Aside0 (acc ++ (from_ s k).flatMap escP = [34] ++ (from_ s 0).flatMap escP) ∧ Aside0 (NR wr w.heap.size 5 .u8 v acc) ∧ Below w.heap.size w wr) (fun _ i _ => s.size - (intOf i).toNat)
        case atStart =>
          refine ⟨0, [34], Nat.zero_le _, rfl, ⟨by simp⟩, ⟨rfl⟩, ⟨?_⟩, ?_⟩
          · exact NR.lit w w.heap.size 5 .u8 [34] (Nat.le_refl _) (by simp)
          · exact (Below.refl _ _).alloc (Nat.le_refl _) _
        case round =>
          obtain ⟨k, acc, hk2, rfl, hl, hE, ho, hB⟩ := hrel
          by_cases hlt : k < s.size
          · have hb := bt_cast s k
            obtain ⟨c0, c1⟩ := bt_range s k
            have hF : Aside0 (from_ s k = bt s k :: from_ s (k + 1)) := ⟨from_cons s k hlt⟩
            generalize hc : bt s k = c at *
            clear hc
            go_upto_region 13 with (fail)
            go_cut [54] (fun v wc => v = .bool (selfP c) ∧ wc = wr)
            case first =>
              go_wp2
              all_goals (go_meet; refine ⟨congrArg Value.bool ?_, rfl⟩; unfold selfP; simp [*]; try omega)
            case rest =>
              obtain ⟨rfl, rfl⟩ := hcut
              cases hself : selfP c with
              | true =>
                have hesc : Aside0 (escP c = [c]) := ⟨if_pos hself⟩
                clear hself
                go_wp2_with (at_builtin; refine NR.app 1 [c] (.tmp 55) (.tmp 59) 32 5 ho.out hB ?aL rfl rfl Tryd.underlying32 infoU8 (by decide) (by decide) hB.size rfl rfl ?_; (case aL => have := hl.out; simp; omega); intro v1 w1 Ho1 hb1 hg1 hat1; clear hg1 hat1)
                go_roundw
                case rel => exact ⟨k + 1, acc ++ [c], hlt, by go_num, ⟨by have := hl.out; simp; omega⟩, ⟨by have := hE.out; rw [hF.out, List.flatMap_cons, hesc.out] at this; simpa using this⟩, Ho1, hb1⟩
                case measure => simp [intOf]; omega
              | false =>
                have hesc : Aside0 (escP c = [92, bt hexs (c / 16), bt hexs (c % 16)]) := ⟨if_neg (by rw [hself]; simp)⟩
                clear hself
                have wD : IntKind.u8.wrap (c.tdiv 16) = c / 16 := by rw [Int.tdiv_eq_ediv_of_nonneg c0]; simp [IntKind.wrap, IntKind.bits]; omega
                have wM : c.tmod 16 = c % 16 := Int.tmod_eq_emod_of_nonneg c0
                obtain ⟨D, eD⟩ : ∃ D, D = c / 16 := ⟨_, rfl⟩
                obtain ⟨M, eM⟩ : ∃ M, M = c % 16 := ⟨_, rfl⟩
                have D0 : 0 ≤ D := by omega
                have D1 : D < 16 := by omega
                have M0 : 0 ≤ M := by omega
                have M1 : M < 16 := by omega
                rw [← eD] at wD hesc
                rw [← eM] at wM hesc
                have hxD := hexs_at D
                have hxM := hexs_at M
                clear eD eM
                go_wp2
                go_region_law (refine NR.app_step 1 [92, bt hexs D, bt hexs M] (.tmp 61) (.tmp 74) 32 5 (NR.drew ho.out) (below_drew hB) ?aL rfl rfl Tryd.underlying32 infoU8 (by decide) (by decide) hB.size rfl rfl ?_; (case aL => have := hl.out; simp; omega); intro v1 w1 Ho1 hb1 hg1 hat1; clear hg1 hat1)
                all_goals
                  go_wp2
                  go_roundw
                  case rel => exact ⟨k + 1, acc ++ [92, bt hexs D, bt hexs M], hlt, by go_num, ⟨by have := hl.out; simp; omega⟩, ⟨by have := hE.out; rw [hF.out, List.flatMap_cons, hesc.out] at this; simpa using this⟩, Ho1, hb1⟩
                  case measure => simp [intOf]; omega
          · obtain rfl : k = s.size := by omega
            have hfin : Aside0 (strOfNums (acc ++ [34]) = wordP s) := ⟨by have := hE.out; rw [from_nil s _ (Nat.le_refl _)] at this; rw [Hw.out, ← this]; simp⟩
            go_wp2_with (at_builtin; refine NR.app 1 [34] (.tmp 76) (.tmp 77) 32 5 ho.out hB ?aL rfl rfl Tryd.underlying32 infoU8 (by decide) (by decide) hB.size rfl rfl ?_; (case aL => have := hl.out; simp; omega); intro v1 w1 Ho1 hb1 hg1 hat1; have Hst := own_string (P := Tryd.prog) Tryd.underlying32 Tryd.underlying5 Tryd.underlying9 Ho1.out; clear hg1 hat1)
            go_ret
            exact ⟨congrArg (fun z => Ending.returned (.string z)) hfin.out, hb1⟩
theorem implBare_any (c : Int) (w : World) : Calls Tryd.prog 143 #[.int .u8 c] w fun e w' => e = .returned (.bool (bareP c)) ∧ w = w' := by
  go_enter Tryd.func143, Tryd.ntmps143
  go_wp2
  all_goals (go_ret; refine ⟨ret_bool ?_, rfl⟩; unfold bareP)
  all_goals (first | rfl | (simp [*]; done) | (simp [*]; omega) | omega | trace_state)
theorem implSelf_any (c : Int) (w : World) : Calls Tryd.prog 144 #[.int .u8 c] w fun e w' => e = .returned (.bool (selfP c)) ∧ w = w' := by
  go_enter Tryd.func144, Tryd.ntmps144
  go_wp2
  all_goals (go_ret; refine ⟨ret_bool ?_, rfl⟩; unfold selfP)
  all_goals (first | rfl | (simp [*]; done) | (simp [*]; omega) | omega | trace_state)
set_option maxHeartbeats 1000000 in
theorem implSheetWord_any (s : ByteArray) (w : World) (hs : s.size ≤ 1048576) :
    Calls Tryd.prog 121 #[.string s] w fun e w' => e = .returned (.string (wordP s)) ∧ Below w.heap.size w w' := by
  go_enter Tryd.func121, Tryd.ntmps121
  go_wp2
  go_loop [3, 4, 12] (fun b _ i => ∃ (k : Nat) (q : Bool), k ≤ s.size ∧ i = .int .i64 k ∧ b = .bool q ∧ Aside0 ((q && (from_ s k).all bareP) = (decide (0 < s.size) && (from_ s 0).all bareP))) (fun _ _ i => s.size - (intOf i).toNat)
  case atStart => exact ⟨0, _, Nat.zero_le _, rfl, rfl, ⟨by rw [bytes_empty]⟩⟩
  case round =>
    obtain ⟨k, q, hk, rfl, rfl, hq⟩ := hrel
    by_cases hlt : k < s.size
    · have hb := bt_cast s k
      go_wp2_with (go_at_call 143; refine (implBare_any _ _).mono ?_; rintro e w' ⟨rfl, rfl⟩)
      all_goals
        go_round
        case rel => exact ⟨k + 1, _, hlt, by go_num, rfl, ⟨by have := hq.out; rw [from_cons s k hlt] at this; first | simpa using this | simp_all⟩⟩
        case measure => simp [intOf]; omega
    · obtain rfl : k = s.size := by omega
      have hq2 : q = (decide (0 < s.size) && (from_ s 0).all bareP) := by have := hq.out; rw [from_nil s _ (Nat.le_refl _)] at this; simpa using this
      clear hq
      cases q with
      | true =>
        have Hw : Aside0 (wordP s = s) := ⟨by unfold wordP; rw [if_pos hq2.symm]⟩
        clear hq2
        go_wp2
        go_ret
        exact ⟨ret_str Hw.out.symm, Below.refl _ _⟩
      | false =>
        have Hw : Aside0 (wordP s = strOfNums ([34] ++ (from_ s 0).flatMap escP ++ [34])) := ⟨by unfold wordP; rw [if_neg (by rw [← hq2]; simp)]⟩
        clear hq2
        go_wp2
        go_loopw [5, 6, 7, 28] (fun v _ _ i wr => ∃ (k : Nat) (acc : List Int), k ≤ s.size ∧ i = .int .i64 k ∧ Aside0 (acc.length ≤ 1 + 3 * k) ∧ Aside0 (acc ++ (from_ s k).flatMap escP = [34] ++ (from_ s 0).flatMap escP) ∧ Aside0 (NR wr w.heap.size 5 .u8 v acc) ∧ Below w.heap.size w wr) (fun _ _ _ i _ => s.size - (intOf i).toNat)
        case atStart =>
          refine ⟨0, [34], Nat.zero_le _, rfl, ⟨by simp⟩, ⟨rfl⟩, ⟨?_⟩, ?_⟩
          · exact NR.lit w w.heap.size 5 .u8 [34] (Nat.le_refl _) (by simp)
          · exact (Below.refl _ _).alloc (Nat.le_refl _) _
        case round =>
          obtain ⟨k, acc, hk2, rfl, hl, hE, ho, hB⟩ := hrel
          by_cases hlt : k < s.size
          · have hb := bt_cast s k
            obtain ⟨c0, c1⟩ := bt_range s k
            have hF : Aside0 (from_ s k = bt s k :: from_ s (k + 1)) := ⟨from_cons s k hlt⟩
            generalize hc : bt s k = c at *
            clear hc
            cases hself : selfP c with
            | true =>
              have hesc : Aside0 (escP c = [c]) := ⟨if_pos hself⟩
              go_wp2_with (first | (go_at_call 144; refine (implSelf_any _ _).mono ?_; rintro e w' ⟨rfl, rfl⟩) | (at_builtin; refine NR.app 1 [c] (.tmp 36) (.tmp 38) 32 5 ho.out hB ?aL rfl rfl Tryd.underlying32 infoU8 (by decide) (by decide) hB.size rfl rfl ?_; (case aL => have := hl.out; simp; omega); intro v1 w1 Ho1 hb1 hg1 hat1; clear hg1 hat1))
              go_roundw
              case rel => exact ⟨k + 1, acc ++ [c], hlt, by go_num, ⟨by have := hl.out; simp; omega⟩, ⟨by have := hE.out; rw [hF.out, List.flatMap_cons, hesc.out] at this; simpa using this⟩, Ho1, hb1⟩
              case measure => simp [intOf]; omega
            | false =>
              have hesc : Aside0 (escP c = [92, bt hexs (c / 16), bt hexs (c % 16)]) := ⟨if_neg (by rw [hself]; simp)⟩
              have wM : Go.bits .and .u8 c 15 = c % 16 := and_15 c c0 c1
              obtain ⟨D, eD⟩ : ∃ D, D = c / 16 := ⟨_, rfl⟩
              obtain ⟨M, eM⟩ : ∃ M, M = c % 16 := ⟨_, rfl⟩
              have D0 : 0 ≤ D := by omega
              have D1 : D < 16 := by omega
              have M0 : 0 ≤ M := by omega
              have M1 : M < 16 := by omega
              have wD : c / 16 = D := eD.symm
              rw [← eD, ← eM] at hesc
              rw [← eM] at wM
              have hxD := hexs_at D
              have hxM := hexs_at M
              clear eD eM
              go_wp2_with (go_at_call 144; refine (implSelf_any _ _).mono ?_; rintro e w' ⟨rfl, rfl⟩)
              go_region_law (refine NR.app_step 1 [92, bt hexs D, bt hexs M] (.tmp 40) (.tmp 47) 32 5 (NR.drew ho.out) (below_drew hB) ?aL rfl rfl Tryd.underlying32 infoU8 (by decide) (by decide) hB.size rfl rfl ?_; (case aL => have := hl.out; simp; omega); intro v1 w1 Ho1 hb1 hg1 hat1; clear hg1 hat1)
              all_goals
                go_wp2
                go_roundw
                case rel => exact ⟨k + 1, acc ++ [92, bt hexs D, bt hexs M], hlt, by go_num, ⟨by have := hl.out; simp; omega⟩, ⟨by have := hE.out; rw [hF.out, List.flatMap_cons, hesc.out] at this; simpa using this⟩, Ho1, hb1⟩
                case measure => simp [intOf]; omega
          · obtain rfl : k = s.size := by omega
            have hfin : Aside0 (strOfNums (acc ++ [34]) = wordP s) := ⟨by have := hE.out; rw [from_nil s _ (Nat.le_refl _)] at this; rw [Hw.out, ← this]; simp⟩
            go_wp2_with (at_builtin; refine NR.app 1 [34] (.tmp 50) (.tmp 51) 32 5 ho.out hB ?aL rfl rfl Tryd.underlying32 infoU8 (by decide) (by decide) hB.size rfl rfl ?_; (case aL => have := hl.out; simp; omega); intro v1 w1 Ho1 hb1 hg1 hat1; have Hst := own_string (P := Tryd.prog) Tryd.underlying32 Tryd.underlying5 Tryd.underlying9 Ho1.out; clear hg1 hat1)
            go_ret
            exact ⟨ret_str hfin.out, hb1⟩
end Go.Proofs.YtmcdnpooclelgaaDoor

namespace Go.Proofs.YtmcdnpooclelgaaDoor.PAll
open Go.RowKit Go.Proofs.YtmcdnpooclelgaaDoorW.PrintWords
def spec_SheetWord.f (a0 : ByteArray) : Option ByteArray := if a0.size ≤ 1048576 then some (wordP a0) else none
theorem spec_SheetWord.calls (a0 r : ByteArray) (w : World) (h : spec_SheetWord.f a0 = some r) : Calls Tryd.prog 119 #[.string a0] w fun e w' => e = .returned (.string r) ∧ Below w.heap.size w w' := by
  unfold spec_SheetWord.f at h
  split at h
  case isTrue hc => obtain rfl := Option.some.inj h; exact specSheetWord_any a0 w hc
  case isFalse => cases h
def impl_SheetWord.f (a0 : ByteArray) : Option ByteArray := if a0.size ≤ 1048576 then some (wordP a0) else none
theorem impl_SheetWord.calls (a0 r : ByteArray) (w : World) (h : impl_SheetWord.f a0 = some r) : Calls Tryd.prog 121 #[.string a0] w fun e w' => e = .returned (.string r) ∧ Below w.heap.size w w' := by
  unfold impl_SheetWord.f at h
  split at h
  case isTrue hc => obtain rfl := Option.some.inj h; exact implSheetWord_any a0 w hc
  case isFalse => cases h
end Go.Proofs.YtmcdnpooclelgaaDoor.PAll

namespace Go.Proofs.YtmcdnpooclelgaaDoor.PAll
open Go.RowKit Go.Proofs.YtmcdnpooclelgaaDoorW.PrintWords Go.Proofs.YtmcdnpooclelgaaDoorW.PrintLast Go.Proofs.YtmcdnpooclelgaaDoorW.PrintMore
attribute [local go_sem] max2_int min2_int max_two min_two max_three min_three max_four min_four   -- for this text's walks alone
set_option linter.unusedVariables false
set_option linter.unusedSimpArgs false
def spec_l4Line.l0 : Nat → ByteArray → Int → ByteArray → List ByteArray → Option (ByteArray)
 | 0, _, _, _, _ => none
 | k + 1, x3, x4, x481000, x481001 => if x4 < (x481001.length : Int) then (if x3.size + 1 ≤ 9223372036854775807 then (if 0 ≤ x4 then ((spec_SheetWord.f (rdOf ByteArray.empty x481001 x4)).bind fun t482 => (if (x3 ++ (⟨#[32]⟩ : ByteArray)).size + t482.size ≤ 9223372036854775807 then (spec_l4Line.l0 k ((x3 ++ (⟨#[32]⟩ : ByteArray)) ++ t482) (wrap64 (x4 + 1)) x481000 x481001) else (none))) else (none)) else (none)) else (some x3)
def spec_l4Line.f (k : Nat) (a0_0 : ByteArray) (l0_1 : List ByteArray) : Option (ByteArray) := spec_l4Line.l0 k a0_0 0 a0_0 l0_1
set_option maxHeartbeats 8000000 in
set_option maxRecDepth 100000 in
theorem spec_l4Line.calls (k : Nat) (a0_0 : ByteArray) (A0_1 : Option Addr) (c0_1 : Nat) (l0_1 : List ByteArray) (r : ByteArray) (w : World) (hr0_1 : Kd.C Kd.string w A0_1 l0_1.length l0_1) (hc0_1 : l0_1.length ≤ c0_1) (h : spec_l4Line.f k a0_0 l0_1 = some r) :
  Calls Tryd.prog 78 #[.agg #[.string a0_0, .slice A0_1 l0_1.length c0_1]] w fun e w' => e = .returned (.string r) ∧ Below w.heap.size w w' := by
 have hu83 := Tryd.underlying83
 have HR0_1 := Aside0.mk hr0_1
 have HC0_1 := Aside0.mk hc0_1
 clear hr0_1 hc0_1
 have HB := Aside0.mk (Below.refl w.heap.size w)
 have H : (spec_l4Line.l0 k a0_0 0 a0_0 l0_1) = some r := h
 clear h
 have H' := Aside0.mk H
 clear H
 go_enter Tryd.func78, Tryd.ntmps78
 go_wp2_with (first | ((with_reducible refine gate_dst (N := 1) rfl ?_); refine box_event ?hg (N := 1) ?hd (cs := #[.string a0_0, .slice A0_1 l0_1.length c0_1]) (t := 83) ?hr ?_; (case hd => rfl); (case hg => rfl); (case hr => first | (go_simp; done) | (go_simp; rfl)); intro gb480 hg w2 hbox hb; have n0_ := Aside0.mk (below_step (stB HB.out) hb); have n1_ := Aside0.mk (hbox); have n2_ := Aside0.mk ((by rw [hg]; exact (below_size (stB HB.out)) : w.heap.size ≤ gb480)); have n3_ := Aside0.mk ((by rw [hg]; exact (below_size (stB HB.out)) : w.heap.size ≤ gb480)); clear HB; have HB := n0_; have BK480 := n1_; have GW480 := n2_; have GE480 := n3_; clear n0_ n1_ n2_ n3_; clear hb hbox hg; have hcz3_0 : w2.cell? ⟨gb480, 0, none⟩ = some (.string a0_0) := (blk_cell BK480.out 0).trans rfl; have hcz3_1 : w2.cell? ⟨gb480, 1, none⟩ = some (.slice A0_1 l0_1.length c0_1) := (blk_cell BK480.out 1).trans rfl; have hfz3_0 := blk_frozen BK480.out 0; have hfz3_1 := blk_frozen BK480.out 1))
 go_loopg [3, 4] k (fun kq v3 v4 w' => ∃ (x3_1 : ByteArray) (x4_1 : Int), v3 = .string x3_1 ∧ v4 = .int .i64 x4_1 ∧ Aside0 (spec_l4Line.l0 kq x3_1 x4_1 a0_0 l0_1 = some r) ∧ Aside0 (kq ≤ k) ∧ Aside0 (w'.heap[gb480]? = some (.cells #[.string a0_0, (.slice A0_1 l0_1.length c0_1)] 83 (0, 0))) ∧ Aside0 (Below w.heap.size w w'))
 case atStart => exact ⟨(a0_0), (0), (by first | rfl | (simp; done) | (simp [*]; done)), (by first | rfl | (simp; done) | (simp [*]; done)), H', ⟨Nat.le_refl _⟩, ⟨by (with_reducible repeat (first | refine blk_drewN ?_ _ | refine blk_drew ?_ | refine blk_alloc ?_ _)); exact BK480.out⟩, ⟨by repeat (first | (with_reducible first | exact HB.out | apply below_alloc | apply pw_below_drewN | apply below_drew1 | refine below_set ?_ GE480.out) | exact HB.out)⟩⟩
 case round =>
  clear H'
  try clear p2
  try clear hcz3_0
  try clear hcz3_1
  try clear hfz3_0
  try clear hfz3_1
  obtain ⟨x3_1, x4_1, rfl, rfl, HA, HK1, BK480, HB⟩ := hrel
  cases gk with
  | zero => exact absurd HA.out (by simp [spec_l4Line.l0])
  | succ k1 =>
   have H := HA.out
   clear HA
   simp only [spec_l4Line.l0] at H
   by_cases c4 : x4_1 < (l0_1.length : Int)
   ·rw [if_pos c4] at H
    have c4b0 : decide (x4_1 < (l0_1.length : Int)) = true := decide_eq_true c4
    clear c4
    by_cases c5 : x3_1.size + 1 ≤ 9223372036854775807
    ·rw [if_pos c5] at H
     have c5b0 := eq_true c5
     have c5b1 : decide (x3_1.size + 1 ≤ 9223372036854775807) = true := decide_eq_true c5
     try have c5b2 : (9223372036854775807 < x3_1.size + 1) = False := eq_false (Nat.not_lt.2 c5)
     by_cases c6 : 0 ≤ x4_1
     ·rw [if_pos c6] at H
      have c6b0 : decide (0 ≤ x4_1) = true := decide_eq_true c6
      clear c6
      replace H := Option.bind_eq_some_iff.mp H
      obtain ⟨t482, A70, H⟩ := H
      replace H : (if (x3_1 ++ (⟨#[32]⟩ : ByteArray)).size + t482.size ≤ 9223372036854775807 then (spec_l4Line.l0 k1 ((x3_1 ++ (⟨#[32]⟩ : ByteArray)) ++ t482) (wrap64 (x4_1 + 1)) a0_0 l0_1) else (none)) = some r := H
      have A7 := Aside0.mk A70
      clear A70
      by_cases c8 : (x3_1 ++ (⟨#[32]⟩ : ByteArray)).size + t482.size ≤ 9223372036854775807
      ·rw [if_pos c8] at H
       have c8b0 := eq_true c8
       have c8c : x3_1.size + 1 + t482.size ≤ 9223372036854775807 := by have e_ : (x3_1 ++ (⟨#[32]⟩ : ByteArray)).size = x3_1.size + 1 := (by rw [ByteArray.size_append]; rfl); omega
       have c8d0 := eq_true c8c
       have c8d1 : decide (x3_1.size + 1 + t482.size ≤ 9223372036854775807) = true := decide_eq_true c8c
       have c8d2 : (9223372036854775807 < x3_1.size + 1 + t482.size) = False := eq_false (Nat.not_lt.2 c8c)
       have c8b1 : decide ((x3_1 ++ (⟨#[32]⟩ : ByteArray)).size + t482.size ≤ 9223372036854775807) = true := decide_eq_true c8
       try have c8b2 : (9223372036854775807 < (x3_1 ++ (⟨#[32]⟩ : ByteArray)).size + t482.size) = False := eq_false (Nat.not_lt.2 c8)
       have H' := Aside0.mk H
       clear H
       have hcz9_0 : wr.cell? ⟨gb480, 0, none⟩ = some (.string a0_0) := (blk_cell BK480.out 0).trans rfl
       have hcz9_1 : wr.cell? ⟨gb480, 1, none⟩ = some (.slice A0_1 l0_1.length c0_1) := (blk_cell BK480.out 1).trans rfl
       have hfz9_0 := blk_frozen BK480.out 0
       have hfz9_1 := blk_frozen BK480.out 1
       have p481 : 0 ≤ (x4_1 : Int) := of_decide_eq_true (by first | (with_reducible assumption) | assumption)
       have q481 : x4_1 < (l0_1.length : Int) := of_decide_eq_true (by first | (with_reducible assumption) | assumption)
       obtain ⟨ad481, e481, hx481_0⟩ := Kd.at_string HR0_1.out x4_1 p481 q481
       cases e481
       (try replace hx481_0 := (HB.out.cell (World.block_lt_of_cell? w _ hx481_0)).trans hx481_0)
       replace p481 := eq_true p481
       replace q481 := eq_true q481
       go_wp2_with (first | ((with_reducible refine gate_callee (f := 119) rfl ?_); refine goesL_ (some 21) rfl rfl Tryd.func119 (by kernel_rfl) rfl #[.string (rdOf ByteArray.empty l0_1 x4_1)] rfl (by (try simp only [List.map_toArray, List.map_cons, List.map_nil]); first | done | rfl | (simp only [List.length_drop, List.length_take]; rfl)) ?_; (with_reducible refine (spec_SheetWord.calls (rdOf ByteArray.empty l0_1 x4_1) t482 _ A7.out).mono ?_); rintro e w10 ⟨rfl, hb⟩; refine ⟨_, rfl, ?_⟩; have n0_ := Aside0.mk (blk_below (g := gb480) (o := .cells #[.string a0_0, .slice (some ad481) l0_1.length c0_1] 83 (0, 0)) (by (with_reducible repeat (first | refine blk_drewN ?_ _ | refine blk_drew ?_ | refine blk_alloc ?_ _)); exact BK480.out) hb); have n1_ := Aside0.mk (below_step (by repeat (first | (with_reducible first | exact HB.out | apply below_alloc | apply pw_below_drewN | apply below_drew1 | refine below_set ?_ GE480.out) | exact HB.out)) hb); clear BK480; clear HB; have BK480 := n0_; have HB := n1_; clear n0_ n1_; (try clear hb); (try clear hb2); (try clear hk); (try clear hi)))
       go_roundg k1
       case measure => have := HK1.out; omega
       case rel => exact ⟨((x3_1 ++ (⟨#[32]⟩ : ByteArray)) ++ t482), (wrap64 (x4_1 + 1)), (by first | rfl | (simp; done) | (simp [*]; done)), (by first | rfl | (simp; done) | (simp [*]; done)), H', ⟨by have := HK1.out; omega⟩, ⟨by (with_reducible repeat (first | refine blk_drewN ?_ _ | refine blk_drew ?_ | refine blk_alloc ?_ _)); exact BK480.out⟩, ⟨by repeat (first | (with_reducible first | exact HB.out | apply below_alloc | apply pw_below_drewN | apply below_drew1 | refine below_set ?_ GE480.out) | exact HB.out)⟩⟩
      ·rw [if_neg c8] at H
       exact absurd H (by simp)
     ·rw [if_neg c6] at H
      exact absurd H (by simp)
    ·rw [if_neg c5] at H
     exact absurd H (by simp)
   ·rw [if_neg c4] at H
    have c4b0 : decide (x4_1 < (l0_1.length : Int)) = false := decide_eq_false c4
    clear c4
    obtain rfl := Option.some.inj H
    have hcz11_0 : wr.cell? ⟨gb480, 0, none⟩ = some (.string a0_0) := (blk_cell BK480.out 0).trans rfl
    have hcz11_1 : wr.cell? ⟨gb480, 1, none⟩ = some (.slice A0_1 l0_1.length c0_1) := (blk_cell BK480.out 1).trans rfl
    have hfz11_0 := blk_frozen BK480.out 0
    have hfz11_1 := blk_frozen BK480.out 1
    go_wp2
    go_ret
    exact ⟨by first | rfl | (simp [errW_none, errW_some] <;> rfl) | (simp [*, errW_none, errW_some] <;> rfl), by repeat (first | (with_reducible first | exact HB.out | apply below_alloc | apply pw_below_drewN | apply below_drew1 | refine below_set ?_ GE480.out) | exact HB.out)⟩
end Go.Proofs.YtmcdnpooclelgaaDoor.PAll

namespace Go.Proofs.YtmcdnpooclelgaaDoor.PAll
open Go.RowKit Go.Proofs.YtmcdnpooclelgaaDoorW.PrintWords Go.Proofs.YtmcdnpooclelgaaDoorW.PrintLast Go.Proofs.YtmcdnpooclelgaaDoorW.PrintMore
attribute [local go_sem] max2_int min2_int max_two min_two max_three min_three max_four min_four   -- for this text's walks alone
set_option linter.unusedVariables false
set_option linter.unusedSimpArgs false
mutual
def spec_SheetPrint.l0 : Nat → List Int → Int → Int → List (S62) → Option (ByteArray)
 | 0, _, _, _, _ => none
 | k + 1, x3, x4, x5, x484000 => if x5 < (x484000.length : Int) then (if 0 ≤ x5 then (if ((rd_T62 x484000 x5).f0).size + 1 ≤ 9223372036854775807 then (if (((rd_T62 x484000 x5).f0) ++ (⟨#[32]⟩ : ByteArray)).size + ((rd_T62 x484000 x5).f1).size ≤ 9223372036854775807 then (if ((((rd_T62 x484000 x5).f0) ++ (⟨#[32]⟩ : ByteArray)) ++ ((rd_T62 x484000 x5).f1)).size + 1 ≤ 9223372036854775807 then (if x3.length + (((((rd_T62 x484000 x5).f0) ++ (⟨#[32]⟩ : ByteArray)) ++ ((rd_T62 x484000 x5).f1)) ++ (⟨#[10]⟩ : ByteArray)).size < 140737488355328 then (spec_SheetPrint.l1 k (x3 ++ bytesOf (((((rd_T62 x484000 x5).f0) ++ (⟨#[32]⟩ : ByteArray)) ++ ((rd_T62 x484000 x5).f1)) ++ (⟨#[10]⟩ : ByteArray))) x4 x5 0 x484000 ((rd_T62 x484000 x5).f0) ((rd_T62 x484000 x5).f1) ((rd_T62 x484000 x5).f2)) else (none)) else (none)) else (none)) else (none)) else (none)) else (if (x3.length : Int) > 20000 then (some (⟨#[]⟩ : ByteArray)) else (if x4 > 400 then (some (⟨#[]⟩ : ByteArray)) else (some (strOfNums x3))))
def spec_SheetPrint.l1 : Nat → List Int → Int → Int → Int → List (S62) → ByteArray → ByteArray → List (S83) → Option (ByteArray)
 | 0, _, _, _, _, _, _, _, _ => none
 | k + 1, x3, x4, x5, x7, x484000, x490000, x490001, x490002 => if x7 < (x490002.length : Int) then (if 0 ≤ x7 then ((spec_l4Line.f k ((rd_T83 x490002 x7).f0) ((rd_T83 x490002 x7).f1)).bind fun t494 => (if 2 + t494.size ≤ 9223372036854775807 then (if ((⟨#[32, 32]⟩ : ByteArray) ++ t494).size + 1 ≤ 9223372036854775807 then (if x3.length + (((⟨#[32, 32]⟩ : ByteArray) ++ t494) ++ (⟨#[10]⟩ : ByteArray)).size < 140737488355328 then (spec_SheetPrint.l1 k (x3 ++ bytesOf (((⟨#[32, 32]⟩ : ByteArray) ++ t494) ++ (⟨#[10]⟩ : ByteArray))) x4 x5 (wrap64 (x7 + 1)) x484000 x490000 x490001 x490002) else (none)) else (none)) else (none))) else (none)) else (if x3.length + 4 < 140737488355328 then (spec_SheetPrint.l0 k (x3 ++ bytesOf (⟨#[101, 110, 100, 10]⟩ : ByteArray)) (wrap64 ((wrap64 (x4 + (x490002.length : Int))) + 2)) (wrap64 (x5 + 1)) x484000) else (none))
end
def spec_SheetPrint.f (k : Nat) (l0_0 : List (S62)) : Option (ByteArray) := (spec_SheetValid.f k l0_0).bind fun t484 => (if t484 = true then (spec_SheetPrint.l0 k (([] : List Int)) 0 0 l0_0) else (some (⟨#[]⟩ : ByteArray)))
set_option maxHeartbeats 8000000 in
set_option maxRecDepth 100000 in
theorem spec_SheetPrint.calls (k : Nat) (A0_0 : Option Addr) (c0_0 : Nat) (l0_0 : List (S62)) (r : ByteArray) (w : World) (hr0_0 : Kd.C k62 w A0_0 l0_0.length l0_0) (hc0_0 : l0_0.length ≤ c0_0) (h : spec_SheetPrint.f k l0_0 = some r) :
  Calls Tryd.prog 31 #[.agg #[.slice A0_0 l0_0.length c0_0]] w fun e w' => e = .returned (.string r) ∧ Below w.heap.size w w' := by
 have hu47 := Tryd.underlying47
 have hu62 := Tryd.underlying62
 have hu83 := Tryd.underlying83
 have HR0_0 := Aside0.mk hr0_0
 have HC0_0 := Aside0.mk hc0_0
 clear hr0_0 hc0_0
 have HB := Aside0.mk (Below.refl w.heap.size w)
 have H : ((spec_SheetValid.f k l0_0).bind fun t484 => (if t484 = true then (spec_SheetPrint.l0 k (([] : List Int)) 0 0 l0_0) else (some (⟨#[]⟩ : ByteArray)))) = some r := h
 clear h
 replace H := Option.bind_eq_some_iff.mp H
 obtain ⟨t484, A20, H⟩ := H
 replace H : (if t484 = true then (spec_SheetPrint.l0 k (([] : List Int)) 0 0 l0_0) else (some (⟨#[]⟩ : ByteArray))) = some r := H
 have A2 := Aside0.mk A20
 clear A20
 by_cases c3 : t484 = true
 ·subst c3
  have H1 : (spec_SheetPrint.l0 k (([] : List Int)) 0 0 l0_0) = some r := by rw [if_pos rfl] at H; exact H
  clear H
  have H := H1
  clear H1
  obtain ⟨y485, hy485⟩ : ∃ y_ : List Int, y_ = (([] : List Int)) := ⟨_, rfl⟩
  replace H : (spec_SheetPrint.l0 k y485 0 0 l0_0) = some r := by first | (rw [hy485]; with_reducible exact H) | (have H2_ := (Option.bind_some _ _).symm.trans H; rw [hy485]; with_reducible exact H2_) | (have H2_ := (Option.bind_some _ _).symm.trans H; with_reducible exact H2_) | with_reducible exact H | (rw [hy485]; exact H) | exact H
  have Ny485 := Aside0.mk hy485
  clear hy485
  have H' := Aside0.mk H
  clear H
  go_enter Tryd.func31, Tryd.ntmps31
  go_wp2_with (first | ((with_reducible refine gate_dst (N := 1) rfl ?_); refine box_event ?hg (N := 1) ?hd (cs := #[.slice A0_0 l0_0.length c0_0]) (t := 47) ?hr ?_; (case hd => rfl); (case hg => rfl); (case hr => first | (go_simp; done) | (go_simp; rfl)); intro gb483 hg w4 hbox hb; have n0_ := Aside0.mk (below_step (stB HB.out) hb); have n1_ := Aside0.mk (hbox); have n2_ := Aside0.mk ((by rw [hg]; exact (below_size (stB HB.out)) : w.heap.size ≤ gb483)); have n3_ := Aside0.mk ((by rw [hg]; exact (below_size (stB HB.out)) : w.heap.size ≤ gb483)); clear HB; have HB := n0_; have BK483 := n1_; have GW483 := n2_; have GE483 := n3_; clear n0_ n1_ n2_ n3_; clear hb hbox hg; have hcz5_0 : w4.cell? ⟨gb483, 0, none⟩ = some (.slice A0_0 l0_0.length c0_0) := (blk_cell BK483.out 0).trans rfl; have hfz5_0 := blk_frozen BK483.out 0) | ((with_reducible refine gate_callee (f := 27) rfl ?_); refine goesL_ (some 9) rfl rfl Tryd.func27 (by kernel_rfl) rfl #[.agg #[.slice A0_0 l0_0.length c0_0]] rfl (by (try simp only [List.map_toArray, List.map_cons, List.map_nil]); first | done | rfl | (simp only [List.length_drop, List.length_take]; rfl)) ?_; (with_reducible refine (spec_SheetValid.calls k _ _ l0_0 true _ ?side1 ?side2 A2.out).mono ?_); (case side1 => repeat (first | exact (Kd.C_below HR0_0.out HB.out) | (with_reducible refine Kd.C_alloc ?_ _) | (with_reducible refine Kd.C_drewN ?_ _) | (with_reducible refine Kd.C_drew ?_))); (case side2 => exact HC0_0.out); rintro e w6 ⟨rfl, hb⟩; refine ⟨_, rfl, ?_⟩; have n0_ := Aside0.mk (blk_below (g := gb483) (o := .cells #[.slice A0_0 l0_0.length c0_0] 47 (0, 0)) (by (with_reducible repeat (first | refine blk_drewN ?_ _ | refine blk_drew ?_ | refine blk_alloc ?_ _)); exact BK483.out) hb); have n1_ := Aside0.mk (below_step (by repeat (first | (with_reducible first | exact HB.out | apply below_alloc | apply pw_below_drewN | apply below_drew1 | refine below_set ?_ GE483.out) | exact HB.out)) hb); clear BK483; clear HB; have BK483 := n0_; have HB := n1_; clear n0_ n1_; (try clear hb); (try clear hb2); (try clear hk); (try clear hi)) | ((with_reducible refine gate_dst (N := 11) rfl ?_); refine Kd.R_lit (Kd.int .u8) _ 5 ?hg (N := 11) ?hd (xs := ([] : List Int)) (inner := []) (ok := fun _ => True) (okp := fun _ => True) ?hr ?hp (fun _ hk => hk) trivial (Below.refl _ _) (Nat.le_refl _) (by simp) ?_; (case hd => rfl); (case hg => rfl); (case hr => first | (go_simp; done) | (go_simp; rfl)); (case hp => exact (Reps.none _ _)); intro v486 w7 ho8 hb hg_ hnew_; clear hg_ hnew_; (first | rw [← Ny485.out] at ho8 | (simp only [Int.reduceToNat] at ho8; rw [← Ny485.out] at ho8)); have n0_ := Aside0.mk (Kd.R_lower ho8 (below_size (by repeat (first | (with_reducible first | exact HB.out | apply below_alloc | apply pw_below_drewN | apply below_drew1 | refine below_set ?_ GE483.out) | exact HB.out)))); have n1_ := Aside0.mk (blk_below (g := gb483) (o := .cells #[.slice A0_0 l0_0.length c0_0] 47 (0, 0)) (by (with_reducible repeat (first | refine blk_drewN ?_ _ | refine blk_drew ?_ | refine blk_alloc ?_ _)); exact BK483.out) hb); have n2_ := Aside0.mk (below_step (by repeat (first | (with_reducible first | exact HB.out | apply below_alloc | apply pw_below_drewN | apply below_drew1 | refine below_set ?_ GE483.out) | exact HB.out)) hb); clear BK483; clear HB; have HO487 := n0_; have BK483 := n1_; have HB := n2_; clear n0_ n1_ n2_; clear hb ho8))
  go_loopg [3, 4, 5] k (fun kq v3 v4 v5 w' => ∃ (x3_1 : List Int) (x4_1 : Int) (x5_1 : Int), v4 = .int .i64 x4_1 ∧ v5 = .int .i64 x5_1 ∧ Aside0 (spec_SheetPrint.l0 kq x3_1 x4_1 x5_1 l0_0 = some r) ∧ Aside0 (kq ≤ k) ∧ Aside0 (Kd.R (Kd.int .u8) 5 w' w.heap.size (fun _ => True) v3 x3_1) ∧ Aside0 (w'.heap[gb483]? = some (.cells #[(.slice A0_0 l0_0.length c0_0)] 47 (0, 0))) ∧ Aside0 (Below w.heap.size w w'))
  case atStart => exact ⟨(y485), (0), (0), (by first | rfl | (simp; done) | (simp [*]; done)), (by first | rfl | (simp; done) | (simp [*]; done)), H', ⟨Nat.le_refl _⟩, ⟨by (with_reducible repeat (first | apply Kd.R_alloc | apply Kd.R_drewN | apply Kd.R_drew)); exact HO487.out⟩, ⟨by (with_reducible repeat (first | refine blk_drewN ?_ _ | refine blk_drew ?_ | refine blk_alloc ?_ _)); exact BK483.out⟩, ⟨by repeat (first | (with_reducible first | exact HB.out | apply below_alloc | apply pw_below_drewN | apply below_drew1 | refine below_set ?_ GE483.out) | exact HB.out)⟩⟩
  case round =>
   clear H'
   try clear c2
   try clear p2
   try clear c3
   try clear hcz5_0
   try clear hfz5_0
   obtain ⟨x3_1, x4_1, x5_1, rfl, rfl, HA, HK1, HO_3, BK483, HB⟩ := hrel
   cases gk with
   | zero => exact absurd HA.out (by simp [spec_SheetPrint.l0])
   | succ k1 =>
    have H := HA.out
    clear HA
    simp only [spec_SheetPrint.l0] at H
    by_cases c9 : x5_1 < (l0_0.length : Int)
    ·rw [if_pos c9] at H
     have c9b0 : decide (x5_1 < (l0_0.length : Int)) = true := decide_eq_true c9
     clear c9
     by_cases c10 : 0 ≤ x5_1
     ·rw [if_pos c10] at H
      have c10b0 : decide (0 ≤ x5_1) = true := decide_eq_true c10
      clear c10
      by_cases c11 : ((rd_T62 l0_0 x5_1).f0).size + 1 ≤ 9223372036854775807
      ·rw [if_pos c11] at H
       have c11b0 := eq_true c11
       have c11b1 : decide (((rd_T62 l0_0 x5_1).f0).size + 1 ≤ 9223372036854775807) = true := decide_eq_true c11
       try have c11b2 : (9223372036854775807 < ((rd_T62 l0_0 x5_1).f0).size + 1) = False := eq_false (Nat.not_lt.2 c11)
       by_cases c12 : (((rd_T62 l0_0 x5_1).f0) ++ (⟨#[32]⟩ : ByteArray)).size + ((rd_T62 l0_0 x5_1).f1).size ≤ 9223372036854775807
       ·rw [if_pos c12] at H
        have c12z : (((rd_T62 l0_0 x5_1).f0).size + 1) + ((rd_T62 l0_0 x5_1).f1).size ≤ 9223372036854775807 := by have z_ := c12; simp only [ByteArray.size_append] at z_; exact z_
        have c12z0 := eq_true c12z
        have c12z1 : decide ((((rd_T62 l0_0 x5_1).f0).size + 1) + ((rd_T62 l0_0 x5_1).f1).size ≤ 9223372036854775807) = true := decide_eq_true c12z
        have c12z2 : (9223372036854775807 < (((rd_T62 l0_0 x5_1).f0).size + 1) + ((rd_T62 l0_0 x5_1).f1).size) = False := eq_false (Nat.not_lt.2 c12z)
        have c12b0 := eq_true c12
        have c12b1 : decide ((((rd_T62 l0_0 x5_1).f0) ++ (⟨#[32]⟩ : ByteArray)).size + ((rd_T62 l0_0 x5_1).f1).size ≤ 9223372036854775807) = true := decide_eq_true c12
        try have c12b2 : (9223372036854775807 < (((rd_T62 l0_0 x5_1).f0) ++ (⟨#[32]⟩ : ByteArray)).size + ((rd_T62 l0_0 x5_1).f1).size) = False := eq_false (Nat.not_lt.2 c12)
        by_cases c13 : ((((rd_T62 l0_0 x5_1).f0) ++ (⟨#[32]⟩ : ByteArray)) ++ ((rd_T62 l0_0 x5_1).f1)).size + 1 ≤ 9223372036854775807
        ·rw [if_pos c13] at H
         have c13z : ((((rd_T62 l0_0 x5_1).f0).size + 1) + ((rd_T62 l0_0 x5_1).f1).size) + 1 ≤ 9223372036854775807 := by have z_ := c13; simp only [ByteArray.size_append] at z_; exact z_
         have c13z0 := eq_true c13z
         have c13z1 : decide (((((rd_T62 l0_0 x5_1).f0).size + 1) + ((rd_T62 l0_0 x5_1).f1).size) + 1 ≤ 9223372036854775807) = true := decide_eq_true c13z
         have c13z2 : (9223372036854775807 < ((((rd_T62 l0_0 x5_1).f0).size + 1) + ((rd_T62 l0_0 x5_1).f1).size) + 1) = False := eq_false (Nat.not_lt.2 c13z)
         have c13b0 := eq_true c13
         have c13b1 : decide (((((rd_T62 l0_0 x5_1).f0) ++ (⟨#[32]⟩ : ByteArray)) ++ ((rd_T62 l0_0 x5_1).f1)).size + 1 ≤ 9223372036854775807) = true := decide_eq_true c13
         try have c13b2 : (9223372036854775807 < ((((rd_T62 l0_0 x5_1).f0) ++ (⟨#[32]⟩ : ByteArray)) ++ ((rd_T62 l0_0 x5_1).f1)).size + 1) = False := eq_false (Nat.not_lt.2 c13)
         by_cases c14 : x3_1.length + (((((rd_T62 l0_0 x5_1).f0) ++ (⟨#[32]⟩ : ByteArray)) ++ ((rd_T62 l0_0 x5_1).f1)) ++ (⟨#[10]⟩ : ByteArray)).size < 140737488355328
         ·rw [if_pos c14] at H
          have c14z : x3_1.length + (((((rd_T62 l0_0 x5_1).f0).size + 1) + ((rd_T62 l0_0 x5_1).f1).size) + 1) < 140737488355328 := by have z_ := c14; simp only [ByteArray.size_append] at z_; exact z_
          have c14z0 := eq_true c14z
          have c14z1 : decide (x3_1.length + (((((rd_T62 l0_0 x5_1).f0).size + 1) + ((rd_T62 l0_0 x5_1).f1).size) + 1) < 140737488355328) = true := decide_eq_true c14z
          have LMc14 := Aside0.mk c14
          clear c14
          obtain ⟨y490, hy490⟩ : ∃ y_ : List Int, y_ = (x3_1 ++ bytesOf (((((rd_T62 l0_0 x5_1).f0) ++ (⟨#[32]⟩ : ByteArray)) ++ ((rd_T62 l0_0 x5_1).f1)) ++ (⟨#[10]⟩ : ByteArray))) := ⟨_, rfl⟩
          replace H : (spec_SheetPrint.l1 k1 y490 x4_1 x5_1 0 l0_0 ((rd_T62 l0_0 x5_1).f0) ((rd_T62 l0_0 x5_1).f1) ((rd_T62 l0_0 x5_1).f2)) = some r := by first | (rw [hy490]; with_reducible exact H) | (have H2_ := (Option.bind_some _ _).symm.trans H; rw [hy490]; with_reducible exact H2_) | (have H2_ := (Option.bind_some _ _).symm.trans H; with_reducible exact H2_) | with_reducible exact H | (rw [hy490]; exact H) | exact H
          have Ny490 := Aside0.mk hy490
          clear hy490
          have H' := Aside0.mk H
          clear H
          have hcz15_0 : wr.cell? ⟨gb483, 0, none⟩ = some (.slice A0_0 l0_0.length c0_0) := (blk_cell BK483.out 0).trans rfl
          have hfz15_0 := blk_frozen BK483.out 0
          have p488 : 0 ≤ (x5_1 : Int) := of_decide_eq_true (by first | (with_reducible assumption) | assumption)
          have q488 : x5_1 < (l0_0.length : Int) := of_decide_eq_true (by first | (with_reducible assumption) | assumption)
          obtain ⟨ad488, A488_2, c488_2, e488, hx488_0, hx488_1, hx488_2, hl488_2, hi488_2⟩ := at_T62 HR0_0.out x5_1 p488 q488
          cases e488
          (try replace hx488_0 := (HB.out.cell (World.block_lt_of_cell? w _ hx488_0)).trans hx488_0)
          (try replace hx488_1 := (HB.out.cell (World.block_lt_of_cell? w _ hx488_1)).trans hx488_1)
          (try replace hx488_2 := (HB.out.cell (World.block_lt_of_cell? w _ hx488_2)).trans hx488_2)
          have HR488_2 := Aside0.mk hi488_2
          have HC488_2 := Aside0.mk hl488_2
          clear hi488_2 hl488_2
          replace p488 := eq_true p488
          replace q488 := eq_true q488
          go_wp2_with (first | ((with_reducible refine gate_dst (N := 6) rfl ?_); refine box_event ?hg (N := 6) ?hd (cs := #[.string (⟨#[]⟩ : ByteArray), .string (⟨#[]⟩ : ByteArray), .slice none 0 0]) (t := 62) ?hr ?_; (case hd => rfl); (case hg => rfl); (case hr => first | (go_simp; done) | (go_simp; rfl)); intro gb489 hg w16 hbox hb; have n0_ := Aside0.mk (Kd.R_below (stR HO_3.out) hb); have n1_ := Aside0.mk (blk_below (g := gb483) (o := .cells #[.slice (some ad488) l0_0.length c0_0] 47 (0, 0)) (by (with_reducible repeat (first | refine blk_drewN ?_ _ | refine blk_drew ?_ | refine blk_alloc ?_ _)); exact BK483.out) hb); have n2_ := Aside0.mk (below_step (by repeat (first | (with_reducible first | exact HB.out | apply below_alloc | apply pw_below_drewN | apply below_drew1 | refine below_set ?_ GE483.out) | exact HB.out)) hb); have n3_ := Aside0.mk (hbox); have n4_ := Aside0.mk ((by rw [hg]; exact (below_size (by repeat (first | (with_reducible first | exact HB.out | apply below_alloc | apply pw_below_drewN | apply below_drew1 | refine below_set ?_ GE483.out) | exact HB.out))) : w.heap.size ≤ gb489)); have n5_ := Aside0.mk ((by rw [hg]; exact (below_size (by repeat (first | (with_reducible first | exact HB.out | apply below_alloc | apply pw_below_drewN | apply below_drew1 | refine below_set ?_ GE483.out) | exact HB.out))) : w.heap.size ≤ gb489)); have n6_ := Aside0.mk ((by rw [hg]; exact Nat.ne_of_lt (blk_lt (g := gb483) (o := .cells #[.slice (some ad488) l0_0.length c0_0] 47 (0, 0)) (by (with_reducible repeat (first | refine blk_drewN ?_ _ | refine blk_drew ?_ | refine blk_alloc ?_ _)); exact BK483.out)) : gb483 ≠ gb489)); have n7_ := Aside0.mk ((by rw [hg]; exact Nat.ne_of_gt (blk_lt (g := gb483) (o := .cells #[.slice (some ad488) l0_0.length c0_0] 47 (0, 0)) (by (with_reducible repeat (first | refine blk_drewN ?_ _ | refine blk_drew ?_ | refine blk_alloc ?_ _)); exact BK483.out)) : gb489 ≠ gb483)); clear HO_3; clear BK483; clear HB; have HO_3 := n0_; have BK483 := n1_; have HB := n2_; have BK489 := n3_; have GW489 := n4_; have GE489 := n5_; have NB483_489 := n6_; have NB489_483 := n7_; clear n0_ n1_ n2_ n3_ n4_ n5_ n6_ n7_; clear hb hbox hg; have hnb17 := NB489_483.out; have hnc17 := NB483_489.out; have hcz18_0 : w16.cell? ⟨gb489, 0, none⟩ = some (.string (⟨#[]⟩ : ByteArray)) := (blk_cell BK489.out 0).trans rfl; have hcz18_1 : w16.cell? ⟨gb489, 1, none⟩ = some (.string (⟨#[]⟩ : ByteArray)) := (blk_cell BK489.out 1).trans rfl; have hcz18_2 : w16.cell? ⟨gb489, 2, none⟩ = some (.slice none 0 0) := (blk_cell BK489.out 2).trans rfl; have hfz18_0 := blk_frozen BK489.out 0; have hfz18_1 := blk_frozen BK489.out 1; have hfz18_2 := blk_frozen BK489.out 2) | (at_builtin; refine print_append_str (w0 := w) w.heap.size rfl (.tmp 24) _ 32 9 5 rfl Tryd.underlying32 Tryd.underlying9 info5 u3 x3_1 (((((rd_T62 l0_0 x5_1).f0) ++ (⟨#[32]⟩ : ByteArray)) ++ ((rd_T62 l0_0 x5_1).f1)) ++ (⟨#[10]⟩ : ByteArray)) rfl rfl ?aO ?aB ?aS ?aL ?_; (case aB => exact (by repeat (first | (with_reducible first | exact HB.out | apply below_alloc | apply pw_below_drewN | apply below_drew1 | refine below_set ?_ GE483.out | refine below_set ?_ GE489.out) | exact HB.out))); (case aO => exact (Kd.own_of_R (by (with_reducible repeat (first | apply Kd.R_alloc | apply Kd.R_drewN | apply Kd.R_drew)); exact Kd.R_mono (Kd.R_far (p := ⟨gb489, 2, none⟩) (Kd.R_far (p := ⟨gb489, 1, none⟩) (Kd.R_far (p := ⟨gb489, 0, none⟩) (Kd.R_types HO_3.out BK489.out (by decide)) (fun _ hk => hk.2) (.string ((rd_T62 l0_0 x5_1).f0))) (fun _ hk => hk.2) (.string ((rd_T62 l0_0 x5_1).f1))) (fun _ hk => hk.2) (.slice A488_2 ((rd_T62 l0_0 x5_1).f2).length c488_2)) (fun _ hk => trivial)))); (case aS => exact (below_size (by repeat (first | (with_reducible first | exact HB.out | apply below_alloc | apply pw_below_drewN | apply below_drew1 | refine below_set ?_ GE483.out | refine below_set ?_ GE489.out) | exact HB.out)))); (case aL => have := LMc14.out; omega); intro v491 w19 ho0 hb hg; have ho := Kd.R_of_own (h1 := fun _ => rfl) (ok := fun _ => True) ho0 (fun _ _ => trivial); clear ho0; have hat := True.intro; rw [← Ny490.out] at ho; change Kd.R (Kd.int .u8) 5 w19 w.heap.size (fun _ => True) v491 y490 at ho; have n0_ := Aside0.mk (blk_grown (g := gb483) (o := .cells #[.slice (some ad488) l0_0.length c0_0] 47 (0, 0)) (by (with_reducible repeat (first | refine blk_drewN ?_ _ | refine blk_drew ?_ | refine blk_alloc ?_ _)); refine blk_far ?_ NB483_489.out _; (with_reducible repeat (first | refine blk_drewN ?_ _ | refine blk_drew ?_ | refine blk_alloc ?_ _)); refine blk_far ?_ NB483_489.out _; (with_reducible repeat (first | refine blk_drewN ?_ _ | refine blk_drew ?_ | refine blk_alloc ?_ _)); refine blk_far ?_ NB483_489.out _; (with_reducible repeat (first | refine blk_drewN ?_ _ | refine blk_drew ?_ | refine blk_alloc ?_ _)); exact BK483.out) hg (Kd.R_ne HO_3.out BK483.out (by decide))); have n1_ := Aside0.mk (blk_grown (g := gb489) (o := .cells #[.string ((rd_T62 l0_0 x5_1).f0), .string ((rd_T62 l0_0 x5_1).f1), .slice A488_2 ((rd_T62 l0_0 x5_1).f2).length c488_2] 62 (0, 0)) (by (with_reducible repeat (first | refine blk_drewN ?_ _ | refine blk_drew ?_ | refine blk_alloc ?_ _)); refine blk_put (cs := #[.string ((rd_T62 l0_0 x5_1).f0), .string ((rd_T62 l0_0 x5_1).f1), .slice none 0 0]) ?_ 2 _ rfl; (with_reducible repeat (first | refine blk_drewN ?_ _ | refine blk_drew ?_ | refine blk_alloc ?_ _)); refine blk_put (cs := #[.string ((rd_T62 l0_0 x5_1).f0), .string (⟨#[]⟩ : ByteArray), .slice none 0 0]) ?_ 1 _ rfl; (with_reducible repeat (first | refine blk_drewN ?_ _ | refine blk_drew ?_ | refine blk_alloc ?_ _)); refine blk_put (cs := #[.string (⟨#[]⟩ : ByteArray), .string (⟨#[]⟩ : ByteArray), .slice none 0 0]) ?_ 0 _ rfl; (with_reducible repeat (first | refine blk_drewN ?_ _ | refine blk_drew ?_ | refine blk_alloc ?_ _)); exact BK489.out) hg (Kd.R_ne HO_3.out BK489.out (by decide))); have n2_ := Aside0.mk (hb); have n3_ := Aside0.mk (ho); clear BK483; clear BK489; clear HB; clear HO_3; have BK483 := n0_; have BK489 := n1_; have HB := n2_; have HO492 := n3_; clear n0_ n1_ n2_ n3_; clear ho hb hg hat))
          go_loopg [3, 7] k1 (fun kq v3 v7 w' => ∃ (x3_2 : List Int) (x7_2 : Int), v7 = .int .i64 x7_2 ∧ Aside0 (spec_SheetPrint.l1 kq x3_2 x4_1 x5_1 x7_2 l0_0 ((rd_T62 l0_0 x5_1).f0) ((rd_T62 l0_0 x5_1).f1) ((rd_T62 l0_0 x5_1).f2) = some r) ∧ Aside0 (kq ≤ k1) ∧ Aside0 (Kd.R (Kd.int .u8) 5 w' w.heap.size (fun _ => True) v3 x3_2) ∧ Aside0 (w'.heap[gb483]? = some (.cells #[(.slice (some ad488) l0_0.length c0_0)] 47 (0, 0))) ∧ Aside0 (w'.heap[gb489]? = some (.cells #[.string ((rd_T62 l0_0 x5_1).f0), .string ((rd_T62 l0_0 x5_1).f1), (.slice A488_2 ((rd_T62 l0_0 x5_1).f2).length c488_2)] 62 (0, 0))) ∧ Aside0 (Below w.heap.size w w'))
          case atStart => exact ⟨(y490), (0), (by first | rfl | (simp; done) | (simp [*]; done)), H', ⟨Nat.le_refl _⟩, ⟨by (with_reducible repeat (first | apply Kd.R_alloc | apply Kd.R_drewN | apply Kd.R_drew)); exact HO492.out⟩, ⟨by (with_reducible repeat (first | refine blk_drewN ?_ _ | refine blk_drew ?_ | refine blk_alloc ?_ _)); exact BK483.out⟩, ⟨by (with_reducible repeat (first | refine blk_drewN ?_ _ | refine blk_drew ?_ | refine blk_alloc ?_ _)); exact BK489.out⟩, ⟨by repeat (first | (with_reducible first | exact HB.out | apply below_alloc | apply pw_below_drewN | apply below_drew1 | refine below_set ?_ GE483.out | refine below_set ?_ GE489.out) | exact HB.out)⟩⟩
          case round =>
           clear H'
           try clear c1
           try clear c2
           try clear p2
           try clear c3
           try clear c4
           try clear p4
           try clear q4
           try clear hx4
           try clear c9
           try clear c9b0
           try clear c10
           try clear c10b0
           try clear c11
           try clear c11b0
           try clear c11b1
           try clear c11b2
           try clear c12
           try clear c12b0
           try clear c12b1
           try clear c12b2
           try clear c13
           try clear c13b0
           try clear c13b1
           try clear c13b2
           try clear c14
           try clear c17
           try clear hcz15_0
           try clear hcz18_0
           try clear hcz18_1
           try clear hcz18_2
           try clear hcz5_0
           try clear hfz15_0
           try clear hfz18_0
           try clear hfz18_1
           try clear hfz18_2
           try clear hfz5_0
           try clear hx488_0
           try clear hx488_1
           try clear hx488_2
           try clear p2
           try clear p488
           try clear q488
           obtain ⟨x3_2, x7_2, rfl, HA, HK2, HO_3, BK483, BK489, HB⟩ := hrel
           cases gk with
           | zero => exact absurd HA.out (by simp [spec_SheetPrint.l1])
           | succ k2 =>
            have H := HA.out
            clear HA
            simp only [spec_SheetPrint.l1] at H
            by_cases c20 : x7_2 < (((rd_T62 l0_0 x5_1).f2).length : Int)
            ·rw [if_pos c20] at H
             have c20b0 : decide (x7_2 < (((rd_T62 l0_0 x5_1).f2).length : Int)) = true := decide_eq_true c20
             clear c20
             by_cases c21 : 0 ≤ x7_2
             ·rw [if_pos c21] at H
              have c21b0 : decide (0 ≤ x7_2) = true := decide_eq_true c21
              clear c21
              replace H := Option.bind_eq_some_iff.mp H
              obtain ⟨t494, A220, H⟩ := H
              replace H : (if 2 + t494.size ≤ 9223372036854775807 then (if ((⟨#[32, 32]⟩ : ByteArray) ++ t494).size + 1 ≤ 9223372036854775807 then (if x3_2.length + (((⟨#[32, 32]⟩ : ByteArray) ++ t494) ++ (⟨#[10]⟩ : ByteArray)).size < 140737488355328 then (spec_SheetPrint.l1 k2 (x3_2 ++ bytesOf (((⟨#[32, 32]⟩ : ByteArray) ++ t494) ++ (⟨#[10]⟩ : ByteArray))) x4_1 x5_1 (wrap64 (x7_2 + 1)) l0_0 ((rd_T62 l0_0 x5_1).f0) ((rd_T62 l0_0 x5_1).f1) ((rd_T62 l0_0 x5_1).f2)) else (none)) else (none)) else (none)) = some r := H
              have A22 := Aside0.mk A220
              clear A220
              by_cases c23 : 2 + t494.size ≤ 9223372036854775807
              ·rw [if_pos c23] at H
               have c23b0 := eq_true c23
               have c23b1 : decide (2 + t494.size ≤ 9223372036854775807) = true := decide_eq_true c23
               try have c23b2 : (9223372036854775807 < 2 + t494.size) = False := eq_false (Nat.not_lt.2 c23)
               by_cases c24 : ((⟨#[32, 32]⟩ : ByteArray) ++ t494).size + 1 ≤ 9223372036854775807
               ·rw [if_pos c24] at H
                have c24z : (2 + (t494).size) + 1 ≤ 9223372036854775807 := by have z_ := c24; simp only [ByteArray.size_append] at z_; exact z_
                have c24z0 := eq_true c24z
                have c24z1 : decide ((2 + (t494).size) + 1 ≤ 9223372036854775807) = true := decide_eq_true c24z
                have c24z2 : (9223372036854775807 < (2 + (t494).size) + 1) = False := eq_false (Nat.not_lt.2 c24z)
                have c24b0 := eq_true c24
                have c24b1 : decide (((⟨#[32, 32]⟩ : ByteArray) ++ t494).size + 1 ≤ 9223372036854775807) = true := decide_eq_true c24
                try have c24b2 : (9223372036854775807 < ((⟨#[32, 32]⟩ : ByteArray) ++ t494).size + 1) = False := eq_false (Nat.not_lt.2 c24)
                by_cases c25 : x3_2.length + (((⟨#[32, 32]⟩ : ByteArray) ++ t494) ++ (⟨#[10]⟩ : ByteArray)).size < 140737488355328
                ·rw [if_pos c25] at H
                 have c25z : x3_2.length + ((2 + (t494).size) + 1) < 140737488355328 := by have z_ := c25; simp only [ByteArray.size_append] at z_; exact z_
                 have c25z0 := eq_true c25z
                 have c25z1 : decide (x3_2.length + ((2 + (t494).size) + 1) < 140737488355328) = true := decide_eq_true c25z
                 have LMc25 := Aside0.mk c25
                 clear c25
                 obtain ⟨y495, hy495⟩ : ∃ y_ : List Int, y_ = (x3_2 ++ bytesOf (((⟨#[32, 32]⟩ : ByteArray) ++ t494) ++ (⟨#[10]⟩ : ByteArray))) := ⟨_, rfl⟩
                 replace H : (spec_SheetPrint.l1 k2 y495 x4_1 x5_1 (wrap64 (x7_2 + 1)) l0_0 ((rd_T62 l0_0 x5_1).f0) ((rd_T62 l0_0 x5_1).f1) ((rd_T62 l0_0 x5_1).f2)) = some r := by first | (rw [hy495]; with_reducible exact H) | (have H2_ := (Option.bind_some _ _).symm.trans H; rw [hy495]; with_reducible exact H2_) | (have H2_ := (Option.bind_some _ _).symm.trans H; with_reducible exact H2_) | with_reducible exact H | (rw [hy495]; exact H) | exact H
                 have Ny495 := Aside0.mk hy495
                 clear hy495
                 have H' := Aside0.mk H
                 clear H
                 have hnb26 := NB489_483.out
                 have hnc26 := NB483_489.out
                 have hcz27_0 : wr.cell? ⟨gb489, 0, none⟩ = some (.string ((rd_T62 l0_0 x5_1).f0)) := (blk_cell BK489.out 0).trans rfl
                 have hcz27_1 : wr.cell? ⟨gb489, 1, none⟩ = some (.string ((rd_T62 l0_0 x5_1).f1)) := (blk_cell BK489.out 1).trans rfl
                 have hcz27_2 : wr.cell? ⟨gb489, 2, none⟩ = some (.slice A488_2 ((rd_T62 l0_0 x5_1).f2).length c488_2) := (blk_cell BK489.out 2).trans rfl
                 have hfz27_0 := blk_frozen BK489.out 0
                 have hfz27_1 := blk_frozen BK489.out 1
                 have hfz27_2 := blk_frozen BK489.out 2
                 have p493 : 0 ≤ (x7_2 : Int) := of_decide_eq_true (by first | (with_reducible assumption) | assumption)
                 have q493 : x7_2 < (((rd_T62 l0_0 x5_1).f2).length : Int) := of_decide_eq_true (by first | (with_reducible assumption) | assumption)
                 obtain ⟨ad493, A493_1, c493_1, e493, hx493_0, hx493_1, hl493_1, hi493_1⟩ := at_T83 HR488_2.out x7_2 p493 q493
                 cases e493
                 (try replace hx493_0 := (HB.out.cell (World.block_lt_of_cell? w _ hx493_0)).trans hx493_0)
                 (try replace hx493_1 := (HB.out.cell (World.block_lt_of_cell? w _ hx493_1)).trans hx493_1)
                 have HR493_1 := Aside0.mk hi493_1
                 have HC493_1 := Aside0.mk hl493_1
                 clear hi493_1 hl493_1
                 replace p493 := eq_true p493
                 replace q493 := eq_true q493
                 go_wp2_with (first | ((with_reducible refine gate_callee (f := 78) rfl ?_); refine goesL_ (some 46) rfl rfl Tryd.func78 (by kernel_rfl) rfl #[.agg #[.string ((rd_T83 ((rd_T62 l0_0 x5_1).f2) x7_2).f0), .slice A493_1 ((rd_T83 ((rd_T62 l0_0 x5_1).f2) x7_2).f1).length c493_1]] rfl (by (try simp only [List.map_toArray, List.map_cons, List.map_nil]); first | done | rfl | (simp only [List.length_drop, List.length_take]; rfl)) ?_; (with_reducible refine (spec_l4Line.calls k2 ((rd_T83 ((rd_T62 l0_0 x5_1).f2) x7_2).f0) _ _ ((rd_T83 ((rd_T62 l0_0 x5_1).f2) x7_2).f1) t494 _ ?side1 ?side2 A22.out).mono ?_); (case side1 => repeat (first | exact (Kd.C_below HR493_1.out HB.out) | (with_reducible refine Kd.C_alloc ?_ _) | (with_reducible refine Kd.C_drewN ?_ _) | (with_reducible refine Kd.C_drew ?_))); (case side2 => exact HC493_1.out); rintro e w28 ⟨rfl, hb⟩; refine ⟨_, rfl, ?_⟩; have n0_ := Aside0.mk (Kd.R_below (stR HO_3.out) hb); have n1_ := Aside0.mk (blk_below (g := gb483) (o := .cells #[.slice (some ad488) l0_0.length c0_0] 47 (0, 0)) (by (with_reducible repeat (first | refine blk_drewN ?_ _ | refine blk_drew ?_ | refine blk_alloc ?_ _)); exact BK483.out) hb); have n2_ := Aside0.mk (blk_below (g := gb489) (o := .cells #[.string ((rd_T62 l0_0 x5_1).f0), .string ((rd_T62 l0_0 x5_1).f1), .slice (some ad493) ((rd_T62 l0_0 x5_1).f2).length c488_2] 62 (0, 0)) (by (with_reducible repeat (first | refine blk_drewN ?_ _ | refine blk_drew ?_ | refine blk_alloc ?_ _)); exact BK489.out) hb); have n3_ := Aside0.mk (below_step (by repeat (first | (with_reducible first | exact HB.out | apply below_alloc | apply pw_below_drewN | apply below_drew1 | refine below_set ?_ GE483.out | refine below_set ?_ GE489.out) | exact HB.out)) hb); clear HO_3; clear BK483; clear BK489; clear HB; have HO_3 := n0_; have BK483 := n1_; have BK489 := n2_; have HB := n3_; clear n0_ n1_ n2_ n3_; (try clear hb); (try clear hb2); (try clear hk); (try clear hi)) | (at_builtin; refine print_append_str (w0 := w) w.heap.size rfl (.tmp 40) _ 32 9 5 rfl Tryd.underlying32 Tryd.underlying9 info5 u3 x3_2 (((⟨#[32, 32]⟩ : ByteArray) ++ t494) ++ (⟨#[10]⟩ : ByteArray)) rfl rfl ?aO ?aB ?aS ?aL ?_; (case aB => exact (by repeat (first | (with_reducible first | exact HB.out | apply below_alloc | apply pw_below_drewN | apply below_drew1 | refine below_set ?_ GE483.out | refine below_set ?_ GE489.out) | exact HB.out))); (case aO => exact (Kd.own_of_R (stR HO_3.out))); (case aS => exact (below_size (by repeat (first | (with_reducible first | exact HB.out | apply below_alloc | apply pw_below_drewN | apply below_drew1 | refine below_set ?_ GE483.out | refine below_set ?_ GE489.out) | exact HB.out)))); (case aL => have := LMc25.out; omega); intro v496 w29 ho0 hb hg; have ho := Kd.R_of_own (h1 := fun _ => rfl) (ok := fun _ => True) ho0 (fun _ _ => trivial); clear ho0; have hat := True.intro; rw [← Ny495.out] at ho; change Kd.R (Kd.int .u8) 5 w29 w.heap.size (fun _ => True) v496 y495 at ho; have n0_ := Aside0.mk (blk_grown (g := gb483) (o := .cells #[.slice (some ad488) l0_0.length c0_0] 47 (0, 0)) (by (with_reducible repeat (first | refine blk_drewN ?_ _ | refine blk_drew ?_ | refine blk_alloc ?_ _)); exact BK483.out) hg (Kd.R_ne HO_3.out BK483.out (by decide))); have n1_ := Aside0.mk (blk_grown (g := gb489) (o := .cells #[.string ((rd_T62 l0_0 x5_1).f0), .string ((rd_T62 l0_0 x5_1).f1), .slice (some ad493) ((rd_T62 l0_0 x5_1).f2).length c488_2] 62 (0, 0)) (by (with_reducible repeat (first | refine blk_drewN ?_ _ | refine blk_drew ?_ | refine blk_alloc ?_ _)); exact BK489.out) hg (Kd.R_ne HO_3.out BK489.out (by decide))); have n2_ := Aside0.mk (hb); have n3_ := Aside0.mk (ho); clear BK483; clear BK489; clear HB; clear HO_3; have BK483 := n0_; have BK489 := n1_; have HB := n2_; have HO497 := n3_; clear n0_ n1_ n2_ n3_; clear ho hb hg hat))
                 go_roundg k2
                 case measure => have := HK1.out; have := HK2.out; omega
                 case rel => exact ⟨(y495), (wrap64 (x7_2 + 1)), (by first | rfl | (simp; done) | (simp [*]; done)), H', ⟨by have := HK1.out; have := HK2.out; omega⟩, ⟨by (with_reducible repeat (first | apply Kd.R_alloc | apply Kd.R_drewN | apply Kd.R_drew)); exact HO497.out⟩, ⟨by (with_reducible repeat (first | refine blk_drewN ?_ _ | refine blk_drew ?_ | refine blk_alloc ?_ _)); exact BK483.out⟩, ⟨by (with_reducible repeat (first | refine blk_drewN ?_ _ | refine blk_drew ?_ | refine blk_alloc ?_ _)); exact BK489.out⟩, ⟨by repeat (first | (with_reducible first | exact HB.out | apply below_alloc | apply pw_below_drewN | apply below_drew1 | refine below_set ?_ GE483.out | refine below_set ?_ GE489.out) | exact HB.out)⟩⟩
                ·rw [if_neg c25] at H
                 exact absurd H (by simp)
               ·rw [if_neg c24] at H
                exact absurd H (by simp)
              ·rw [if_neg c23] at H
               exact absurd H (by simp)
             ·rw [if_neg c21] at H
              exact absurd H (by simp)
            ·rw [if_neg c20] at H
             have c20b0 : decide (x7_2 < (((rd_T62 l0_0 x5_1).f2).length : Int)) = false := decide_eq_false c20
             clear c20
             by_cases c30 : x3_2.length + 4 < 140737488355328
             ·rw [if_pos c30] at H
              have LMc30 := Aside0.mk c30
              clear c30
              obtain ⟨y498, hy498⟩ : ∃ y_ : List Int, y_ = (x3_2 ++ bytesOf (⟨#[101, 110, 100, 10]⟩ : ByteArray)) := ⟨_, rfl⟩
              replace H : (spec_SheetPrint.l0 k2 y498 (wrap64 ((wrap64 (x4_1 + (((rd_T62 l0_0 x5_1).f2).length : Int))) + 2)) (wrap64 (x5_1 + 1)) l0_0) = some r := by first | (rw [hy498]; with_reducible exact H) | (have H2_ := (Option.bind_some _ _).symm.trans H; rw [hy498]; with_reducible exact H2_) | (have H2_ := (Option.bind_some _ _).symm.trans H; with_reducible exact H2_) | with_reducible exact H | (rw [hy498]; exact H) | exact H
              have Ny498 := Aside0.mk hy498
              clear hy498
              have H' := Aside0.mk H
              clear H
              have hnb31 := NB489_483.out
              have hnc31 := NB483_489.out
              have hcz32_0 : wr.cell? ⟨gb489, 0, none⟩ = some (.string ((rd_T62 l0_0 x5_1).f0)) := (blk_cell BK489.out 0).trans rfl
              have hcz32_1 : wr.cell? ⟨gb489, 1, none⟩ = some (.string ((rd_T62 l0_0 x5_1).f1)) := (blk_cell BK489.out 1).trans rfl
              have hcz32_2 : wr.cell? ⟨gb489, 2, none⟩ = some (.slice A488_2 ((rd_T62 l0_0 x5_1).f2).length c488_2) := (blk_cell BK489.out 2).trans rfl
              have hfz32_0 := blk_frozen BK489.out 0
              have hfz32_1 := blk_frozen BK489.out 1
              have hfz32_2 := blk_frozen BK489.out 2
              go_wp2_with (first | (at_builtin; refine print_append_str (w0 := w) w.heap.size rfl (.tmp 50) _ 32 9 5 rfl Tryd.underlying32 Tryd.underlying9 info5 u3 x3_2 (⟨#[101, 110, 100, 10]⟩ : ByteArray) rfl rfl ?aO ?aB ?aS ?aL ?_; (case aB => exact (by repeat (first | (with_reducible first | exact HB.out | apply below_alloc | apply pw_below_drewN | apply below_drew1 | refine below_set ?_ GE483.out | refine below_set ?_ GE489.out) | exact HB.out))); (case aO => exact (Kd.own_of_R (stR HO_3.out))); (case aS => exact (below_size (by repeat (first | (with_reducible first | exact HB.out | apply below_alloc | apply pw_below_drewN | apply below_drew1 | refine below_set ?_ GE483.out | refine below_set ?_ GE489.out) | exact HB.out)))); (case aL => have := LMc30.out; have e_ : (⟨#[101, 110, 100, 10]⟩ : ByteArray).size = 4 := rfl; omega); intro v499 w33 ho0 hb hg; have ho := Kd.R_of_own (h1 := fun _ => rfl) (ok := fun _ => True) ho0 (fun _ _ => trivial); clear ho0; have hat := True.intro; rw [← Ny498.out] at ho; change Kd.R (Kd.int .u8) 5 w33 w.heap.size (fun _ => True) v499 y498 at ho; have n0_ := Aside0.mk (blk_grown (g := gb483) (o := .cells #[.slice (some ad488) l0_0.length c0_0] 47 (0, 0)) (by (with_reducible repeat (first | refine blk_drewN ?_ _ | refine blk_drew ?_ | refine blk_alloc ?_ _)); exact BK483.out) hg (Kd.R_ne HO_3.out BK483.out (by decide))); have n1_ := Aside0.mk (blk_grown (g := gb489) (o := .cells #[.string ((rd_T62 l0_0 x5_1).f0), .string ((rd_T62 l0_0 x5_1).f1), .slice A488_2 ((rd_T62 l0_0 x5_1).f2).length c488_2] 62 (0, 0)) (by (with_reducible repeat (first | refine blk_drewN ?_ _ | refine blk_drew ?_ | refine blk_alloc ?_ _)); exact BK489.out) hg (Kd.R_ne HO_3.out BK489.out (by decide))); have n2_ := Aside0.mk (hb); have n3_ := Aside0.mk (ho); clear BK483; clear BK489; clear HB; clear HO_3; have BK483 := n0_; have BK489 := n1_; have HB := n2_; have HO500 := n3_; clear n0_ n1_ n2_ n3_; clear ho hb hg hat; have hcz34_0 : w33.cell? ⟨gb489, 0, none⟩ = some (.string ((rd_T62 l0_0 x5_1).f0)) := (blk_cell BK489.out 0).trans rfl; have hcz34_1 : w33.cell? ⟨gb489, 1, none⟩ = some (.string ((rd_T62 l0_0 x5_1).f1)) := (blk_cell BK489.out 1).trans rfl; have hcz34_2 : w33.cell? ⟨gb489, 2, none⟩ = some (.slice A488_2 ((rd_T62 l0_0 x5_1).f2).length c488_2) := (blk_cell BK489.out 2).trans rfl; have hfz34_0 := blk_frozen BK489.out 0; have hfz34_1 := blk_frozen BK489.out 1; have hfz34_2 := blk_frozen BK489.out 2))
              go_roundg k2
              case measure => have := HK1.out; have := HK2.out; omega
              case rel => exact ⟨(y498), (wrap64 ((wrap64 (x4_1 + (((rd_T62 l0_0 x5_1).f2).length : Int))) + 2)), (wrap64 (x5_1 + 1)), (by first | rfl | (simp; done) | (simp [*]; done)), (by first | rfl | (simp; done) | (simp [*]; done)), H', ⟨by have := HK1.out; have := HK2.out; omega⟩, ⟨by (with_reducible repeat (first | apply Kd.R_alloc | apply Kd.R_drewN | apply Kd.R_drew)); exact HO500.out⟩, ⟨by (with_reducible repeat (first | refine blk_drewN ?_ _ | refine blk_drew ?_ | refine blk_alloc ?_ _)); exact BK483.out⟩, ⟨by repeat (first | (with_reducible first | exact HB.out | apply below_alloc | apply pw_below_drewN | apply below_drew1 | refine below_set ?_ GE483.out | refine below_set ?_ GE489.out) | exact HB.out)⟩⟩
             ·rw [if_neg c30] at H
              exact absurd H (by simp)
         ·rw [if_neg c14] at H
          exact absurd H (by simp)
        ·rw [if_neg c13] at H
         exact absurd H (by simp)
       ·rw [if_neg c12] at H
        exact absurd H (by simp)
      ·rw [if_neg c11] at H
       exact absurd H (by simp)
     ·rw [if_neg c10] at H
      exact absurd H (by simp)
    ·rw [if_neg c9] at H
     have c9b0 : decide (x5_1 < (l0_0.length : Int)) = false := decide_eq_false c9
     clear c9
     by_cases c35 : (x3_1.length : Int) > 20000
     ·rw [if_pos c35] at H
      have c35b0 : decide (20000 < (x3_1.length : Int)) = true := decide_eq_true c35
      have c35b1 : decide (20000 < x3_1.length) = true := decide_eq_true (by omega)
      clear c35
      obtain rfl := Option.some.inj H
      have hcz36_0 : wr.cell? ⟨gb483, 0, none⟩ = some (.slice A0_0 l0_0.length c0_0) := (blk_cell BK483.out 0).trans rfl
      have hfz36_0 := blk_frozen BK483.out 0
      obtain ⟨Ao37, co37, eo37⟩ := Kd.R_slice HO_3.out
      subst eo37
      go_wp2
      go_ret
      exact ⟨by first | rfl | (simp [errW_none, errW_some] <;> rfl) | (simp [*, errW_none, errW_some] <;> rfl), by repeat (first | (with_reducible first | exact HB.out | apply below_alloc | apply pw_below_drewN | apply below_drew1 | refine below_set ?_ GE483.out) | exact HB.out)⟩
     ·rw [if_neg c35] at H
      have c35b0 : decide (20000 < (x3_1.length : Int)) = false := decide_eq_false c35
      have c35b1 : decide (20000 < x3_1.length) = false := decide_eq_false (by omega)
      clear c35
      by_cases c38 : x4_1 > 400
      ·rw [if_pos c38] at H
       have c38b0 : decide (400 < x4_1) = true := decide_eq_true c38
       clear c38
       obtain rfl := Option.some.inj H
       have hcz39_0 : wr.cell? ⟨gb483, 0, none⟩ = some (.slice A0_0 l0_0.length c0_0) := (blk_cell BK483.out 0).trans rfl
       have hfz39_0 := blk_frozen BK483.out 0
       obtain ⟨Ao40, co40, eo40⟩ := Kd.R_slice HO_3.out
       subst eo40
       go_wp2
       go_ret
       exact ⟨by first | rfl | (simp [errW_none, errW_some] <;> rfl) | (simp [*, errW_none, errW_some] <;> rfl), by repeat (first | (with_reducible first | exact HB.out | apply below_alloc | apply pw_below_drewN | apply below_drew1 | refine below_set ?_ GE483.out) | exact HB.out)⟩
      ·rw [if_neg c38] at H
       have c38b0 : decide (400 < x4_1) = false := decide_eq_false c38
       clear c38
       obtain rfl := Option.some.inj H
       have hcz41_0 : wr.cell? ⟨gb483, 0, none⟩ = some (.slice A0_0 l0_0.length c0_0) := (blk_cell BK483.out 0).trans rfl
       have hfz41_0 := blk_frozen BK483.out 0
       obtain ⟨Ao42, co42, eo42⟩ := Kd.R_slice HO_3.out
       subst eo42
       have hcv43 := own_string (P := Tryd.prog) Tryd.underlying32 Tryd.underlying5 Tryd.underlying9 (Kd.own_of_R HO_3.out)
       go_wp2
       go_ret
       exact ⟨by first | rfl | (simp [errW_none, errW_some] <;> rfl) | (simp [*, errW_none, errW_some] <;> rfl), by repeat (first | (with_reducible first | exact HB.out | apply below_alloc | apply pw_below_drewN | apply below_drew1 | refine below_set ?_ GE483.out) | exact HB.out)⟩
 ·replace c3 := Bool.eq_false_iff.mpr c3
  subst c3
  have H1 : (some (⟨#[]⟩ : ByteArray)) = some r := by rw [if_neg (show ¬ (false = true) by decide)] at H; exact H
  clear H
  have H := H1
  clear H1
  obtain rfl := Option.some.inj H
  go_enter Tryd.func31, Tryd.ntmps31
  go_wp2_with (first | ((with_reducible refine gate_dst (N := 1) rfl ?_); refine box_event ?hg (N := 1) ?hd (cs := #[.slice A0_0 l0_0.length c0_0]) (t := 47) ?hr ?_; (case hd => rfl); (case hg => rfl); (case hr => first | (go_simp; done) | (go_simp; rfl)); intro gb483 hg w44 hbox hb; have n0_ := Aside0.mk (below_step (stB HB.out) hb); have n1_ := Aside0.mk (hbox); have n2_ := Aside0.mk ((by rw [hg]; exact (below_size (stB HB.out)) : w.heap.size ≤ gb483)); have n3_ := Aside0.mk ((by rw [hg]; exact (below_size (stB HB.out)) : w.heap.size ≤ gb483)); clear HB; have HB := n0_; have BK483 := n1_; have GW483 := n2_; have GE483 := n3_; clear n0_ n1_ n2_ n3_; clear hb hbox hg; have hcz45_0 : w44.cell? ⟨gb483, 0, none⟩ = some (.slice A0_0 l0_0.length c0_0) := (blk_cell BK483.out 0).trans rfl; have hfz45_0 := blk_frozen BK483.out 0) | ((with_reducible refine gate_callee (f := 27) rfl ?_); refine goesL_ (some 9) rfl rfl Tryd.func27 (by kernel_rfl) rfl #[.agg #[.slice A0_0 l0_0.length c0_0]] rfl (by (try simp only [List.map_toArray, List.map_cons, List.map_nil]); first | done | rfl | (simp only [List.length_drop, List.length_take]; rfl)) ?_; (with_reducible refine (spec_SheetValid.calls k _ _ l0_0 false _ ?side1 ?side2 A2.out).mono ?_); (case side1 => repeat (first | exact (Kd.C_below HR0_0.out HB.out) | (with_reducible refine Kd.C_alloc ?_ _) | (with_reducible refine Kd.C_drewN ?_ _) | (with_reducible refine Kd.C_drew ?_))); (case side2 => exact HC0_0.out); rintro e w46 ⟨rfl, hb⟩; refine ⟨_, rfl, ?_⟩; have n0_ := Aside0.mk (blk_below (g := gb483) (o := .cells #[.slice A0_0 l0_0.length c0_0] 47 (0, 0)) (by (with_reducible repeat (first | refine blk_drewN ?_ _ | refine blk_drew ?_ | refine blk_alloc ?_ _)); exact BK483.out) hb); have n1_ := Aside0.mk (below_step (by repeat (first | (with_reducible first | exact HB.out | apply below_alloc | apply pw_below_drewN | apply below_drew1 | refine below_set ?_ GE483.out) | exact HB.out)) hb); clear BK483; clear HB; have BK483 := n0_; have HB := n1_; clear n0_ n1_; (try clear hb); (try clear hb2); (try clear hk); (try clear hi)))
  go_ret
  exact ⟨by first | rfl | (simp [errW_none, errW_some] <;> rfl) | (simp [*, errW_none, errW_some] <;> rfl), by repeat (first | (with_reducible first | exact HB.out | apply below_alloc | apply pw_below_drewN | apply below_drew1 | refine below_set ?_ GE483.out) | exact HB.out)⟩
end Go.Proofs.YtmcdnpooclelgaaDoor.PAll

namespace Go.Proofs.YtmcdnpooclelgaaDoor.PAll
open Go.RowKit Go.Proofs.YtmcdnpooclelgaaDoorW.PrintWords Go.Proofs.YtmcdnpooclelgaaDoorW.PrintLast Go.Proofs.YtmcdnpooclelgaaDoorW.PrintMore
attribute [local go_sem] max2_int min2_int max_two min_two max_three min_three max_four min_four   -- for this text's walks alone
set_option linter.unusedVariables false
set_option linter.unusedSimpArgs false
def impl_form.l0 : Nat → ByteArray → List ByteArray → Int → Int → Option (ByteArray)
 | 0, _, _, _, _ => none
 | k + 1, x3, x9, x10, x11 => if x11 < x10 then (if 0 ≤ x11 then (if x11 < (x9.length : Int) then ((impl_SheetWord.f (rdOf ByteArray.empty x9 x11)).bind fun t118 => (if 1 + t118.size ≤ 9223372036854775807 then (if x3.size + ((⟨#[32]⟩ : ByteArray) ++ t118).size ≤ 9223372036854775807 then (impl_form.l0 k (x3 ++ ((⟨#[32]⟩ : ByteArray) ++ t118)) x9 x10 (wrap64 (x11 + 1))) else (none)) else (none))) else (none)) else (none)) else (some x3)
def impl_form.f (k : Nat) (a0_0 : ByteArray) (l0_1 : List ByteArray) : Option (ByteArray) := impl_form.l0 k a0_0 l0_1 (l0_1.length : Int) 0
set_option maxHeartbeats 8000000 in
set_option maxRecDepth 100000 in
theorem impl_form.calls (k : Nat) (a0_0 : ByteArray) (A0_1 : Option Addr) (c0_1 : Nat) (l0_1 : List ByteArray) (r : ByteArray) (w : World) (hr0_1 : Kd.C Kd.string w A0_1 l0_1.length l0_1) (hc0_1 : l0_1.length ≤ c0_1) (h : impl_form.f k a0_0 l0_1 = some r) :
  Calls Tryd.prog 80 #[.agg #[.string a0_0, .slice A0_1 l0_1.length c0_1]] w fun e w' => e = .returned (.string r) ∧ Below w.heap.size w w' := by
 have hu83 := Tryd.underlying83
 have HR0_1 := Aside0.mk hr0_1
 have HC0_1 := Aside0.mk hc0_1
 clear hr0_1 hc0_1
 have HB := Aside0.mk (Below.refl w.heap.size w)
 have H : (impl_form.l0 k a0_0 l0_1 (l0_1.length : Int) 0) = some r := h
 clear h
 have H' := Aside0.mk H
 clear H
 go_enter Tryd.func80, Tryd.ntmps80
 go_wp2_with (first | ((with_reducible refine gate_dst (N := 1) rfl ?_); refine box_event ?hg (N := 1) ?hd (cs := #[.string a0_0, .slice A0_1 l0_1.length c0_1]) (t := 83) ?hr ?_; (case hd => rfl); (case hg => rfl); (case hr => first | (go_simp; done) | (go_simp; rfl)); intro gb116 hg w2 hbox hb; have n0_ := Aside0.mk (below_step (stB HB.out) hb); have n1_ := Aside0.mk (hbox); have n2_ := Aside0.mk ((by rw [hg]; exact (below_size (stB HB.out)) : w.heap.size ≤ gb116)); have n3_ := Aside0.mk ((by rw [hg]; exact (below_size (stB HB.out)) : w.heap.size ≤ gb116)); clear HB; have HB := n0_; have BK116 := n1_; have GW116 := n2_; have GE116 := n3_; clear n0_ n1_ n2_ n3_; clear hb hbox hg; have hcz3_0 : w2.cell? ⟨gb116, 0, none⟩ = some (.string a0_0) := (blk_cell BK116.out 0).trans rfl; have hcz3_1 : w2.cell? ⟨gb116, 1, none⟩ = some (.slice A0_1 l0_1.length c0_1) := (blk_cell BK116.out 1).trans rfl; have hfz3_0 := blk_frozen BK116.out 0; have hfz3_1 := blk_frozen BK116.out 1))
 go_loopg [3, 11] k (fun kq v3 v11 w' => ∃ (x3_1 : ByteArray) (x11_1 : Int), v3 = .string x3_1 ∧ v11 = .int .i64 x11_1 ∧ Aside0 (impl_form.l0 kq x3_1 l0_1 (l0_1.length : Int) x11_1 = some r) ∧ Aside0 (kq ≤ k) ∧ Aside0 (w'.heap[gb116]? = some (.cells #[.string a0_0, (.slice A0_1 l0_1.length c0_1)] 83 (0, 0))) ∧ Aside0 (Below w.heap.size w w'))
 case atStart => exact ⟨(a0_0), (0), (by first | rfl | (simp; done) | (simp [*]; done)), (by first | rfl | (simp; done) | (simp [*]; done)), H', ⟨Nat.le_refl _⟩, ⟨by (with_reducible repeat (first | refine blk_drewN ?_ _ | refine blk_drew ?_ | refine blk_alloc ?_ _)); exact BK116.out⟩, ⟨by repeat (first | (with_reducible first | exact HB.out | apply below_alloc | apply pw_below_drewN | apply below_drew1 | refine below_set ?_ GE116.out) | exact HB.out)⟩⟩
 case round =>
  clear H'
  try clear p2
  try clear hcz3_0
  try clear hcz3_1
  try clear hfz3_0
  try clear hfz3_1
  obtain ⟨x3_1, x11_1, rfl, rfl, HA, HK1, BK116, HB⟩ := hrel
  cases gk with
  | zero => exact absurd HA.out (by simp [impl_form.l0])
  | succ k1 =>
   have H := HA.out
   clear HA
   simp only [impl_form.l0] at H
   by_cases c4 : x11_1 < (l0_1.length : Int)
   ·rw [if_pos c4] at H
    have c4b0 : decide (x11_1 < (l0_1.length : Int)) = true := decide_eq_true c4
    clear c4
    by_cases c5 : 0 ≤ x11_1
    ·rw [if_pos c5] at H
     have c5b0 : decide (0 ≤ x11_1) = true := decide_eq_true c5
     clear c5
     by_cases c6 : x11_1 < (l0_1.length : Int)
     ·rw [if_pos c6] at H
      have c6b0 : decide (x11_1 < (l0_1.length : Int)) = true := decide_eq_true c6
      clear c6
      replace H := Option.bind_eq_some_iff.mp H
      obtain ⟨t118, A70, H⟩ := H
      replace H : (if 1 + t118.size ≤ 9223372036854775807 then (if x3_1.size + ((⟨#[32]⟩ : ByteArray) ++ t118).size ≤ 9223372036854775807 then (impl_form.l0 k1 (x3_1 ++ ((⟨#[32]⟩ : ByteArray) ++ t118)) l0_1 (l0_1.length : Int) (wrap64 (x11_1 + 1))) else (none)) else (none)) = some r := H
      have A7 := Aside0.mk A70
      clear A70
      by_cases c8 : 1 + t118.size ≤ 9223372036854775807
      ·rw [if_pos c8] at H
       have c8b0 := eq_true c8
       have c8b1 : decide (1 + t118.size ≤ 9223372036854775807) = true := decide_eq_true c8
       try have c8b2 : (9223372036854775807 < 1 + t118.size) = False := eq_false (Nat.not_lt.2 c8)
       by_cases c9 : x3_1.size + ((⟨#[32]⟩ : ByteArray) ++ t118).size ≤ 9223372036854775807
       ·rw [if_pos c9] at H
        have c9b0 := eq_true c9
        have c9b1 : decide (x3_1.size + ((⟨#[32]⟩ : ByteArray) ++ t118).size ≤ 9223372036854775807) = true := decide_eq_true c9
        try have c9b2 : (9223372036854775807 < x3_1.size + ((⟨#[32]⟩ : ByteArray) ++ t118).size) = False := eq_false (Nat.not_lt.2 c9)
        have H' := Aside0.mk H
        clear H
        have p117 : 0 ≤ (x11_1 : Int) := of_decide_eq_true (by first | (with_reducible assumption) | assumption)
        have q117 : x11_1 < (l0_1.length : Int) := of_decide_eq_true (by first | (with_reducible assumption) | assumption)
        obtain ⟨ad117, e117, hx117_0⟩ := Kd.at_string HR0_1.out x11_1 p117 q117
        cases e117
        (try replace hx117_0 := (HB.out.cell (World.block_lt_of_cell? w _ hx117_0)).trans hx117_0)
        replace p117 := eq_true p117
        replace q117 := eq_true q117
        go_wp2_with (first | ((with_reducible refine gate_callee (f := 121) rfl ?_); refine goesL_ (some 17) rfl rfl Tryd.func121 (by kernel_rfl) rfl #[.string (rdOf ByteArray.empty l0_1 x11_1)] rfl (by (try simp only [List.map_toArray, List.map_cons, List.map_nil]); first | done | rfl | (simp only [List.length_drop, List.length_take]; rfl)) ?_; (with_reducible refine (impl_SheetWord.calls (rdOf ByteArray.empty l0_1 x11_1) t118 _ A7.out).mono ?_); rintro e w10 ⟨rfl, hb⟩; refine ⟨_, rfl, ?_⟩; have n0_ := Aside0.mk (blk_below (g := gb116) (o := .cells #[.string a0_0, .slice (some ad117) l0_1.length c0_1] 83 (0, 0)) (by (with_reducible repeat (first | refine blk_drewN ?_ _ | refine blk_drew ?_ | refine blk_alloc ?_ _)); exact BK116.out) hb); have n1_ := Aside0.mk (below_step (by repeat (first | (with_reducible first | exact HB.out | apply below_alloc | apply pw_below_drewN | apply below_drew1 | refine below_set ?_ GE116.out) | exact HB.out)) hb); clear BK116; clear HB; have BK116 := n0_; have HB := n1_; clear n0_ n1_; (try clear hb); (try clear hb2); (try clear hk); (try clear hi)))
        go_roundg k1
        case measure => have := HK1.out; omega
        case rel => exact ⟨(x3_1 ++ ((⟨#[32]⟩ : ByteArray) ++ t118)), (wrap64 (x11_1 + 1)), (by first | rfl | (simp; done) | (simp [*]; done)), (by first | rfl | (simp; done) | (simp [*]; done)), H', ⟨by have := HK1.out; omega⟩, ⟨by (with_reducible repeat (first | refine blk_drewN ?_ _ | refine blk_drew ?_ | refine blk_alloc ?_ _)); exact BK116.out⟩, ⟨by repeat (first | (with_reducible first | exact HB.out | apply below_alloc | apply pw_below_drewN | apply below_drew1 | refine below_set ?_ GE116.out) | exact HB.out)⟩⟩
       ·rw [if_neg c9] at H
        exact absurd H (by simp)
      ·rw [if_neg c8] at H
       exact absurd H (by simp)
     ·rw [if_neg c6] at H
      exact absurd H (by simp)
    ·rw [if_neg c5] at H
     exact absurd H (by simp)
   ·rw [if_neg c4] at H
    have c4b0 : decide (x11_1 < (l0_1.length : Int)) = false := decide_eq_false c4
    clear c4
    obtain rfl := Option.some.inj H
    go_wp2
    go_ret
    exact ⟨by first | rfl | (simp [errW_none, errW_some] <;> rfl) | (simp [*, errW_none, errW_some] <;> rfl), by repeat (first | (with_reducible first | exact HB.out | apply below_alloc | apply pw_below_drewN | apply below_drew1 | refine below_set ?_ GE116.out) | exact HB.out)⟩
end Go.Proofs.YtmcdnpooclelgaaDoor.PAll

namespace Go.Proofs.YtmcdnpooclelgaaDoor.PAll
open Go.RowKit Go.Proofs.YtmcdnpooclelgaaDoorW.PrintWords
theorem l4_l0 (key : ByteArray) (ws : List ByteArray) (hn : ws.length ≤ 1048576) (hw : ∀ s ∈ ws, s.size ≤ 1048576) : ∀ (d i : Nat) (out : ByteArray), i + d = ws.length → out.size + d * 3145731 ≤ 4611686018427387904 → Ev (fun k => spec_l4Line.l0 k out i key ws) (lineB out (ws.drop i))
  | 0, i, out, h, hs => Ev.unf (fun _ => some out) (fun k => by simp only [spec_l4Line.l0]; rw [if_neg (by omega)]) (by rw [List.drop_eq_nil_of_le (by omega)]; exact Ev.now _)
  | d + 1, i, out, h, hs => by
    have hi : i < ws.length := by omega
    have hz := hw _ (List.getElem_mem hi)
    have hwz := (word_facts ws[i]).2
    have e0 : (out ++ (⟨#[32]⟩ : ByteArray)).size = out.size + 1 := by rw [ByteArray.size_append]; rfl
    have e1 : ((out ++ (⟨#[32]⟩ : ByteArray)) ++ wordP ws[i]).size = out.size + 1 + (wordP ws[i]).size := by rw [ByteArray.size_append, e0]
    rw [List.drop_eq_getElem_cons hi, lineB]
    refine Ev.unf (fun k => spec_l4Line.l0 k ((out ++ (⟨#[32]⟩ : ByteArray)) ++ wordP ws[i]) ((i + 1 : Nat) : Int) key ws) (fun k => ?_) (l4_l0 key ws hn hw d (i + 1) _ (by omega) (by rw [e1]; omega))
    simp only [spec_l4Line.l0]
    rw [if_pos (by omega), if_pos (by omega), if_pos (by omega), rdStr hi]
    unfold spec_SheetWord.f
    rw [if_pos hz]
    simp only [Option.bind_some]
    rw [if_pos (by rw [e0]; omega), inc (by omega)]
theorem ev_l4Line (l : S83) (h : smallL l) : Ev (fun k => spec_l4Line.f k l.f0 l.f1) (lineB l.f0 l.f1) := by
  unfold spec_l4Line.f
  exact l4_l0 l.f0 l.f1 h.2.1 h.2.2 l.f1.length 0 l.f0 (by omega) (by have := h.1; have := h.2.1; omega)
theorem form_l0 (ws : List ByteArray) (hn : ws.length ≤ 1048576) (hw : ∀ s ∈ ws, s.size ≤ 1048576) : ∀ (d i : Nat) (out : ByteArray), i + d = ws.length → out.size + d * 3145731 ≤ 4611686018427387904 → Ev (fun k => impl_form.l0 k out ws ws.length i) (lineB out (ws.drop i))
  | 0, i, out, h, hs => Ev.unf (fun _ => some out) (fun k => by simp only [impl_form.l0]; rw [if_neg (by omega)]) (by rw [List.drop_eq_nil_of_le (by omega)]; exact Ev.now _)
  | d + 1, i, out, h, hs => by
    have hi : i < ws.length := by omega
    have hz := hw _ (List.getElem_mem hi)
    have hwz := (word_facts ws[i]).2
    have e0 : ((⟨#[32]⟩ : ByteArray) ++ wordP ws[i]).size = 1 + (wordP ws[i]).size := by rw [ByteArray.size_append]; rfl
    have e1 : (out ++ ((⟨#[32]⟩ : ByteArray) ++ wordP ws[i])).size = out.size + (1 + (wordP ws[i]).size) := by rw [ByteArray.size_append, e0]
    rw [List.drop_eq_getElem_cons hi, lineB, ByteArray.append_assoc]
    refine Ev.unf (fun k => impl_form.l0 k (out ++ ((⟨#[32]⟩ : ByteArray) ++ wordP ws[i])) ws ws.length ((i + 1 : Nat) : Int)) (fun k => ?_) (form_l0 ws hn hw d (i + 1) _ (by omega) (by rw [e1]; omega))
    simp only [impl_form.l0]
    rw [if_pos (by omega), if_pos (by omega), if_pos (by omega), rdStr hi]
    unfold impl_SheetWord.f
    rw [if_pos hz]
    simp only [Option.bind_some]
    rw [if_pos (by omega), if_pos (by rw [e0]; omega), inc (by omega)]
theorem ev_form (l : S83) (h : smallL l) : Ev (fun k => impl_form.f k l.f0 l.f1) (lineB l.f0 l.f1) := by
  unfold impl_form.f
  exact form_l0 l.f1 h.2.1 h.2.2 l.f1.length 0 l.f0 (by omega) (by have := h.1; have := h.2.1; omega)
theorem line_small (l : S83) (h : smallL l) : (lineB l.f0 l.f1).size ≤ 4000000000000 := by
  have := lineB_size l.f1 l.f0 1048576 h.2.2
  have h2 : l.f1.length * (3 * 1048576 + 3) ≤ 1048576 * (3 * 1048576 + 3) := Nat.mul_le_mul_right _ h.2.1
  have := h.1
  omega
theorem textOf_cons (p : ByteArray) (ps : List ByteArray) : textOf (p :: ps) = bytesOf p ++ textOf ps := by simp [textOf]
set_option maxHeartbeats 4000000 in
theorem print_l1 (bs : List S62) (x4 x5 : Int) (kind name : ByteArray) (ls : List S83) (hf : smallLs ls) (R : ByteArray) : ∀ (d i : Nat) (x3 : List Int), i + d = ls.length → x3.length + (textOf ((ls.drop i).map rowB)).length + 4 < 140737488355328 →
    Ev (fun k => spec_SheetPrint.l0 k ((x3 ++ textOf ((ls.drop i).map rowB)) ++ bytesOf endB) (wrap64 (wrap64 (x4 + (ls.length : Int)) + 2)) (wrap64 (x5 + 1)) bs) R → Ev (fun k => spec_SheetPrint.l1 k x3 x4 x5 i bs kind name ls) R
  | 0, i, x3, h, hs, hR => Ev.unf (fun k => spec_SheetPrint.l0 k (x3 ++ bytesOf endB) (wrap64 (wrap64 (x4 + (ls.length : Int)) + 2)) (wrap64 (x5 + 1)) bs) (fun k => by
      simp only [spec_SheetPrint.l1]; rw [if_neg (by omega), if_pos (by omega)]; rfl) (by
      rw [List.drop_eq_nil_of_le (by omega)] at hR
      simpa [textOf] using hR)
  | d + 1, i, x3, h, hs, hR => by
    have hi : i < ls.length := by omega
    have hl := hf.2 _ (List.getElem_mem hi)
    have hz := line_small _ hl
    have hn := hf.1
    have e0 : ((⟨#[32, 32]⟩ : ByteArray) ++ lineB ls[i].f0 ls[i].f1).size = 2 + (lineB ls[i].f0 ls[i].f1).size := by rw [ByteArray.size_append]; rfl
    have e1 : (((⟨#[32, 32]⟩ : ByteArray) ++ lineB ls[i].f0 ls[i].f1) ++ (⟨#[10]⟩ : ByteArray)).size = 2 + (lineB ls[i].f0 ls[i].f1).size + 1 := by rw [ByteArray.size_append, e0]; rfl
    have er : rowB ls[i] = ((⟨#[32, 32]⟩ : ByteArray) ++ lineB ls[i].f0 ls[i].f1) ++ (⟨#[10]⟩ : ByteArray) := rfl
    rw [List.drop_eq_getElem_cons hi, List.map_cons, textOf_cons] at hs hR
    rw [List.length_append, bytesOf_length] at hs
    have ih := print_l1 bs x4 x5 kind name ls hf R d (i + 1) (x3 ++ bytesOf (rowB ls[i])) (by omega) (by rw [List.length_append, bytesOf_length]; omega) (by
      rw [List.append_assoc x3]; exact hR)
    refine Ev.unf (fun k => (spec_l4Line.f k ls[i].f0 ls[i].f1).bind fun t => (if 2 + t.size ≤ 9223372036854775807 then (if ((⟨#[32, 32]⟩ : ByteArray) ++ t).size + 1 ≤ 9223372036854775807 then (if x3.length + (((⟨#[32, 32]⟩ : ByteArray) ++ t) ++ (⟨#[10]⟩ : ByteArray)).size < 140737488355328 then (spec_SheetPrint.l1 k (x3 ++ bytesOf (((⟨#[32, 32]⟩ : ByteArray) ++ t) ++ (⟨#[10]⟩ : ByteArray))) x4 x5 ((i + 1 : Nat) : Int) bs kind name ls) else none) else none) else none)) (fun k => ?_) (Ev.bind (ev_l4Line _ hl) ?_)
    · simp only [spec_SheetPrint.l1]
      rw [if_pos (by omega), if_pos (by omega), rdLine hi, inc (by omega)]
    · rw [er, e1] at hs
      simp only [if_pos (show 2 + (lineB ls[i].f0 ls[i].f1).size ≤ 9223372036854775807 by omega), if_pos (show ((⟨#[32, 32]⟩ : ByteArray) ++ lineB ls[i].f0 ls[i].f1).size + 1 ≤ 9223372036854775807 by rw [e0]; omega), if_pos (show x3.length + (((⟨#[32, 32]⟩ : ByteArray) ++ lineB ls[i].f0 ls[i].f1) ++ (⟨#[10]⟩ : ByteArray)).size < 140737488355328 by rw [e1]; omega)]
      exact ih
def fin2 (T : List Int) (n : Nat) : ByteArray := if (T.length : Int) > 20000 then ⟨#[]⟩ else if (n : Int) > 400 then ⟨#[]⟩ else strOfNums T
theorem pieces_cons (b : S62) (bs : List S62) : textOf (pieces (b :: bs)) = bytesOf (headB b) ++ (textOf (b.f2.map rowB) ++ (bytesOf endB ++ textOf (pieces bs))) := by
  have : pieces (b :: bs) = headB b :: (b.f2.map rowB ++ ([endB] ++ pieces bs)) := by simp [pieces, piecesB]
  rw [this, textOf_cons, textOf_app, textOf_app, textOf_one]
theorem pieces_count (b : S62) (bs : List S62) : (pieces (b :: bs)).length = b.f2.length + 2 + (pieces bs).length := by simp [pieces, piecesB]; omega
theorem cnt_wrap (n m : Nat) (hn : n ≤ 1000000000000) (hm : m ≤ 1000000000000) : wrap64 (wrap64 ((n : Int) + (m : Int)) + 2) = ((n + m + 2 : Nat) : Int) := by unfold wrap64; omega
set_option maxHeartbeats 4000000 in
theorem print_l0 (bs : List S62) (hs : smallBs bs) : ∀ (d i : Nat) (x3 : List Int) (n : Nat), i + d = bs.length → x3.length + (textOf (pieces (bs.drop i))).length < 140737488355328 → n + (pieces (bs.drop i)).length ≤ 1000000000000 →
    Ev (fun k => spec_SheetPrint.l0 k x3 n i bs) (fin2 (x3 ++ textOf (pieces (bs.drop i))) (n + (pieces (bs.drop i)).length))
  | 0, i, x3, n, h, h1, h2 => Ev.unf (fun _ => some (fin2 x3 n)) (fun k => by
      simp only [spec_SheetPrint.l0]
      rw [if_neg (by omega)]
      unfold fin2
      split
      · rfl
      · split <;> rfl) (by
      rw [List.drop_eq_nil_of_le (by omega)]
      simp only [pieces, List.flatMap_nil, textOf, List.append_nil, List.length_nil, Nat.add_zero]
      exact Ev.now _)
  | d + 1, i, x3, n, h, h1, h2 => by
    have hi : i < bs.length := by omega
    have hb := hs.2 _ (List.getElem_mem hi)
    have hn := hs.1
    rw [List.drop_eq_getElem_cons hi] at h1 h2 ⊢
    rw [pieces_cons] at h1 ⊢
    rw [pieces_count] at h2 ⊢
    have e0 : (bs[i].f0 ++ (⟨#[32]⟩ : ByteArray)).size = bs[i].f0.size + 1 := by rw [ByteArray.size_append]; rfl
    have e1 : ((bs[i].f0 ++ (⟨#[32]⟩ : ByteArray)) ++ bs[i].f1).size = bs[i].f0.size + 1 + bs[i].f1.size := by rw [ByteArray.size_append, e0]
    have e2 : (((bs[i].f0 ++ (⟨#[32]⟩ : ByteArray)) ++ bs[i].f1) ++ (⟨#[10]⟩ : ByteArray)).size = bs[i].f0.size + 1 + bs[i].f1.size + 1 := by rw [ByteArray.size_append, e1]; rfl
    have er : headB bs[i] = ((bs[i].f0 ++ (⟨#[32]⟩ : ByteArray)) ++ bs[i].f1) ++ (⟨#[10]⟩ : ByteArray) := rfl
    have ee : endB.size = 4 := rfl
    simp only [List.length_append, bytesOf_length] at h1
    have ih := print_l0 bs hs d (i + 1) (((x3 ++ bytesOf (headB bs[i])) ++ textOf (bs[i].f2.map rowB)) ++ bytesOf endB) (n + bs[i].f2.length + 2) (by omega) (by simp only [List.length_append, bytesOf_length]; omega) (by omega)
    have hz := hb.1
    have hz2 := hb.2.1
    have hz3 := hb.2.2.1
    have ew := cnt_wrap n bs[i].f2.length (by omega) (by omega)
    have st := print_l1 bs (n : Int) (i : Int) bs[i].f0 bs[i].f1 bs[i].f2 hb.2.2 _ bs[i].f2.length 0 (x3 ++ bytesOf (headB bs[i])) (by omega) (by rw [List.drop_zero, List.length_append, bytesOf_length]; omega) (by
      rw [List.drop_zero, ew, inc (by omega)]; exact ih)
    rw [show x3 ++ (bytesOf (headB bs[i]) ++ (textOf (bs[i].f2.map rowB) ++ (bytesOf endB ++ textOf (pieces (bs.drop (i + 1)))))) = (((x3 ++ bytesOf (headB bs[i])) ++ textOf (bs[i].f2.map rowB)) ++ bytesOf endB) ++ textOf (pieces (bs.drop (i + 1))) by simp only [List.append_assoc], show n + (bs[i].f2.length + 2 + (pieces (bs.drop (i + 1))).length) = n + bs[i].f2.length + 2 + (pieces (bs.drop (i + 1))).length by omega]
    refine Ev.unf (fun k => spec_SheetPrint.l1 k (x3 ++ bytesOf (headB bs[i])) n i ((0 : Nat) : Int) bs bs[i].f0 bs[i].f1 bs[i].f2) (fun k => ?_) st
    simp only [spec_SheetPrint.l0]
    rw [er, e2] at h1
    rw [if_pos (by omega), if_pos (by omega), rdBlock hi, if_pos (by omega), if_pos (by rw [e0]; omega), if_pos (by rw [e1]; omega), if_pos (by rw [e2]; omega)]
    rfl
theorem ev_specPrint (bs : List S62) (hs : smallBs bs) : Ev (fun k => spec_SheetPrint.f k bs) (printP bs) := by
  unfold spec_SheetPrint.f printP
  refine Ev.bind (ev_specValid bs (fits_small bs hs)) ?_
  cases hv : sheetOk bs with
  | false => simp only [Bool.false_eq_true, if_false]; exact Ev.now _
  | true =>
    simp only [if_true]
    have hb := print_bound hv hs
    have hp := pieces_len bs fun b hb => (hs.2 b hb).2.2.1
    have h3 : bs.length ≤ 60 := by unfold sheetOk at hv; simp only [Bool.and_eq_true, decide_eq_true_eq] at hv; exact hv.1
    have h2 : bs.length * 1048578 ≤ 60 * 1048578 := Nat.mul_le_mul_right 1048578 h3
    have := print_l0 bs hs bs.length 0 [] 0 (by omega) (by rw [List.drop_zero]; simp only [List.length_nil]; omega) (by rw [List.drop_zero]; omega)
    rw [List.drop_zero, List.nil_append, Nat.zero_add] at this
    exact this
end Go.Proofs.YtmcdnpooclelgaaDoor.PAll

namespace Go.Proofs.YtmcdnpooclelgaaDoor
open Go.Shelf Go.RowKit Go.Proofs.YtmcdnpooclelgaaDoorW.PrintWords
abbrev IsB (B b : Nat) (l : List UInt8) (w : World) : Prop := Lib.IsBuilderF 96 5 B b (Lib.byteCells l) w
theorem bsize : ∃ j, Tryd.prog.info? 96 = some j ∧ j.size = 2 := by
  obtain ⟨j, hj, hjs⟩ := Option.map_eq_some_iff.1 Tryd.Builder_Extra_169.sizeBuilder
  exact ⟨j, hj, hjs⟩
set_option maxHeartbeats 1000000 in
set_option maxRecDepth 100000 in
theorem copyCheck_used (b : Nat) (w : World) (h0 : w.cell? ⟨b, 0, none⟩ = some (.pointer (some ⟨b, 0, none⟩))) :
    Calls Tryd.prog 120 #[.pointer (some ⟨b, 0, none⟩)] w fun e w' => e = .returned (.tuple #[]) ∧ w' = w := by
  obtain ⟨j, hj, _⟩ := bsize
  go_enter Tryd.func120, Tryd.ntmps120
  go_wp2
  rw [Lib.run_neq_ptr_same w _ Tryd.underlying94 hj]
  go_wp2
  go_end0
  exact ⟨rfl, rfl⟩
set_option maxHeartbeats 1000000 in
set_option maxRecDepth 100000 in
theorem copyCheck_fresh (b : Nat) (w : World) (h0 : w.cell? ⟨b, 0, none⟩ = some (.pointer none)) (hsh : w.shape? b = some (96, 2)) (hfz : w.frozen? ⟨b, 0, none⟩ = false) :
    Calls Tryd.prog 120 #[.pointer (some ⟨b, 0, none⟩)] w fun e w' => e = .returned (.tuple #[]) ∧ w' = w.setCell ⟨b, 0, none⟩ (.pointer (some ⟨b, 0, none⟩)) := by
  obtain ⟨j, hj, hjs⟩ := bsize
  go_enter Tryd.func120, Tryd.ntmps120
  go_wp2
  rw [Lib.run_to_unsafe w ⟨b, 0, none⟩ Tryd.underlying94 Tryd.underlying147 hj (by rw [hjs]; decide) hsh (Nat.zero_lt_succ 1)]
  simp only [Result.andThen]
  rw [Oper.upon_value]
  go_wp2
  rw [run_callFunc_extern Tryd.func142 (by kernel_rfl) (by kernel_rfl) (by kernel_rfl) (e := Extern.AbiNoEscape.same) (by kernel_rfl)]
  rw [Lib.run_noEscape]
  simp only [Result.andThen]
  rw [Oper.upon_value]
  go_wp2
  rw [Lib.run_from_unsafe w ⟨b, 0, none⟩ Tryd.underlying147 Tryd.underlying94 hj hsh Tryd.Builder_Extra_169.liesBuilder]
  simp only [Result.andThen]
  rw [Oper.upon_value]
  go_wp2
  go_end0
  exact ⟨rfl, rfl⟩
theorem copyCheck_k (B b : Nat) (bs : List Value) (w : World) (h : Lib.IsBuilderF 96 5 B b bs w) :
    Calls Tryd.prog 120 #[.pointer (some ⟨b, 0, none⟩)] w fun e w' => e = .returned (.tuple #[]) ∧ (Lib.BuilderAtF 96 5 B b (.pointer (some ⟨b, 0, none⟩)) bs w' ∧ Below B w w' ∧ Lib.OthersKept 5 (some b) w w') := by
  rcases h with h | h
  · refine (copyCheck_fresh b w h.cell0 h.shape h.frozen0).mono ?_
    rintro e w' ⟨rfl, rfl⟩
    exact ⟨rfl, h.used _, (Below.refl B w).setCell (p := ⟨b, 0, none⟩) h.1 _, (Lib.OthersKept.refl _ _ w).setCell ⟨b, 0, none⟩ rfl _⟩
  · refine (copyCheck_used b w h.cell0).mono ?_
    rintro e w' ⟨rfl, rfl⟩
    exact ⟨rfl, h, Below.refl B _, Lib.OthersKept.refl _ _ _⟩
set_option maxHeartbeats 2000000 in
set_option maxRecDepth 100000 in
theorem writeString_k (B b : Nat) (bs : List Value) (s : ByteArray) (w : World) (h : Lib.IsBuilderF 96 5 B b bs w) (hlen : bs.length + s.size ≤ 140737488355328) (hBw : B ≤ w.heap.size) :
    Calls Tryd.prog 79 #[.pointer (some ⟨b, 0, none⟩), .string s] w fun e w' => e = .returned (.tuple #[.int .i64 s.size, .nilIface]) ∧ (Lib.BuilderAtF 96 5 B b (.pointer (some ⟨b, 0, none⟩)) (bs ++ Lib.strCells s) w' ∧ Below B w w' ∧ Lib.OthersKept 5 (some b) w w') := by
  obtain ⟨i0, hi, hz0, hz1, hz2⟩ := info_parts Tryd.Builder_Extra_169.infoByte
  go_enter Tryd.func79, Tryd.ntmps79
  go_wp2_with (go_at_call 120; refine (copyCheck_k B b bs _ h).mono ?_)
  rintro e w1 ⟨rfl, h1, hb1, hk1⟩
  obtain ⟨hB, v, hbk, hown, hne⟩ := h1
  have c0 : w1.cell? ⟨b, 0, none⟩ = some (.pointer (some ⟨b, 0, none⟩)) := by rw [Lib.cell_of_heap hbk]; rfl
  have c1 : w1.cell? ⟨b, 1, none⟩ = some v := by rw [Lib.cell_of_heap hbk]; rfl
  go_wp2_with (at_builtin; refine Lib.wpList_append_own_stringF _ rfl _ _ 32 9 rfl B 5 i0 Tryd.underlying32 Tryd.underlying9 hi hz0 hz1 hz2 _ _ _ rfl hown s rfl ?c3 ?c4 ?c5 ?_)
  case c3 => unfold maxLen; omega
  case c4 => omega
  case c5 => have := hb1.size; omega
  intro v' w2 hown' hgrow _
  have hlt : b < w1.heap.size := by
    rcases Nat.lt_or_ge b w1.heap.size with h' | h'
    · exact h'
    · simp [Array.getElem?_eq_none h'] at hbk
  have hb2 : w2.heap[b]? = some (.cells #[.pointer (some ⟨b, 0, none⟩), v] 96 (0, 0)) := by
    rw [hgrow.block b hlt (fun e => hne e.symm)]
    exact hbk
  have d0 : w2.cell? ⟨b, 0, none⟩ = some (.pointer (some ⟨b, 0, none⟩)) := by rw [Lib.cell_of_heap hb2]; rfl
  have d1 : w2.cell? ⟨b, 1, none⟩ = some v := by rw [Lib.cell_of_heap hb2]; rfl
  have f1 : w2.frozen? ⟨b, 1, none⟩ = false := Lib.frozen_of_heap hb2 1
  obtain ⟨ao, n', cap, rfl⟩ : ∃ ao n' cap, v' = .slice ao n' cap := by
    rcases hown'.2 with ⟨hv, _⟩ | ⟨g, cap, cur, fz, hv, _⟩
    · exact ⟨_, _, _, hv⟩
    · exact ⟨_, _, _, hv⟩
  go_wp2
  go_ret2
  refine ⟨rfl, ?_, ?_, (hk1.grown hgrow (Lib.ownsRowF_kind hown)).setCell ⟨b, 1, none⟩ rfl _⟩
  · exact Lib.BuilderAtF.put (T := 96) (e := 5) hB hb2 (bs' := bs ++ Lib.strCells s) (by simpa [Lib.strCells_length] using hown') (by decide)
  · exact (hb1.grown hgrow (by have := hb1.size; omega) (fun k hk => (hown.lt k hk).1)).setCell (p := ⟨b, 1, none⟩) hB _
theorem IsB.write (B b : Nat) (l : List UInt8) (s : ByteArray) (w : World) (h : IsB B b l w) (hlen : l.length + s.size ≤ 140737488355328) (hBw : B ≤ w.heap.size) :
    Calls Tryd.prog 79 #[.pointer (some ⟨b, 0, none⟩), .string s] w fun e w' => e = .returned (.tuple #[.int .i64 s.size, .nilIface]) ∧ (Aside0 (IsB B b (l ++ s.data.toList) w') ∧ Below B w w' ∧ Aside0 (Lib.OthersKept 5 (some b) w w')) := by
  refine (writeString_k B b _ s w h (by rw [Lib.byteCells_length]; exact hlen) hBw).mono ?_
  rintro e w' ⟨rfl, h1, h2, h3⟩
  refine ⟨rfl, ⟨.inr ?_⟩, h2, ⟨h3⟩⟩
  have e1 : Lib.byteCells (l ++ s.data.toList) = Lib.byteCells l ++ Lib.strCells s := by rw [Lib.strCells_eq]; simp [Lib.byteCells]
  rw [e1]
  exact h1
theorem ownF_move {w w' : World} {B e k n : Nat} {v : Value} {xs : List Value} (h : w.ownsRowF B e k v n xs) (hm : ∀ g, v.ownBlock = some g → w'.heap[g]? = w.heap[g]?) : w'.ownsRowF B e k v n xs := by
  obtain ⟨h1, h2⟩ := h
  refine ⟨h1, ?_⟩
  rcases h2 with h2 | ⟨g, cap, cur, fz, rfl, hg, hh, r⟩
  · exact .inl h2
  · exact .inr ⟨g, cap, cur, fz, rfl, hg, (hm g rfl).trans hh, r⟩
theorem IsB.below {B b : Nat} {l : List UInt8} {w w' : World} (h : IsB B b l w) (hb : Below w.heap.size w w') : IsB B b l w' := by
  have key : ∀ p, Lib.BuilderAtF 96 5 B b p (Lib.byteCells l) w → Lib.BuilderAtF 96 5 B b p (Lib.byteCells l) w' := by
    intro p hp
    have hlt := hp.lt
    obtain ⟨hB, v, hbk, hown, hne⟩ := hp
    exact ⟨hB, v, by rw [hb.block b hlt]; exact hbk, ownF_move hown (fun g hg => hb.block g (hown.lt g hg).2), hne⟩
  rcases h with h | h
  · exact .inl (key _ h)
  · exact .inr (key _ h)
theorem IsB.fresh (w : World) (B : Nat) (hB : B ≤ w.heap.size) : IsB B w.heap.size [] (w.alloc (.cells #[.pointer none, .slice none 0 0] 96)) :=
  .inl (.of ⟨hB, .slice none 0 0, heap_alloc_new w _, World.ownsRow_nil _ _ _ _, by simp [Value.ownBlock]⟩)
theorem IsB.lt {B b : Nat} {l : List UInt8} {w : World} (h : IsB B b l w) : b < w.heap.size := by
  rcases h with h | h <;> exact h.lt
end Go.Proofs.YtmcdnpooclelgaaDoor

namespace Go.Proofs.YtmcdnpooclelgaaDoor.PAll
open Go.RowKit Go.Proofs.YtmcdnpooclelgaaDoorW.PrintWords
theorem textU_app (a b : List ByteArray) : textU (a ++ b) = textU a ++ textU b := by simp [textU]
theorem textU_one (a : ByteArray) : textU [a] = a.data.toList := by simp [textU]
theorem textU_pre {α : Type} (f : α → List ByteArray) (xs : List α) (i : Nat) (h : i < xs.length) : textU ((xs.take (i + 1)).flatMap f) = textU ((xs.take i).flatMap f) ++ textU (f xs[i]) := by
  rw [List.take_add_one, List.getElem?_eq_getElem h, List.flatMap_append, textU_app]; simp
theorem textU_le {α : Type} (f : α → List ByteArray) (xs : List α) (i : Nat) : (textU ((xs.take i).flatMap f)).length ≤ (textU (xs.flatMap f)).length := by
  conv => rhs; rw [← List.take_append_drop i xs]
  rw [List.flatMap_append, textU_app, List.length_append]
  omega
theorem rows_flat (ls : List S83) : ls.map rowB = ls.flatMap (fun l => [rowB l]) := by induction ls with
  | nil => rfl
  | cons l ls ih => simp [ih]
set_option maxRecDepth 100000 in
theorem form_c (l : S83) (h : smallL l) (A : Option Addr) (c : Nat) (w : World) (hr : Kd.C Kd.string w A l.f1.length l.f1) (hc : l.f1.length ≤ c) : Calls Tryd.prog 80 #[.agg #[.string l.f0, .slice A l.f1.length c]] w fun e w' => e = .returned (.string (lineB l.f0 l.f1)) ∧ Below w.heap.size w w' := by
  obtain ⟨K, hk⟩ := ev_form l h
  exact impl_form.calls K l.f0 A c l.f1 _ w hr hc (hk K (Nat.le_refl _))
set_option maxRecDepth 100000 in
set_option maxHeartbeats 4000000 in
theorem implPrint_any (A : Option Addr) (c : Nat) (bs : List S62) (w : World) (hr : Kd.C k62 w A bs.length bs) (hc : bs.length ≤ c) (hs : smallBs bs) :
    Calls Tryd.prog 32 #[.agg #[.slice A bs.length c]] w fun e w' => e = .returned (.string (printP bs)) ∧ Below w.heap.size w w' := by
  obtain ⟨K, hk⟩ := ev_implValid bs (fits_small bs hs)
  have HV := Aside0.mk (fun w hr => impl_SheetValid.calls K A c bs (sheetOk bs) w hr hc (hk K (Nat.le_refl _)))
  clear hk
  have HR := Aside0.mk hr
  have HS := Aside0.mk hs
  clear hr hs
  cases hv : sheetOk bs with
  | false =>
    have HP : Aside0 (printP bs = ⟨#[]⟩) := ⟨by unfold printP; rw [hv]; rfl⟩
    rw [hv] at HV
    clear hv
    go_enter Tryd.func32, Tryd.ntmps32
    go_wp2_with fail
    refine (HV.out _ (Kd.C_below HR.out ((Below.refl _ _).alloc (Nat.le_refl _) _))).mono ?_
    rintro e w1 ⟨rfl, hb1⟩
    go_wp2_with fail
    go_ret
    exact ⟨retS HP.out.symm, below_step ((Below.refl _ _).alloc (Nat.le_refl _) _) hb1⟩
  | true =>
    have HB := Aside0.mk (print_bound hv HS.out)
    have HN := Aside0.mk (show (pieces bs).length ≤ 4294967281 by
      have h2 := pieces_len bs fun b hb => (HS.out.2 b hb).2.2.1
      have h3 : bs.length ≤ 60 := by have h := hv; unfold sheetOk at h; simp only [Bool.and_eq_true, decide_eq_true_eq] at h; exact h.1
      have h4 : bs.length * 1048578 ≤ 60 * 1048578 := Nat.mul_le_mul_right _ h3
      omega)
    have HP := Aside0.mk (show printP bs = finish (pieces bs) by unfold printP; rw [hv]; rfl)
    obtain ⟨bl, hb1, hb2⟩ := finish_long (pieces bs) (fun p hp => (pieces_ok hv p hp).1) HN.out
    have HL := Aside0.mk hb1
    have HF := Aside0.mk hb2
    rw [hv] at HV
    have hlen : bs.length ≤ 1048576 := HS.out.1
    clear hv hb1 hb2
    go_enter Tryd.func32, Tryd.ntmps32
    go_wp2_with fail
    refine (HV.out _ (Kd.C_below HR.out ((Below.refl _ _).alloc (Nat.le_refl _) _))).mono ?_
    rintro e w1 ⟨rfl, hb1⟩
    have B1 : Below w.heap.size w w1 := below_step ((Below.refl _ _).alloc (Nat.le_refl _) _) hb1
    have x10 : w1.cell? ⟨w.heap.size, 0, none⟩ = some (.slice A bs.length c) := pw_cell_below hb1 (by go_simp)
    have hN1 : w.heap.size < w1.heap.size := by have := hb1.size; simp at this; omega
    clear hb1 HV
    have F0 := Aside0.mk (IsB.fresh w1 w1.heap.size (Nat.le_refl _))
    have x11 : (w1.alloc (.cells #[.pointer none, .slice none 0 0] 96)).cell? ⟨w.heap.size, 0, none⟩ = some (.slice A bs.length c) := pw_cell_below ((Below.refl _ _).alloc (Nat.le_refl _) _) x10
    go_wp2
    go_loopw [14] (fun v wr => ∃ k : Nat, v = .int .i64 k ∧ k ≤ bs.length ∧ Below w.heap.size w wr ∧ w1.heap.size < wr.heap.size ∧ Aside0 (IsB w1.heap.size w1.heap.size (textU ((bs.take k).flatMap piecesB)) wr)) (fun v _ => bs.length - (intOf v).toNat)
    case atStart => exact ⟨0, rfl, Nat.zero_le _, B1.alloc (by omega) _, by simp, ⟨by have := F0.out; simpa [textU] using this⟩⟩
    case round =>
      obtain ⟨k, rfl, hk, hB, hBl, hI⟩ := hrel
      clear x10 x11 F0
      generalize w1.heap.size = BB at *
      by_cases hlt : k < bs.length
      · obtain ⟨ad, A2, c2, rfl, hx0, hx1, hx2, hl2, hC2⟩ := at_T62 HR.out (k : Int) (by omega) (by omega)
        rw [rdBlock hlt, Int.toNat_natCast] at hx0 hx1 hx2
        rw [rdBlock hlt] at hl2 hC2
        replace hx0 := pw_cell_below hB hx0
        replace hx1 := pw_cell_below hB hx1
        replace hx2 := pw_cell_below hB hx2
        have hb := HS.out.2 _ (List.getElem_mem hlt)
        have hpre := textU_pre piecesB bs k hlt
        have hle := textU_le piecesB bs (k + 1)
        have htot : (textU (bs.flatMap piecesB)).length < 140000000000 := by rw [textU_len]; exact HB.out
        generalize bs[k] = b at *
        obtain ⟨f0, f1, ls⟩ := b
        have e1 : textU (piecesB ⟨f0, f1, ls⟩) = (headB ⟨f0, f1, ls⟩).data.toList ++ (textU (ls.map rowB) ++ endB.data.toList) := by simp [piecesB, textU]
        rw [e1] at hpre
        generalize textU ((bs.take k).flatMap piecesB) = P at *
        have HPRE := Aside0.mk hpre
        have hPl : P.length + ((headB ⟨f0, f1, ls⟩).size + ((textU (ls.map rowB)).length + 4)) < 140000000000 := by
          have := congrArg List.length hpre
          simp only [List.length_append, Array.length_toList] at this
          have e4 : endB.data.size = 4 := rfl
          have e5 : (headB ⟨f0, f1, ls⟩).data.size = (headB ⟨f0, f1, ls⟩).size := rfl
          omega
        have hhd : (headB ⟨f0, f1, ls⟩).size = f0.size + 1 + f1.size + 1 := by
          unfold headB
          rw [ByteArray.size_append, ByteArray.size_append, ByteArray.size_append]; rfl
        clear hpre hle htot e1
        have hHC2 := Aside0.mk hC2
        have HSL := Aside0.mk hb.2.2
        have hlsz : ls.length ≤ 1048576 := hb.2.2.1
        have z1 : f0.size ≤ 1048576 := hb.1
        have z2 : f1.size ≤ 1048576 := hb.2.1
        clear hb hC2
        have s1 : f0.size + 1 ≤ 9223372036854775807 := by omega
        have s2 : f0.size + 1 + f1.size ≤ 9223372036854775807 := by omega
        have s3 : f0.size + 1 + f1.size + 1 ≤ 9223372036854775807 := by omega
        have i1 : (k : Int) < (bs.length : Int) := by omega
        go_wp2_with fail
        refine (IsB.write BB BB P _ _ (hI.out.below ((Below.refl _ _).alloc (Nat.le_refl _) _)) ?wl (by simp; omega)).mono ?_
        case wl =>
          show P.length + (headB ⟨f0, f1, ls⟩).size ≤ _
          omega
        rintro e w2 ⟨rfl, hI2, hb2, hk2⟩
        have hblk : w2.heap[wr.heap.size]? = some (.cells #[.string f0, .string f1, .slice A2 ls.length c2] 62 (0, 0)) :=
          hk2.out _ _ (heap_alloc_new wr _) (by intro h; injection h with h; omega) (fun c fz h => by injection h with _ h _; exact absurd h (by decide))
        have y2 : w2.cell? ⟨wr.heap.size, 2, none⟩ = some (.slice A2 ls.length c2) := by rw [Lib.cell_of_heap hblk]; rfl
        have hB2 : Below w.heap.size w w2 := (hB.alloc hB.size _).trans (hb2.mono (Nat.le_of_lt hN1))
        have hBl2 : BB < w2.heap.size := by have := hb2.size; simp at this; omega
        have hI2' : Aside0 (IsB BB BB (P ++ ((headB ⟨f0, f1, ls⟩).data.toList ++ textU ((ls.take 0).map rowB))) w2) := ⟨by have := hI2.out; simpa [textU, headB, nlB] using this⟩
        clear hx0 hx1 hx2 hblk hk2 hb2 hI hB hBl hI2
        go_wp2_with fail
        go_loopw [29] (fun v wq => ∃ j : Nat, v = .int .i64 j ∧ j ≤ ls.length ∧ Below w.heap.size w wq ∧ BB < wq.heap.size ∧ Aside0 (IsB BB BB (P ++ ((headB ⟨f0, f1, ls⟩).data.toList ++ textU ((ls.take j).map rowB))) wq)) (fun v _ => ls.length - (intOf v).toNat)
        case atStart => exact ⟨0, rfl, Nat.zero_le _, hB2, hBl2, hI2'⟩
        case round =>
          clear hI2' hB2 hBl2 y2
          obtain ⟨j, rfl, hj, hB, hBl, hI⟩ := hrel
          by_cases hjl : j < ls.length
          · obtain ⟨ad', A1, d1, rfl, hx0, hx1, hl1, hC1⟩ := line_at hHC2.out j ls[j] (List.getElem?_eq_getElem hjl)
            replace hx0 := pw_cell_below hB hx0
            replace hx1 := pw_cell_below hB hx1
            have hls := HSL.out.2 _ (List.getElem_mem hjl)
            have hnext : textU ((ls.take (j + 1)).map rowB) = textU ((ls.take j).map rowB) ++ (rowB ls[j]).data.toList := by
              rw [rows_flat, rows_flat, textU_pre (fun l => [rowB l]) ls j hjl, textU_one]
            have hle : (textU ((ls.take (j + 1)).map rowB)).length ≤ (textU (ls.map rowB)).length := by
              rw [rows_flat, rows_flat]; exact textU_le (fun l => [rowB l]) ls (j + 1)
            rw [hnext] at hle
            generalize ls[j] = l at *
            have HNX := Aside0.mk hnext
            have HLS := Aside0.mk hls
            have HC1 := Aside0.mk hC1
            have zt := line_small l hls
            have hrow : (rowB l).size = 2 + (lineB l.f0 l.f1).size + 1 := by
              unfold rowB
              rw [ByteArray.size_append, ByteArray.size_append]; rfl
            have hle2 : (textU ((ls.take j).map rowB)).length + (rowB l).size ≤ (textU (ls.map rowB)).length := by
              rw [List.length_append, Array.length_toList] at hle; exact hle
            clear hnext hls hC1 hle
            have s4 : 2 + (lineB l.f0 l.f1).size ≤ 9223372036854775807 := by omega
            have s5 : 2 + (lineB l.f0 l.f1).size + 1 ≤ 9223372036854775807 := by omega
            have i2 : (j : Int) < (ls.length : Int) := by omega
            go_wp2_with fail
            refine (form_c l HLS.out A1 d1 _ (Kd.C_below (Kd.C_below HC1.out hB) ((Below.refl _ _).alloc (Nat.le_refl _) _)) hl1).mono ?_
            rintro e w3 ⟨rfl, hb3⟩
            have hB3 : Below w.heap.size w w3 := (hB.alloc hB.size _).trans (hb3.mono (by have := hB.size; simp; omega))
            have hBl3 : BB < w3.heap.size := by have := hb3.size; simp at this; omega
            have hI3 := Aside0.mk ((hI.out.below ((Below.refl _ _).alloc (Nat.le_refl _) _)).below hb3)
            clear hx0 hx1 hI hB hBl hb3
            go_wp2_with fail
            refine (IsB.write BB BB _ _ _ hI3.out ?wl (by omega)).mono ?_
            case wl =>
              show _ + (rowB l).size ≤ _
              have e7 : (headB ⟨f0, f1, ls⟩).data.toList.length = (headB ⟨f0, f1, ls⟩).size := Array.length_toList
              rw [List.length_append, List.length_append, e7]
              omega
            rintro e w4 ⟨rfl, hI4, hb4, _⟩
            have hB4 : Below w.heap.size w w4 := hB3.trans (hb4.mono (Nat.le_of_lt hN1))
            have hBl4 : BB < w4.heap.size := by have := hb4.size; omega
            have hI5 : Aside0 (IsB BB BB (P ++ ((headB ⟨f0, f1, ls⟩).data.toList ++ textU ((ls.take (j + 1)).map rowB))) w4) := ⟨by
              have := hI4.out
              rw [HNX.out]
              simp only [List.append_assoc] at this ⊢
              exact this⟩
            clear hI4 hI3 hb4 hB3 hBl3
            go_wp2
            go_roundw
            case rel => exact ⟨j + 1, by go_num, hjl, hB4, hBl4, hI5⟩
            case measure => simp [intOf]; omega
          · obtain rfl : j = ls.length := by omega
            have hI2 := hI.out
            rw [List.take_length] at hI2
            have hI6 := Aside0.mk hI2
            clear hI2 hI
            go_wp2_with fail
            refine (IsB.write BB BB _ _ _ hI6.out ?wl (by omega)).mono ?_
            case wl =>
              have e7 : (headB ⟨f0, f1, ls⟩).data.toList.length = (headB ⟨f0, f1, ls⟩).size := Array.length_toList
              rw [List.length_append, List.length_append, e7]
              have e6 : (⟨#[101, 110, 100, 10]⟩ : ByteArray).size = 4 := rfl
              omega
            rintro e w4 ⟨rfl, hI4, hb4, _⟩
            have hB4 : Below w.heap.size w w4 := hB.trans (hb4.mono (Nat.le_of_lt hN1))
            have hBl4 : BB < w4.heap.size := by have := hb4.size; omega
            have hI5 : Aside0 (IsB BB BB (textU ((bs.take (k + 1)).flatMap piecesB)) w4) := ⟨by
              have := hI4.out
              rw [HPRE.out]
              simp only [List.append_assoc] at this ⊢
              exact this⟩
            clear hI4 hI6 hb4 hB hBl
            go_wp2
            go_roundw
            case rel => exact ⟨k + 1, by go_num, hlt, hB4, hBl4, hI5⟩
            case measure => simp [intOf]; omega
      · obtain rfl : k = bs.length := by omega
        have hI2 := hI.out
        rw [List.take_length] at hI2
        have hI6 := Aside0.mk hI2
        clear hI2 hI
        have hT : Aside0 ((⟨(textU (bs.flatMap piecesB)).toArray⟩ : ByteArray) = strOfNums (textOf (pieces bs))) := ⟨(text_strOf (pieces bs)).symm⟩
        have HLC := Aside0.mk (fun w => impl_long.calls _ bl w HL.out)
        have hBle : BB ≤ wr.heap.size := Nat.le_of_lt hBl
        go_wp2_with fail
        refine (Tryd.Builder_String_any_k BB BB _ wr hI6.out hBle).mono ?_
        rw [hT.out]
        rintro e w4 ⟨rfl, hI4, hb4, _⟩
        have hI5 := Aside0.mk hI4
        have hB4 : Below w.heap.size w w4 := hB.trans (hb4.mono (Nat.le_of_lt hN1))
        have hBl4 : BB < w4.heap.size := by have := hb4.size; omega
        clear hI4 hb4 hI6 hB hBl
        have HF2 := HF.out
        have HP2 := HP.out
        rw [HF2] at HP2
        have HP3 := Aside0.mk HP2
        clear HF2 HP2
        generalize strOfNums (textOf (pieces bs)) = T at *
        go_wp2_with fail
        refine (HLC.out w4).mono ?_
        rintro e w5 ⟨rfl, hb5⟩
        have hB5 : Below w.heap.size w w5 := hB4.trans (hb5.mono hB4.size)
        have hBl5 : BB ≤ w5.heap.size := by have := hb5.size; omega
        have hI7 := Aside0.mk (IsB.below hI5.out hb5)
        clear hI5 hb5 hB4 HLC
        cases bl with
        | true =>
          go_wp2
          go_ret
          exact ⟨retS (by rw [HP3.out]; rfl), hB5⟩
        | false =>
          go_wp2_with fail
          refine (Tryd.Builder_String_any_k BB BB _ w5 hI7.out hBl5).mono ?_
          rw [hT.out]
          rintro e w6 ⟨rfl, _, hb6, _⟩
          go_wp2_with fail
          go_ret
          exact ⟨retS (by rw [HP3.out]; rfl), hB5.trans (hb6.mono (Nat.le_of_lt hN1))⟩
instance (bs : List S62) : Decidable (smallBs bs) := by unfold smallBs smallB smallLs smallL; infer_instance
end Go.Proofs.YtmcdnpooclelgaaDoor.PAll

namespace Go.Proofs.YtmcdnpooclelgaaDoor
open Go.ChangeShapes Go.WideShapes Go.ChangeAt Go.RowKit
theorem deep_of_change {H : Type} {enc : TypeId × Value → H} {a : Assume} {C : Checked} {os : Os} {f : FuncId} {fn : Func} {s : ChangeSpec} {conds : List PathCond} {apart fresh handsOn again : Bool} {X : World → Array Value → Prop}
    (own : ownKnob C.prog.godebug = none) (started : os.Started) (noInit : C.prog.inits.idxOf? f = none) (hfn : C.prog.funcs[f]? = some fn)
    (witness : ∃ (w : World) (tape : Tape) (i : Input), w.os = os ∧ (w.forCall tape i).Shaped C.prog ∧ i.vars = [] ∧ Input.okWide C.prog (w.forCall tape i) .any w.heap.size f i ∧
      ((s.pre enc C.prog fn conds apart (w.forCall tape i).memory i.args ∧ X (w.forCall tape i).memory i.args) ∧ sizedMet enc C.prog fn (OpenSpec.ofChange s) apart (w.forCall tape i).memory i.args) ∧ a.holds C.prog (lone (Frame.enter C.prog f i.args .normal) [] (w.forCall tape i)))
    (contract : ∀ (W : World) (base : Nat) (args : Array Value) (ds gs : List (DataW H)) (before : List MemPlace),
      (∀ (j : Nat) t v, fn.params[j]? = some t → args[j]? = some v → Value.okWide C.prog W .any base t v) →
      DataW.Whole enc C.prog fn.params.toList s.vars apart W args.toList ds gs before →
      conds.all (PathCond.test C.prog ⟨fn.params.toList, ds, s.plain.varTypes C.prog, gs⟩) = true →
      (DataW.weightsEach C.prog (fn.params.toList ++ s.plain.varTypes C.prog) (ds ++ gs)).all (· ≤ reachBytes) = true →
      W.ShapedOpen C.prog →
      a.holds C.prog (lone (Frame.enter C.prog f args .normal) [] W) →
      Calls C.prog f args W fun e W' => ∃ v, e = .returned v ∧ s.post enc C.prog fn apart fresh handsOn again W args v W') :
    ReturnsInHanded a C os f .any (fun w args => (s.pre enc C.prog fn conds apart w args ∧ X w args) ∧ sizedMet enc C.prog fn (OpenSpec.ofChange s) apart w args) (s.post enc C.prog fn apart fresh handsOn again) := by
  refine returnsInHanded_of_calls own started noInit witness ?_
  intro w tape i _ hsh _ hok hpre hholds
  obtain ⟨_, _, _, fn', hfn', _, _, _, _, hval⟩ := hok
  have e : fn' = fn := Option.some.inj (hfn'.symm.trans hfn)
  subst e
  obtain ⟨⟨⟨ds, gs, before, hw, hc⟩, _⟩, hz⟩ := hpre
  have hw' := DataW.Whole.of_heap (w' := w.forCall tape i) (by rfl) hw
  refine (contract (w.forCall tape i) w.heap.size i.args ds gs before hval hw' hc (hz.weights hw) hsh hholds).mono fun e W' ⟨v, he, hp⟩ => ?_
  subst he
  exact ChangeSpec.post_blind hp
end Go.Proofs.YtmcdnpooclelgaaDoor
