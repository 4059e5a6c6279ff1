/- Texts of this claim, packed: contracts of functions and plain lemmas that the law is proved from. -/
import Derived.ArgAppend
import Derived.Below
import Derived.BigQuiet
import Derived.Deep.AppendLies
import Derived.Deep.CutBlock
import Derived.Deep.DeepCutAuto
import Derived.Deep.Draws
import Derived.Deep.LoopGhost
import Derived.Deep.OwnRows
import Derived.Deep.QuietTactic
import Derived.Deep.RegionHeld3
import Derived.Deep.RegionLaw
import Derived.IntWalk
import Derived.KernelRfl
import Derived.Laws.BitsLemmas
import Derived.Laws.BytesArg
import Derived.Laws.IdiomCopy
import Derived.Laws.MakeOwn
import Derived.Laws.OwnMore
import Derived.Laws.Rows
import Derived.Laws.Slices
import Derived.Lib.AppendStr
import Derived.Lib.ConvBytes
import Derived.Lib.Hide
import Derived.Lib.Strings
import Derived.Maps.AppendAt
import Derived.OrdersHeld
import Derived.OwnWalk
import Derived.RowKit
import Derived.RowKit3
import Derived.Tactics
import Derived.Test.YtmcdnpooclelgaaDoorProg
import Derived.WalkKit
import Derived.WideLaws
import Derived.Test.YtmcdnpooclelgaaDoorQDiff1
set_option linter.unusedVariables false
set_option linter.unusedSimpArgs false
namespace Go.Proofs.YtmcdnpooclelgaaDoor.PAll
open Go.RowKit Go.Proofs.YtmcdnpooclelgaaDoorW.PrintWords Go.Proofs.YtmcdnpooclelgaaDoorW.PrintLast Go.Proofs.YtmcdnpooclelgaaDoorW.PrintMore
attribute [local go_sem] max2_int min2_int max_two min_two max_three min_three max_four min_four   -- for this text's walks alone
def errW : Option Int → Value
 | none => .nilIface
 | some c => .iface 0 (.int .i64 c)
theorem errW_none : errW none = .nilIface := rfl
theorem errW_some (c : Int) : errW (some c) = .iface 0 (.int .i64 c) := rfl
theorem info3 : (Tryd.prog.info? 3).map (fun i => (i.zero, i.size, i.bytes)) = some (some (.int .i64 0), 1, 8) := by kernel_rfl
theorem info9 : (Tryd.prog.info? 9).map (fun i => (i.zero, i.size, i.bytes)) = some (some (.string ⟨#[]⟩), 1, 16) := by kernel_rfl
theorem info83 : (Tryd.prog.info? 83).map (fun i => (i.zero, i.size, i.bytes)) = some (some (.agg #[(.string ⟨#[]⟩), (.slice none 0 0)]), 2, 40) := by kernel_rfl
-- the values' own types
structure S36 where
 f0 : ByteArray
 f1 : (List Int)
 f2 : Bool
 f3 : (List ByteArray)
def z36 : S36 := ⟨(⟨#[]⟩ : ByteArray), ([] : List Int), false, ([] : List ByteArray)⟩
def k36 : Kd S36 := Kd.iso (Kd.pair Kd.string (Kd.pair (Kd.slice 3 (Kd.int .i64)) (Kd.pair Kd.bool (Kd.slice 9 Kd.string)))) (fun x : S36 => (x.f0, x.f1, x.f2, x.f3))
theorem k36_open {w : World} {x : S36} {cs : List Value} (h : k36.K w x cs) : ∃ A1 c1 A3 c3, cs = [.string x.f0, .slice A1 x.f1.length c1, .bool x.f2, .slice A3 x.f3.length c3] ∧ x.f1.length ≤ c1 ∧ (Kd.int .i64).C w A1 x.f1.length x.f1 ∧ x.f3.length ≤ c3 ∧ Kd.string.C w A3 x.f3.length x.f3 := by
 obtain ⟨_, _, rfl, rfl, ⟨_, _, rfl, ⟨A1, c1, rfl, l1, g1⟩, ⟨_, _, rfl, rfl, ⟨A3, c3, rfl, l3, g3⟩⟩⟩⟩ := h
 exact ⟨A1, c1, A3, c3, rfl, l1, g1, l3, g3⟩
theorem k36_openM {w : World} {base : Nat} {ok : Nat → Prop} {x : S36} {cs : List Value} (h : k36.M w base ok x cs) : ∃ v1 v3, cs = [.string x.f0, v1, .bool x.f2, v3] ∧ (Kd.int .i64).R 3 w base ok v1 x.f1 ∧ Kd.string.R 9 w base ok v3 x.f3 := by
 obtain ⟨_, _, rfl, rfl, ⟨_, _, rfl, ⟨v1, rfl, g1⟩, ⟨_, _, rfl, rfl, ⟨v3, rfl, g3⟩⟩⟩⟩ := h
 exact ⟨v1, v3, rfl, g1, g3⟩
theorem k36_mkM (w : World) (base : Nat) (ok : Nat → Prop) (x : S36) {v1 : Value} (g1 : (Kd.int .i64).R 3 w base ok v1 x.f1) {v3 : Value} (g3 : Kd.string.R 9 w base ok v3 x.f3) : k36.M w base ok x [.string x.f0, v1, .bool x.f2, v3] := ⟨[.string x.f0], [v1, .bool x.f2, v3], rfl, rfl, ⟨[v1], [.bool x.f2, v3], rfl, ⟨v1, rfl, g1⟩, ⟨[.bool x.f2], [v3], rfl, rfl, ⟨v3, rfl, g3⟩⟩⟩⟩
def rd_T36 (xs : List S36) (i : Int) : S36 := xs.getD i.toNat z36
theorem at_T36 {w : World} {A : Option Addr} {n : Nat} {xs : List S36} (h : Kd.C k36 w A n xs) (i : Int) (h0 : 0 ≤ i) (h1 : i < n) : ∃ ad A1 c1 A3 c3, A = some ad ∧ w.cell? (ad.add (i.toNat * 4)) = some (.string (rd_T36 xs i).f0) ∧ w.cell? ⟨(ad.add (i.toNat * 4)).block, (ad.add (i.toNat * 4)).off + 1, none⟩ = some (.slice A1 (rd_T36 xs i).f1.length c1) ∧ w.cell? ⟨(ad.add (i.toNat * 4)).block, (ad.add (i.toNat * 4)).off + 2, none⟩ = some (.bool (rd_T36 xs i).f2) ∧ w.cell? ⟨(ad.add (i.toNat * 4)).block, (ad.add (i.toNat * 4)).off + 3, none⟩ = some (.slice A3 (rd_T36 xs i).f3.length c3) ∧ (rd_T36 xs i).f1.length ≤ c1 ∧ (Kd.int .i64).C w A1 (rd_T36 xs i).f1.length (rd_T36 xs i).f1 ∧ (rd_T36 xs i).f3.length ≤ c3 ∧ Kd.string.C w A3 (rd_T36 xs i).f3.length (rd_T36 xs i).f3 := by
 obtain ⟨ad, c, e, _, hK, hc0⟩ := Kd.C_get h z36 i h0 h1
 have hc : ∀ j u, c[j]? = some u → w.cell? (ad.add (i.toNat * 4 + j)) = some u := hc0
 obtain ⟨A1, c1, A3, c3, rfl, l1, g1, l3, g3⟩ := k36_open hK
 exact ⟨ad, A1, c1, A3, c3, e, hc 0 _ rfl, by rw [← add_field _ _ 1 (by omega)]; exact hc 1 _ rfl, by rw [← add_field _ _ 2 (by omega)]; exact hc 2 _ rfl, by rw [← add_field _ _ 3 (by omega)]; exact hc 3 _ rfl, l1, g1, l3, g3⟩
structure S155 where
 f0 : ByteArray
 f1 : (List ByteArray)
def z155 : S155 := ⟨(⟨#[]⟩ : ByteArray), ([] : List ByteArray)⟩
def k155 : Kd S155 := Kd.iso (Kd.pair Kd.string (Kd.slice 9 Kd.string)) (fun x : S155 => (x.f0, x.f1))
theorem k155_open {w : World} {x : S155} {cs : List Value} (h : k155.K w x cs) : ∃ A1 c1, cs = [.string x.f0, .slice A1 x.f1.length c1] ∧ x.f1.length ≤ c1 ∧ Kd.string.C w A1 x.f1.length x.f1 := by
 obtain ⟨_, _, rfl, rfl, ⟨A1, c1, rfl, l1, g1⟩⟩ := h
 exact ⟨A1, c1, rfl, l1, g1⟩
def rd_T155 (xs : List S155) (i : Int) : S155 := xs.getD i.toNat z155
theorem at_T155 {w : World} {A : Option Addr} {n : Nat} {xs : List S155} (h : Kd.C k155 w A n xs) (i : Int) (h0 : 0 ≤ i) (h1 : i < n) : ∃ ad A1 c1, A = some ad ∧ w.cell? (ad.add (i.toNat * 2)) = some (.string (rd_T155 xs i).f0) ∧ w.cell? ⟨(ad.add (i.toNat * 2)).block, (ad.add (i.toNat * 2)).off + 1, none⟩ = some (.slice A1 (rd_T155 xs i).f1.length c1) ∧ (rd_T155 xs i).f1.length ≤ c1 ∧ Kd.string.C w A1 (rd_T155 xs i).f1.length (rd_T155 xs i).f1 := by
 obtain ⟨ad, c, e, _, hK, hc0⟩ := Kd.C_get h z155 i h0 h1
 have hc : ∀ j u, c[j]? = some u → w.cell? (ad.add (i.toNat * 2 + j)) = some u := hc0
 obtain ⟨A1, c1, rfl, l1, g1⟩ := k155_open hK
 exact ⟨ad, A1, c1, e, hc 0 _ rfl, by rw [← add_field _ _ 1 (by omega)]; exact hc 1 _ rfl, l1, g1⟩
structure S128 where
 f0 : ByteArray
 f1 : ByteArray
 f2 : (List S155)
def z128 : S128 := ⟨(⟨#[]⟩ : ByteArray), (⟨#[]⟩ : ByteArray), ([] : List S155)⟩
def k128 : Kd S128 := Kd.iso (Kd.pair Kd.string (Kd.pair Kd.string (Kd.slice 155 k155))) (fun x : S128 => (x.f0, x.f1, x.f2))
theorem k128_open {w : World} {x : S128} {cs : List Value} (h : k128.K w x cs) : ∃ A2 c2, cs = [.string x.f0, .string x.f1, .slice A2 x.f2.length c2] ∧ x.f2.length ≤ c2 ∧ k155.C w A2 x.f2.length x.f2 := by
 obtain ⟨_, _, rfl, rfl, ⟨_, _, rfl, rfl, ⟨A2, c2, rfl, l2, g2⟩⟩⟩ := h
 exact ⟨A2, c2, rfl, l2, g2⟩
def rd_T128 (xs : List S128) (i : Int) : S128 := xs.getD i.toNat z128
theorem at_T128 {w : World} {A : Option Addr} {n : Nat} {xs : List S128} (h : Kd.C k128 w A n xs) (i : Int) (h0 : 0 ≤ i) (h1 : i < n) : ∃ ad A2 c2, A = some ad ∧ w.cell? (ad.add (i.toNat * 3)) = some (.string (rd_T128 xs i).f0) ∧ w.cell? ⟨(ad.add (i.toNat * 3)).block, (ad.add (i.toNat * 3)).off + 1, none⟩ = some (.string (rd_T128 xs i).f1) ∧ w.cell? ⟨(ad.add (i.toNat * 3)).block, (ad.add (i.toNat * 3)).off + 2, none⟩ = some (.slice A2 (rd_T128 xs i).f2.length c2) ∧ (rd_T128 xs i).f2.length ≤ c2 ∧ k155.C w A2 (rd_T128 xs i).f2.length (rd_T128 xs i).f2 := by
 obtain ⟨ad, c, e, _, hK, hc0⟩ := Kd.C_get h z128 i h0 h1
 have hc : ∀ j u, c[j]? = some u → w.cell? (ad.add (i.toNat * 3 + j)) = some u := hc0
 obtain ⟨A2, c2, rfl, l2, g2⟩ := k128_open hK
 exact ⟨ad, A2, c2, e, hc 0 _ rfl, by rw [← add_field _ _ 1 (by omega)]; exact hc 1 _ rfl, by rw [← add_field _ _ 2 (by omega)]; exact hc 2 _ rfl, l2, g2⟩
structure S83 where
 f0 : ByteArray
 f1 : (List ByteArray)
def z83 : S83 := ⟨(⟨#[]⟩ : ByteArray), ([] : List ByteArray)⟩
def k83 : Kd S83 := Kd.iso (Kd.pair Kd.string (Kd.slice 9 Kd.string)) (fun x : S83 => (x.f0, x.f1))
theorem k83_open {w : World} {x : S83} {cs : List Value} (h : k83.K w x cs) : ∃ A1 c1, cs = [.string x.f0, .slice A1 x.f1.length c1] ∧ x.f1.length ≤ c1 ∧ Kd.string.C w A1 x.f1.length x.f1 := by
 obtain ⟨_, _, rfl, rfl, ⟨A1, c1, rfl, l1, g1⟩⟩ := h
 exact ⟨A1, c1, rfl, l1, g1⟩
theorem k83_mk (w : World) (x : S83) {A1 : Option Addr} {c1 : Nat} (l1 : x.f1.length ≤ c1) (g1 : Kd.string.C w A1 x.f1.length x.f1) : k83.K w x [.string x.f0, .slice A1 x.f1.length c1] := ⟨[.string x.f0], [.slice A1 x.f1.length c1], rfl, rfl, ⟨A1, c1, rfl, l1, g1⟩⟩
theorem k83_mkM (w : World) (base : Nat) (ok : Nat → Prop) (x : S83) {v1 : Value} (g1 : Kd.string.R 9 w base ok v1 x.f1) : k83.M w base ok x [.string x.f0, v1] := ⟨[.string x.f0], [v1], rfl, rfl, ⟨v1, rfl, g1⟩⟩
theorem k83_openF {W : World} {ok : Nat → Prop} {x : S83} {cs : List Value} (h : Kd.FK k83 W ok x cs) : ∃ A1 c1, cs = [.string x.f0, .slice A1 x.f1.length c1] ∧ x.f1.length ≤ c1 ∧ Kd.F Kd.string W ok A1 x.f1.length x.f1 := by
 obtain ⟨A1, c1, rfl, l1, _⟩ := k83_open (Kd.FK_now h)
 exact ⟨A1, c1, rfl, l1, (fun W' hW => by obtain ⟨A1_, c1_, he, l1_, g1_⟩ := k83_open (h W' hW); injection (Option.some.inj (show some (Value.slice A1 x.f1.length c1) = some (Value.slice A1_ x.f1.length c1_) from congrArg (fun l => l[1]?) he)) with ha_ _ _; rw [ha_]; exact g1_)⟩
theorem k83_mkF (W : World) (ok : Nat → Prop) (x : S83) {A1 : Option Addr} {c1 : Nat} (l1 : x.f1.length ≤ c1) (g1 : Kd.F Kd.string W ok A1 x.f1.length x.f1) : Kd.FK k83 W ok x [.string x.f0, .slice A1 x.f1.length c1] := fun W2 hW => k83_mk W2 x l1 (g1 W2 hW)
def rd_T83 (xs : List S83) (i : Int) : S83 := xs.getD i.toNat z83
theorem at_T83 {w : World} {A : Option Addr} {n : Nat} {xs : List S83} (h : Kd.C k83 w A n xs) (i : Int) (h0 : 0 ≤ i) (h1 : i < n) : ∃ ad A1 c1, A = some ad ∧ w.cell? (ad.add (i.toNat * 2)) = some (.string (rd_T83 xs i).f0) ∧ w.cell? ⟨(ad.add (i.toNat * 2)).block, (ad.add (i.toNat * 2)).off + 1, none⟩ = some (.slice A1 (rd_T83 xs i).f1.length c1) ∧ (rd_T83 xs i).f1.length ≤ c1 ∧ Kd.string.C w A1 (rd_T83 xs i).f1.length (rd_T83 xs i).f1 := by
 obtain ⟨ad, c, e, _, hK, hc0⟩ := Kd.C_get h z83 i h0 h1
 have hc : ∀ j u, c[j]? = some u → w.cell? (ad.add (i.toNat * 2 + j)) = some u := hc0
 obtain ⟨A1, c1, rfl, l1, g1⟩ := k83_open hK
 exact ⟨ad, A1, c1, e, hc 0 _ rfl, by rw [← add_field _ _ 1 (by omega)]; exact hc 1 _ rfl, l1, g1⟩
structure S62 where
 f0 : ByteArray
 f1 : ByteArray
 f2 : (List S83)
def z62 : S62 := ⟨(⟨#[]⟩ : ByteArray), (⟨#[]⟩ : ByteArray), ([] : List S83)⟩
def k62 : Kd S62 := Kd.iso (Kd.pair Kd.string (Kd.pair Kd.string (Kd.slice 83 k83))) (fun x : S62 => (x.f0, x.f1, x.f2))
theorem k62_open {w : World} {x : S62} {cs : List Value} (h : k62.K w x cs) : ∃ A2 c2, cs = [.string x.f0, .string x.f1, .slice A2 x.f2.length c2] ∧ x.f2.length ≤ c2 ∧ k83.C w A2 x.f2.length x.f2 := by
 obtain ⟨_, _, rfl, rfl, ⟨_, _, rfl, rfl, ⟨A2, c2, rfl, l2, g2⟩⟩⟩ := h
 exact ⟨A2, c2, rfl, l2, g2⟩
def rd_T62 (xs : List S62) (i : Int) : S62 := xs.getD i.toNat z62
theorem at_T62 {w : World} {A : Option Addr} {n : Nat} {xs : List S62} (h : Kd.C k62 w A n xs) (i : Int) (h0 : 0 ≤ i) (h1 : i < n) : ∃ ad A2 c2, A = some ad ∧ w.cell? (ad.add (i.toNat * 3)) = some (.string (rd_T62 xs i).f0) ∧ w.cell? ⟨(ad.add (i.toNat * 3)).block, (ad.add (i.toNat * 3)).off + 1, none⟩ = some (.string (rd_T62 xs i).f1) ∧ w.cell? ⟨(ad.add (i.toNat * 3)).block, (ad.add (i.toNat * 3)).off + 2, none⟩ = some (.slice A2 (rd_T62 xs i).f2.length c2) ∧ (rd_T62 xs i).f2.length ≤ c2 ∧ k83.C w A2 (rd_T62 xs i).f2.length (rd_T62 xs i).f2 := by
 obtain ⟨ad, c, e, _, hK, hc0⟩ := Kd.C_get h z62 i h0 h1
 have hc : ∀ j u, c[j]? = some u → w.cell? (ad.add (i.toNat * 3 + j)) = some u := hc0
 obtain ⟨A2, c2, rfl, l2, g2⟩ := k62_open hK
 exact ⟨ad, A2, c2, e, hc 0 _ rfl, by rw [← add_field _ _ 1 (by omega)]; exact hc 1 _ rfl, by rw [← add_field _ _ 2 (by omega)]; exact hc 2 _ rfl, l2, g2⟩
structure S114 where
 f0 : Int
 f1 : ByteArray
 f2 : ByteArray
 f3 : ByteArray
 f4 : (List S83)
def z114 : S114 := ⟨(0 : Int), (⟨#[]⟩ : ByteArray), (⟨#[]⟩ : ByteArray), (⟨#[]⟩ : ByteArray), ([] : List S83)⟩
def k114 : Kd S114 := Kd.iso (Kd.pair (Kd.int .i64) (Kd.pair Kd.string (Kd.pair Kd.string (Kd.pair Kd.string (Kd.slice 83 k83))))) (fun x : S114 => (x.f0, x.f1, x.f2, x.f3, x.f4))
theorem k114_open {w : World} {x : S114} {cs : List Value} (h : k114.K w x cs) : ∃ A4 c4, cs = [.int .i64 x.f0, .string x.f1, .string x.f2, .string x.f3, .slice A4 x.f4.length c4] ∧ x.f4.length ≤ c4 ∧ k83.C w A4 x.f4.length x.f4 := by
 obtain ⟨_, _, rfl, rfl, ⟨_, _, rfl, rfl, ⟨_, _, rfl, rfl, ⟨_, _, rfl, rfl, ⟨A4, c4, rfl, l4, g4⟩⟩⟩⟩⟩ := h
 exact ⟨A4, c4, rfl, l4, g4⟩
theorem k114_mk (w : World) (x : S114) {A4 : Option Addr} {c4 : Nat} (l4 : x.f4.length ≤ c4) (g4 : k83.C w A4 x.f4.length x.f4) : k114.K w x [.int .i64 x.f0, .string x.f1, .string x.f2, .string x.f3, .slice A4 x.f4.length c4] := ⟨[.int .i64 x.f0], [.string x.f1, .string x.f2, .string x.f3, .slice A4 x.f4.length c4], rfl, rfl, ⟨[.string x.f1], [.string x.f2, .string x.f3, .slice A4 x.f4.length c4], rfl, rfl, ⟨[.string x.f2], [.string x.f3, .slice A4 x.f4.length c4], rfl, rfl, ⟨[.string x.f3], [.slice A4 x.f4.length c4], rfl, rfl, ⟨A4, c4, rfl, l4, g4⟩⟩⟩⟩⟩
theorem k114_mkF (W : World) (ok : Nat → Prop) (x : S114) {A4 : Option Addr} {c4 : Nat} (l4 : x.f4.length ≤ c4) (g4 : Kd.F k83 W ok A4 x.f4.length x.f4) : Kd.FK k114 W ok x [.int .i64 x.f0, .string x.f1, .string x.f2, .string x.f3, .slice A4 x.f4.length c4] := fun W2 hW => k114_mk W2 x l4 (g4 W2 hW)
def rd_T114 (xs : List S114) (i : Int) : S114 := xs.getD i.toNat z114
theorem at_T114 {w : World} {A : Option Addr} {n : Nat} {xs : List S114} (h : Kd.C k114 w A n xs) (i : Int) (h0 : 0 ≤ i) (h1 : i < n) : ∃ ad A4 c4, A = some ad ∧ w.cell? (ad.add (i.toNat * 5)) = some (.int .i64 (rd_T114 xs i).f0) ∧ w.cell? ⟨(ad.add (i.toNat * 5)).block, (ad.add (i.toNat * 5)).off + 1, none⟩ = some (.string (rd_T114 xs i).f1) ∧ w.cell? ⟨(ad.add (i.toNat * 5)).block, (ad.add (i.toNat * 5)).off + 2, none⟩ = some (.string (rd_T114 xs i).f2) ∧ w.cell? ⟨(ad.add (i.toNat * 5)).block, (ad.add (i.toNat * 5)).off + 3, none⟩ = some (.string (rd_T114 xs i).f3) ∧ w.cell? ⟨(ad.add (i.toNat * 5)).block, (ad.add (i.toNat * 5)).off + 4, none⟩ = some (.slice A4 (rd_T114 xs i).f4.length c4) ∧ (rd_T114 xs i).f4.length ≤ c4 ∧ k83.C w A4 (rd_T114 xs i).f4.length (rd_T114 xs i).f4 := by
 obtain ⟨ad, c, e, _, hK, hc0⟩ := Kd.C_get h z114 i h0 h1
 have hc : ∀ j u, c[j]? = some u → w.cell? (ad.add (i.toNat * 5 + j)) = some u := hc0
 obtain ⟨A4, c4, rfl, l4, g4⟩ := k114_open hK
 exact ⟨ad, A4, c4, e, hc 0 _ rfl, by rw [← add_field _ _ 1 (by omega)]; exact hc 1 _ rfl, by rw [← add_field _ _ 2 (by omega)]; exact hc 2 _ rfl, by rw [← add_field _ _ 3 (by omega)]; exact hc 3 _ rfl, by rw [← add_field _ _ 4 (by omega)]; exact hc 4 _ rfl, l4, g4⟩
/-! steps of a world, for the squeezed texts -/
def bz_ : Nat → Nat → Array Bool := fun n k => ((List.range n).map fun i => k.testBit i).toArray
class Steps (W W' : World) : Prop where
  below : Below W.heap.size W W'
instance (W : World) : Steps W W := ⟨Below.refl _ _⟩
instance (W W' : World) (o : Obj) [h : Steps W W'] : Steps W (W'.alloc o) := ⟨h.below.trans (((Below.refl _ _).alloc (Nat.le_refl _) o).mono h.below.size)⟩
instance (W W' : World) [h : Steps W W'] : Steps W W'.drew := ⟨below_drew h.below⟩
instance (W W' : World) (n : Nat) [h : Steps W W'] : Steps W (W'.drewN n) := ⟨pw_below_drewN h.below n⟩
theorem stB {w W W' : World} (h : Below w.heap.size w W) [s : Steps W W'] : Below w.heap.size w W' := h.trans (s.below.mono h.size)
theorem stC {α : Type} {d : Kd α} {W W' : World} {A : Option Addr} {n : Nat} {xs : List α} (h : d.C W A n xs) [s : Steps W W'] : d.C W' A n xs := Kd.C_below h s.below
theorem stR {α : Type} {d : Kd α} {e : Nat} {W W' : World} {b : Nat} {ok : Nat → Prop} {v : Value} {xs : List α} (h : d.R e W b ok v xs) [s : Steps W W'] : d.R e W' b ok v xs := Kd.R_below h s.below
end Go.Proofs.YtmcdnpooclelgaaDoor.PAll
namespace Go.Proofs.YtmcdnpooclelgaaDoor.PAll
open Go.RowKit Go.Proofs.YtmcdnpooclelgaaDoorW.PrintWords
def rules_team : List S36 := [⟨⟨#[99, 111, 112, 105, 101, 115]⟩, [1], false, [⟨#[49, 48, 48]⟩]⟩, ⟨⟨#[114, 111, 111, 109]⟩, [1], false, [⟨#[49, 48, 48, 48]⟩]⟩]
def rules_berth : List S36 := [⟨⟨#[122, 111, 110, 101]⟩, [3], false, [⟨#[122]⟩]⟩, ⟨⟨#[114, 111, 111, 109]⟩, [1], false, [⟨#[49, 48, 48]⟩]⟩, ⟨⟨#[104, 111, 108, 100]⟩, [1], false, [⟨#[49, 48, 48]⟩]⟩, ⟨⟨#[109, 97, 114, 107]⟩, [3], true, []⟩]
def rules_service : List S36 := [⟨⟨#[116, 101, 97, 109]⟩, [3], false, [⟨#[99, 111, 114, 101]⟩]⟩, ⟨⟨#[105, 109, 97, 103, 101]⟩, [1], false, [⟨#[49]⟩]⟩, ⟨⟨#[119, 97, 110, 116]⟩, [1], false, [⟨#[49]⟩]⟩, ⟨⟨#[100, 111, 119, 110]⟩, [1], false, [⟨#[49]⟩]⟩, ⟨⟨#[111, 118, 101, 114]⟩, [1], false, [⟨#[48]⟩]⟩, ⟨⟨#[110, 101, 101, 100, 115]⟩, [1, 1], false, [⟨#[49]⟩, ⟨#[49]⟩]⟩, ⟨⟨#[119, 104, 101, 114, 101]⟩, [4], false, [⟨#[]⟩]⟩, ⟨⟨#[108, 105, 107, 101]⟩, [4, 2], true, []⟩, ⟨⟨#[97, 112, 97, 114, 116]⟩, [6], false, [⟨#[110, 111, 110, 101]⟩]⟩, ⟨⟨#[118, 111, 108, 117, 109, 101]⟩, [5], false, [⟨#[110, 111]⟩]⟩, ⟨⟨#[102, 111, 108, 108, 111, 119]⟩, [1, 1, 1], false, [⟨#[48]⟩, ⟨#[48]⟩, ⟨#[48]⟩]⟩, ⟨⟨#[112, 97, 99, 101]⟩, [1, 1, 1], false, [⟨#[48]⟩, ⟨#[48]⟩, ⟨#[48]⟩]⟩]
def rulesL (kind : ByteArray) : List S36 := if kind = ⟨#[116, 101, 97, 109]⟩ then rules_team else if kind = ⟨#[98, 101, 114, 116, 104]⟩ then rules_berth else if kind = ⟨#[115, 101, 114, 118, 105, 99, 101]⟩ then rules_service else []
theorem kind_cases (kind : ByteArray) : kind = ⟨#[116, 101, 97, 109]⟩ ∨ kind = ⟨#[98, 101, 114, 116, 104]⟩ ∨ kind = ⟨#[115, 101, 114, 118, 105, 99, 101]⟩ ∨ (kind ≠ ⟨#[116, 101, 97, 109]⟩ ∧ kind ≠ ⟨#[98, 101, 114, 116, 104]⟩ ∧ kind ≠ ⟨#[115, 101, 114, 118, 105, 99, 101]⟩ ∧ rulesL kind = []) := by
 by_cases h1 : kind = ⟨#[116, 101, 97, 109]⟩
 ·exact .inl h1
 by_cases h2 : kind = ⟨#[98, 101, 114, 116, 104]⟩
 ·exact .inr (.inl h2)
 by_cases h3 : kind = ⟨#[115, 101, 114, 118, 105, 99, 101]⟩
 ·exact .inr (.inr (.inl h3))
 exact .inr (.inr (.inr ⟨h1, h2, h3, by unfold rulesL; rw [if_neg h1, if_neg h2, if_neg h3]⟩))
theorem rulesL_team : rulesL ⟨#[116, 101, 97, 109]⟩ = rules_team := by unfold rulesL; rfl
theorem rulesL_berth : rulesL ⟨#[98, 101, 114, 116, 104]⟩ = rules_berth := by unfold rulesL; simp [ByteArray.mk.injEq]
theorem rulesL_service : rulesL ⟨#[115, 101, 114, 118, 105, 99, 101]⟩ = rules_service := by unfold rulesL; simp [ByteArray.mk.injEq]
end Go.Proofs.YtmcdnpooclelgaaDoor.PAll
namespace Go.Proofs.YtmcdnpooclelgaaDoor
open Go.RowKit Go.Proofs.YtmcdnpooclelgaaDoorW.PrintWords
section
variable {P : Program} {ops : Array Oper} {rest : List Oper} {o : Oper} {a : Act} {Q : Exit → Act → World → Prop} {K : Act → World → Prop}
theorem ap_lit {w0 W : World} (base : Nat) (hgd : o.guard = none) (s x : Operand) (t e : TypeId) (z : Value) (size bytes : Nat)
  (ho : o.op = .call { callee := .builtin .append, args := #[s, x], argTypes := #[t, t] })
  (ht : P.underlying t = some (.slice e)) (hinfo : (P.info? e).map (fun i => (i.zero, i.size, i.bytes)) = some (some z, size, bytes)) (hz : z.cells.size = size) (hs0 : 0 < size) (hb0 : 0 < bytes)
  (v : Value) (n m : Nat) (xs ys : List Value) (hs : a.eval s = v) (hx : a.eval x = .slice (some ⟨W.heap.size, 0, none⟩) m m) (hys : ys.length = m * size) (h1 : ∀ u ∈ ys, u.oneCell' = true)
  (HO : W.ownsRow base e size v n xs) (HB : Below base w0 W) (hbase : base ≤ W.heap.size) (hl : (n + m) * bytes ≤ 140737488355328)
  (h : ∀ v1 w1, w1.ownsRow base e size v1 (n + m) (xs ++ ys) → Below base w0 w1 → W.grownBy w1 v.ownBlock → (v1.ownBlock = v.ownBlock ∨ ∃ b, v1.ownBlock = some b ∧ W.heap.size ≤ b) → wpList P ops Q rest (a.put o.dst v1) w1) :
  wpList P ops Q (o :: rest) a (W.alloc (.cells ys.toArray e)) := by
 obtain ⟨i0, hi, hzz⟩ := Option.map_eq_some_iff.1 hinfo
 simp only [Prod.mk.injEq] at hzz
 obtain ⟨hz0, hz1, hz2⟩ := hzz
 have hlen : n + m ≤ 140737488355328 := Nat.le_trans (Nat.le_mul_of_pos_right _ hb0) hl
 refine wpList_append_own_at (W.alloc (.cells ys.toArray e)) hgd s x t ho base e i0 z size bytes ht hi hz0 hz1 hz2 hz hs0 v n xs hs (HO.alloc _) ⟨W.heap.size, 0, none⟩ m m ys hx hys
  (by simpa using World.news_of_block (cs := ys.toArray) (t := e) (fr := (0, 0)) (heap_alloc_new W _)) h1 (by simp only [maxLen]; omega) hl (by simp; omega) ?_
 intro v1 w1 hown hg _ hat
 refine h v1 w1 hown ((HB.alloc hbase _).grown hg (by simp; omega) (own_base HO)) (World.grownBy.trans (World.grownBy_alloc W _ _) hg) ?_
 rcases hat with hat | hat
 ·exact .inl hat
 ·exact .inr ⟨_, hat, by simp⟩
theorem ap_lit_step {w0 W : World} (base : Nat) (hw : Region.wanted o (yielded ops a.tmps) = true) (s x : Operand) (t e : TypeId) (z : Value) (size bytes : Nat)
  (ho : o.op = .call { callee := .builtin .append, args := #[s, x], argTypes := #[t, t] })
  (ht : P.underlying t = some (.slice e)) (hinfo : (P.info? e).map (fun i => (i.zero, i.size, i.bytes)) = some (some z, size, bytes)) (hz : z.cells.size = size) (hs0 : 0 < size) (hb0 : 0 < bytes)
  (v : Value) (n m : Nat) (xs ys : List Value) (hs : a.eval s = v) (hx : a.eval x = .slice (some ⟨W.heap.size, 0, none⟩) m m) (hys : ys.length = m * size) (h1 : ∀ u ∈ ys, u.oneCell' = true)
  (HO : W.ownsRow base e size v n xs) (HB : Below base w0 W) (hbase : base ≤ W.heap.size) (hl : (n + m) * bytes ≤ 140737488355328)
  (h : ∀ v1 w1, w1.ownsRow base e size v1 (n + m) (xs ++ ys) → Below base w0 w1 → W.grownBy w1 v.ownBlock → (v1.ownBlock = v.ownBlock ∨ ∃ b, v1.ownBlock = some b ∧ W.heap.size ≤ b) → K (a.put o.dst v1) w1) :
  if Region.wanted o (yielded ops a.tmps) = true then Oper.wp P o a (W.alloc (.cells ys.toArray e)) K Q else K (a.put o.dst undef) (W.alloc (.cells ys.toArray e)) := by
 obtain ⟨i0, hi, hzz⟩ := Option.map_eq_some_iff.1 hinfo
 simp only [Prod.mk.injEq] at hzz
 obtain ⟨hz0, hz1, hz2⟩ := hzz
 have hlen : n + m ≤ 140737488355328 := Nat.le_trans (Nat.le_mul_of_pos_right _ hb0) hl
 rw [if_pos hw]
 obtain ⟨v1, w1, hr, hown, hg, _, hat⟩ := run_append_own_at (P := P) (W.alloc (.cells ys.toArray e)) base t o.type e i0 z size bytes ht hi hz0 hz1 hz2 hz hs0 v n xs (HO.alloc _) ⟨W.heap.size, 0, none⟩ m m ys hys
  (by simpa using World.news_of_block (cs := ys.toArray) (t := e) (fr := (0, 0)) (heap_alloc_new W (.cells ys.toArray e))) h1 (by simp only [maxLen]; omega) hl (by simp; omega)
 unfold Oper.wp execOp
 simp only [ho, resolve, invoke, builtin, Sem.run_bind, Sem.run_pure, Result.andThen_ok, List.map_toArray, List.map_cons, List.map_nil, hs, hx, hr]
 refine h v1 w1 hown ((HB.alloc hbase _).grown hg (by simp; omega) (own_base HO)) (World.grownBy.trans (World.grownBy_alloc W _ _) hg) ?_
 rcases hat with hat | hat
 ·exact .inl hat
 ·exact .inr ⟨_, hat, by simp⟩
end
def ER {α : Type} (enc : α → Value) (w : World) (base e : Nat) (v : Value) (xs : List α) : Prop := w.ownsRow base e 1 v xs.length (xs.map enc)
section
variable {α : Type} {enc : α → Value} {w : World} {base e : Nat} {v : Value} {xs : List α}
theorem ER.alloc (h : ER enc w base e v xs) (o : Obj) : ER enc (w.alloc o) base e v xs := World.ownsRow.alloc h o
theorem ER.drew (h : ER enc w base e v xs) : ER enc w.drew base e v xs := World.ownsRow.drew h
theorem ER.drewN (h : ER enc w base e v xs) (n : Nat) : ER enc (w.drewN n) base e v xs := own_move h (fun _ _ => rfl)
theorem ER.nil (enc : α → Value) (w : World) (base e : Nat) : ER enc w base e (.slice none 0 0) [] := World.ownsRow_nil w base e 1
theorem ER.lit (enc : α → Value) (w : World) (base e : Nat) (xs : List α) (hb : base ≤ w.heap.size) (hm : xs.length ≤ 9223372036854775807) : ER enc (w.alloc (.cells (xs.map enc).toArray e)) base e (.slice (some ⟨w.heap.size, 0, none⟩) xs.length xs.length) xs := by
 have h := World.ownsRow_lit (base := base) (e := e) (size := 1) w (xs.map enc).toArray xs.length hb (by simpa [maxLen] using hm) (by simp)
 unfold ER; simpa using h
theorem ER.move {w1 : World} (h : ER enc w base e v xs) (hm : ∀ k, v.ownBlock = some k → w1.heap[k]? = w.heap[k]?) : ER enc w1 base e v xs := own_move h hm
theorem ER.below {w1 : World} (h : ER enc w base e v xs) (hb : Below w.heap.size w w1) : ER enc w1 base e v xs := h.move fun k hk => hb.block k (own_lt h k hk)
theorem ER.form (h : ER enc w base e v xs) : ∃ A c, v = .slice A xs.length c ∧ (0 < xs.length → ∃ g, A = some ⟨g, 0, none⟩ ∧ base ≤ g ∧ g < w.heap.size ∧ (∀ j, w.frozen? ⟨g, j, none⟩ = false) ∧ ∀ (j : Nat) (x : α), xs[j]? = some x → w.cell? ⟨g, j, none⟩ = some (enc x)) := by
 have h' := h
 rcases h.2 with ⟨rfl, hn⟩ | ⟨g, cap, cur, rfl, hb, hg, _⟩
 ·exact ⟨none, 0, by rw [hn], fun hp => by omega⟩
 ·refine ⟨_, cap, rfl, fun _ => ⟨g, rfl, hb, (Array.getElem?_eq_some_iff.1 hg).1, fun j => World.ownsRow.frozenAt h' j, fun j x hx => ?_⟩⟩
  have hj := (List.getElem?_eq_some_iff.1 hx).1
  rw [World.ownsRow.cellAt h' j (by omega), List.getElem?_map, hx]; rfl
theorem ER.set {g c : Nat} (h : ER enc w base e (.slice (some ⟨g, 0, none⟩) xs.length c) xs) (j : Nat) (x : α) :
  ER enc (w.setCell ⟨g, j, none⟩ (enc x)) base e (.slice (some ⟨g, 0, none⟩) (xs.set j x).length c) (xs.set j x) ∧ w.grownBy (w.setCell ⟨g, j, none⟩ (enc x)) (some g) := by
 obtain ⟨h1, h2⟩ := World.ownsRow.stored h j (enc x)
 refine ⟨?_, h2⟩
 unfold ER
 rw [List.length_set, List.map_set]
 exact h1
end
section
variable {P : Program} {ops : Array Oper} {rest : List Oper} {o : Oper} {a : Act} {Q : Exit → Act → World → Prop} {K : Act → World → Prop} {α : Type} {enc : α → Value}
theorem ER.app {w0 W : World} {base : Nat} {v : Value} {xs : List α} (h1 : ∀ x, (enc x).oneCell' = true) (z : Value) (bytes : Nat) (ys : List α) (s x : Operand) (t e : TypeId) (HO : ER enc W base e v xs) (HB : Below base w0 W) (hl : xs.length + ys.length ≤ 8796093022208)
  (hgd : o.guard = none)
  (ho : o.op = .call { callee := .builtin .append, args := #[s, x], argTypes := #[t, t] })
  (ht : P.underlying t = some (.slice e)) (hinfo : (P.info? e).map (fun i => (i.zero, i.size, i.bytes)) = some (some z, 1, bytes)) (hz : z.cells.size = 1) (hb0 : 0 < bytes) (hb8 : bytes ≤ 16)
  (hbase : base ≤ W.heap.size) (hs : a.eval s = v) (hx : a.eval x = .slice (some ⟨W.heap.size, 0, none⟩) ys.length ys.length)
  (h : ∀ v1 w1, Aside0 (ER enc w1 base e v1 (xs ++ ys)) → Below base w0 w1 → Aside0 (W.grownBy w1 v.ownBlock) → Aside0 (v1.ownBlock = v.ownBlock ∨ ∃ b, v1.ownBlock = some b ∧ W.heap.size ≤ b) → wpList P ops Q rest (a.put o.dst v1) w1) :
  wpList P ops Q (o :: rest) a (W.alloc (.cells (ys.map enc).toArray e)) := by
 have hm : (xs.length + ys.length) * bytes ≤ 140737488355328 := Nat.le_trans (Nat.mul_le_mul hl hb8) (by omega)
 refine ap_lit base hgd s x t e z 1 bytes ho ht hinfo hz (by omega) hb0 v xs.length ys.length (xs.map enc) (ys.map enc) hs hx (by simp) (fun u hu => by obtain ⟨x, _, rfl⟩ := List.mem_map.1 hu; exact h1 x) HO HB hbase hm ?_
 intro v1 w1 h1 h2 h3 h4
 exact h v1 w1 ⟨by unfold ER; rw [List.map_append, List.length_append]; exact h1⟩ h2 ⟨h3⟩ ⟨h4⟩
theorem ER.app_step {w0 W : World} {base : Nat} {v : Value} {xs : List α} (h1 : ∀ x, (enc x).oneCell' = true) (z : Value) (bytes : Nat) (ys : List α) (s x : Operand) (t e : TypeId) (HO : ER enc W base e v xs) (HB : Below base w0 W) (hl : xs.length + ys.length ≤ 8796093022208)
  (hw : Region.wanted o (yielded ops a.tmps) = true)
  (ho : o.op = .call { callee := .builtin .append, args := #[s, x], argTypes := #[t, t] })
  (ht : P.underlying t = some (.slice e)) (hinfo : (P.info? e).map (fun i => (i.zero, i.size, i.bytes)) = some (some z, 1, bytes)) (hz : z.cells.size = 1) (hb0 : 0 < bytes) (hb8 : bytes ≤ 16)
  (hbase : base ≤ W.heap.size) (hs : a.eval s = v) (hx : a.eval x = .slice (some ⟨W.heap.size, 0, none⟩) ys.length ys.length)
  (h : ∀ v1 w1, Aside0 (ER enc w1 base e v1 (xs ++ ys)) → Below base w0 w1 → Aside0 (W.grownBy w1 v.ownBlock) → Aside0 (v1.ownBlock = v.ownBlock ∨ ∃ b, v1.ownBlock = some b ∧ W.heap.size ≤ b) → K (a.put o.dst v1) w1) :
  if Region.wanted o (yielded ops a.tmps) = true then Oper.wp P o a (W.alloc (.cells (ys.map enc).toArray e)) K Q else K (a.put o.dst undef) (W.alloc (.cells (ys.map enc).toArray e)) := by
 have hm : (xs.length + ys.length) * bytes ≤ 140737488355328 := Nat.le_trans (Nat.mul_le_mul hl hb8) (by omega)
 refine ap_lit_step base hw s x t e z 1 bytes ho ht hinfo hz (by omega) hb0 v xs.length ys.length (xs.map enc) (ys.map enc) hs hx (by simp) (fun u hu => by obtain ⟨x, _, rfl⟩ := List.mem_map.1 hu; exact h1 x) HO HB hbase hm ?_
 intro v1 w1 h1 h2 h3 h4
 exact h v1 w1 ⟨by unfold ER; rw [List.map_append, List.length_append]; exact h1⟩ h2 ⟨h3⟩ ⟨h4⟩
end
def NR (w : World) (base e : Nat) (k : IntKind) (v : Value) (xs : List Int) : Prop := ER (Value.int k) w base e v xs
theorem NR.alloc {w : World} {base e : Nat} {k : IntKind} {v : Value} {xs : List Int} (h : NR w base e k v xs) (o : Obj) : NR (w.alloc o) base e k v xs := ER.alloc h o
theorem NR.drew {w : World} {base e : Nat} {k : IntKind} {v : Value} {xs : List Int} (h : NR w base e k v xs) : NR w.drew base e k v xs := ER.drew h
theorem NR.nil (w : World) (base e : Nat) (k : IntKind) : NR w base e k (.slice none 0 0) [] := ER.nil _ w base e
theorem NR.lit (w : World) (base e : Nat) (k : IntKind) (xs : List Int) (hb : base ≤ w.heap.size) (hm : xs.length ≤ 9223372036854775807) : NR (w.alloc (.cells (nums k xs).toArray e)) base e k (.slice (some ⟨w.heap.size, 0, none⟩) xs.length xs.length) xs := ER.lit (Value.int k) w base e xs hb hm
section
variable {P : Program} {ops : Array Oper} {rest : List Oper} {o : Oper} {a : Act} {Q : Exit → Act → World → Prop} {K : Act → World → Prop}
theorem NR.app {w0 W : World} {base : Nat} {k : IntKind} {v : Value} {xs : List Int} (bytes : Nat) (ys : List Int) (s x : Operand) (t e : TypeId) (HO : NR W base e k v xs) (HB : Below base w0 W) (hl : xs.length + ys.length ≤ 8796093022208)
  (hgd : o.guard = none)
  (ho : o.op = .call { callee := .builtin .append, args := #[s, x], argTypes := #[t, t] })
  (ht : P.underlying t = some (.slice e)) (hinfo : (P.info? e).map (fun i => (i.zero, i.size, i.bytes)) = some (some (.int k 0), 1, bytes)) (hb0 : 0 < bytes) (hb8 : bytes ≤ 16)
  (hbase : base ≤ W.heap.size) (hs : a.eval s = v) (hx : a.eval x = .slice (some ⟨W.heap.size, 0, none⟩) ys.length ys.length)
  (h : ∀ v1 w1, Aside0 (NR w1 base e k v1 (xs ++ ys)) → Below base w0 w1 → Aside0 (W.grownBy w1 v.ownBlock) → Aside0 (v1.ownBlock = v.ownBlock ∨ ∃ b, v1.ownBlock = some b ∧ W.heap.size ≤ b) → wpList P ops Q rest (a.put o.dst v1) w1) :
  wpList P ops Q (o :: rest) a (W.alloc (.cells (nums k ys).toArray e)) :=
 ER.app (enc := Value.int k) (fun _ => rfl) (.int k 0) bytes ys s x t e HO HB hl hgd ho ht hinfo rfl hb0 hb8 hbase hs hx h
theorem NR.app_step {w0 W : World} {base : Nat} {k : IntKind} {v : Value} {xs : List Int} (bytes : Nat) (ys : List Int) (s x : Operand) (t e : TypeId) (HO : NR W base e k v xs) (HB : Below base w0 W) (hl : xs.length + ys.length ≤ 8796093022208)
  (hw : Region.wanted o (yielded ops a.tmps) = true)
  (ho : o.op = .call { callee := .builtin .append, args := #[s, x], argTypes := #[t, t] })
  (ht : P.underlying t = some (.slice e)) (hinfo : (P.info? e).map (fun i => (i.zero, i.size, i.bytes)) = some (some (.int k 0), 1, bytes)) (hb0 : 0 < bytes) (hb8 : bytes ≤ 16)
  (hbase : base ≤ W.heap.size) (hs : a.eval s = v) (hx : a.eval x = .slice (some ⟨W.heap.size, 0, none⟩) ys.length ys.length)
  (h : ∀ v1 w1, Aside0 (NR w1 base e k v1 (xs ++ ys)) → Below base w0 w1 → Aside0 (W.grownBy w1 v.ownBlock) → Aside0 (v1.ownBlock = v.ownBlock ∨ ∃ b, v1.ownBlock = some b ∧ W.heap.size ≤ b) → K (a.put o.dst v1) w1) :
  if Region.wanted o (yielded ops a.tmps) = true then Oper.wp P o a (W.alloc (.cells (nums k ys).toArray e)) K Q else K (a.put o.dst undef) (W.alloc (.cells (nums k ys).toArray e)) :=
 ER.app_step (enc := Value.int k) (fun _ => rfl) (.int k 0) bytes ys s x t e HO HB hl hw ho ht hinfo rfl hb0 hb8 hbase hs hx h
end
structure Upd (bs : List Nat) (w w' : World) : Prop where
 os : w'.os = w.os
 tape : w'.tape = w.tape
 output : w'.output = w.output
 size : w.heap.size ≤ w'.heap.size
 block : ∀ k, k < w.heap.size → k ∉ bs → w'.heap[k]? = w.heap[k]?
theorem Upd.refl (bs : List Nat) (w : World) : Upd bs w w := ⟨rfl, rfl, rfl, Nat.le_refl _, fun _ _ _ => rfl⟩
theorem Upd.trans {bs cs : List Nat} {a b c : World} (h : Upd bs a b) (k : Upd cs b c) (hc : ∀ x ∈ cs, x < a.heap.size → x ∈ bs) : Upd bs a c :=
 ⟨k.os.trans h.os, k.tape.trans h.tape, k.output.trans h.output, Nat.le_trans h.size k.size, fun i hi hn => (k.block i (Nat.lt_of_lt_of_le hi h.size) (fun hm => hn (hc i hm hi))).trans (h.block i hi hn)⟩
theorem Upd.mono {bs cs : List Nat} {a b : World} (h : Upd bs a b) (hc : ∀ x ∈ bs, x < a.heap.size → x ∈ cs) : Upd cs a b :=
 ⟨h.os, h.tape, h.output, h.size, fun i hi hn => h.block i hi (fun hm => hn (hc i hm hi))⟩
theorem Upd.of_below {a b : World} (h : Below a.heap.size a b) (bs : List Nat) : Upd bs a b := ⟨h.os, h.tape, h.output, h.size, fun i hi _ => h.block i hi⟩
theorem Upd.below {bs : List Nat} {a b : World} (h : Upd bs a b) {B : Nat} (hB : B ≤ a.heap.size) (hc : ∀ x ∈ bs, B ≤ x) : Below B a b :=
 ⟨h.os, h.tape, h.output, h.size, fun i hi => h.block i (by omega) (fun hm => by have := hc i hm; omega)⟩
theorem Upd.of_grown {a b : World} {row : Option Nat} (h : a.grownBy b row) : Upd row.toList a b :=
 ⟨h.os, h.tape, h.output, h.size, fun i hi hn => h.block i hi (fun he => hn (by rw [← he]; simp))⟩
theorem Upd.drewN {bs : List Nat} {a b : World} (h : Upd bs a b) (n : Nat) : Upd bs a (b.drewN n) := ⟨h.os, h.tape, h.output, h.size, h.block⟩
theorem Upd.drew {bs : List Nat} {a b : World} (h : Upd bs a b) : Upd bs a b.drew := ⟨h.os, h.tape, h.output, h.size, h.block⟩
theorem Upd.alloc {bs : List Nat} {a b : World} (h : Upd bs a b) (o : Obj) : Upd bs a (b.alloc o) := h.trans (Upd.of_below ((Below.refl _ _).alloc (Nat.le_refl _) o) []) (fun _ hx => by cases hx)
end Go.Proofs.YtmcdnpooclelgaaDoor
namespace Go.Proofs.YtmcdnpooclelgaaDoor
open Go.RowKit Go.Proofs.YtmcdnpooclelgaaDoorW.PrintWords
structure Sh (α : Type) where
 d : Kd α
 ow : World → Nat → List Value → α → List Nat → Prop
 om : ∀ {w b vs x F}, ow w b vs x F → d.M w b (fun k => k ∈ F) x vs
 oframe : ∀ {w w' b vs x F}, ow w b vs x F → (∀ g ∈ F, w'.heap[g]? = w.heap[g]?) → ow w' b vs x F
 oin : ∀ {w b vs x F}, ow w b vs x F → ∀ g ∈ F, b ≤ g ∧ g < w.heap.size
 olow : ∀ {w b b' vs x F}, ow w b vs x F → b' ≤ b → ow w b' vs x F
 oraise : ∀ {w b b' vs x F}, ow w b vs x F → (∀ g ∈ F, b' ≤ g) → ow w b' vs x F
 ond : ∀ {w b vs x F}, ow w b vs x F → F.Nodup
abbrev Sh.k {α : Type} (S : Sh α) : Nat := S.d.sz
theorem Sh.ord {α : Type} (S : Sh α) {w : World} {b : Nat} {vs : List Value} {x : α} {F : List Nat} (h : S.ow w b vs x F) : S.d.K w x vs := S.d.K_of_M (S.om h)
theorem Sh.olen {α : Type} (S : Sh α) {w : World} {b : Nat} {vs : List Value} {x : α} {F : List Nat} (h : S.ow w b vs x F) : vs.length = S.k := S.d.K_len (S.ord h)
theorem Sh.obelow {α : Type} (S : Sh α) {w w' : World} {b : Nat} {vs : List Value} {x : α} {F : List Nat} (h : S.ow w b vs x F) (hb : Below w.heap.size w w') : S.ow w' b vs x F := S.oframe h fun g hg => hb.block g (S.oin h g hg).2
theorem Sh.oupd {α : Type} (S : Sh α) {w w' : World} {b : Nat} {vs : List Value} {x : α} {F bs : List Nat} (h : S.ow w b vs x F) (hu : Upd bs w w') (hd : ∀ g ∈ F, g ∉ bs) : S.ow w' b vs x F := S.oframe h fun g hg => hu.block g (S.oin h g hg).2 (hd g hg)
def Sh.one {α : Type} (enc : α → Value) (h1 : ∀ x, (enc x).oneCell' = true) : Sh α where
 d := Kd.scalar enc h1
 ow _ _ vs x F := vs = [enc x] ∧ F = []
 om h := h.1
 oframe h _ := h
 oin h g hg := by rw [h.2] at hg; cases hg
 olow h _ := h
 oraise h _ := h
 ond h := by rw [h.2]; exact List.nodup_nil
def Sh.pair {α β : Type} (A : Sh α) (B : Sh β) : Sh (α × β) where
 d := Kd.pair A.d B.d
 ow w b vs x F := ∃ u v G H, vs = u ++ v ∧ F = G ++ H ∧ A.ow w b u x.1 G ∧ B.ow w b v x.2 H ∧ ∀ g ∈ G, g ∉ H
 om h := by
  obtain ⟨u, v, G, H, rfl, rfl, h1, h2, _⟩ := h
  exact ⟨u, v, rfl, A.d.M_mono (fun k hk => List.mem_append_left _ hk) (A.om h1), B.d.M_mono (fun k hk => List.mem_append_right _ hk) (B.om h2)⟩
 oframe h hf := by
  obtain ⟨u, v, G, H, rfl, rfl, h1, h2, h3⟩ := h
  exact ⟨u, v, G, H, rfl, rfl, A.oframe h1 fun g hg => hf g (List.mem_append_left _ hg), B.oframe h2 fun g hg => hf g (List.mem_append_right _ hg), h3⟩
 oin h g hg := by
  obtain ⟨u, v, G, H, rfl, rfl, h1, h2, h3⟩ := h
  rcases List.mem_append.1 hg with hg | hg
  ·exact A.oin h1 g hg
  ·exact B.oin h2 g hg
 olow h hb := by
  obtain ⟨u, v, G, H, rfl, rfl, h1, h2, h3⟩ := h
  exact ⟨u, v, G, H, rfl, rfl, A.olow h1 hb, B.olow h2 hb, h3⟩
 oraise h hb := by
  obtain ⟨u, v, G, H, rfl, rfl, h1, h2, h3⟩ := h
  exact ⟨u, v, G, H, rfl, rfl, A.oraise h1 fun g hg => hb g (List.mem_append_left _ hg), B.oraise h2 fun g hg => hb g (List.mem_append_right _ hg), h3⟩
 ond h := by
  obtain ⟨u, v, G, H, rfl, rfl, h1, h2, h3⟩ := h
  exact List.nodup_append.2 ⟨A.ond h1, B.ond h2, fun a ha b hb e => h3 a ha (e ▸ hb)⟩
def Sh.iso {α β : Type} (A : Sh α) (f : β → α) : Sh β where
 d := Kd.iso A.d f
 ow w b vs x F := A.ow w b vs (f x) F
 om h := A.om h
 oframe h := A.oframe h
 oin h := A.oin h
 olow h := A.olow h
 oraise h := A.oraise h
 ond h := A.ond h
def Els {α : Type} (A : Sh α) (w : World) (b : Nat) : List (List Value) → List α → List Nat → Prop
 | [], [], F => F = []
 | vs :: vss, x :: xs, F => ∃ G H, F = G ++ H ∧ A.ow w b vs x G ∧ Els A w b vss xs H ∧ ∀ g ∈ G, g ∉ H
 | [], _ :: _, _ => False
 | _ :: _, [], _ => False
section
variable {α : Type} {A : Sh α} {w w' : World} {b b' : Nat} {vss : List (List Value)} {xs : List α} {F : List Nat}
theorem Els.mono (P : ∀ {vs x G}, A.ow w b vs x G → (∀ g ∈ G, g ∈ F) → A.ow w' b' vs x G) (h : Els A w b vss xs F) : Els A w' b' vss xs F := by
 suffices ∀ (vss : List (List Value)) (xs : List α) (F' : List Nat), (∀ g ∈ F', g ∈ F) → Els A w b vss xs F' → Els A w' b' vss xs F' from this vss xs F (fun _ h => h) h
 intro vss
 induction vss with
 | nil => intro xs F' _ h; cases xs <;> exact h
 | cons vs vss ih =>
  intro xs F' hF h
  cases xs with
  | nil => exact h
  | cons x xs =>
   obtain ⟨G, H, rfl, h1, h2, h3⟩ := h
   exact ⟨G, H, rfl, P h1 fun g hg => hF g (List.mem_append_left _ hg), ih xs H (fun g hg => hF g (List.mem_append_right _ hg)) h2, h3⟩
theorem Els.frame (h : Els A w b vss xs F) (hf : ∀ g ∈ F, w'.heap[g]? = w.heap[g]?) : Els A w' b vss xs F := h.mono fun ho hg => A.oframe ho fun g hgg => hf g (hg g hgg)
theorem Els.low (h : Els A w b vss xs F) (hb : b' ≤ b) : Els A w b' vss xs F := h.mono fun ho _ => A.olow ho hb
theorem Els.raise (h : Els A w b vss xs F) (hb : ∀ g ∈ F, b' ≤ g) : Els A w b' vss xs F := h.mono fun ho hg => A.oraise ho fun g hgg => hb g (hg g hgg)
theorem Els.mem : ∀ (vss : List (List Value)) (xs : List α) (F : List Nat), Els A w b vss xs F → (∀ g ∈ F, b ≤ g ∧ g < w.heap.size) ∧ F.Nodup ∧ vss.length = xs.length ∧ vss.flatten.length = xs.length * A.k
 | [], [], F, h => by
  have h : F = [] := h
  subst h
  exact ⟨by simp, List.nodup_nil, rfl, by simp⟩
 | vs :: vss, x :: xs, F, h => by
  obtain ⟨G, H, rfl, h1, h2, h3⟩ := h
  obtain ⟨i1, i2, i3, i4⟩ := Els.mem vss xs H h2
  refine ⟨fun g hg => ?_, List.nodup_append.2 ⟨A.ond h1, i2, fun a ha b hb e => h3 a ha (e ▸ hb)⟩, by simp [i3], ?_⟩
  ·rcases List.mem_append.1 hg with hg | hg
   ·exact A.oin h1 g hg
   ·exact i1 g hg
  ·rw [List.flatten_cons, List.length_append, i4, A.olen h1, List.length_cons, Nat.add_mul, Nat.one_mul, Nat.add_comm]
theorem Els.below (h : Els A w b vss xs F) (hb : Below w.heap.size w w') : Els A w' b vss xs F := h.frame fun g hg => hb.block g ((Els.mem _ _ _ h).1 g hg).2
theorem Els.nil : Els A w b [] [] [] := rfl
theorem Els.append : ∀ (vss : List (List Value)) (xs : List α) (F : List Nat) {vss' : List (List Value)} {xs' : List α} {F' : List Nat}, Els A w b vss xs F → Els A w b vss' xs' F' → (∀ g ∈ F, g ∉ F') → Els A w b (vss ++ vss') (xs ++ xs') (F ++ F')
 | [], [], F, vss', xs', F', h, h', _ => by
  have h : F = [] := h
  subst h
  exact h'
 | vs :: vss, x :: xs, F, vss', xs', F', h, h', hd => by
  obtain ⟨G, H, rfl, h1, h2, h3⟩ := h
  refine ⟨G, H ++ F', by simp, h1, Els.append vss xs H h2 h' (fun g hg => hd g (List.mem_append_right _ hg)), fun g hg hh => ?_⟩
  rcases List.mem_append.1 hh with hh | hh
  ·exact h3 g hg hh
  ·exact hd g (List.mem_append_left _ hg) hh
theorem Els.snoc {vs : List Value} {x : α} {G : List Nat} (h : Els A w b vss xs F) (hb : Below w.heap.size w w') (hx : A.ow w' w.heap.size vs x G) (hw : b ≤ w.heap.size) : Els A w' b (vss ++ [vs]) (xs ++ [x]) (F ++ G) :=
 Els.append vss xs F (h.below hb) ⟨G, [], by simp, A.olow hx hw, rfl, by simp⟩ (fun g hg hg' => by
  have h1 := ((Els.mem _ _ _ h).1 g hg).2
  have h2 := (A.oin hx g hg').1
  omega)
theorem Els.at : ∀ (vss : List (List Value)) (xs : List α) (F : List Nat), Els A w b vss xs F → ∀ (j : Nat) (x : α), xs[j]? = some x → ∃ us G, vss[j]? = some us ∧ A.ow w b us x G ∧ (∀ g ∈ G, g ∈ F) ∧
  ∀ (w' : World) (us' : List Value) (x' : α), A.ow w' b us' x' G → (∀ g ∈ F, g ∉ G → w'.heap[g]? = w.heap[g]?) → Els A w' b (vss.set j us') (xs.set j x') F
 | [], [], F, _, j, x, hj => by simp at hj
 | vs :: vss, y :: xs, F, h, j, x, hj => by
  obtain ⟨G, H, rfl, h1, h2, h3⟩ := h
  cases j with
  | zero =>
   simp only [List.getElem?_cons_zero, Option.some.injEq] at hj
   subst hj
   refine ⟨vs, G, rfl, h1, fun g hg => List.mem_append_left _ hg, fun w' us' x' ho hf => ?_⟩
   exact ⟨G, H, rfl, ho, h2.frame fun g hg => hf g (List.mem_append_right _ hg) (fun hg' => h3 g hg' hg), h3⟩
  | succ j =>
   rw [List.getElem?_cons_succ] at hj
   obtain ⟨us, G', e1, e2, e3, e4⟩ := Els.at vss xs H h2 j x hj
   refine ⟨us, G', by simpa using e1, e2, fun g hg => List.mem_append_right _ (e3 g hg), fun w' us' x' ho hf => ?_⟩
   refine ⟨G, H, rfl, A.oframe h1 fun g hg => hf g (List.mem_append_left _ hg) (fun hg' => h3 g hg (e3 g hg')), e4 w' us' x' ho fun g hg hn => hf g (List.mem_append_right _ hg) hn, h3⟩
end
theorem flat_at {k : Nat} : ∀ (vss : List (List Value)) (j : Nat) (us : List Value), (∀ vs ∈ vss, vs.length = k) → vss[j]? = some us → ∀ i, i < k → vss.flatten[j * k + i]? = us[i]?
 | [], j, us, _, h, _, _ => by simp at h
 | vs :: vss, 0, us, hl, h, i, hi => by
  simp only [List.getElem?_cons_zero, Option.some.injEq] at h
  subst h
  have := hl vs (by simp)
  rw [List.flatten_cons, Nat.zero_mul, Nat.zero_add, List.getElem?_append_left (by omega)]
 | vs :: vss, j + 1, us, hl, h, i, hi => by
  rw [List.getElem?_cons_succ] at h
  have h0 := hl vs (by simp)
  have e : (j + 1) * k + i = vs.length + (j * k + i) := by rw [Nat.add_mul, h0]; omega
  rw [List.flatten_cons, e, List.getElem?_append_right (by omega), Nat.add_sub_cancel_left]
  exact flat_at vss j us (fun v hv => hl v (by simp [hv])) h i hi
theorem flat_set {k : Nat} : ∀ (vss : List (List Value)) (j : Nat) (us : List Value), (∀ vs ∈ vss, vs.length = k) → vss[j]? = some us → ∀ (i : Nat) (u : Value), i < k → (vss.set j (us.set i u)).flatten = vss.flatten.set (j * k + i) u
 | [], j, us, _, h, _, _, _ => by simp at h
 | vs :: vss, 0, us, hl, h, i, u, hi => by
  simp only [List.getElem?_cons_zero, Option.some.injEq] at h
  subst h
  have := hl vs (by simp)
  rw [List.set_cons_zero, List.flatten_cons, List.flatten_cons, Nat.zero_mul, Nat.zero_add, List.set_append_left _ _ (by omega)]
 | vs :: vss, j + 1, us, hl, h, i, u, hi => by
  rw [List.getElem?_cons_succ] at h
  have h0 := hl vs (by simp)
  have e : (j + 1) * k + i = vs.length + (j * k + i) := by rw [Nat.add_mul, h0]; omega
  rw [List.set_cons_succ, List.flatten_cons, List.flatten_cons, e, List.set_append_right _ _ (by omega), Nat.add_sub_cancel_left, flat_set vss j us (fun v hv => hl v (by simp [hv])) h i u hi]
theorem Els.lens {α : Type} {A : Sh α} {w : World} {b : Nat} : ∀ (vss : List (List Value)) (xs : List α) (F : List Nat), Els A w b vss xs F → ∀ vs ∈ vss, vs.length = A.k
 | [], [], _, _ => by simp
 | vs :: vss, x :: xs, F, h => by
  obtain ⟨G, H, rfl, h1, h2, h3⟩ := h
  intro v hv
  rcases List.mem_cons.1 hv with rfl | hv
  ·exact A.olen h1
  ·exact Els.lens vss xs H h2 v hv
theorem ownSl {w : World} {b e k n : Nat} {v : Value} {cs : List Value} (h : w.ownsRow b e k v n cs) : (v = .slice none 0 0 ∧ n = 0) ∨ ∃ g c, v = .slice (some ⟨g, 0, none⟩) n c := by
 rcases h.2 with h' | ⟨g, cap, cur, h', _⟩
 ·exact .inl h'
 ·exact .inr ⟨g, cap, h'⟩
theorem own_raise {w : World} {b b' e k n : Nat} {v : Value} {cs : List Value} (h : w.ownsRow b e k v n cs) (hb : ∀ g ∈ v.ownBlock.toList, b' ≤ g) : w.ownsRow b' e k v n cs := by
 refine ⟨h.1, ?_⟩
 rcases h.2 with h' | ⟨g, cap, cur, rfl, h1, h2⟩
 ·exact .inl h'
 ·exact .inr ⟨g, cap, cur, rfl, hb g (by simp [Value.ownBlock]), h2⟩
theorem flat_take {k : Nat} (vss : List (List Value)) (j : Nat) (us : List Value) (hl : ∀ vs ∈ vss, vs.length = k) (h : vss[j]? = some us) : (vss.flatten.drop (j * k)).take k = us := by
 have hu : us.length = k := hl us (List.mem_of_getElem? h)
 apply List.ext_getElem?
 intro i
 by_cases hi : i < k
 ·rw [List.getElem?_take_of_lt hi, List.getElem?_drop, flat_at vss j us hl h i hi]
 ·rw [List.getElem?_eq_none (by simp; omega), List.getElem?_eq_none (by omega)]
def Sh.row {α : Type} (A : Sh α) (e : TypeId) : Sh (List α) where
 d := Kd.slice e A.d
 ow w b vs xs F := ∃ v vss Gs, vs = [v] ∧ w.ownsRow b e A.k v xs.length vss.flatten ∧ Els A w b vss xs Gs ∧ F = v.ownBlock.toList ++ Gs ∧ ∀ g ∈ v.ownBlock.toList, g ∉ Gs
 om h := by
  obtain ⟨v, vss, Gs, rfl, h1, h2, rfl, h3⟩ := h
  refine ⟨v, rfl, fun k hk => List.mem_append_left _ (by simp [hk]), vss.flatten, h1, (Els.mem _ _ _ h2).2.2.2, fun j p hj => ?_⟩
  obtain ⟨us, G, e1, e2, e3, e4⟩ := Els.at _ _ _ h2 j p hj
  rw [flat_take vss j us (Els.lens _ _ _ h2) e1]
  exact A.d.M_mono (fun k hk => ⟨List.mem_append_right _ (e3 k hk), fun he => h3 k (by rw [← he]; simp) (e3 k hk)⟩) (A.om e2)
 oframe h hf := by
  obtain ⟨v, vss, Gs, rfl, h1, h2, rfl, h3⟩ := h
  exact ⟨v, vss, Gs, rfl, own_move h1 (fun k hk => hf k (List.mem_append_left _ (by simp [hk]))), h2.frame (fun g hg => hf g (List.mem_append_right _ hg)), rfl, h3⟩
 oin h g hg := by
  obtain ⟨v, vss, Gs, rfl, h1, h2, rfl, h3⟩ := h
  rcases List.mem_append.1 hg with hg | hg
  ·have hg : v.ownBlock = some g := by simpa using hg
   exact ⟨own_base h1 g hg, own_lt h1 g hg⟩
  ·exact (Els.mem _ _ _ h2).1 g hg
 olow h hb := by
  obtain ⟨v, vss, Gs, rfl, h1, h2, rfl, h3⟩ := h
  exact ⟨v, vss, Gs, rfl, own_weaken h1 hb, h2.low hb, rfl, h3⟩
 oraise h hb := by
  obtain ⟨v, vss, Gs, rfl, h1, h2, rfl, h3⟩ := h
  exact ⟨v, vss, Gs, rfl, own_raise h1 (fun g hg => hb g (List.mem_append_left _ hg)), h2.raise (fun g hg => hb g (List.mem_append_right _ hg)), rfl, h3⟩
 ond h := by
  obtain ⟨v, vss, Gs, rfl, h1, h2, rfl, h3⟩ := h
  refine List.nodup_append.2 ⟨?_, (Els.mem _ _ _ h2).2.1, fun a ha b hb e => h3 a ha (e ▸ hb)⟩
  cases v.ownBlock <;> simp
theorem Sh.row_nil {α : Type} (A : Sh α) (e : TypeId) (w : World) (b : Nat) : (Sh.row A e).ow w b [.slice none 0 0] [] [] := ⟨_, [], [], rfl, World.ownsRow_nil w b e A.k, rfl, rfl, by simp⟩
theorem Sh.row_lit {α : Type} {A : Sh α} {e : TypeId} {w : World} {b : Nat} {vss : List (List Value)} {xs : List α} {F : List Nat} (h : Els A w b vss xs F) (hb : b ≤ w.heap.size) (hm : xs.length ≤ 9223372036854775807) :
  (Sh.row A e).ow (w.alloc (.cells vss.flatten.toArray e)) b [.slice (some ⟨w.heap.size, 0, none⟩) xs.length xs.length] xs (w.heap.size :: F) := by
 obtain ⟨i1, i2, i3, i4⟩ := Els.mem _ _ _ h
 refine ⟨_, vss, F, rfl, ?_, h.below ((Below.refl _ _).alloc (Nat.le_refl _) _), rfl, fun g hg hg' => ?_⟩
 ·have := World.ownsRow_lit (base := b) (e := e) (size := A.k) w vss.flatten.toArray xs.length hb (by simpa [maxLen] using hm) (by simpa using i4)
  simpa using this
 ·simp [Value.ownBlock] at hg
  have := (i1 g hg').2
  omega
theorem Sh.row_lit' {α : Type} {A : Sh α} {e : TypeId} {w : World} {b : Nat} {vss : List (List Value)} {xs : List α} {F : List Nat} {cs : Array Value} {g n m : Nat} (h : Els A w b vss xs F) (hb : b ≤ w.heap.size) (hm : xs.length ≤ 9223372036854775807) (hc : cs = vss.flatten.toArray) (hg : g = w.heap.size) (hn : n = xs.length) (hmm : m = xs.length) :
  (Sh.row A e).ow (w.alloc (.cells cs e)) b [.slice (some ⟨g, 0, none⟩) n m] xs (w.heap.size :: F) := by
 subst hc hg hn hmm
 exact Sh.row_lit h hb hm
theorem bytes_inj {a b : ByteArray} (h : a.toList = b.toList) : a = b := by
 have h1 : a.data.toList = b.data.toList := by simpa only [Go.Lib.toList_data] using h
 cases a; cases b; congr 1; exact Array.toList_inj.1 h1
theorem str_ne' (a b : ByteArray) (h : a ≠ b) : (a.toList == b.toList) = false := by rw [beq_eq_false_iff_ne]; exact fun e => h (bytes_inj e)
theorem str_neL (a : ByteArray) (l : List UInt8) (h : a ≠ ⟨l.toArray⟩) : (a.toList == l) = false := by
 rw [beq_eq_false_iff_ne]
 exact fun e => h (bytes_inj (e.trans (by rw [Go.Lib.toList_data])))
theorem retB {a b : Bool} (h : a = b) : Ending.returned (.bool a) = .returned (.bool b) := by rw [h]
theorem retI {k : IntKind} {a b : Int} (h : a = b) : Ending.returned (.int k a) = .returned (.int k b) := by rw [h]
theorem Sh.row_R {α : Type} {A : Sh α} {e : TypeId} {w : World} {b : Nat} {v : Value} {xs : List α} {F : List Nat} (h : (Sh.row A e).ow w b [v] xs F) : A.d.R e w b (fun _ => True) v xs := by
 obtain ⟨v', hv, hR⟩ := (Sh.row A e).om h
 injection hv with hv _
 subst hv
 exact Kd.R_mono hR (fun _ _ => trivial)
theorem Els.ones {α : Type} (enc : α → Value) (h1 : ∀ x, (enc x).oneCell' = true) (w : World) (b : Nat) (xs : List α) : Els (.one enc h1) w b (xs.map fun x => [enc x]) xs [] := by
 induction xs with
 | nil => exact rfl
 | cons x xs ih => exact ⟨[], [], rfl, ⟨rfl, rfl⟩, ih, by simp⟩
theorem ones_flat {α : Type} (enc : α → Value) (xs : List α) : (xs.map fun x => [enc x]).flatten = xs.map enc := by
 induction xs with
 | nil => rfl
 | cons x xs ih => simp [ih]
theorem ones_lit {α : Type} (enc : α → Value) (h1 : ∀ x, (enc x).oneCell' = true) (e : TypeId) (w : World) (b : Nat) (xs : List α) (hb : b ≤ w.heap.size) (hm : xs.length ≤ 9223372036854775807) :
  (Sh.row (.one enc h1) e).ow (w.alloc (.cells (xs.map enc).toArray e)) b [.slice (some ⟨w.heap.size, 0, none⟩) xs.length xs.length] xs [w.heap.size] := by
 have h := Sh.row_lit (e := e) (Els.ones enc h1 w b xs) hb hm
 rw [ones_flat] at h
 exact h
abbrev strS : Sh ByteArray := .one .string (fun _ => rfl)
abbrev boolS : Sh Bool := .one .bool (fun _ => rfl)
abbrev intS : Sh Int := .one (.int .i64) (fun _ => rfl)
theorem upd_cell (w : World) (g j : Nat) (u : Value) : Upd [g] w (w.setCell ⟨g, j, none⟩ u) := ⟨rfl, rfl, rfl, Nat.le_of_eq (by simp), fun k _ hn => Below.heap_setCell w ⟨g, j, none⟩ u k (fun e => hn (by simp [e]))⟩
def RowAt {α : Type} (A : Sh α) (e : TypeId) (w : World) (b : Nat) (v : Value) (xs : List α) (F : List Nat) (j g c : Nat) (us : List Value) (x : α) (G : List Nat) : Prop :=
 ∃ (vss : List (List Value)) (Gs : List Nat), v = .slice (some ⟨g, 0, none⟩) xs.length c ∧ w.ownsRow b e A.k v xs.length vss.flatten ∧ F = g :: Gs ∧ g ∉ Gs ∧ vss[j]? = some us ∧ xs[j]? = some x ∧ A.ow w b us x G ∧ (∀ y ∈ G, y ∈ Gs) ∧ (∀ vs ∈ vss, vs.length = A.k) ∧ (∀ y ∈ Gs, b ≤ y ∧ y < w.heap.size) ∧
  (∀ (w' : World) (us' : List Value) (x' : α), A.ow w' b us' x' G → (∀ y ∈ Gs, y ∉ G → w'.heap[y]? = w.heap[y]?) → Els A w' b (vss.set j us') (xs.set j x') Gs)
theorem set_same {α : Type} {l : List α} {j : Nat} {x : α} (h : l[j]? = some x) : l.set j x = l := by
 apply List.ext_getElem?
 intro i
 by_cases hi : j = i
 ·subst hi; rw [List.getElem?_set_self (List.getElem?_eq_some_iff.1 h).1, h]
 ·rw [List.getElem?_set_ne hi]
section
variable {α : Type} {A : Sh α} {e : TypeId} {w w' : World} {b : Nat} {v : Value} {xs : List α} {F : List Nat} {j g c : Nat} {us : List Value} {x x' : α} {G : List Nat}
theorem RowAt.of (h : (Sh.row A e).ow w b [v] xs F) (hj : xs[j]? = some x) : ∃ g c us G, RowAt A e w b v xs F j g c us x G := by
 obtain ⟨v', vss, Gs, hv, h1, h2, rfl, h3⟩ := h
 injection hv with hv _
 subst hv
 have hjl := (List.getElem?_eq_some_iff.1 hj).1
 rcases ownSl h1 with ⟨rfl, hn⟩ | ⟨g, c, rfl⟩
 ·omega
 ·obtain ⟨us, G, e1, e2, e3, e4⟩ := Els.at _ _ _ h2 j x hj
  exact ⟨g, c, us, G, vss, Gs, rfl, h1, rfl, h3 g (by simp [Value.ownBlock]), e1, hj, e2, e3, Els.lens _ _ _ h2, (Els.mem _ _ _ h2).1, e4⟩
theorem RowAt.row (h : RowAt A e w b v xs F j g c us x G) : (Sh.row A e).ow w b [v] xs F := by
 obtain ⟨vss, Gs, rfl, h1, rfl, h2, h3, h4, h5, h6, h7, h8, h9⟩ := h
 have := h9 w us x h5 (fun _ _ _ => rfl)
 rw [set_same h3, set_same h4] at this
 exact ⟨_, vss, Gs, rfl, h1, this, rfl, fun y hy => by simp [Value.ownBlock] at hy; subst hy; exact h2⟩
theorem RowAt.ow (h : RowAt A e w b v xs F j g c us x G) : A.ow w b us x G := by
 obtain ⟨vss, Gs, _, _, _, _, _, _, h5, _⟩ := h
 exact h5
theorem RowAt.val (h : RowAt A e w b v xs F j g c us x G) : v = .slice (some ⟨g, 0, none⟩) xs.length c := by
 obtain ⟨vss, Gs, h, _⟩ := h
 exact h
theorem RowAt.away (h : RowAt A e w b v xs F j g c us x G) : g ∉ G ∧ g ∈ F ∧ ∀ y ∈ G, y ∈ F := by
 obtain ⟨vss, Gs, _, _, rfl, h2, _, _, _, h6, _⟩ := h
 exact ⟨fun hg => h2 (h6 g hg), List.mem_cons_self, fun y hy => List.mem_cons_of_mem _ (h6 y hy)⟩
theorem RowAt.lt (h : RowAt A e w b v xs F j g c us x G) : b ≤ g ∧ g < w.heap.size := by
 obtain ⟨vss, Gs, rfl, h1, _⟩ := h
 exact ⟨own_base h1 g rfl, own_lt h1 g rfl⟩
theorem RowAt.frozen (h : RowAt A e w b v xs F j g c us x G) (i : Nat) : w.frozen? ⟨g, i, none⟩ = false := by
 obtain ⟨vss, Gs, rfl, h1, _⟩ := h
 exact World.ownsRow.frozenAt h1 i
theorem RowAt.cell (h : RowAt A e w b v xs F j g c us x G) (i : Nat) (hi : i < A.k) : w.cell? ⟨g, j * A.k + i, none⟩ = us[i]? := by
 obtain ⟨vss, Gs, rfl, h1, _, _, h3, h4, _, _, h7, _⟩ := h
 have hjl := (List.getElem?_eq_some_iff.1 h4).1
 have hb : j * A.k + i < xs.length * A.k := by
  have : (j + 1) * A.k ≤ xs.length * A.k := Nat.mul_le_mul_right _ hjl
  rw [Nat.add_mul] at this
  omega
 rw [World.ownsRow.cellAt h1 (j * A.k + i) hb, flat_at vss j us h7 h3 i hi]
theorem RowAt.below (h : RowAt A e w b v xs F j g c us x G) (hb : Below w.heap.size w w') : RowAt A e w' b v xs F j g c us x G := by
 obtain ⟨vss, Gs, h0, h1, h2, h3, h4, h5, h6, h7, h8, h9, h10⟩ := h
 exact ⟨vss, Gs, h0, own_move h1 (fun k hk => hb.block k (own_lt h1 k hk)), h2, h3, h4, h5, A.obelow h6 hb, h7, h8, fun y hy => ⟨(h9 y hy).1, Nat.lt_of_lt_of_le (h9 y hy).2 hb.size⟩,
  fun w2 us' x' ho hf => h10 w2 us' x' ho fun y hy hn => (hf y hy hn).trans (hb.block y (h9 y hy).2)⟩
theorem RowAt.mov (h : RowAt A e w b v xs F j g c us x G) (hu : Upd G w w') (ho : A.ow w' b us x' G) : RowAt A e w' b v (xs.set j x') F j g c us x' G := by
 obtain ⟨vss, Gs, rfl, h1, rfl, h3, h4, h5, h6, h7, h8, h9, h10⟩ := h
 refine ⟨vss, Gs, by rw [List.length_set], ?_, rfl, h3, h4, by rw [List.getElem?_set_self (List.getElem?_eq_some_iff.1 h5).1], ho, h7, h8, fun y hy => ⟨(h9 y hy).1, Nat.lt_of_lt_of_le (h9 y hy).2 hu.size⟩, fun w2 us' x2 ho2 hf => ?_⟩
 ·rw [List.length_set]
  exact own_move h1 (fun k hk => hu.block k (own_lt h1 k hk) (fun hg => by simp [Value.ownBlock] at hk; subst hk; exact h3 (h7 _ hg)))
 ·rw [List.set_set]
  exact h10 w2 us' x2 ho2 fun y hy hn => (hf y hy hn).trans (hu.block y (h9 y hy).2 hn)
theorem RowAt.set (h : RowAt A e w b v xs F j g c us x G) (i : Nat) (u : Value) (hi : i < A.k) (ho : A.ow w b (us.set i u) x' G) : RowAt A e (w.setCell ⟨g, j * A.k + i, none⟩ u) b v (xs.set j x') F j g c (us.set i u) x' G := by
 obtain ⟨vss, Gs, rfl, h1, rfl, h3, h4, h5, h6, h7, h8, h9, h10⟩ := h
 have hfar : ∀ y, y ≠ g → (w.setCell ⟨g, j * A.k + i, none⟩ u).heap[y]? = w.heap[y]? := fun y hy => Below.heap_setCell w ⟨g, j * A.k + i, none⟩ u y hy
 refine ⟨vss.set j (us.set i u), Gs, by rw [List.length_set], ?_, rfl, h3, by rw [List.getElem?_set_self (List.getElem?_eq_some_iff.1 h4).1], by rw [List.getElem?_set_self (List.getElem?_eq_some_iff.1 h5).1], A.oframe ho (fun y hy => hfar y (fun e => h3 (h7 g (e ▸ hy)))), h7, ?_, fun y hy => ⟨(h9 y hy).1, by simpa using (h9 y hy).2⟩, fun w2 us' x2 ho2 hf => ?_⟩
 ·rw [List.length_set, flat_set vss j us h8 h4 i u hi]
  exact (World.ownsRow.stored h1 (j * A.k + i) u).1
 ·intro vs hvs
  rcases List.mem_or_eq_of_mem_set hvs with hvs | rfl
  ·exact h8 vs hvs
  ·rw [List.length_set]; exact h8 us (List.mem_of_getElem? h4)
 ·rw [List.set_set, List.set_set]
  exact h10 w2 us' x2 ho2 fun y hy hn => (hf y hy hn).trans (hfar y (fun e => h3 (e ▸ hy)))
end
end Go.Proofs.YtmcdnpooclelgaaDoor
namespace Go.Proofs.YtmcdnpooclelgaaDoor.PAll
open Go.RowKit Go.Proofs.YtmcdnpooclelgaaDoorW.PrintWords Go.Proofs.YtmcdnpooclelgaaDoorW.PrintLast Go.Proofs.YtmcdnpooclelgaaDoorW.PrintMore
attribute [local go_sem] max2_int min2_int max_two min_two max_three min_three max_four min_four   -- for this text's walks alone
def spec_l1In.f (a0 : Int) (a1 : Int) (a2 : Int) : Option (Bool) := if a0 ≥ a1 then (some (decide (a0 ≤ a2))) else (some false)
set_option maxHeartbeats 8000000 in
set_option maxRecDepth 100000 in
theorem spec_l1In.calls (a0 : Int) (a1 : Int) (a2 : Int) (r : Bool) (w : World) (h : spec_l1In.f a0 a1 a2 = some r) :
  Calls Tryd.prog 113 #[.int .i64 a0, .int .i64 a1, .int .i64 a2] w fun e w' => e = .returned (.bool r) ∧ Drawn0 w w' := by
 have H : (if a0 ≥ a1 then (some (decide (a0 ≤ a2))) else (some false)) = some r := h
 clear h
 by_cases c4 : a0 ≥ a1
 ·rw [if_pos c4] at H
  have c4b0 : decide (a1 ≤ a0) = true := decide_eq_true c4
  clear c4
  obtain rfl := Option.some.inj H
  go_enter Tryd.func113, Tryd.ntmps113
  go_wp2
  go_ret
  exact ⟨by first | rfl | (simp; done) | (simp [*]; done), by repeat (first | exact Drawn0.refl _ | apply Drawn0.step)⟩
 ·rw [if_neg c4] at H
  have c4b0 : decide (a1 ≤ a0) = false := decide_eq_false c4
  clear c4
  obtain rfl := Option.some.inj H
  go_enter Tryd.func113, Tryd.ntmps113
  go_wp2
  go_ret
  exact ⟨by first | rfl | (simp; done) | (simp [*]; done), by repeat (first | exact Drawn0.refl _ | apply Drawn0.step)⟩
def spec_l2NameOk.l0 : Nat → ByteArray → Int → Option (Bool)
 | 0, _, _ => none
 | k + 1, x0, x3 => if x3 < (x0.size : Int) then (if 0 ≤ x3 then (if (bt x0 x3) ≥ 97 then (if (bt x0 x3) ≤ 122 then (spec_l2NameOk.l0 k x0 (wrap64 (x3 + 1))) else (if (bt x0 x3) ≥ 48 then (if (bt x0 x3) ≤ 57 then (spec_l2NameOk.l0 k x0 (wrap64 (x3 + 1))) else (if ((bt x0 x3) = 45) then (spec_l2NameOk.l0 k x0 (wrap64 (x3 + 1))) else (some false))) else (if ((bt x0 x3) = 45) then (spec_l2NameOk.l0 k x0 (wrap64 (x3 + 1))) else (some false)))) else (if (bt x0 x3) ≥ 48 then (if (bt x0 x3) ≤ 57 then (spec_l2NameOk.l0 k x0 (wrap64 (x3 + 1))) else (if ((bt x0 x3) = 45) then (spec_l2NameOk.l0 k x0 (wrap64 (x3 + 1))) else (some false))) else (if ((bt x0 x3) = 45) then (spec_l2NameOk.l0 k x0 (wrap64 (x3 + 1))) else (some false)))) else (none)) else (some true)
def spec_l2NameOk.f (k : Nat) (a0 : ByteArray) : Option (Bool) := (spec_l1In.f (a0.size : Int) 1 20).bind fun t101 => (if t101 = true then (spec_l2NameOk.l0 k a0 0) else (some false))
set_option maxHeartbeats 8000000 in
set_option maxRecDepth 100000 in
theorem spec_l2NameOk.calls (k : Nat) (a0 : ByteArray) (r : Bool) (w : World) (h : spec_l2NameOk.f k a0 = some r) :
  Calls Tryd.prog 71 #[.string a0] w fun e w' => e = .returned (.bool r) ∧ Drawn0 w w' := by
 have H : ((spec_l1In.f (a0.size : Int) 1 20).bind fun t101 => (if t101 = true then (spec_l2NameOk.l0 k a0 0) else (some false))) = some r := h
 clear h
 replace H := Option.bind_eq_some_iff.mp H
 obtain ⟨t101, A20, H⟩ := H
 replace H : (if t101 = true then (spec_l2NameOk.l0 k a0 0) else (some false)) = some r := H
 have A2 := Aside0.mk A20
 clear A20
 by_cases c3 : t101 = true
 ·subst c3
  have H1 : (spec_l2NameOk.l0 k a0 0) = some r := by rw [if_pos rfl] at H; exact H
  clear H
  have H := H1
  clear H1
  have H' := Aside0.mk H
  clear H
  go_enter Tryd.func71, Tryd.ntmps71
  go_wp2_with (first | ((with_reducible refine gate_callee (f := 113) rfl ?_); refine goesL_ (some 7) rfl rfl Tryd.func113 (by kernel_rfl) rfl #[.int .i64 (a0.size : Int), .int .i64 1, .int .i64 20] rfl (by (try simp only [List.map_toArray, List.map_cons, List.map_nil]); first | done | rfl | (simp only [List.length_drop, List.length_take]; rfl)) ?_; (with_reducible refine (spec_l1In.calls (a0.size : Int) 1 20 true _ A2.out).mono ?_); rintro e w' ⟨rfl, ⟨nd, rfl⟩⟩; refine ⟨_, rfl, ?_⟩))
  go_loopg [3] k (fun kq v3 w' => ∃ (x3_1 : Int), v3 = .int .i64 x3_1 ∧ Aside0 (spec_l2NameOk.l0 kq a0 x3_1 = some r) ∧ Aside0 (kq ≤ k) ∧ Drawn0 w w')
  case atStart => exact ⟨(0), (by first | rfl | (simp; done) | (simp [*]; done)), H', ⟨Nat.le_refl _⟩, by repeat (first | exact Drawn0.refl _ | apply Drawn0.step)⟩
  case round =>
   clear H'
   try clear c1
   try clear p2
   try clear c3
   obtain ⟨x3_1, rfl, HA, HK1, ⟨m1, rfl⟩⟩ := hrel
   cases gk with
   | zero => exact absurd HA.out (by simp [spec_l2NameOk.l0])
   | succ k1 =>
    have H := HA.out
    clear HA
    simp only [spec_l2NameOk.l0] at H
    by_cases c4 : x3_1 < (a0.size : Int)
    ·rw [if_pos c4] at H
     have c4b0 : decide (x3_1 < (a0.size : Int)) = true := decide_eq_true c4
     clear c4
     by_cases c5 : 0 ≤ x3_1
     ·rw [if_pos c5] at H
      have c5b0 : decide (0 ≤ x3_1) = true := decide_eq_true c5
      clear c5
      by_cases c7 : (bt a0 x3_1) ≥ 97
      ·rw [if_pos c7] at H
       have c7b0 : decide (97 ≤ (bt a0 x3_1)) = true := decide_eq_true c7
       clear c7
       by_cases c8 : (bt a0 x3_1) ≤ 122
       ·rw [if_pos c8] at H
        have c8b0 : decide ((bt a0 x3_1) ≤ 122) = true := decide_eq_true c8
        clear c8
        have H' := Aside0.mk H
        clear H
        have p6 : 0 ≤ (x3_1 : Int) := of_decide_eq_true (by first | (with_reducible assumption) | assumption)
        have q6 : x3_1 < (a0.size : Int) := of_decide_eq_true (by first | (with_reducible assumption) | assumption)
        have hx6 := bt_at a0 x3_1
        replace p6 := eq_true p6
        replace q6 := eq_true q6
        go_wp2
        go_roundg k1
        case measure => have := HK1.out; omega
        case rel => exact ⟨(wrap64 (x3_1 + 1)), (by first | rfl | (simp; done) | (simp [*]; done)), H', ⟨by have := HK1.out; omega⟩, by repeat (first | exact Drawn0.refl _ | apply Drawn0.step)⟩
       ·rw [if_neg c8] at H
        have c8b0 : decide ((bt a0 x3_1) ≤ 122) = false := decide_eq_false c8
        clear c8
        by_cases c9 : (bt a0 x3_1) ≥ 48
        ·rw [if_pos c9] at H
         have c9b0 : decide (48 ≤ (bt a0 x3_1)) = true := decide_eq_true c9
         clear c9
         by_cases c10 : (bt a0 x3_1) ≤ 57
         ·rw [if_pos c10] at H
          have c10b0 : decide ((bt a0 x3_1) ≤ 57) = true := decide_eq_true c10
          clear c10
          have H' := Aside0.mk H
          clear H
          have p6 : 0 ≤ (x3_1 : Int) := of_decide_eq_true (by first | (with_reducible assumption) | assumption)
          have q6 : x3_1 < (a0.size : Int) := of_decide_eq_true (by first | (with_reducible assumption) | assumption)
          have hx6 := bt_at a0 x3_1
          replace p6 := eq_true p6
          replace q6 := eq_true q6
          go_wp2
          go_roundg k1
          case measure => have := HK1.out; omega
          case rel => exact ⟨(wrap64 (x3_1 + 1)), (by first | rfl | (simp; done) | (simp [*]; done)), H', ⟨by have := HK1.out; omega⟩, by repeat (first | exact Drawn0.refl _ | apply Drawn0.step)⟩
         ·rw [if_neg c10] at H
          have c10b0 : decide ((bt a0 x3_1) ≤ 57) = false := decide_eq_false c10
          clear c10
          by_cases c11 : ((bt a0 x3_1) = 45)
          ·rw [if_pos c11] at H
           have c11b0 : ((bt a0 x3_1) == 45) = true := beq_iff_eq.mpr c11
           have c11b1 : ((bt a0 x3_1) != 45) = false := bne_eq_false_iff_eq.mpr c11
           clear c11
           have H' := Aside0.mk H
           clear H
           have p6 : 0 ≤ (x3_1 : Int) := of_decide_eq_true (by first | (with_reducible assumption) | assumption)
           have q6 : x3_1 < (a0.size : Int) := of_decide_eq_true (by first | (with_reducible assumption) | assumption)
           have hx6 := bt_at a0 x3_1
           replace p6 := eq_true p6
           replace q6 := eq_true q6
           go_wp2
           go_roundg k1
           case measure => have := HK1.out; omega
           case rel => exact ⟨(wrap64 (x3_1 + 1)), (by first | rfl | (simp; done) | (simp [*]; done)), H', ⟨by have := HK1.out; omega⟩, by repeat (first | exact Drawn0.refl _ | apply Drawn0.step)⟩
          ·rw [if_neg c11] at H
           have c11b0 : ((bt a0 x3_1) == 45) = false := beq_eq_false_iff_ne.mpr c11
           have c11b1 : ((bt a0 x3_1) != 45) = true := bne_iff_ne.mpr c11
           obtain rfl := Option.some.inj H
           have p6 : 0 ≤ (x3_1 : Int) := of_decide_eq_true (by first | (with_reducible assumption) | assumption)
           have q6 : x3_1 < (a0.size : Int) := of_decide_eq_true (by first | (with_reducible assumption) | assumption)
           have hx6 := bt_at a0 x3_1
           replace p6 := eq_true p6
           replace q6 := eq_true q6
           go_wp2
           go_ret
           exact ⟨by first | rfl | (simp; done) | (simp [*]; done), by repeat (first | exact Drawn0.refl _ | apply Drawn0.step)⟩
        ·rw [if_neg c9] at H
         have c9b0 : decide (48 ≤ (bt a0 x3_1)) = false := decide_eq_false c9
         clear c9
         by_cases c12 : ((bt a0 x3_1) = 45)
         ·rw [if_pos c12] at H
          have c12b0 : ((bt a0 x3_1) == 45) = true := beq_iff_eq.mpr c12
          have c12b1 : ((bt a0 x3_1) != 45) = false := bne_eq_false_iff_eq.mpr c12
          clear c12
          have H' := Aside0.mk H
          clear H
          have p6 : 0 ≤ (x3_1 : Int) := of_decide_eq_true (by first | (with_reducible assumption) | assumption)
          have q6 : x3_1 < (a0.size : Int) := of_decide_eq_true (by first | (with_reducible assumption) | assumption)
          have hx6 := bt_at a0 x3_1
          replace p6 := eq_true p6
          replace q6 := eq_true q6
          go_wp2
          go_roundg k1
          case measure => have := HK1.out; omega
          case rel => exact ⟨(wrap64 (x3_1 + 1)), (by first | rfl | (simp; done) | (simp [*]; done)), H', ⟨by have := HK1.out; omega⟩, by repeat (first | exact Drawn0.refl _ | apply Drawn0.step)⟩
         ·rw [if_neg c12] at H
          have c12b0 : ((bt a0 x3_1) == 45) = false := beq_eq_false_iff_ne.mpr c12
          have c12b1 : ((bt a0 x3_1) != 45) = true := bne_iff_ne.mpr c12
          obtain rfl := Option.some.inj H
          have p6 : 0 ≤ (x3_1 : Int) := of_decide_eq_true (by first | (with_reducible assumption) | assumption)
          have q6 : x3_1 < (a0.size : Int) := of_decide_eq_true (by first | (with_reducible assumption) | assumption)
          have hx6 := bt_at a0 x3_1
          replace p6 := eq_true p6
          replace q6 := eq_true q6
          go_wp2
          go_ret
          exact ⟨by first | rfl | (simp; done) | (simp [*]; done), by repeat (first | exact Drawn0.refl _ | apply Drawn0.step)⟩
      ·rw [if_neg c7] at H
       have c7b0 : decide (97 ≤ (bt a0 x3_1)) = false := decide_eq_false c7
       clear c7
       by_cases c13 : (bt a0 x3_1) ≥ 48
       ·rw [if_pos c13] at H
        have c13b0 : decide (48 ≤ (bt a0 x3_1)) = true := decide_eq_true c13
        clear c13
        by_cases c14 : (bt a0 x3_1) ≤ 57
        ·rw [if_pos c14] at H
         have c14b0 : decide ((bt a0 x3_1) ≤ 57) = true := decide_eq_true c14
         clear c14
         have H' := Aside0.mk H
         clear H
         have p6 : 0 ≤ (x3_1 : Int) := of_decide_eq_true (by first | (with_reducible assumption) | assumption)
         have q6 : x3_1 < (a0.size : Int) := of_decide_eq_true (by first | (with_reducible assumption) | assumption)
         have hx6 := bt_at a0 x3_1
         replace p6 := eq_true p6
         replace q6 := eq_true q6
         go_wp2
         go_roundg k1
         case measure => have := HK1.out; omega
         case rel => exact ⟨(wrap64 (x3_1 + 1)), (by first | rfl | (simp; done) | (simp [*]; done)), H', ⟨by have := HK1.out; omega⟩, by repeat (first | exact Drawn0.refl _ | apply Drawn0.step)⟩
        ·rw [if_neg c14] at H
         have c14b0 : decide ((bt a0 x3_1) ≤ 57) = false := decide_eq_false c14
         clear c14
         by_cases c15 : ((bt a0 x3_1) = 45)
         ·rw [if_pos c15] at H
          have c15b0 : ((bt a0 x3_1) == 45) = true := beq_iff_eq.mpr c15
          have c15b1 : ((bt a0 x3_1) != 45) = false := bne_eq_false_iff_eq.mpr c15
          clear c15
          have H' := Aside0.mk H
          clear H
          have p6 : 0 ≤ (x3_1 : Int) := of_decide_eq_true (by first | (with_reducible assumption) | assumption)
          have q6 : x3_1 < (a0.size : Int) := of_decide_eq_true (by first | (with_reducible assumption) | assumption)
          have hx6 := bt_at a0 x3_1
          replace p6 := eq_true p6
          replace q6 := eq_true q6
          go_wp2
          go_roundg k1
          case measure => have := HK1.out; omega
          case rel => exact ⟨(wrap64 (x3_1 + 1)), (by first | rfl | (simp; done) | (simp [*]; done)), H', ⟨by have := HK1.out; omega⟩, by repeat (first | exact Drawn0.refl _ | apply Drawn0.step)⟩
         ·rw [if_neg c15] at H
          have c15b0 : ((bt a0 x3_1) == 45) = false := beq_eq_false_iff_ne.mpr c15
          have c15b1 : ((bt a0 x3_1) != 45) = true := bne_iff_ne.mpr c15
          obtain rfl := Option.some.inj H
          have p6 : 0 ≤ (x3_1 : Int) := of_decide_eq_true (by first | (with_reducible assumption) | assumption)
          have q6 : x3_1 < (a0.size : Int) := of_decide_eq_true (by first | (with_reducible assumption) | assumption)
          have hx6 := bt_at a0 x3_1
          replace p6 := eq_true p6
          replace q6 := eq_true q6
          go_wp2
          go_ret
          exact ⟨by first | rfl | (simp; done) | (simp [*]; done), by repeat (first | exact Drawn0.refl _ | apply Drawn0.step)⟩
       ·rw [if_neg c13] at H
        have c13b0 : decide (48 ≤ (bt a0 x3_1)) = false := decide_eq_false c13
        clear c13
        by_cases c16 : ((bt a0 x3_1) = 45)
        ·rw [if_pos c16] at H
         have c16b0 : ((bt a0 x3_1) == 45) = true := beq_iff_eq.mpr c16
         have c16b1 : ((bt a0 x3_1) != 45) = false := bne_eq_false_iff_eq.mpr c16
         clear c16
         have H' := Aside0.mk H
         clear H
         have p6 : 0 ≤ (x3_1 : Int) := of_decide_eq_true (by first | (with_reducible assumption) | assumption)
         have q6 : x3_1 < (a0.size : Int) := of_decide_eq_true (by first | (with_reducible assumption) | assumption)
         have hx6 := bt_at a0 x3_1
         replace p6 := eq_true p6
         replace q6 := eq_true q6
         go_wp2
         go_roundg k1
         case measure => have := HK1.out; omega
         case rel => exact ⟨(wrap64 (x3_1 + 1)), (by first | rfl | (simp; done) | (simp [*]; done)), H', ⟨by have := HK1.out; omega⟩, by repeat (first | exact Drawn0.refl _ | apply Drawn0.step)⟩
        ·rw [if_neg c16] at H
         have c16b0 : ((bt a0 x3_1) == 45) = false := beq_eq_false_iff_ne.mpr c16
         have c16b1 : ((bt a0 x3_1) != 45) = true := bne_iff_ne.mpr c16
         obtain rfl := Option.some.inj H
         have p6 : 0 ≤ (x3_1 : Int) := of_decide_eq_true (by first | (with_reducible assumption) | assumption)
         have q6 : x3_1 < (a0.size : Int) := of_decide_eq_true (by first | (with_reducible assumption) | assumption)
         have hx6 := bt_at a0 x3_1
         replace p6 := eq_true p6
         replace q6 := eq_true q6
         go_wp2
         go_ret
         exact ⟨by first | rfl | (simp; done) | (simp [*]; done), by repeat (first | exact Drawn0.refl _ | apply Drawn0.step)⟩
     ·rw [if_neg c5] at H
      exact absurd H (by simp)
    ·rw [if_neg c4] at H
     have c4b0 : decide (x3_1 < (a0.size : Int)) = false := decide_eq_false c4
     clear c4
     obtain rfl := Option.some.inj H
     go_wp2
     go_ret
     exact ⟨by first | rfl | (simp; done) | (simp [*]; done), by repeat (first | exact Drawn0.refl _ | apply Drawn0.step)⟩
 ·replace c3 := Bool.eq_false_iff.mpr c3
  subst c3
  have H1 : (some false) = some r := by rw [if_neg (show ¬ (false = true) by decide)] at H; exact H
  clear H
  have H := H1
  clear H1
  obtain rfl := Option.some.inj H
  go_enter Tryd.func71, Tryd.ntmps71
  go_wp2_with (first | ((with_reducible refine gate_callee (f := 113) rfl ?_); refine goesL_ (some 7) rfl rfl Tryd.func113 (by kernel_rfl) rfl #[.int .i64 (a0.size : Int), .int .i64 1, .int .i64 20] rfl (by (try simp only [List.map_toArray, List.map_cons, List.map_nil]); first | done | rfl | (simp only [List.length_drop, List.length_take]; rfl)) ?_; (with_reducible refine (spec_l1In.calls (a0.size : Int) 1 20 false _ A2.out).mono ?_); rintro e w' ⟨rfl, ⟨nd, rfl⟩⟩; refine ⟨_, rfl, ?_⟩))
  go_ret
  exact ⟨by first | rfl | (simp; done) | (simp [*]; done), by repeat (first | exact Drawn0.refl _ | apply Drawn0.step)⟩
def spec_l2Dec.f : Nat → Int → Option (ByteArray)
 | 0, _ => none
 | k + 1, a0 => if a0 < 0 then ((spec_l2Dec.f k (wrap64 (-a0))).bind fun t102 => (if 1 + t102.size ≤ 9223372036854775807 then (some ((⟨#[45]⟩ : ByteArray) ++ t102)) else (none))) else (if a0 < 10 then (some (strOfNums (([(wrap64 (48 + a0)) % 256] : List Int)))) else ((spec_l2Dec.f k (wrap64 (Int.tdiv a0 10))).bind fun t106 => ((some (([(wrap64 (48 + (Int.tmod a0 10))) % 256] : List Int) : List Int)).bind fun y107 => (if t106.size + (strOfNums y107).size ≤ 9223372036854775807 then (some (t106 ++ (strOfNums y107))) else (none)))))
def spec_l2Dec.T5 : Bool × List (List Nat × List Nat) := (true, [([], []), ([0], [0]), ([1], [1]), ([], []), ([3], [3]), ([4], [4]), ([5], [5]), ([6], [6]), ([7], [7]), ([2, 8], [2, 8]), ([9, 2, 0, 1, 2, 3, 4, 5, 6, 7, 8, 9], [9])])
def spec_l2Dec.B5 : List Nat := [0, 1, 3, 0, 8, 24, 56, 120, 248, 511, 1023]
theorem spec_l2Dec.tab5 : rtab .any (opsOf Tryd.f134 5) = spec_l2Dec.T5 := by kernel_rfl
theorem spec_l2Dec.bits5 : waitsOk spec_l2Dec.T5.2 spec_l2Dec.B5 = true := by kernel_rfl
set_option maxHeartbeats 8000000 in
set_option maxRecDepth 100000 in
theorem spec_l2Dec.calls (k : Nat) : ∀ (a0 : Int) (r : ByteArray) (w : World) (h : spec_l2Dec.f k a0 = some r),
  Calls Tryd.prog 134 #[.int .i64 a0] w fun e w' => e = .returned (.string r) ∧ Below w.heap.size w w' := by
 induction k using Nat.strongRecOn with
 | _ k ih =>
 intro a0 r w h
 cases k with
 | zero => exact absurd h (by simp [spec_l2Dec.f])
 | succ k =>
 simp only [spec_l2Dec.f] at h
 have HB := Aside0.mk (Below.refl w.heap.size w)
 have H : (if a0 < 0 then ((spec_l2Dec.f k (wrap64 (-a0))).bind fun t102 => (if 1 + t102.size ≤ 9223372036854775807 then (some ((⟨#[45]⟩ : ByteArray) ++ t102)) else (none))) else (if a0 < 10 then (some (strOfNums (([(wrap64 (48 + a0)) % 256] : List Int)))) else ((spec_l2Dec.f k (wrap64 (Int.tdiv a0 10))).bind fun t106 => ((some (([(wrap64 (48 + (Int.tmod a0 10))) % 256] : List Int) : List Int)).bind fun y107 => (if t106.size + (strOfNums y107).size ≤ 9223372036854775807 then (some (t106 ++ (strOfNums y107))) else (none)))))) = some r := h
 clear h
 by_cases c2 : a0 < 0
 ·rw [if_pos c2] at H
  have c2b0 : decide (a0 < 0) = true := decide_eq_true c2
  clear c2
  replace H := Option.bind_eq_some_iff.mp H
  obtain ⟨t102, A30, H⟩ := H
  replace H : (if 1 + t102.size ≤ 9223372036854775807 then (some ((⟨#[45]⟩ : ByteArray) ++ t102)) else (none)) = some r := H
  have A3 := Aside0.mk A30
  clear A30
  by_cases c4 : 1 + t102.size ≤ 9223372036854775807
  ·rw [if_pos c4] at H
   have c4b0 := eq_true c4
   have c4b1 : decide (1 + t102.size ≤ 9223372036854775807) = true := decide_eq_true c4
   try have c4b2 : (9223372036854775807 < 1 + t102.size) = False := eq_false (Nat.not_lt.2 c4)
   obtain rfl := Option.some.inj H
   go_enter Tryd.func134, Tryd.ntmps134
   go_wp2_with (first | ((with_reducible refine gate_callee (f := 134) rfl ?_); refine goesL_ (some 7) rfl rfl Tryd.func134 (by kernel_rfl) rfl #[.int .i64 (wrap64 (-a0))] rfl (by (try simp only [List.map_toArray, List.map_cons, List.map_nil]); first | done | rfl | (simp only [List.length_drop, List.length_take]; rfl)) ?_; (with_reducible refine (ih k (by omega) (wrap64 (-a0)) t102 _ A3.out).mono ?_); rintro e w5 ⟨rfl, hb⟩; refine ⟨_, rfl, ?_⟩; have n0_ := Aside0.mk (below_step (stB HB.out) hb); clear HB; have HB := n0_; clear n0_; (try clear hb); (try clear hb2); (try clear hk); (try clear hi)))
   go_ret
   exact ⟨by first | rfl | (simp [errW_none, errW_some] <;> rfl) | (simp [*, errW_none, errW_some] <;> rfl), by repeat (first | (with_reducible first | exact HB.out | apply below_alloc | apply pw_below_drewN | apply below_drew1) | exact HB.out)⟩
  ·rw [if_neg c4] at H
   exact absurd H (by simp)
 ·rw [if_neg c2] at H
  have c2b0 : decide (a0 < 0) = false := decide_eq_false c2
  clear c2
  by_cases c6 : a0 < 10
  ·rw [if_pos c6] at H
   have c6b0 : decide (a0 < 10) = true := decide_eq_true c6
   clear c6
   obtain ⟨y103, hy103⟩ : ∃ y_ : List Int, y_ = (([(wrap64 (48 + a0)) % 256] : List Int)) := ⟨_, rfl⟩
   replace H : (some (strOfNums y103)) = some r := by first | (rw [hy103]; with_reducible exact H) | (have H2_ := (Option.bind_some _ _).symm.trans H; rw [hy103]; with_reducible exact H2_) | (have H2_ := (Option.bind_some _ _).symm.trans H; with_reducible exact H2_) | with_reducible exact H | (rw [hy103]; exact H) | exact H
   have Ny103 := Aside0.mk hy103
   clear hy103
   obtain rfl := Option.some.inj H
   go_enter Tryd.func134, Tryd.ntmps134
   go_wp2_with (first | ((with_reducible refine gate_dst (N := 14) rfl ?_); refine Kd.R_lit (Kd.int .u8) _ 5 ?hg (N := 14) ?hd (xs := ([(wrap64 (48 + a0)) % 256] : List Int)) (inner := [.int .u8 ((wrap64 (48 + a0)) % 256)]) (ok := fun _ => True) (okp := fun _ => True) ?hr ?hp (fun _ hk => hk) trivial (Below.refl _ _) (Nat.le_refl _) (by simp) ?_; (case hd => rfl); (case hg => rfl); (case hr => first | (go_simp; done) | (go_simp; rfl)); (case hp => exact (Reps.one (show Kd.M (Kd.int .u8) _ _ _ ((wrap64 (48 + a0)) % 256) [.int .u8 ((wrap64 (48 + a0)) % 256)] from rfl) (Reps.none _ _))); intro v104 w7 ho8 hb hg_ hnew_; clear hg_ hnew_; (first | rw [← Ny103.out] at ho8 | (simp only [Int.reduceToNat] at ho8; rw [← Ny103.out] at ho8)); have n0_ := Aside0.mk (Kd.R_lower ho8 (below_size (stB HB.out))); have n1_ := Aside0.mk (below_step (stB HB.out) hb); clear HB; have HO105 := n0_; have HB := n1_; clear n0_ n1_; clear hb ho8; have hcv9 := own_string (P := Tryd.prog) Tryd.underlying32 Tryd.underlying5 Tryd.underlying9 (Kd.own_of_R HO105.out)))
   go_ret
   exact ⟨by first | rfl | (simp [errW_none, errW_some] <;> rfl) | (simp [*, errW_none, errW_some] <;> rfl), by repeat (first | (with_reducible first | exact HB.out | apply below_alloc | apply pw_below_drewN | apply below_drew1) | exact HB.out)⟩
  ·rw [if_neg c6] at H
   have c6b0 : decide (a0 < 10) = false := decide_eq_false c6
   clear c6
   replace H := Option.bind_eq_some_iff.mp H
   obtain ⟨t106, A100, H⟩ := H
   replace H : ((some (([(wrap64 (48 + (Int.tmod a0 10))) % 256] : List Int) : List Int)).bind fun y107 => (if t106.size + (strOfNums y107).size ≤ 9223372036854775807 then (some (t106 ++ (strOfNums y107))) else (none))) = some r := H
   have A10 := Aside0.mk A100
   clear A100
   obtain ⟨y107, hy107⟩ : ∃ y_ : List Int, y_ = (([(wrap64 (48 + (Int.tmod a0 10))) % 256] : List Int)) := ⟨_, rfl⟩
   replace H : (if t106.size + (strOfNums y107).size ≤ 9223372036854775807 then (some (t106 ++ (strOfNums y107))) else (none)) = some r := by first | (rw [hy107]; with_reducible exact H) | (have H2_ := (Option.bind_some _ _).symm.trans H; rw [hy107]; with_reducible exact H2_) | (have H2_ := (Option.bind_some _ _).symm.trans H; with_reducible exact H2_) | with_reducible exact H | (rw [hy107]; exact H) | exact H
   have Ny107 := Aside0.mk hy107
   clear hy107
   by_cases c11 : t106.size + (strOfNums y107).size ≤ 9223372036854775807
   ·rw [if_pos c11] at H
    have c11b0 := eq_true c11
    have c11b1 : decide (t106.size + (strOfNums y107).size ≤ 9223372036854775807) = true := decide_eq_true c11
    try have c11b2 : (9223372036854775807 < t106.size + (strOfNums y107).size) = False := eq_false (Nat.not_lt.2 c11)
    obtain rfl := Option.some.inj H
    go_enter Tryd.func134, Tryd.ntmps134
    try go_wp2
    have n0_ := Aside0.mk (below_drew1 HB.out)
    clear HB
    have HB := n0_
    clear n0_
    refine start_ (n := 11) (S := fun w' => True) (ds := []) (bz_ 11 0) (by kernel_rfl) rfl rfl trivial (fun hHeld => ?_); refine with_tabW spec_l2Dec.tab5 spec_l2Dec.bits5 (fun HT_ HW_ => ?_)
    generalize w.drew = w12 at HB hHeld ⊢
    refine pure_ (i := 0) (N := some 16) (v := ?_) (a' := ?_) (bz_ 11 1) rfl rfl (any_of HT_.out (by kernel_rfl)) (fun _ _ _ h => h) (Or.inl ⟨by rfl, ?_⟩) ?_ ?_
    rotate_left
    ·intro w'
     go_simp
     with_reducible rfl
    rotate_left
    ·simp only [Act.put, List.setIfInBounds_toArray, List.set_cons_zero, List.set_cons_succ, i64_w, i32_w]
     rfl
    refine pure_ (i := 1) (N := some 17) (v := ?_) (a' := ?_) (bz_ 11 3) rfl rfl (any_of HT_.out (by kernel_rfl)) (fun _ _ _ h => h) (Or.inl ⟨by rfl, ?_⟩) ?_ ?_
    rotate_left
    ·intro w'
     go_simp
     with_reducible rfl
    rotate_left
    ·simp only [Act.put, List.setIfInBounds_toArray, List.set_cons_zero, List.set_cons_succ, i64_w, i32_w]
     rfl
    refine pure_ (i := 3) (N := some 19) (v := ?_) (a' := ?_) (bz_ 11 11) rfl rfl (any_of HT_.out (by kernel_rfl)) (fun _ _ _ h => h) (Or.inl ⟨by rfl, ?_⟩) ?_ ?_
    rotate_left
    ·intro w'
     go_simp
     with_reducible rfl
    rotate_left
    ·simp only [Act.put, List.setIfInBounds_toArray, List.set_cons_zero, List.set_cons_succ, i64_w, i32_w]
     rfl
    refine pure_ (i := 4) (N := some 20) (v := ?_) (a' := ?_) (bz_ 11 27) rfl rfl (any_of HT_.out (by kernel_rfl)) (fun _ _ _ h => h) (Or.inl ⟨by rfl, ?_⟩) ?_ ?_
    rotate_left
    ·intro w'
     go_simp
     with_reducible rfl
    rotate_left
    ·simp only [Act.put, List.setIfInBounds_toArray, List.set_cons_zero, List.set_cons_succ, i64_w, i32_w]
     rfl
    refine pure_ (i := 5) (N := some 21) (v := ?_) (a' := ?_) (bz_ 11 59) rfl rfl (any_of HT_.out (by kernel_rfl)) (fun _ _ _ h => h) (Or.inl ⟨by rfl, ?_⟩) ?_ ?_
    rotate_left
    ·intro w'
     go_simp
     with_reducible rfl
    rotate_left
    ·simp only [Act.put, List.setIfInBounds_toArray, List.set_cons_zero, List.set_cons_succ, i64_w, i32_w]
     rfl
    refine pure_ (i := 6) (N := some 22) (v := ?_) (a' := ?_) (bz_ 11 123) rfl rfl (any_of HT_.out (by kernel_rfl)) (fun _ _ _ h => h) (Or.inl ⟨by rfl, ?_⟩) ?_ ?_
    rotate_left
    ·intro w'
     go_simp
     with_reducible rfl
    rotate_left
    ·simp only [Act.put, List.setIfInBounds_toArray, List.set_cons_zero, List.set_cons_succ, i64_w, i32_w]
     rfl
    refine join_ (σ := Value) 2 (bz_ 11 511) (fun s_ => [(18, .string t106), (23, s_), (24, .string (strOfNums y107))]) (fun s_ w' => (Kd.R (Kd.int .u8) 5 w' w.heap.size (fun _ => True) s_ y107) ∧ (Below w.heap.size w w')) ?_ ?_
    rotate_left
    ·intro hCont
     refine two_ (i := 2) (j := 7) (Ni := some 18) (Nj := some 23) (bz_ 11 127) (bz_ 11 251) rfl rfl rfl rfl (two_of HT_.out (by kernel_rfl)) (by decide) (by decide) (fun K hK => ?_) (fun K hK => ?_)
     ·skip
      refine goes_ Tryd.func134 (by kernel_rfl) rfl #[.int .i64 (wrap64 (Int.tdiv a0 10))] (by rfl) rfl rfl (by (try simp only [List.map_toArray, List.map_cons, List.map_nil]); first | done | rfl | (simp only [List.length_drop, List.length_take]; rfl)) ?_
      with_reducible refine (ih k (by omega) (wrap64 (Int.tdiv a0 10)) t106 _ A10.out).mono ?_
      rintro e w13 ⟨rfl, hb⟩
      refine ⟨_, rfl, ?_⟩
      have n0_ := Aside0.mk (below_step (stB HB.out) hb)
      clear HB
      have HB := n0_
      clear n0_
      (try clear hb)
      (try clear hb2)
      (try clear hk)
      (try clear hi)
      refine hK.out _ _ trivial (fun hHeld => ?_)
      clear hK K
      refine norm_ (a' := ?_) ?_ ?_
      rotate_left
      ·show Act.put _ (some 18) _ = _
       simp only [Act.put, List.setIfInBounds_toArray, List.set_cons_zero, List.set_cons_succ, i64_w, i32_w]
       rfl
      refine one_ (i := 7) (N := some 23) (bz_ 11 255) rfl rfl (one_of HT_.out (by kernel_rfl)) (by decide) (fun K hK => ?_)
      refine Kd.R_lit_step (Kd.int .u8) _ 5 ?hg (N := 23) ?hd (xs := ([(wrap64 (48 + (Int.tmod a0 10))) % 256] : List Int)) (inner := [.int .u8 ((wrap64 (48 + (Int.tmod a0 10))) % 256)]) (ok := fun _ => True) (okp := fun _ => True) ?hr ?hp (fun _ hk => hk) trivial (Below.refl _ _) (Nat.le_refl _) (by simp) ?_; (case hd => rfl); (case hg => rfl); (case hr => first | (go_simp; done) | (go_simp; rfl)); (case hp => exact (Reps.one (show Kd.M (Kd.int .u8) _ _ _ ((wrap64 (48 + (Int.tmod a0 10))) % 256) [.int .u8 ((wrap64 (48 + (Int.tmod a0 10))) % 256)] from rfl) (Reps.none _ _)))
      intro v108 w14 ho15 hb hg_ hnew_
      clear hg_ hnew_
      (first | rw [← Ny107.out] at ho15 | (simp only [Int.reduceToNat] at ho15; rw [← Ny107.out] at ho15))
      have n0_ := Aside0.mk (Kd.R_lower ho15 (below_size (stB HB.out)))
      have n1_ := Aside0.mk (below_step (stB HB.out) hb)
      clear HB
      have HO109 := n0_
      have HB := n1_
      clear n0_ n1_
      clear hb ho15
      refine hK.out _ _ trivial (fun hHeld => ?_)
      clear hK K
      refine norm_ (a' := ?_) ?_ ?_
      rotate_left
      ·show Act.put _ (some 23) _ = _
       simp only [Act.put, List.setIfInBounds_toArray, List.set_cons_zero, List.set_cons_succ, i64_w, i32_w]
       rfl
      refine one_ (i := 8) (N := some 24) (bz_ 11 511) rfl rfl (one_of HT_.out (by kernel_rfl)) (by decide) (fun K hK => ?_)
      have hcv16 := own_string (P := Tryd.prog) Tryd.underlying32 Tryd.underlying5 Tryd.underlying9 (Kd.own_of_R HO109.out)
      refine value_ (w1 := ?_) (v := ?_) (by rfl) rfl ?_ ?_
      rotate_left 2
      ·go_simp
       constructor
       ·rfl
       ·rfl
      clear hcv16
      refine hK.out _ _ trivial (fun hHeld => ?_)
      clear hK K
      refine norm_ (a' := ?_) ?_ ?_
      rotate_left
      ·show Act.put _ (some 24) _ = _
       simp only [Act.put, List.setIfInBounds_toArray, List.set_cons_zero, List.set_cons_succ, i64_w, i32_w]
       rfl
      exact norm_ (by simp only [putAll, Act.put, List.setIfInBounds_toArray, List.set_cons_zero, List.set_cons_succ]) (hCont (v108) _ ⟨(stR HO109.out), (stB HB.out)⟩)
     ·skip
      refine Kd.R_lit_step (Kd.int .u8) _ 5 ?hg (N := 23) ?hd (xs := ([(wrap64 (48 + (Int.tmod a0 10))) % 256] : List Int)) (inner := [.int .u8 ((wrap64 (48 + (Int.tmod a0 10))) % 256)]) (ok := fun _ => True) (okp := fun _ => True) ?hr ?hp (fun _ hk => hk) trivial (Below.refl _ _) (Nat.le_refl _) (by simp) ?_; (case hd => rfl); (case hg => rfl); (case hr => first | (go_simp; done) | (go_simp; rfl)); (case hp => exact (Reps.one (show Kd.M (Kd.int .u8) _ _ _ ((wrap64 (48 + (Int.tmod a0 10))) % 256) [.int .u8 ((wrap64 (48 + (Int.tmod a0 10))) % 256)] from rfl) (Reps.none _ _)))
      intro v108 w13 ho14 hb hg_ hnew_
      clear hg_ hnew_
      (first | rw [← Ny107.out] at ho14 | (simp only [Int.reduceToNat] at ho14; rw [← Ny107.out] at ho14))
      have n0_ := Aside0.mk (Kd.R_lower ho14 (below_size (stB HB.out)))
      have n1_ := Aside0.mk (below_step (stB HB.out) hb)
      clear HB
      have HO109 := n0_
      have HB := n1_
      clear n0_ n1_
      clear hb ho14
      refine hK.out _ _ trivial (fun hHeld => ?_)
      clear hK K
      refine norm_ (a' := ?_) ?_ ?_
      rotate_left
      ·show Act.put _ (some 23) _ = _
       simp only [Act.put, List.setIfInBounds_toArray, List.set_cons_zero, List.set_cons_succ, i64_w, i32_w]
       rfl
      refine two_ (i := 2) (j := 8) (Ni := some 18) (Nj := some 24) (bz_ 11 255) (bz_ 11 507) rfl rfl rfl rfl (two_of HT_.out (by kernel_rfl)) (by decide) (by decide) (fun K hK => ?_) (fun K hK => ?_)
      ·skip
       refine goes_ Tryd.func134 (by kernel_rfl) rfl #[.int .i64 (wrap64 (Int.tdiv a0 10))] (by rfl) rfl rfl (by (try simp only [List.map_toArray, List.map_cons, List.map_nil]); first | done | rfl | (simp only [List.length_drop, List.length_take]; rfl)) ?_
       with_reducible refine (ih k (by omega) (wrap64 (Int.tdiv a0 10)) t106 _ A10.out).mono ?_
       rintro e w15 ⟨rfl, hb⟩
       refine ⟨_, rfl, ?_⟩
       have n0_ := Aside0.mk (Kd.R_below (stR HO109.out) hb)
       have n1_ := Aside0.mk (below_step (stB HB.out) hb)
       clear HO109
       clear HB
       have HO109 := n0_
       have HB := n1_
       clear n0_ n1_
       (try clear hb)
       (try clear hb2)
       (try clear hk)
       (try clear hi)
       refine hK.out _ _ trivial (fun hHeld => ?_)
       clear hK K
       refine norm_ (a' := ?_) ?_ ?_
       rotate_left
       ·show Act.put _ (some 18) _ = _
        simp only [Act.put, List.setIfInBounds_toArray, List.set_cons_zero, List.set_cons_succ, i64_w, i32_w]
        rfl
       refine one_ (i := 8) (N := some 24) (bz_ 11 511) rfl rfl (one_of HT_.out (by kernel_rfl)) (by decide) (fun K hK => ?_)
       have hcv16 := own_string (P := Tryd.prog) Tryd.underlying32 Tryd.underlying5 Tryd.underlying9 (Kd.own_of_R HO109.out)
       refine value_ (w1 := ?_) (v := ?_) (by rfl) rfl ?_ ?_
       rotate_left 2
       ·go_simp
        constructor
        ·rfl
        ·rfl
       clear hcv16
       refine hK.out _ _ trivial (fun hHeld => ?_)
       clear hK K
       refine norm_ (a' := ?_) ?_ ?_
       rotate_left
       ·show Act.put _ (some 24) _ = _
        simp only [Act.put, List.setIfInBounds_toArray, List.set_cons_zero, List.set_cons_succ, i64_w, i32_w]
        rfl
       exact norm_ (by simp only [putAll, Act.put, List.setIfInBounds_toArray, List.set_cons_zero, List.set_cons_succ]) (hCont (v108) _ ⟨(stR HO109.out), (stB HB.out)⟩)
      ·skip
       have hcv15 := own_string (P := Tryd.prog) Tryd.underlying32 Tryd.underlying5 Tryd.underlying9 (Kd.own_of_R HO109.out)
       refine value_ (w1 := ?_) (v := ?_) (by rfl) rfl ?_ ?_
       rotate_left 2
       ·go_simp
        constructor
        ·rfl
        ·rfl
       clear hcv15
       refine hK.out _ _ trivial (fun hHeld => ?_)
       clear hK K
       refine norm_ (a' := ?_) ?_ ?_
       rotate_left
       ·show Act.put _ (some 24) _ = _
        simp only [Act.put, List.setIfInBounds_toArray, List.set_cons_zero, List.set_cons_succ, i64_w, i32_w]
        rfl
       refine one_ (i := 2) (N := some 18) (bz_ 11 511) rfl rfl (one_of HT_.out (by kernel_rfl)) (by decide) (fun K hK => ?_)
       refine goes_ Tryd.func134 (by kernel_rfl) rfl #[.int .i64 (wrap64 (Int.tdiv a0 10))] (by rfl) rfl rfl (by (try simp only [List.map_toArray, List.map_cons, List.map_nil]); first | done | rfl | (simp only [List.length_drop, List.length_take]; rfl)) ?_
       with_reducible refine (ih k (by omega) (wrap64 (Int.tdiv a0 10)) t106 _ A10.out).mono ?_
       rintro e w16 ⟨rfl, hb⟩
       refine ⟨_, rfl, ?_⟩
       have n0_ := Aside0.mk (Kd.R_below (stR HO109.out) hb)
       have n1_ := Aside0.mk (below_step (stB HB.out) hb)
       clear HO109
       clear HB
       have HO109 := n0_
       have HB := n1_
       clear n0_ n1_
       (try clear hb)
       (try clear hb2)
       (try clear hk)
       (try clear hi)
       refine hK.out _ _ trivial (fun hHeld => ?_)
       clear hK K
       refine norm_ (a' := ?_) ?_ ?_
       rotate_left
       ·show Act.put _ (some 18) _ = _
        simp only [Act.put, List.setIfInBounds_toArray, List.set_cons_zero, List.set_cons_succ, i64_w, i32_w]
        rfl
       exact norm_ (by simp only [putAll, Act.put, List.setIfInBounds_toArray, List.set_cons_zero, List.set_cons_succ]) (hCont (v108) _ ⟨(stR HO109.out), (stB HB.out)⟩)
    rintro v108 w17 ⟨h0_, h1_⟩
    have n0_ : Aside0 (Kd.R (Kd.int .u8) 5 w17 w.heap.size (fun _ => True) v108 y107) := ⟨h0_⟩
    have n1_ : Aside0 (Below w.heap.size w w17) := ⟨h1_⟩
    clear HB
    clear h0_ h1_
    have HO109 := n0_
    have HB := n1_
    clear n0_ n1_
    have hHeld := trivial
    refine norm_ (a' := ?_) ?_ ?_
    rotate_left
    ·simp only [putAll, Act.put, List.setIfInBounds_toArray, List.set_cons_zero, List.set_cons_succ]
     rfl
    refine pure_ (i := 9) (N := some 25) (v := ?_) (a' := ?_) (bz_ 11 1023) rfl rfl (any_of HT_.out (by kernel_rfl)) (fun _ _ _ h => h) (Or.inl ⟨by rfl, ?_⟩) ?_ ?_
    rotate_left
    ·intro w'
     go_simp
     with_reducible rfl
    rotate_left
    ·simp only [Act.put, List.setIfInBounds_toArray, List.set_cons_zero, List.set_cons_succ, i64_w, i32_w]
     rfl
    refine pure_ (i := 10) (N := some 2) (v := ?_) (a' := ?_) (bz_ 11 2047) rfl rfl (any_of HT_.out (by kernel_rfl)) (fun _ _ _ h => h) (Or.inl ⟨by rfl, ?_⟩) ?_ ?_
    rotate_left
    ·intro w'
     go_simp
     with_reducible rfl
    rotate_left
    ·simp only [Act.put, List.setIfInBounds_toArray, List.set_cons_zero, List.set_cons_succ, i64_w, i32_w]
     rfl
    refine done_ (done_of HT_.out (by kernel_rfl)) ?_
    try go_wp2
    go_ret
    exact ⟨by first | rfl | (simp [errW_none, errW_some] <;> rfl) | (simp [*, errW_none, errW_some] <;> rfl), by repeat (first | (with_reducible first | exact HB.out | apply below_alloc | apply pw_below_drewN | apply below_drew1) | exact HB.out)⟩
   ·rw [if_neg c11] at H
    exact absurd H (by simp)
def spec_l2NumberOk.l0 : Nat → ByteArray → Int → Int → Option (Bool)
 | 0, _, _, _ => none
 | k + 1, x0, x3, x4 => if x4 < (x0.size : Int) then (if 0 ≤ x4 then (if (bt x0 x4) < 48 then (some false) else (if (bt x0 x4) > 57 then (some false) else (spec_l2NumberOk.l0 k x0 (wrap64 ((wrap64 (x3 * 10)) + (((bt x0 x4) - 48) % 256))) (wrap64 (x4 + 1))))) else (none)) else ((spec_l2Dec.f k x3).bind fun t111 => (if t111.toList = x0.toList then (some (decide (x3 ≤ 1000000))) else (some false)))
def spec_l2NumberOk.f (k : Nat) (a0 : ByteArray) : Option (Bool) := (spec_l1In.f (a0.size : Int) 1 7).bind fun t110 => (if t110 = true then (spec_l2NumberOk.l0 k a0 0 0) else (some false))
set_option maxHeartbeats 8000000 in
set_option maxRecDepth 100000 in
theorem spec_l2NumberOk.calls (k : Nat) (a0 : ByteArray) (r : Bool) (w : World) (h : spec_l2NumberOk.f k a0 = some r) :
  Calls Tryd.prog 106 #[.string a0] w fun e w' => e = .returned (.bool r) ∧ Below w.heap.size w w' := by
 have HB := Aside0.mk (Below.refl w.heap.size w)
 have H : ((spec_l1In.f (a0.size : Int) 1 7).bind fun t110 => (if t110 = true then (spec_l2NumberOk.l0 k a0 0 0) else (some false))) = some r := h
 clear h
 replace H := Option.bind_eq_some_iff.mp H
 obtain ⟨t110, A20, H⟩ := H
 replace H : (if t110 = true then (spec_l2NumberOk.l0 k a0 0 0) else (some false)) = some r := H
 have A2 := Aside0.mk A20
 clear A20
 by_cases c3 : t110 = true
 ·subst c3
  have H1 : (spec_l2NumberOk.l0 k a0 0 0) = some r := by rw [if_pos rfl] at H; exact H
  clear H
  have H := H1
  clear H1
  have H' := Aside0.mk H
  clear H
  go_enter Tryd.func106, Tryd.ntmps106
  go_wp2_with (first | ((with_reducible refine gate_callee (f := 113) rfl ?_); refine goesL_ (some 7) rfl rfl Tryd.func113 (by kernel_rfl) rfl #[.int .i64 (a0.size : Int), .int .i64 1, .int .i64 7] rfl (by (try simp only [List.map_toArray, List.map_cons, List.map_nil]); first | done | rfl | (simp only [List.length_drop, List.length_take]; rfl)) ?_; (with_reducible refine (spec_l1In.calls (a0.size : Int) 1 7 true _ A2.out).mono ?_); rintro e w' ⟨rfl, ⟨nd, rfl⟩⟩; refine ⟨_, rfl, ?_⟩))
  go_loopg [3, 4] k (fun kq v3 v4 w' => ∃ (x3_1 : Int) (x4_1 : Int), v3 = .int .i64 x3_1 ∧ v4 = .int .i64 x4_1 ∧ Aside0 (spec_l2NumberOk.l0 kq a0 x3_1 x4_1 = some r) ∧ Aside0 (kq ≤ k) ∧ Aside0 (Below w.heap.size w w'))
  case atStart => exact ⟨(0), (0), (by first | rfl | (simp; done) | (simp [*]; done)), (by first | rfl | (simp; done) | (simp [*]; done)), H', ⟨Nat.le_refl _⟩, ⟨by repeat (first | (with_reducible first | exact HB.out | apply below_alloc | apply pw_below_drewN | apply below_drew1) | exact HB.out)⟩⟩
  case round =>
   clear H'
   try clear c1
   try clear p2
   try clear c3
   obtain ⟨x3_1, x4_1, rfl, rfl, HA, HK1, HB⟩ := hrel
   cases gk with
   | zero => exact absurd HA.out (by simp [spec_l2NumberOk.l0])
   | succ k1 =>
    have H := HA.out
    clear HA
    simp only [spec_l2NumberOk.l0] at H
    by_cases c4 : x4_1 < (a0.size : Int)
    ·rw [if_pos c4] at H
     have c4b0 : decide (x4_1 < (a0.size : Int)) = true := decide_eq_true c4
     clear c4
     by_cases c5 : 0 ≤ x4_1
     ·rw [if_pos c5] at H
      have c5b0 : decide (0 ≤ x4_1) = true := decide_eq_true c5
      clear c5
      by_cases c7 : (bt a0 x4_1) < 48
      ·rw [if_pos c7] at H
       have c7b0 : decide ((bt a0 x4_1) < 48) = true := decide_eq_true c7
       clear c7
       obtain rfl := Option.some.inj H
       have p6 : 0 ≤ (x4_1 : Int) := of_decide_eq_true (by first | (with_reducible assumption) | assumption)
       have q6 : x4_1 < (a0.size : Int) := of_decide_eq_true (by first | (with_reducible assumption) | assumption)
       have hx6 := bt_at a0 x4_1
       replace p6 := eq_true p6
       replace q6 := eq_true q6
       go_wp2
       go_ret
       exact ⟨by first | rfl | (simp [errW_none, errW_some] <;> rfl) | (simp [*, errW_none, errW_some] <;> rfl), by repeat (first | (with_reducible first | exact HB.out | apply below_alloc | apply pw_below_drewN | apply below_drew1) | exact HB.out)⟩
      ·rw [if_neg c7] at H
       have c7b0 : decide ((bt a0 x4_1) < 48) = false := decide_eq_false c7
       clear c7
       by_cases c9 : (bt a0 x4_1) > 57
       ·rw [if_pos c9] at H
        have c9b0 : decide (57 < (bt a0 x4_1)) = true := decide_eq_true c9
        clear c9
        obtain rfl := Option.some.inj H
        have p6 : 0 ≤ (x4_1 : Int) := of_decide_eq_true (by first | (with_reducible assumption) | assumption)
        have q6 : x4_1 < (a0.size : Int) := of_decide_eq_true (by first | (with_reducible assumption) | assumption)
        have hx6 := bt_at a0 x4_1
        replace p6 := eq_true p6
        replace q6 := eq_true q6
        have p8 : 0 ≤ (x4_1 : Int) := of_decide_eq_true (by first | (with_reducible assumption) | assumption)
        have q8 : x4_1 < (a0.size : Int) := of_decide_eq_true (by first | (with_reducible assumption) | assumption)
        have hx8 := bt_at a0 x4_1
        replace p8 := eq_true p8
        replace q8 := eq_true q8
        go_wp2
        go_ret
        exact ⟨by first | rfl | (simp [errW_none, errW_some] <;> rfl) | (simp [*, errW_none, errW_some] <;> rfl), by repeat (first | (with_reducible first | exact HB.out | apply below_alloc | apply pw_below_drewN | apply below_drew1) | exact HB.out)⟩
       ·rw [if_neg c9] at H
        have c9b0 : decide (57 < (bt a0 x4_1)) = false := decide_eq_false c9
        clear c9
        have H' := Aside0.mk H
        clear H
        have p6 : 0 ≤ (x4_1 : Int) := of_decide_eq_true (by first | (with_reducible assumption) | assumption)
        have q6 : x4_1 < (a0.size : Int) := of_decide_eq_true (by first | (with_reducible assumption) | assumption)
        have hx6 := bt_at a0 x4_1
        replace p6 := eq_true p6
        replace q6 := eq_true q6
        have p8 : 0 ≤ (x4_1 : Int) := of_decide_eq_true (by first | (with_reducible assumption) | assumption)
        have q8 : x4_1 < (a0.size : Int) := of_decide_eq_true (by first | (with_reducible assumption) | assumption)
        have hx8 := bt_at a0 x4_1
        replace p8 := eq_true p8
        replace q8 := eq_true q8
        have p10 : 0 ≤ (x4_1 : Int) := of_decide_eq_true (by first | (with_reducible assumption) | assumption)
        have q10 : x4_1 < (a0.size : Int) := of_decide_eq_true (by first | (with_reducible assumption) | assumption)
        have hx10 := bt_at a0 x4_1
        replace p10 := eq_true p10
        replace q10 := eq_true q10
        go_wp2
        go_roundg k1
        case measure => have := HK1.out; omega
        case rel => exact ⟨(wrap64 ((wrap64 (x3_1 * 10)) + (((bt a0 x4_1) - 48) % 256))), (wrap64 (x4_1 + 1)), (by first | rfl | (simp; done) | (simp [*]; done)), (by first | rfl | (simp; done) | (simp [*]; done)), H', ⟨by have := HK1.out; omega⟩, ⟨by repeat (first | (with_reducible first | exact HB.out | apply below_alloc | apply pw_below_drewN | apply below_drew1) | exact HB.out)⟩⟩
     ·rw [if_neg c5] at H
      exact absurd H (by simp)
    ·rw [if_neg c4] at H
     have c4b0 : decide (x4_1 < (a0.size : Int)) = false := decide_eq_false c4
     clear c4
     replace H := Option.bind_eq_some_iff.mp H
     obtain ⟨t111, A110, H⟩ := H
     replace H : (if t111.toList = a0.toList then (some (decide (x3_1 ≤ 1000000))) else (some false)) = some r := H
     have A11 := Aside0.mk A110
     clear A110
     by_cases c12 : t111.toList = a0.toList
     ·rw [if_pos c12] at H
      have c12b0 : (t111.toList == a0.toList) = true := beq_iff_eq.mpr c12
      have c12b1 : (t111.toList != a0.toList) = false := bne_eq_false_iff_eq.mpr c12
      clear c12
      obtain rfl := Option.some.inj H
      go_wp2_with (first | ((with_reducible refine gate_callee (f := 134) rfl ?_); refine goesL_ (some 34) rfl rfl Tryd.func134 (by kernel_rfl) rfl #[.int .i64 x3_1] rfl (by (try simp only [List.map_toArray, List.map_cons, List.map_nil]); first | done | rfl | (simp only [List.length_drop, List.length_take]; rfl)) ?_; (with_reducible refine (spec_l2Dec.calls k1 x3_1 t111 _ A11.out).mono ?_); rintro e w13 ⟨rfl, hb⟩; refine ⟨_, rfl, ?_⟩; have n0_ := Aside0.mk (below_step (stB HB.out) hb); clear HB; have HB := n0_; clear n0_; (try clear hb); (try clear hb2); (try clear hk); (try clear hi)))
      go_ret
      exact ⟨by first | rfl | (simp [errW_none, errW_some] <;> rfl) | (simp [*, errW_none, errW_some] <;> rfl), by repeat (first | (with_reducible first | exact HB.out | apply below_alloc | apply pw_below_drewN | apply below_drew1) | exact HB.out)⟩
     ·rw [if_neg c12] at H
      have c12b0 : (t111.toList == a0.toList) = false := beq_eq_false_iff_ne.mpr c12
      have c12b1 : (t111.toList != a0.toList) = true := bne_iff_ne.mpr c12
      obtain rfl := Option.some.inj H
      go_wp2_with (first | ((with_reducible refine gate_callee (f := 134) rfl ?_); refine goesL_ (some 34) rfl rfl Tryd.func134 (by kernel_rfl) rfl #[.int .i64 x3_1] rfl (by (try simp only [List.map_toArray, List.map_cons, List.map_nil]); first | done | rfl | (simp only [List.length_drop, List.length_take]; rfl)) ?_; (with_reducible refine (spec_l2Dec.calls k1 x3_1 t111 _ A11.out).mono ?_); rintro e w14 ⟨rfl, hb⟩; refine ⟨_, rfl, ?_⟩; have n0_ := Aside0.mk (below_step (stB HB.out) hb); clear HB; have HB := n0_; clear n0_; (try clear hb); (try clear hb2); (try clear hk); (try clear hi)))
      go_ret
      exact ⟨by first | rfl | (simp [errW_none, errW_some] <;> rfl) | (simp [*, errW_none, errW_some] <;> rfl), by repeat (first | (with_reducible first | exact HB.out | apply below_alloc | apply pw_below_drewN | apply below_drew1) | exact HB.out)⟩
 ·replace c3 := Bool.eq_false_iff.mpr c3
  subst c3
  have H1 : (some false) = some r := by rw [if_neg (show ¬ (false = true) by decide)] at H; exact H
  clear H
  have H := H1
  clear H1
  obtain rfl := Option.some.inj H
  go_enter Tryd.func106, Tryd.ntmps106
  go_wp2_with (first | ((with_reducible refine gate_callee (f := 113) rfl ?_); refine goesL_ (some 7) rfl rfl Tryd.func113 (by kernel_rfl) rfl #[.int .i64 (a0.size : Int), .int .i64 1, .int .i64 7] rfl (by (try simp only [List.map_toArray, List.map_cons, List.map_nil]); first | done | rfl | (simp only [List.length_drop, List.length_take]; rfl)) ?_; (with_reducible refine (spec_l1In.calls (a0.size : Int) 1 7 false _ A2.out).mono ?_); rintro e w' ⟨rfl, ⟨nd, rfl⟩⟩; refine ⟨_, rfl, ?_⟩))
  go_ret
  exact ⟨by first | rfl | (simp [errW_none, errW_some] <;> rfl) | (simp [*, errW_none, errW_some] <;> rfl), by repeat (first | (with_reducible first | exact HB.out | apply below_alloc | apply pw_below_drewN | apply below_drew1) | exact HB.out)⟩
def spec_l2Fits.f (k : Nat) (a0 : Int) (a1 : ByteArray) : Option (Bool) := if a0 = 1 then ((spec_l2NumberOk.f k a1).bind fun t112 => (some t112)) else (if a0 = 2 then ((spec_l2NumberOk.f k a1).bind fun t113 => (if t113 = true then (some true) else (if (a1.size : Int) > 1 then (if 0 < (a1.size : Int) then (if (bt a1 0) = 45 then (if 1 ≤ (a1.size : Int) then (if (a1.extract 1 a1.size).toList = ([48] : List UInt8) then (some false) else ((spec_l2NumberOk.f k (a1.extract 1 a1.size)).bind fun t114 => (some t114))) else (none)) else (some false)) else (none)) else (some false)))) else (if a0 = 3 then ((spec_l2NameOk.f k a1).bind fun t115 => (some t115)) else (if a0 = 5 then (if a1.toList = ([121, 101, 115] : List UInt8) then (some true) else (some (a1.toList == ([110, 111] : List UInt8)))) else (if a0 = 6 then (if a1.toList = ([110, 111, 110, 101] : List UInt8) then (some true) else (if a1.toList = ([98, 101, 114, 116, 104] : List UInt8) then (some true) else (some (a1.toList == ([122, 111, 110, 101] : List UInt8))))) else (some (decide ((a1.size : Int) ≤ 200)))))))
set_option maxHeartbeats 8000000 in
set_option maxRecDepth 100000 in
theorem spec_l2Fits.calls (k : Nat) (a0 : Int) (a1 : ByteArray) (r : Bool) (w : World) (h : spec_l2Fits.f k a0 a1 = some r) :
  Calls Tryd.prog 63 #[.int .i64 a0, .string a1] w fun e w' => e = .returned (.bool r) ∧ Below w.heap.size w w' := by
 have HB := Aside0.mk (Below.refl w.heap.size w)
 have H : (if a0 = 1 then ((spec_l2NumberOk.f k a1).bind fun t112 => (some t112)) else (if a0 = 2 then ((spec_l2NumberOk.f k a1).bind fun t113 => (if t113 = true then (some true) else (if (a1.size : Int) > 1 then (if 0 < (a1.size : Int) then (if (bt a1 0) = 45 then (if 1 ≤ (a1.size : Int) then (if (a1.extract 1 a1.size).toList = ([48] : List UInt8) then (some false) else ((spec_l2NumberOk.f k (a1.extract 1 a1.size)).bind fun t114 => (some t114))) else (none)) else (some false)) else (none)) else (some false)))) else (if a0 = 3 then ((spec_l2NameOk.f k a1).bind fun t115 => (some t115)) else (if a0 = 5 then (if a1.toList = ([121, 101, 115] : List UInt8) then (some true) else (some (a1.toList == ([110, 111] : List UInt8)))) else (if a0 = 6 then (if a1.toList = ([110, 111, 110, 101] : List UInt8) then (some true) else (if a1.toList = ([98, 101, 114, 116, 104] : List UInt8) then (some true) else (some (a1.toList == ([122, 111, 110, 101] : List UInt8))))) else (some (decide ((a1.size : Int) ≤ 200)))))))) = some r := h
 clear h
 by_cases c3 : a0 = 1
 ·rw [if_pos c3] at H
  have c3b0 : (a0 == 1) = true := beq_iff_eq.mpr c3
  have c3b1 : (a0 != 1) = false := bne_eq_false_iff_eq.mpr c3
  clear c3
  replace H := Option.bind_eq_some_iff.mp H
  obtain ⟨t112, A40, H⟩ := H
  replace H : (some t112) = some r := H
  have A4 := Aside0.mk A40
  clear A40
  obtain rfl := Option.some.inj H
  go_enter Tryd.func63, Tryd.ntmps63
  go_wp2_with (first | ((with_reducible refine gate_callee (f := 106) rfl ?_); refine goesL_ (some 9) rfl rfl Tryd.func106 (by kernel_rfl) rfl #[.string a1] rfl (by (try simp only [List.map_toArray, List.map_cons, List.map_nil]); first | done | rfl | (simp only [List.length_drop, List.length_take]; rfl)) ?_; (with_reducible refine (spec_l2NumberOk.calls k a1 t112 _ A4.out).mono ?_); rintro e w5 ⟨rfl, hb⟩; refine ⟨_, rfl, ?_⟩; have n0_ := Aside0.mk (below_step (stB HB.out) hb); clear HB; have HB := n0_; clear n0_; (try clear hb); (try clear hb2); (try clear hk); (try clear hi)))
  go_ret
  exact ⟨by first | rfl | (simp [errW_none, errW_some] <;> rfl) | (simp [*, errW_none, errW_some] <;> rfl), by repeat (first | (with_reducible first | exact HB.out | apply below_alloc | apply pw_below_drewN | apply below_drew1) | exact HB.out)⟩
 ·rw [if_neg c3] at H
  have c3b0 : (a0 == 1) = false := beq_eq_false_iff_ne.mpr c3
  have c3b1 : (a0 != 1) = true := bne_iff_ne.mpr c3
  by_cases c6 : a0 = 2
  ·rw [if_pos c6] at H
   have c6b0 : (a0 == 2) = true := beq_iff_eq.mpr c6
   have c6b1 : (a0 != 2) = false := bne_eq_false_iff_eq.mpr c6
   clear c6
   replace H := Option.bind_eq_some_iff.mp H
   obtain ⟨t113, A70, H⟩ := H
   replace H : (if t113 = true then (some true) else (if (a1.size : Int) > 1 then (if 0 < (a1.size : Int) then (if (bt a1 0) = 45 then (if 1 ≤ (a1.size : Int) then (if (a1.extract 1 a1.size).toList = ([48] : List UInt8) then (some false) else ((spec_l2NumberOk.f k (a1.extract 1 a1.size)).bind fun t114 => (some t114))) else (none)) else (some false)) else (none)) else (some false))) = some r := H
   have A7 := Aside0.mk A70
   clear A70
   by_cases c8 : t113 = true
   ·subst c8
    have H1 : (some true) = some r := by rw [if_pos rfl] at H; exact H
    clear H
    have H := H1
    clear H1
    obtain rfl := Option.some.inj H
    go_enter Tryd.func63, Tryd.ntmps63
    go_wp2_with (first | ((with_reducible refine gate_callee (f := 106) rfl ?_); refine goesL_ (some 13) rfl rfl Tryd.func106 (by kernel_rfl) rfl #[.string a1] rfl (by (try simp only [List.map_toArray, List.map_cons, List.map_nil]); first | done | rfl | (simp only [List.length_drop, List.length_take]; rfl)) ?_; (with_reducible refine (spec_l2NumberOk.calls k a1 true _ A7.out).mono ?_); rintro e w9 ⟨rfl, hb⟩; refine ⟨_, rfl, ?_⟩; have n0_ := Aside0.mk (below_step (stB HB.out) hb); clear HB; have HB := n0_; clear n0_; (try clear hb); (try clear hb2); (try clear hk); (try clear hi)))
    go_ret
    exact ⟨by first | rfl | (simp [errW_none, errW_some] <;> rfl) | (simp [*, errW_none, errW_some] <;> rfl), by repeat (first | (with_reducible first | exact HB.out | apply below_alloc | apply pw_below_drewN | apply below_drew1) | exact HB.out)⟩
   ·replace c8 := Bool.eq_false_iff.mpr c8
    subst c8
    have H1 : (if (a1.size : Int) > 1 then (if 0 < (a1.size : Int) then (if (bt a1 0) = 45 then (if 1 ≤ (a1.size : Int) then (if (a1.extract 1 a1.size).toList = ([48] : List UInt8) then (some false) else ((spec_l2NumberOk.f k (a1.extract 1 a1.size)).bind fun t114 => (some t114))) else (none)) else (some false)) else (none)) else (some false)) = some r := by rw [if_neg (show ¬ (false = true) by decide)] at H; exact H
    clear H
    have H := H1
    clear H1
    by_cases c10 : (a1.size : Int) > 1
    ·rw [if_pos c10] at H
     have c10b0 : decide (1 < (a1.size : Int)) = true := decide_eq_true c10
     have c10b1 : decide (1 < a1.size) = true := decide_eq_true (by omega)
     clear c10
     by_cases c11 : 0 < (a1.size : Int)
     ·rw [if_pos c11] at H
      have c11b0 : decide (0 < (a1.size : Int)) = true := decide_eq_true c11
      have c11b1 : decide (0 < a1.size) = true := decide_eq_true (by omega)
      clear c11
      by_cases c13 : (bt a1 0) = 45
      ·rw [if_pos c13] at H
       have c13b0 : ((bt a1 0) == 45) = true := beq_iff_eq.mpr c13
       have c13b1 : ((bt a1 0) != 45) = false := bne_eq_false_iff_eq.mpr c13
       clear c13
       by_cases c14 : 1 ≤ (a1.size : Int)
       ·rw [if_pos c14] at H
        have c14b0 := eq_true c14
        have c14b1 : decide (1 ≤ (a1.size : Int)) = true := decide_eq_true c14
        clear c14
        by_cases c15 : (a1.extract 1 a1.size).toList = ([48] : List UInt8)
        ·rw [if_pos c15] at H
         have c15b0 : ((a1.extract 1 a1.size).toList == ([48] : List UInt8)) = true := beq_iff_eq.mpr c15
         have c15b1 : ((a1.extract 1 a1.size).toList != ([48] : List UInt8)) = false := bne_eq_false_iff_eq.mpr c15
         clear c15
         obtain rfl := Option.some.inj H
         go_enter Tryd.func63, Tryd.ntmps63
         go_wp2_with (first | ((with_reducible refine gate_callee (f := 106) rfl ?_); refine goesL_ (some 13) rfl rfl Tryd.func106 (by kernel_rfl) rfl #[.string a1] rfl (by (try simp only [List.map_toArray, List.map_cons, List.map_nil]); first | done | rfl | (simp only [List.length_drop, List.length_take]; rfl)) ?_; (with_reducible refine (spec_l2NumberOk.calls k a1 false _ A7.out).mono ?_); rintro e w16 ⟨rfl, hb⟩; refine ⟨_, rfl, ?_⟩; have n0_ := Aside0.mk (below_step (stB HB.out) hb); clear HB; have HB := n0_; clear n0_; (try clear hb); (try clear hb2); (try clear hk); (try clear hi); have p12 : 0 ≤ (0 : Int) := (by omega); have q12 : 0 < a1.size := (by have : (0 : Int) < (a1.size : Int) := of_decide_eq_true (by first | (with_reducible assumption) | assumption); omega); have hx12 : ∀ h : 0 < a1.size, ((a1[0]'h).toNat : Int) = bt a1 0 := bt_at a1 0; clear p12; have qi12 : (0 < (a1.size : Int)) = True := eq_true (of_decide_eq_true (by first | (with_reducible assumption) | assumption)); replace q12 := eq_true q12))
         go_ret
         exact ⟨by first | rfl | (simp [errW_none, errW_some] <;> rfl) | (simp [*, errW_none, errW_some] <;> rfl), by repeat (first | (with_reducible first | exact HB.out | apply below_alloc | apply pw_below_drewN | apply below_drew1) | exact HB.out)⟩
        ·rw [if_neg c15] at H
         have c15b0 : ((a1.extract 1 a1.size).toList == ([48] : List UInt8)) = false := beq_eq_false_iff_ne.mpr c15
         have c15b1 : ((a1.extract 1 a1.size).toList != ([48] : List UInt8)) = true := bne_iff_ne.mpr c15
         have c17b0 := eq_true (of_decide_eq_true (by first | (with_reducible assumption) | assumption) : 1 ≤ (a1.size : Int))
         replace H := Option.bind_eq_some_iff.mp H
         obtain ⟨t114, A180, H⟩ := H
         replace H : (some t114) = some r := H
         have A18 := Aside0.mk A180
         clear A180
         obtain rfl := Option.some.inj H
         go_enter Tryd.func63, Tryd.ntmps63
         go_wp2_with (first | ((with_reducible refine gate_callee (f := 106) rfl ?_); refine goesL_ (some 13) rfl rfl Tryd.func106 (by kernel_rfl) rfl #[.string a1] rfl (by (try simp only [List.map_toArray, List.map_cons, List.map_nil]); first | done | rfl | (simp only [List.length_drop, List.length_take]; rfl)) ?_; (with_reducible refine (spec_l2NumberOk.calls k a1 false _ A7.out).mono ?_); rintro e w19 ⟨rfl, hb⟩; refine ⟨_, rfl, ?_⟩; have n0_ := Aside0.mk (below_step (stB HB.out) hb); clear HB; have HB := n0_; clear n0_; (try clear hb); (try clear hb2); (try clear hk); (try clear hi); have p12 : 0 ≤ (0 : Int) := (by omega); have q12 : 0 < a1.size := (by have : (0 : Int) < (a1.size : Int) := of_decide_eq_true (by first | (with_reducible assumption) | assumption); omega); have hx12 : ∀ h : 0 < a1.size, ((a1[0]'h).toNat : Int) = bt a1 0 := bt_at a1 0; clear p12; have qi12 : (0 < (a1.size : Int)) = True := eq_true (of_decide_eq_true (by first | (with_reducible assumption) | assumption)); replace q12 := eq_true q12) | (go_at_call 106; (with_reducible refine (spec_l2NumberOk.calls k (a1.extract 1 a1.size) t114 _ A18.out).mono ?_); rintro e w20 ⟨rfl, hb⟩; have n0_ := Aside0.mk (below_step (stB HB.out) hb); clear HB; have HB := n0_; clear n0_; (try clear hb); (try clear hb2); (try clear hk); (try clear hi)))
         go_ret
         exact ⟨by first | rfl | (simp [errW_none, errW_some] <;> rfl) | (simp [*, errW_none, errW_some] <;> rfl), by repeat (first | (with_reducible first | exact HB.out | apply below_alloc | apply pw_below_drewN | apply below_drew1) | exact HB.out)⟩
       ·rw [if_neg c14] at H
        exact absurd H (by simp)
      ·rw [if_neg c13] at H
       have c13b0 : ((bt a1 0) == 45) = false := beq_eq_false_iff_ne.mpr c13
       have c13b1 : ((bt a1 0) != 45) = true := bne_iff_ne.mpr c13
       obtain rfl := Option.some.inj H
       go_enter Tryd.func63, Tryd.ntmps63
       go_wp2_with (first | ((with_reducible refine gate_callee (f := 106) rfl ?_); refine goesL_ (some 13) rfl rfl Tryd.func106 (by kernel_rfl) rfl #[.string a1] rfl (by (try simp only [List.map_toArray, List.map_cons, List.map_nil]); first | done | rfl | (simp only [List.length_drop, List.length_take]; rfl)) ?_; (with_reducible refine (spec_l2NumberOk.calls k a1 false _ A7.out).mono ?_); rintro e w21 ⟨rfl, hb⟩; refine ⟨_, rfl, ?_⟩; have n0_ := Aside0.mk (below_step (stB HB.out) hb); clear HB; have HB := n0_; clear n0_; (try clear hb); (try clear hb2); (try clear hk); (try clear hi); have p12 : 0 ≤ (0 : Int) := (by omega); have q12 : 0 < a1.size := (by have : (0 : Int) < (a1.size : Int) := of_decide_eq_true (by first | (with_reducible assumption) | assumption); omega); have hx12 : ∀ h : 0 < a1.size, ((a1[0]'h).toNat : Int) = bt a1 0 := bt_at a1 0; clear p12; have qi12 : (0 < (a1.size : Int)) = True := eq_true (of_decide_eq_true (by first | (with_reducible assumption) | assumption)); replace q12 := eq_true q12))
       go_ret
       exact ⟨by first | rfl | (simp [errW_none, errW_some] <;> rfl) | (simp [*, errW_none, errW_some] <;> rfl), by repeat (first | (with_reducible first | exact HB.out | apply below_alloc | apply pw_below_drewN | apply below_drew1) | exact HB.out)⟩
     ·rw [if_neg c11] at H
      exact absurd H (by simp)
    ·rw [if_neg c10] at H
     have c10b0 : decide (1 < (a1.size : Int)) = false := decide_eq_false c10
     have c10b1 : decide (1 < a1.size) = false := decide_eq_false (by omega)
     clear c10
     obtain rfl := Option.some.inj H
     go_enter Tryd.func63, Tryd.ntmps63
     go_wp2_with (first | ((with_reducible refine gate_callee (f := 106) rfl ?_); refine goesL_ (some 13) rfl rfl Tryd.func106 (by kernel_rfl) rfl #[.string a1] rfl (by (try simp only [List.map_toArray, List.map_cons, List.map_nil]); first | done | rfl | (simp only [List.length_drop, List.length_take]; rfl)) ?_; (with_reducible refine (spec_l2NumberOk.calls k a1 false _ A7.out).mono ?_); rintro e w22 ⟨rfl, hb⟩; refine ⟨_, rfl, ?_⟩; have n0_ := Aside0.mk (below_step (stB HB.out) hb); clear HB; have HB := n0_; clear n0_; (try clear hb); (try clear hb2); (try clear hk); (try clear hi)))
     go_ret
     exact ⟨by first | rfl | (simp [errW_none, errW_some] <;> rfl) | (simp [*, errW_none, errW_some] <;> rfl), by repeat (first | (with_reducible first | exact HB.out | apply below_alloc | apply pw_below_drewN | apply below_drew1) | exact HB.out)⟩
  ·rw [if_neg c6] at H
   have c6b0 : (a0 == 2) = false := beq_eq_false_iff_ne.mpr c6
   have c6b1 : (a0 != 2) = true := bne_iff_ne.mpr c6
   by_cases c23 : a0 = 3
   ·rw [if_pos c23] at H
    have c23b0 : (a0 == 3) = true := beq_iff_eq.mpr c23
    have c23b1 : (a0 != 3) = false := bne_eq_false_iff_eq.mpr c23
    clear c23
    replace H := Option.bind_eq_some_iff.mp H
    obtain ⟨t115, A240, H⟩ := H
    replace H : (some t115) = some r := H
    have A24 := Aside0.mk A240
    clear A240
    obtain rfl := Option.some.inj H
    go_enter Tryd.func63, Tryd.ntmps63
    go_wp2_with (first | ((with_reducible refine gate_callee (f := 71) rfl ?_); refine goesL_ (some 37) rfl rfl Tryd.func71 (by kernel_rfl) rfl #[.string a1] rfl (by (try simp only [List.map_toArray, List.map_cons, List.map_nil]); first | done | rfl | (simp only [List.length_drop, List.length_take]; rfl)) ?_; (with_reducible refine (spec_l2NameOk.calls k a1 t115 _ A24.out).mono ?_); rintro e w' ⟨rfl, ⟨nd, rfl⟩⟩; refine ⟨_, rfl, ?_⟩))
    go_ret
    exact ⟨by first | rfl | (simp [errW_none, errW_some] <;> rfl) | (simp [*, errW_none, errW_some] <;> rfl), by repeat (first | (with_reducible first | exact HB.out | apply below_alloc | apply pw_below_drewN | apply below_drew1) | exact HB.out)⟩
   ·rw [if_neg c23] at H
    have c23b0 : (a0 == 3) = false := beq_eq_false_iff_ne.mpr c23
    have c23b1 : (a0 != 3) = true := bne_iff_ne.mpr c23
    by_cases c25 : a0 = 5
    ·rw [if_pos c25] at H
     have c25b0 : (a0 == 5) = true := beq_iff_eq.mpr c25
     have c25b1 : (a0 != 5) = false := bne_eq_false_iff_eq.mpr c25
     clear c25
     by_cases c26 : a1.toList = ([121, 101, 115] : List UInt8)
     ·rw [if_pos c26] at H
      have c26b0 : (a1.toList == ([121, 101, 115] : List UInt8)) = true := beq_iff_eq.mpr c26
      have c26b1 : (a1.toList != ([121, 101, 115] : List UInt8)) = false := bne_eq_false_iff_eq.mpr c26
      clear c26
      obtain rfl := Option.some.inj H
      go_enter Tryd.func63, Tryd.ntmps63
      go_wp2
      go_ret
      exact ⟨by first | rfl | (simp [errW_none, errW_some] <;> rfl) | (simp [*, errW_none, errW_some] <;> rfl), by repeat (first | (with_reducible first | exact HB.out | apply below_alloc | apply pw_below_drewN | apply below_drew1) | exact HB.out)⟩
     ·rw [if_neg c26] at H
      have c26b0 : (a1.toList == ([121, 101, 115] : List UInt8)) = false := beq_eq_false_iff_ne.mpr c26
      have c26b1 : (a1.toList != ([121, 101, 115] : List UInt8)) = true := bne_iff_ne.mpr c26
      obtain rfl := Option.some.inj H
      go_enter Tryd.func63, Tryd.ntmps63
      go_wp2
      go_ret
      exact ⟨by first | rfl | (simp [errW_none, errW_some] <;> rfl) | (simp [*, errW_none, errW_some] <;> rfl), by repeat (first | (with_reducible first | exact HB.out | apply below_alloc | apply pw_below_drewN | apply below_drew1) | exact HB.out)⟩
    ·rw [if_neg c25] at H
     have c25b0 : (a0 == 5) = false := beq_eq_false_iff_ne.mpr c25
     have c25b1 : (a0 != 5) = true := bne_iff_ne.mpr c25
     by_cases c27 : a0 = 6
     ·rw [if_pos c27] at H
      have c27b0 : (a0 == 6) = true := beq_iff_eq.mpr c27
      have c27b1 : (a0 != 6) = false := bne_eq_false_iff_eq.mpr c27
      clear c27
      by_cases c28 : a1.toList = ([110, 111, 110, 101] : List UInt8)
      ·rw [if_pos c28] at H
       have c28b0 : (a1.toList == ([110, 111, 110, 101] : List UInt8)) = true := beq_iff_eq.mpr c28
       have c28b1 : (a1.toList != ([110, 111, 110, 101] : List UInt8)) = false := bne_eq_false_iff_eq.mpr c28
       clear c28
       obtain rfl := Option.some.inj H
       go_enter Tryd.func63, Tryd.ntmps63
       go_wp2
       go_ret
       exact ⟨by first | rfl | (simp [errW_none, errW_some] <;> rfl) | (simp [*, errW_none, errW_some] <;> rfl), by repeat (first | (with_reducible first | exact HB.out | apply below_alloc | apply pw_below_drewN | apply below_drew1) | exact HB.out)⟩
      ·rw [if_neg c28] at H
       have c28b0 : (a1.toList == ([110, 111, 110, 101] : List UInt8)) = false := beq_eq_false_iff_ne.mpr c28
       have c28b1 : (a1.toList != ([110, 111, 110, 101] : List UInt8)) = true := bne_iff_ne.mpr c28
       by_cases c29 : a1.toList = ([98, 101, 114, 116, 104] : List UInt8)
       ·rw [if_pos c29] at H
        have c29b0 : (a1.toList == ([98, 101, 114, 116, 104] : List UInt8)) = true := beq_iff_eq.mpr c29
        have c29b1 : (a1.toList != ([98, 101, 114, 116, 104] : List UInt8)) = false := bne_eq_false_iff_eq.mpr c29
        clear c29
        obtain rfl := Option.some.inj H
        go_enter Tryd.func63, Tryd.ntmps63
        go_wp2
        go_ret
        exact ⟨by first | rfl | (simp [errW_none, errW_some] <;> rfl) | (simp [*, errW_none, errW_some] <;> rfl), by repeat (first | (with_reducible first | exact HB.out | apply below_alloc | apply pw_below_drewN | apply below_drew1) | exact HB.out)⟩
       ·rw [if_neg c29] at H
        have c29b0 : (a1.toList == ([98, 101, 114, 116, 104] : List UInt8)) = false := beq_eq_false_iff_ne.mpr c29
        have c29b1 : (a1.toList != ([98, 101, 114, 116, 104] : List UInt8)) = true := bne_iff_ne.mpr c29
        obtain rfl := Option.some.inj H
        go_enter Tryd.func63, Tryd.ntmps63
        go_wp2
        go_ret
        exact ⟨by first | rfl | (simp [errW_none, errW_some] <;> rfl) | (simp [*, errW_none, errW_some] <;> rfl), by repeat (first | (with_reducible first | exact HB.out | apply below_alloc | apply pw_below_drewN | apply below_drew1) | exact HB.out)⟩
     ·rw [if_neg c27] at H
      have c27b0 : (a0 == 6) = false := beq_eq_false_iff_ne.mpr c27
      have c27b1 : (a0 != 6) = true := bne_iff_ne.mpr c27
      obtain rfl := Option.some.inj H
      go_enter Tryd.func63, Tryd.ntmps63
      go_wp2
      go_ret
      exact ⟨by first | rfl | (simp [errW_none, errW_some] <;> rfl) | (simp [*, errW_none, errW_some] <;> rfl), by repeat (first | (with_reducible first | exact HB.out | apply below_alloc | apply pw_below_drewN | apply below_drew1) | exact HB.out)⟩
mutual
def impl_isNumber.j0 : Nat → ByteArray → Bool → Option (Bool)
 | 0, _, _ => none
 | k + 1, x0, x21 => if x21 = true then (some false) else (impl_isNumber.l0 k x0 0 (x0.size : Int) 0)
def impl_isNumber.l0 : Nat → ByteArray → Int → Int → Int → Option (Bool)
 | 0, _, _, _, _ => none
 | k + 1, x0, x3, x23, x24 => if x24 < x23 then (if 0 ≤ x24 then (if x24 < (x0.size : Int) then (if (bt x0 x24) < 48 then (some false) else (if (bt x0 x24) > 57 then (some false) else (impl_isNumber.l0 k x0 (wrap64 ((wrap64 (10 * x3)) + (((bt x0 x24) - 48) % 256))) x23 (wrap64 (x24 + 1))))) else (none)) else (none)) else (some (decide (x3 ≤ 1000000)))
end
def impl_isNumber.f (k : Nat) (a0 : ByteArray) : Option (Bool) := if a0.toList = ([] : List UInt8) then (impl_isNumber.j0 k a0 true) else (if (a0.size : Int) > 7 then (impl_isNumber.j0 k a0 true) else (if (a0.size : Int) > 1 then (if 0 < (a0.size : Int) then (impl_isNumber.j0 k a0 ((bt a0 0) == 48)) else (none)) else (impl_isNumber.j0 k a0 false)))
set_option maxHeartbeats 8000000 in
set_option maxRecDepth 100000 in
theorem impl_isNumber.calls (k : Nat) (a0 : ByteArray) (r : Bool) (w : World) (h : impl_isNumber.f k a0 = some r) :
  Calls Tryd.prog 107 #[.string a0] w fun e w' => e = .returned (.bool r) ∧ Drawn0 w w' := by
 have H : (if a0.toList = ([] : List UInt8) then (impl_isNumber.j0 k a0 true) else (if (a0.size : Int) > 7 then (impl_isNumber.j0 k a0 true) else (if (a0.size : Int) > 1 then (if 0 < (a0.size : Int) then (impl_isNumber.j0 k a0 ((bt a0 0) == 48)) else (none)) else (impl_isNumber.j0 k a0 false)))) = some r := h
 clear h
 have HC2 := Aside0.mk H
 clear H
 go_enter Tryd.func107, Tryd.ntmps107
 go_upto_region 1 with (fail)
 go_cut [21] (fun v21 wc => ∃ (kq : Nat) (x21_1 : Bool), v21 = .bool x21_1 ∧ Aside0 (impl_isNumber.j0 kq a0 x21_1 = some r) ∧ Aside0 (kq ≤ k) ∧ Drawn0 w wc)
 case first =>
  have H := HC2.out
  clear HC2
  by_cases c3 : a0.toList = ([] : List UInt8)
  ·rw [if_pos c3] at H
   have c3b0 : (a0.toList == ([] : List UInt8)) = true := beq_iff_eq.mpr c3
   have c3b1 : (a0.toList != ([] : List UInt8)) = false := bne_eq_false_iff_eq.mpr c3
   clear c3
   (first | rw [c3b0] | (simp only [i64_w, i32_w]; rw [c3b0]) | skip)
   have H' := Aside0.mk H
   clear H
   go_wp2
   go_meet
   case rel => exact ⟨_, (true), (by first | rfl | (simp; done) | (simp [*]; done)), H', ⟨by first | omega | exact Nat.le_refl _⟩, by repeat (first | exact Drawn0.refl _ | apply Drawn0.step)⟩
  ·rw [if_neg c3] at H
   have c3b0 : (a0.toList == ([] : List UInt8)) = false := beq_eq_false_iff_ne.mpr c3
   have c3b1 : (a0.toList != ([] : List UInt8)) = true := bne_iff_ne.mpr c3
   (first | rw [c3b0] | (simp only [i64_w, i32_w]; rw [c3b0]) | skip)
   by_cases c4 : (a0.size : Int) > 7
   ·rw [if_pos c4] at H
    have c4b0 : decide (7 < (a0.size : Int)) = true := decide_eq_true c4
    have c4b1 : decide (7 < a0.size) = true := decide_eq_true (by omega)
    clear c4
    have H' := Aside0.mk H
    clear H
    go_wp2
    go_meet
    case rel => exact ⟨_, (true), (by first | rfl | (simp; done) | (simp [*]; done)), H', ⟨by first | omega | exact Nat.le_refl _⟩, by repeat (first | exact Drawn0.refl _ | apply Drawn0.step)⟩
   ·rw [if_neg c4] at H
    have c4b0 : decide (7 < (a0.size : Int)) = false := decide_eq_false c4
    have c4b1 : decide (7 < a0.size) = false := decide_eq_false (by omega)
    clear c4
    by_cases c5 : (a0.size : Int) > 1
    ·rw [if_pos c5] at H
     have c5b0 : decide (1 < (a0.size : Int)) = true := decide_eq_true c5
     have c5b1 : decide (1 < a0.size) = true := decide_eq_true (by omega)
     clear c5
     by_cases c6 : 0 < (a0.size : Int)
     ·rw [if_pos c6] at H
      have c6b0 : decide (0 < (a0.size : Int)) = true := decide_eq_true c6
      have c6b1 : decide (0 < a0.size) = true := decide_eq_true (by omega)
      clear c6
      have H' := Aside0.mk H
      clear H
      have p7 : 0 ≤ (0 : Int) := (by omega)
      have q7 : 0 < a0.size := (by have : (0 : Int) < (a0.size : Int) := of_decide_eq_true (by first | (with_reducible assumption) | assumption); omega)
      have hx7 : ∀ h : 0 < a0.size, ((a0[0]'h).toNat : Int) = bt a0 0 := bt_at a0 0
      clear p7
      have qi7 : (0 < (a0.size : Int)) = True := eq_true (of_decide_eq_true (by first | (with_reducible assumption) | assumption))
      replace q7 := eq_true q7
      go_wp2
      go_meet
      case rel => exact ⟨_, (((bt a0 0) == 48)), (by first | rfl | (simp; done) | (simp [*]; done)), H', ⟨by first | omega | exact Nat.le_refl _⟩, by repeat (first | exact Drawn0.refl _ | apply Drawn0.step)⟩
     ·rw [if_neg c6] at H
      exact absurd H (by simp)
    ·rw [if_neg c5] at H
     have c5b0 : decide (1 < (a0.size : Int)) = false := decide_eq_false c5
     have c5b1 : decide (1 < a0.size) = false := decide_eq_false (by omega)
     clear c5
     have H' := Aside0.mk H
     clear H
     go_wp2
     go_meet
     case rel => exact ⟨_, (false), (by first | rfl | (simp; done) | (simp [*]; done)), H', ⟨by first | omega | exact Nat.le_refl _⟩, by repeat (first | exact Drawn0.refl _ | apply Drawn0.step)⟩
 case rest =>
  clear HC2
  try clear c1
  try clear p2
  try clear c3
  try clear c3b0
  try clear c3b1
  try clear c4
  try clear c4b0
  try clear c4b1
  try clear c5
  try clear c5b0
  try clear c5b1
  try clear c6
  try clear c6b0
  try clear c6b1
  try clear p7
  try clear q7
  try clear hx7
  try clear qi7
  try clear p7
  try clear q7
  obtain ⟨kq, x21_1, rfl, HA, HJ1, ⟨mc1, rfl⟩⟩ := hcut
  cases kq with
  | zero => exact absurd HA.out (by simp [impl_isNumber.j0])
  | succ kj1 =>
   have H := HA.out
   clear HA
   simp only [impl_isNumber.j0] at H
   by_cases c8 : x21_1 = true
   ·subst c8
    have H1 : (some false) = some r := by rw [if_pos rfl] at H; exact H
    clear H
    have H := H1
    clear H1
    obtain rfl := Option.some.inj H
    go_wp2
    go_ret
    exact ⟨by first | rfl | (simp; done) | (simp [*]; done), by repeat (first | exact Drawn0.refl _ | apply Drawn0.step)⟩
   ·replace c8 := Bool.eq_false_iff.mpr c8
    subst c8
    have H1 : (impl_isNumber.l0 kj1 a0 0 (a0.size : Int) 0) = some r := by rw [if_neg (show ¬ (false = true) by decide)] at H; exact H
    clear H
    have H := H1
    clear H1
    have H' := Aside0.mk H
    clear H
    go_wp2
    go_loopg [3, 24] kj1 (fun kq v3 v24 w' => ∃ (x3_2 : Int) (x24_2 : Int), v3 = .int .i64 x3_2 ∧ v24 = .int .i64 x24_2 ∧ Aside0 (impl_isNumber.l0 kq a0 x3_2 (a0.size : Int) x24_2 = some r) ∧ Aside0 (kq ≤ kj1) ∧ Drawn0 w w')
    case atStart => exact ⟨(0), (0), (by first | rfl | (simp; done) | (simp [*]; done)), (by first | rfl | (simp; done) | (simp [*]; done)), H', ⟨Nat.le_refl _⟩, by repeat (first | exact Drawn0.refl _ | apply Drawn0.step)⟩
    case round =>
     clear H'
     try clear c1
     try clear p2
     try clear c3
     try clear c3b0
     try clear c3b1
     try clear c4
     try clear c4b0
     try clear c4b1
     try clear c5
     try clear c5b0
     try clear c5b1
     try clear c6
     try clear c6b0
     try clear c6b1
     try clear p7
     try clear q7
     try clear hx7
     try clear qi7
     try clear c8
     try clear p2
     try clear p7
     try clear q7
     obtain ⟨x3_2, x24_2, rfl, rfl, HA, HK2, ⟨m2, rfl⟩⟩ := hrel
     cases gk with
     | zero => exact absurd HA.out (by simp [impl_isNumber.l0])
     | succ k2 =>
      have H := HA.out
      clear HA
      simp only [impl_isNumber.l0] at H
      by_cases c9 : x24_2 < (a0.size : Int)
      ·rw [if_pos c9] at H
       have c9b0 : decide (x24_2 < (a0.size : Int)) = true := decide_eq_true c9
       clear c9
       by_cases c10 : 0 ≤ x24_2
       ·rw [if_pos c10] at H
        have c10b0 : decide (0 ≤ x24_2) = true := decide_eq_true c10
        clear c10
        by_cases c11 : x24_2 < (a0.size : Int)
        ·rw [if_pos c11] at H
         have c11b0 : decide (x24_2 < (a0.size : Int)) = true := decide_eq_true c11
         clear c11
         by_cases c13 : (bt a0 x24_2) < 48
         ·rw [if_pos c13] at H
          have c13b0 : decide ((bt a0 x24_2) < 48) = true := decide_eq_true c13
          clear c13
          obtain rfl := Option.some.inj H
          have p12 : 0 ≤ (x24_2 : Int) := of_decide_eq_true (by first | (with_reducible assumption) | assumption)
          have q12 : x24_2 < (a0.size : Int) := of_decide_eq_true (by first | (with_reducible assumption) | assumption)
          have hx12 := bt_at a0 x24_2
          replace p12 := eq_true p12
          replace q12 := eq_true q12
          go_wp2
          go_ret
          exact ⟨by first | rfl | (simp; done) | (simp [*]; done), by repeat (first | exact Drawn0.refl _ | apply Drawn0.step)⟩
         ·rw [if_neg c13] at H
          have c13b0 : decide ((bt a0 x24_2) < 48) = false := decide_eq_false c13
          clear c13
          by_cases c15 : (bt a0 x24_2) > 57
          ·rw [if_pos c15] at H
           have c15b0 : decide (57 < (bt a0 x24_2)) = true := decide_eq_true c15
           clear c15
           obtain rfl := Option.some.inj H
           have p12 : 0 ≤ (x24_2 : Int) := of_decide_eq_true (by first | (with_reducible assumption) | assumption)
           have q12 : x24_2 < (a0.size : Int) := of_decide_eq_true (by first | (with_reducible assumption) | assumption)
           have hx12 := bt_at a0 x24_2
           replace p12 := eq_true p12
           replace q12 := eq_true q12
           have p14 : 0 ≤ (x24_2 : Int) := of_decide_eq_true (by first | (with_reducible assumption) | assumption)
           have q14 : x24_2 < (a0.size : Int) := of_decide_eq_true (by first | (with_reducible assumption) | assumption)
           have hx14 := bt_at a0 x24_2
           replace p14 := eq_true p14
           replace q14 := eq_true q14
           go_wp2
           go_ret
           exact ⟨by first | rfl | (simp; done) | (simp [*]; done), by repeat (first | exact Drawn0.refl _ | apply Drawn0.step)⟩
          ·rw [if_neg c15] at H
           have c15b0 : decide (57 < (bt a0 x24_2)) = false := decide_eq_false c15
           clear c15
           have H' := Aside0.mk H
           clear H
           have p12 : 0 ≤ (x24_2 : Int) := of_decide_eq_true (by first | (with_reducible assumption) | assumption)
           have q12 : x24_2 < (a0.size : Int) := of_decide_eq_true (by first | (with_reducible assumption) | assumption)
           have hx12 := bt_at a0 x24_2
           replace p12 := eq_true p12
           replace q12 := eq_true q12
           have p14 : 0 ≤ (x24_2 : Int) := of_decide_eq_true (by first | (with_reducible assumption) | assumption)
           have q14 : x24_2 < (a0.size : Int) := of_decide_eq_true (by first | (with_reducible assumption) | assumption)
           have hx14 := bt_at a0 x24_2
           replace p14 := eq_true p14
           replace q14 := eq_true q14
           have p16 : 0 ≤ (x24_2 : Int) := of_decide_eq_true (by first | (with_reducible assumption) | assumption)
           have q16 : x24_2 < (a0.size : Int) := of_decide_eq_true (by first | (with_reducible assumption) | assumption)
           have hx16 := bt_at a0 x24_2
           replace p16 := eq_true p16
           replace q16 := eq_true q16
           go_wp2
           go_roundg k2
           case measure => have := HJ1.out; have := HK2.out; omega
           case rel => exact ⟨(wrap64 ((wrap64 (10 * x3_2)) + (((bt a0 x24_2) - 48) % 256))), (wrap64 (x24_2 + 1)), (by first | rfl | (simp; done) | (simp [*]; done)), (by first | rfl | (simp; done) | (simp [*]; done)), H', ⟨by have := HJ1.out; have := HK2.out; omega⟩, by repeat (first | exact Drawn0.refl _ | apply Drawn0.step)⟩
        ·rw [if_neg c11] at H
         exact absurd H (by simp)
       ·rw [if_neg c10] at H
        exact absurd H (by simp)
      ·rw [if_neg c9] at H
       have c9b0 : decide (x24_2 < (a0.size : Int)) = false := decide_eq_false c9
       clear c9
       obtain rfl := Option.some.inj H
       go_wp2
       go_ret
       exact ⟨by first | rfl | (simp; done) | (simp [*]; done), by repeat (first | exact Drawn0.refl _ | apply Drawn0.step)⟩
def stringslite_HasPrefix.f (a0 : ByteArray) (a1 : ByteArray) : Option (Bool) := if (a0.size : Int) ≥ (a1.size : Int) then (if 0 ≤ (a1.size : Int) then (if (a1.size : Int) ≤ (a0.size : Int) then (some ((a0.extract 0 ((a1.size : Int) : Int).toNat).toList == a1.toList)) else (none)) else (none)) else (some false)
set_option maxHeartbeats 8000000 in
set_option maxRecDepth 100000 in
theorem stringslite_HasPrefix.calls (a0 : ByteArray) (a1 : ByteArray) (r : Bool) (w : World) (h : stringslite_HasPrefix.f a0 a1 = some r) :
  Calls Tryd.prog 150 #[.string a0, .string a1] w fun e w' => e = .returned (.bool r) ∧ Drawn0 w w' := by
 have H : (if (a0.size : Int) ≥ (a1.size : Int) then (if 0 ≤ (a1.size : Int) then (if (a1.size : Int) ≤ (a0.size : Int) then (some ((a0.extract 0 ((a1.size : Int) : Int).toNat).toList == a1.toList)) else (none)) else (none)) else (some false)) = some r := h
 clear h
 by_cases c3 : (a0.size : Int) ≥ (a1.size : Int)
 ·rw [if_pos c3] at H
  have c3b0 : decide ((a1.size : Int) ≤ (a0.size : Int)) = true := decide_eq_true c3
  have c3b1 : decide (a1.size ≤ a0.size) = true := decide_eq_true (Int.ofNat_le.mp c3)
  clear c3
  by_cases c4 : 0 ≤ (a1.size : Int)
  ·rw [if_pos c4] at H
   have c4b0 := eq_true c4
   have c4b1 : decide (0 ≤ (a1.size : Int)) = true := decide_eq_true c4
   clear c4
   by_cases c5 : (a1.size : Int) ≤ (a0.size : Int)
   ·rw [if_pos c5] at H
    have c5b0 := eq_true c5
    have c5b1 : decide ((a1.size : Int) ≤ (a0.size : Int)) = true := decide_eq_true c5
    clear c5
    obtain rfl := Option.some.inj H
    go_enter Tryd.func150, Tryd.ntmps150
    go_wp2
    go_ret
    exact ⟨by first | rfl | (simp; done) | (simp [*]; done), by repeat (first | exact Drawn0.refl _ | apply Drawn0.step)⟩
   ·rw [if_neg c5] at H
    exact absurd H (by simp)
  ·rw [if_neg c4] at H
   exact absurd H (by simp)
 ·rw [if_neg c3] at H
  have c3b0 : decide ((a1.size : Int) ≤ (a0.size : Int)) = false := decide_eq_false c3
  have c3b1 : decide (a1.size ≤ a0.size) = false := decide_eq_false (fun h => c3 (Int.ofNat_le.mpr h))
  clear c3
  obtain rfl := Option.some.inj H
  go_enter Tryd.func150, Tryd.ntmps150
  go_wp2
  go_ret
  exact ⟨by first | rfl | (simp; done) | (simp [*]; done), by repeat (first | exact Drawn0.refl _ | apply Drawn0.step)⟩
def stringslite_CutPrefix.f (a0 : ByteArray) (a1 : ByteArray) : Option (ByteArray × Bool) := (stringslite_HasPrefix.f a0 a1).bind fun t238 => (if t238 = true then (if 0 ≤ (a1.size : Int) then (if (a1.size : Int) ≤ (a0.size : Int) then (some (a0.extract ((a1.size : Int) : Int).toNat a0.size, true)) else (none)) else (none)) else (some (a0, false)))
set_option maxHeartbeats 8000000 in
set_option maxRecDepth 100000 in
theorem stringslite_CutPrefix.calls (a0 : ByteArray) (a1 : ByteArray) (r1 : ByteArray) (r2 : Bool) (w : World) (h : stringslite_CutPrefix.f a0 a1 = some (r1, r2)) :
  Calls Tryd.prog 135 #[.string a0, .string a1] w fun e w' => e = .returned (.tuple #[.string r1, .bool r2]) ∧ Drawn0 w w' := by
 have H : ((stringslite_HasPrefix.f a0 a1).bind fun t238 => (if t238 = true then (if 0 ≤ (a1.size : Int) then (if (a1.size : Int) ≤ (a0.size : Int) then (some (a0.extract ((a1.size : Int) : Int).toNat a0.size, true)) else (none)) else (none)) else (some (a0, false)))) = some (r1, r2) := h
 clear h
 replace H := Option.bind_eq_some_iff.mp H
 obtain ⟨t238, A30, H⟩ := H
 replace H : (if t238 = true then (if 0 ≤ (a1.size : Int) then (if (a1.size : Int) ≤ (a0.size : Int) then (some (a0.extract ((a1.size : Int) : Int).toNat a0.size, true)) else (none)) else (none)) else (some (a0, false))) = some (r1, r2) := H
 have A3 := Aside0.mk A30
 clear A30
 by_cases c4 : t238 = true
 ·subst c4
  have H1 : (if 0 ≤ (a1.size : Int) then (if (a1.size : Int) ≤ (a0.size : Int) then (some (a0.extract ((a1.size : Int) : Int).toNat a0.size, true)) else (none)) else (none)) = some (r1, r2) := by rw [if_pos rfl] at H; exact H
  clear H
  have H := H1
  clear H1
  by_cases c5 : 0 ≤ (a1.size : Int)
  ·rw [if_pos c5] at H
   have c5b0 := eq_true c5
   have c5b1 : decide (0 ≤ (a1.size : Int)) = true := decide_eq_true c5
   clear c5
   by_cases c6 : (a1.size : Int) ≤ (a0.size : Int)
   ·rw [if_pos c6] at H
    have c6b0 := eq_true c6
    have c6b1 : decide ((a1.size : Int) ≤ (a0.size : Int)) = true := decide_eq_true c6
    clear c6
    simp only [Option.some.injEq, Prod.mk.injEq] at H
    obtain ⟨rfl, rfl⟩ := H
    go_enter Tryd.func135, Tryd.ntmps135
    go_wp2_with (first | ((with_reducible refine gate_callee (f := 150) rfl ?_); refine goesL_ (some 8) rfl rfl Tryd.func150 (by kernel_rfl) rfl #[.string a0, .string a1] rfl (by (try simp only [List.map_toArray, List.map_cons, List.map_nil]); first | done | rfl | (simp only [List.length_drop, List.length_take]; rfl)) ?_; (with_reducible refine (stringslite_HasPrefix.calls a0 a1 true _ A3.out).mono ?_); rintro e w' ⟨rfl, ⟨nd, rfl⟩⟩; refine ⟨_, rfl, ?_⟩))
    go_ret2
    exact ⟨by first | rfl | (simp; done) | (simp [*]; done), by repeat (first | exact Drawn0.refl _ | apply Drawn0.step)⟩
   ·rw [if_neg c6] at H
    exact absurd H (by simp)
  ·rw [if_neg c5] at H
   exact absurd H (by simp)
 ·replace c4 := Bool.eq_false_iff.mpr c4
  subst c4
  have H1 : (some (a0, false)) = some (r1, r2) := by rw [if_neg (show ¬ (false = true) by decide)] at H; exact H
  clear H
  have H := H1
  clear H1
  simp only [Option.some.injEq, Prod.mk.injEq] at H
  obtain ⟨rfl, rfl⟩ := H
  go_enter Tryd.func135, Tryd.ntmps135
  go_wp2_with (first | ((with_reducible refine gate_callee (f := 150) rfl ?_); refine goesL_ (some 8) rfl rfl Tryd.func150 (by kernel_rfl) rfl #[.string a0, .string a1] rfl (by (try simp only [List.map_toArray, List.map_cons, List.map_nil]); first | done | rfl | (simp only [List.length_drop, List.length_take]; rfl)) ?_; (with_reducible refine (stringslite_HasPrefix.calls a0 a1 false _ A3.out).mono ?_); rintro e w' ⟨rfl, ⟨nd, rfl⟩⟩; refine ⟨_, rfl, ?_⟩))
  go_ret2
  exact ⟨by first | rfl | (simp; done) | (simp [*]; done), by repeat (first | exact Drawn0.refl _ | apply Drawn0.step)⟩
def strings_CutPrefix.f (a0 : ByteArray) (a1 : ByteArray) : Option (ByteArray × Bool) := (stringslite_CutPrefix.f a0 a1).bind fun bt239 => (some (bt239.1, bt239.2))
set_option maxHeartbeats 8000000 in
set_option maxRecDepth 100000 in
theorem strings_CutPrefix.calls (a0 : ByteArray) (a1 : ByteArray) (r1 : ByteArray) (r2 : Bool) (w : World) (h : strings_CutPrefix.f a0 a1 = some (r1, r2)) :
  Calls Tryd.prog 108 #[.string a0, .string a1] w fun e w' => e = .returned (.tuple #[.string r1, .bool r2]) ∧ Drawn0 w w' := by
 have H : ((stringslite_CutPrefix.f a0 a1).bind fun bt239 => (some (bt239.1, bt239.2))) = some (r1, r2) := h
 clear h
 replace H := Option.bind_eq_some_iff.mp H
 obtain ⟨⟨t239, t240⟩, A30, H⟩ := H
 replace H : (some (t239, t240)) = some (r1, r2) := H
 have A3 := Aside0.mk A30
 clear A30
 simp only [Option.some.injEq, Prod.mk.injEq] at H
 obtain ⟨rfl, rfl⟩ := H
 go_enter Tryd.func108, Tryd.ntmps108
 go_wp2_with (first | ((with_reducible refine gate_callee (f := 135) rfl ?_); refine goesL_ (some 8) rfl rfl Tryd.func135 (by kernel_rfl) rfl #[.string a0, .string a1] rfl (by (try simp only [List.map_toArray, List.map_cons, List.map_nil]); first | done | rfl | (simp only [List.length_drop, List.length_take]; rfl)) ?_; (with_reducible refine (stringslite_CutPrefix.calls a0 a1 t239 t240 _ A3.out).mono ?_); rintro e w' ⟨rfl, ⟨nd, rfl⟩⟩; refine ⟨_, rfl, ?_⟩))
 go_ret2
 exact ⟨by first | rfl | (simp; done) | (simp [*]; done), by repeat (first | exact Drawn0.refl _ | apply Drawn0.step)⟩
def impl_isName.l0 : Nat → ByteArray → Int → Int → Option (Bool)
 | 0, _, _, _ => none
 | k + 1, x0, x6, x7 => if x7 < x6 then (if 0 ≤ x7 then (if x7 < (x0.size : Int) then (if (bt x0 x7) ≥ 97 then (if (bt x0 x7) ≤ 122 then (impl_isName.l0 k x0 x6 (wrap64 (x7 + 1))) else (if (bt x0 x7) ≥ 48 then (if (bt x0 x7) ≤ 57 then (impl_isName.l0 k x0 x6 (wrap64 (x7 + 1))) else (if ((bt x0 x7) = 45) then (impl_isName.l0 k x0 x6 (wrap64 (x7 + 1))) else (some false))) else (if ((bt x0 x7) = 45) then (impl_isName.l0 k x0 x6 (wrap64 (x7 + 1))) else (some false)))) else (if (bt x0 x7) ≥ 48 then (if (bt x0 x7) ≤ 57 then (impl_isName.l0 k x0 x6 (wrap64 (x7 + 1))) else (if ((bt x0 x7) = 45) then (impl_isName.l0 k x0 x6 (wrap64 (x7 + 1))) else (some false))) else (if ((bt x0 x7) = 45) then (impl_isName.l0 k x0 x6 (wrap64 (x7 + 1))) else (some false)))) else (none)) else (none)) else (if x0.toList = ([] : List UInt8) then (some false) else (some (decide ((x0.size : Int) ≤ 20))))
def impl_isName.f (k : Nat) (a0 : ByteArray) : Option (Bool) := impl_isName.l0 k a0 (a0.size : Int) 0
set_option maxHeartbeats 8000000 in
set_option maxRecDepth 100000 in
theorem impl_isName.calls (k : Nat) (a0 : ByteArray) (r : Bool) (w : World) (h : impl_isName.f k a0 = some r) :
  Calls Tryd.prog 109 #[.string a0] w fun e w' => e = .returned (.bool r) ∧ Drawn0 w w' := by
 have H : (impl_isName.l0 k a0 (a0.size : Int) 0) = some r := h
 clear h
 have H' := Aside0.mk H
 clear H
 go_enter Tryd.func109, Tryd.ntmps109
 go_wp2
 go_loopg [7] k (fun kq v7 w' => ∃ (x7_1 : Int), v7 = .int .i64 x7_1 ∧ Aside0 (impl_isName.l0 kq a0 (a0.size : Int) x7_1 = some r) ∧ Aside0 (kq ≤ k) ∧ Drawn0 w w')
 case atStart => exact ⟨(0), (by first | rfl | (simp; done) | (simp [*]; done)), H', ⟨Nat.le_refl _⟩, by repeat (first | exact Drawn0.refl _ | apply Drawn0.step)⟩
 case round =>
  clear H'
  try clear c1
  obtain ⟨x7_1, rfl, HA, HK1, ⟨m1, rfl⟩⟩ := hrel
  cases gk with
  | zero => exact absurd HA.out (by simp [impl_isName.l0])
  | succ k1 =>
   have H := HA.out
   clear HA
   simp only [impl_isName.l0] at H
   by_cases c2 : x7_1 < (a0.size : Int)
   ·rw [if_pos c2] at H
    have c2b0 : decide (x7_1 < (a0.size : Int)) = true := decide_eq_true c2
    clear c2
    by_cases c3 : 0 ≤ x7_1
    ·rw [if_pos c3] at H
     have c3b0 : decide (0 ≤ x7_1) = true := decide_eq_true c3
     clear c3
     by_cases c4 : x7_1 < (a0.size : Int)
     ·rw [if_pos c4] at H
      have c4b0 : decide (x7_1 < (a0.size : Int)) = true := decide_eq_true c4
      clear c4
      by_cases c6 : (bt a0 x7_1) ≥ 97
      ·rw [if_pos c6] at H
       have c6b0 : decide (97 ≤ (bt a0 x7_1)) = true := decide_eq_true c6
       clear c6
       by_cases c7 : (bt a0 x7_1) ≤ 122
       ·rw [if_pos c7] at H
        have c7b0 : decide ((bt a0 x7_1) ≤ 122) = true := decide_eq_true c7
        clear c7
        have H' := Aside0.mk H
        clear H
        have p5 : 0 ≤ (x7_1 : Int) := of_decide_eq_true (by first | (with_reducible assumption) | assumption)
        have q5 : x7_1 < (a0.size : Int) := of_decide_eq_true (by first | (with_reducible assumption) | assumption)
        have hx5 := bt_at a0 x7_1
        replace p5 := eq_true p5
        replace q5 := eq_true q5
        go_wp2
        go_roundg k1
        case measure => have := HK1.out; omega
        case rel => exact ⟨(wrap64 (x7_1 + 1)), (by first | rfl | (simp; done) | (simp [*]; done)), H', ⟨by have := HK1.out; omega⟩, by repeat (first | exact Drawn0.refl _ | apply Drawn0.step)⟩
       ·rw [if_neg c7] at H
        have c7b0 : decide ((bt a0 x7_1) ≤ 122) = false := decide_eq_false c7
        clear c7
        by_cases c8 : (bt a0 x7_1) ≥ 48
        ·rw [if_pos c8] at H
         have c8b0 : decide (48 ≤ (bt a0 x7_1)) = true := decide_eq_true c8
         clear c8
         by_cases c9 : (bt a0 x7_1) ≤ 57
         ·rw [if_pos c9] at H
          have c9b0 : decide ((bt a0 x7_1) ≤ 57) = true := decide_eq_true c9
          clear c9
          have H' := Aside0.mk H
          clear H
          have p5 : 0 ≤ (x7_1 : Int) := of_decide_eq_true (by first | (with_reducible assumption) | assumption)
          have q5 : x7_1 < (a0.size : Int) := of_decide_eq_true (by first | (with_reducible assumption) | assumption)
          have hx5 := bt_at a0 x7_1
          replace p5 := eq_true p5
          replace q5 := eq_true q5
          go_wp2
          go_roundg k1
          case measure => have := HK1.out; omega
          case rel => exact ⟨(wrap64 (x7_1 + 1)), (by first | rfl | (simp; done) | (simp [*]; done)), H', ⟨by have := HK1.out; omega⟩, by repeat (first | exact Drawn0.refl _ | apply Drawn0.step)⟩
         ·rw [if_neg c9] at H
          have c9b0 : decide ((bt a0 x7_1) ≤ 57) = false := decide_eq_false c9
          clear c9
          by_cases c10 : ((bt a0 x7_1) = 45)
          ·rw [if_pos c10] at H
           have c10b0 : ((bt a0 x7_1) == 45) = true := beq_iff_eq.mpr c10
           have c10b1 : ((bt a0 x7_1) != 45) = false := bne_eq_false_iff_eq.mpr c10
           clear c10
           have H' := Aside0.mk H
           clear H
           have p5 : 0 ≤ (x7_1 : Int) := of_decide_eq_true (by first | (with_reducible assumption) | assumption)
           have q5 : x7_1 < (a0.size : Int) := of_decide_eq_true (by first | (with_reducible assumption) | assumption)
           have hx5 := bt_at a0 x7_1
           replace p5 := eq_true p5
           replace q5 := eq_true q5
           go_wp2
           go_roundg k1
           case measure => have := HK1.out; omega
           case rel => exact ⟨(wrap64 (x7_1 + 1)), (by first | rfl | (simp; done) | (simp [*]; done)), H', ⟨by have := HK1.out; omega⟩, by repeat (first | exact Drawn0.refl _ | apply Drawn0.step)⟩
          ·rw [if_neg c10] at H
           have c10b0 : ((bt a0 x7_1) == 45) = false := beq_eq_false_iff_ne.mpr c10
           have c10b1 : ((bt a0 x7_1) != 45) = true := bne_iff_ne.mpr c10
           obtain rfl := Option.some.inj H
           have p5 : 0 ≤ (x7_1 : Int) := of_decide_eq_true (by first | (with_reducible assumption) | assumption)
           have q5 : x7_1 < (a0.size : Int) := of_decide_eq_true (by first | (with_reducible assumption) | assumption)
           have hx5 := bt_at a0 x7_1
           replace p5 := eq_true p5
           replace q5 := eq_true q5
           go_wp2
           go_ret
           exact ⟨by first | rfl | (simp; done) | (simp [*]; done), by repeat (first | exact Drawn0.refl _ | apply Drawn0.step)⟩
        ·rw [if_neg c8] at H
         have c8b0 : decide (48 ≤ (bt a0 x7_1)) = false := decide_eq_false c8
         clear c8
         by_cases c11 : ((bt a0 x7_1) = 45)
         ·rw [if_pos c11] at H
          have c11b0 : ((bt a0 x7_1) == 45) = true := beq_iff_eq.mpr c11
          have c11b1 : ((bt a0 x7_1) != 45) = false := bne_eq_false_iff_eq.mpr c11
          clear c11
          have H' := Aside0.mk H
          clear H
          have p5 : 0 ≤ (x7_1 : Int) := of_decide_eq_true (by first | (with_reducible assumption) | assumption)
          have q5 : x7_1 < (a0.size : Int) := of_decide_eq_true (by first | (with_reducible assumption) | assumption)
          have hx5 := bt_at a0 x7_1
          replace p5 := eq_true p5
          replace q5 := eq_true q5
          go_wp2
          go_roundg k1
          case measure => have := HK1.out; omega
          case rel => exact ⟨(wrap64 (x7_1 + 1)), (by first | rfl | (simp; done) | (simp [*]; done)), H', ⟨by have := HK1.out; omega⟩, by repeat (first | exact Drawn0.refl _ | apply Drawn0.step)⟩
         ·rw [if_neg c11] at H
          have c11b0 : ((bt a0 x7_1) == 45) = false := beq_eq_false_iff_ne.mpr c11
          have c11b1 : ((bt a0 x7_1) != 45) = true := bne_iff_ne.mpr c11
          obtain rfl := Option.some.inj H
          have p5 : 0 ≤ (x7_1 : Int) := of_decide_eq_true (by first | (with_reducible assumption) | assumption)
          have q5 : x7_1 < (a0.size : Int) := of_decide_eq_true (by first | (with_reducible assumption) | assumption)
          have hx5 := bt_at a0 x7_1
          replace p5 := eq_true p5
          replace q5 := eq_true q5
          go_wp2
          go_ret
          exact ⟨by first | rfl | (simp; done) | (simp [*]; done), by repeat (first | exact Drawn0.refl _ | apply Drawn0.step)⟩
      ·rw [if_neg c6] at H
       have c6b0 : decide (97 ≤ (bt a0 x7_1)) = false := decide_eq_false c6
       clear c6
       by_cases c12 : (bt a0 x7_1) ≥ 48
       ·rw [if_pos c12] at H
        have c12b0 : decide (48 ≤ (bt a0 x7_1)) = true := decide_eq_true c12
        clear c12
        by_cases c13 : (bt a0 x7_1) ≤ 57
        ·rw [if_pos c13] at H
         have c13b0 : decide ((bt a0 x7_1) ≤ 57) = true := decide_eq_true c13
         clear c13
         have H' := Aside0.mk H
         clear H
         have p5 : 0 ≤ (x7_1 : Int) := of_decide_eq_true (by first | (with_reducible assumption) | assumption)
         have q5 : x7_1 < (a0.size : Int) := of_decide_eq_true (by first | (with_reducible assumption) | assumption)
         have hx5 := bt_at a0 x7_1
         replace p5 := eq_true p5
         replace q5 := eq_true q5
         go_wp2
         go_roundg k1
         case measure => have := HK1.out; omega
         case rel => exact ⟨(wrap64 (x7_1 + 1)), (by first | rfl | (simp; done) | (simp [*]; done)), H', ⟨by have := HK1.out; omega⟩, by repeat (first | exact Drawn0.refl _ | apply Drawn0.step)⟩
        ·rw [if_neg c13] at H
         have c13b0 : decide ((bt a0 x7_1) ≤ 57) = false := decide_eq_false c13
         clear c13
         by_cases c14 : ((bt a0 x7_1) = 45)
         ·rw [if_pos c14] at H
          have c14b0 : ((bt a0 x7_1) == 45) = true := beq_iff_eq.mpr c14
          have c14b1 : ((bt a0 x7_1) != 45) = false := bne_eq_false_iff_eq.mpr c14
          clear c14
          have H' := Aside0.mk H
          clear H
          have p5 : 0 ≤ (x7_1 : Int) := of_decide_eq_true (by first | (with_reducible assumption) | assumption)
          have q5 : x7_1 < (a0.size : Int) := of_decide_eq_true (by first | (with_reducible assumption) | assumption)
          have hx5 := bt_at a0 x7_1
          replace p5 := eq_true p5
          replace q5 := eq_true q5
          go_wp2
          go_roundg k1
          case measure => have := HK1.out; omega
          case rel => exact ⟨(wrap64 (x7_1 + 1)), (by first | rfl | (simp; done) | (simp [*]; done)), H', ⟨by have := HK1.out; omega⟩, by repeat (first | exact Drawn0.refl _ | apply Drawn0.step)⟩
         ·rw [if_neg c14] at H
          have c14b0 : ((bt a0 x7_1) == 45) = false := beq_eq_false_iff_ne.mpr c14
          have c14b1 : ((bt a0 x7_1) != 45) = true := bne_iff_ne.mpr c14
          obtain rfl := Option.some.inj H
          have p5 : 0 ≤ (x7_1 : Int) := of_decide_eq_true (by first | (with_reducible assumption) | assumption)
          have q5 : x7_1 < (a0.size : Int) := of_decide_eq_true (by first | (with_reducible assumption) | assumption)
          have hx5 := bt_at a0 x7_1
          replace p5 := eq_true p5
          replace q5 := eq_true q5
          go_wp2
          go_ret
          exact ⟨by first | rfl | (simp; done) | (simp [*]; done), by repeat (first | exact Drawn0.refl _ | apply Drawn0.step)⟩
       ·rw [if_neg c12] at H
        have c12b0 : decide (48 ≤ (bt a0 x7_1)) = false := decide_eq_false c12
        clear c12
        by_cases c15 : ((bt a0 x7_1) = 45)
        ·rw [if_pos c15] at H
         have c15b0 : ((bt a0 x7_1) == 45) = true := beq_iff_eq.mpr c15
         have c15b1 : ((bt a0 x7_1) != 45) = false := bne_eq_false_iff_eq.mpr c15
         clear c15
         have H' := Aside0.mk H
         clear H
         have p5 : 0 ≤ (x7_1 : Int) := of_decide_eq_true (by first | (with_reducible assumption) | assumption)
         have q5 : x7_1 < (a0.size : Int) := of_decide_eq_true (by first | (with_reducible assumption) | assumption)
         have hx5 := bt_at a0 x7_1
         replace p5 := eq_true p5
         replace q5 := eq_true q5
         go_wp2
         go_roundg k1
         case measure => have := HK1.out; omega
         case rel => exact ⟨(wrap64 (x7_1 + 1)), (by first | rfl | (simp; done) | (simp [*]; done)), H', ⟨by have := HK1.out; omega⟩, by repeat (first | exact Drawn0.refl _ | apply Drawn0.step)⟩
        ·rw [if_neg c15] at H
         have c15b0 : ((bt a0 x7_1) == 45) = false := beq_eq_false_iff_ne.mpr c15
         have c15b1 : ((bt a0 x7_1) != 45) = true := bne_iff_ne.mpr c15
         obtain rfl := Option.some.inj H
         have p5 : 0 ≤ (x7_1 : Int) := of_decide_eq_true (by first | (with_reducible assumption) | assumption)
         have q5 : x7_1 < (a0.size : Int) := of_decide_eq_true (by first | (with_reducible assumption) | assumption)
         have hx5 := bt_at a0 x7_1
         replace p5 := eq_true p5
         replace q5 := eq_true q5
         go_wp2
         go_ret
         exact ⟨by first | rfl | (simp; done) | (simp [*]; done), by repeat (first | exact Drawn0.refl _ | apply Drawn0.step)⟩
     ·rw [if_neg c4] at H
      exact absurd H (by simp)
    ·rw [if_neg c3] at H
     exact absurd H (by simp)
   ·rw [if_neg c2] at H
    have c2b0 : decide (x7_1 < (a0.size : Int)) = false := decide_eq_false c2
    clear c2
    by_cases c16 : a0.toList = ([] : List UInt8)
    ·rw [if_pos c16] at H
     have c16b0 : (a0.toList == ([] : List UInt8)) = true := beq_iff_eq.mpr c16
     have c16b1 : (a0.toList != ([] : List UInt8)) = false := bne_eq_false_iff_eq.mpr c16
     clear c16
     obtain rfl := Option.some.inj H
     go_wp2
     go_ret
     exact ⟨by first | rfl | (simp; done) | (simp [*]; done), by repeat (first | exact Drawn0.refl _ | apply Drawn0.step)⟩
    ·rw [if_neg c16] at H
     have c16b0 : (a0.toList == ([] : List UInt8)) = false := beq_eq_false_iff_ne.mpr c16
     have c16b1 : (a0.toList != ([] : List UInt8)) = true := bne_iff_ne.mpr c16
     obtain rfl := Option.some.inj H
     go_wp2
     go_ret
     exact ⟨by first | rfl | (simp; done) | (simp [*]; done), by repeat (first | exact Drawn0.refl _ | apply Drawn0.step)⟩
def impl_isType.f (k : Nat) (a0 : Int) (a1 : ByteArray) : Option (Bool) := if a0 = 1 then ((impl_isNumber.f k a1).bind fun t241 => (some t241)) else (if a0 = 2 then ((strings_CutPrefix.f a1 (⟨#[45]⟩ : ByteArray)).bind fun bt242 => ((impl_isNumber.f k bt242.1).bind fun t244 => (if t244 = true then (if bt242.2 = true then (some (!(bt242.1.toList == ([48] : List UInt8)))) else (some (!false))) else (some false)))) else (if a0 = 3 then ((impl_isName.f k a1).bind fun t245 => (some t245)) else (if a0 = 4 then (some (decide ((a1.size : Int) ≤ 200))) else (if a0 = 5 then (if a1.toList = ([121, 101, 115] : List UInt8) then (some true) else (some (a1.toList == ([110, 111] : List UInt8)))) else (if a1.toList = ([110, 111, 110, 101] : List UInt8) then (some true) else (if a1.toList = ([98, 101, 114, 116, 104] : List UInt8) then (some true) else (some (a1.toList == ([122, 111, 110, 101] : List UInt8)))))))))
set_option maxHeartbeats 8000000 in
set_option maxRecDepth 100000 in
theorem impl_isType.calls (k : Nat) (a0 : Int) (a1 : ByteArray) (r : Bool) (w : World) (h : impl_isType.f k a0 a1 = some r) :
  Calls Tryd.prog 65 #[.int .i64 a0, .string a1] w fun e w' => e = .returned (.bool r) ∧ Drawn0 w w' := by
 have H : (if a0 = 1 then ((impl_isNumber.f k a1).bind fun t241 => (some t241)) else (if a0 = 2 then ((strings_CutPrefix.f a1 (⟨#[45]⟩ : ByteArray)).bind fun bt242 => ((impl_isNumber.f k bt242.1).bind fun t244 => (if t244 = true then (if bt242.2 = true then (some (!(bt242.1.toList == ([48] : List UInt8)))) else (some (!false))) else (some false)))) else (if a0 = 3 then ((impl_isName.f k a1).bind fun t245 => (some t245)) else (if a0 = 4 then (some (decide ((a1.size : Int) ≤ 200))) else (if a0 = 5 then (if a1.toList = ([121, 101, 115] : List UInt8) then (some true) else (some (a1.toList == ([110, 111] : List UInt8)))) else (if a1.toList = ([110, 111, 110, 101] : List UInt8) then (some true) else (if a1.toList = ([98, 101, 114, 116, 104] : List UInt8) then (some true) else (some (a1.toList == ([122, 111, 110, 101] : List UInt8)))))))))) = some r := h
 clear h
 by_cases c3 : a0 = 1
 ·rw [if_pos c3] at H
  have c3b0 : (a0 == 1) = true := beq_iff_eq.mpr c3
  have c3b1 : (a0 != 1) = false := bne_eq_false_iff_eq.mpr c3
  clear c3
  replace H := Option.bind_eq_some_iff.mp H
  obtain ⟨t241, A40, H⟩ := H
  replace H : (some t241) = some r := H
  have A4 := Aside0.mk A40
  clear A40
  obtain rfl := Option.some.inj H
  go_enter Tryd.func65, Tryd.ntmps65
  go_wp2_with (first | ((with_reducible refine gate_callee (f := 107) rfl ?_); refine goesL_ (some 11) rfl rfl Tryd.func107 (by kernel_rfl) rfl #[.string a1] rfl (by (try simp only [List.map_toArray, List.map_cons, List.map_nil]); first | done | rfl | (simp only [List.length_drop, List.length_take]; rfl)) ?_; (with_reducible refine (impl_isNumber.calls k a1 t241 _ A4.out).mono ?_); rintro e w' ⟨rfl, ⟨nd, rfl⟩⟩; refine ⟨_, rfl, ?_⟩))
  go_ret
  exact ⟨by first | rfl | (simp; done) | (simp [*]; done), by repeat (first | exact Drawn0.refl _ | apply Drawn0.step)⟩
 ·rw [if_neg c3] at H
  have c3b0 : (a0 == 1) = false := beq_eq_false_iff_ne.mpr c3
  have c3b1 : (a0 != 1) = true := bne_iff_ne.mpr c3
  by_cases c5 : a0 = 2
  ·rw [if_pos c5] at H
   have c5b0 : (a0 == 2) = true := beq_iff_eq.mpr c5
   have c5b1 : (a0 != 2) = false := bne_eq_false_iff_eq.mpr c5
   clear c5
   replace H := Option.bind_eq_some_iff.mp H
   obtain ⟨⟨t242, t243⟩, A60, H⟩ := H
   replace H : ((impl_isNumber.f k t242).bind fun t244 => (if t244 = true then (if t243 = true then (some (!(t242.toList == ([48] : List UInt8)))) else (some (!false))) else (some false))) = some r := H
   have A6 := Aside0.mk A60
   clear A60
   replace H := Option.bind_eq_some_iff.mp H
   obtain ⟨t244, A70, H⟩ := H
   replace H : (if t244 = true then (if t243 = true then (some (!(t242.toList == ([48] : List UInt8)))) else (some (!false))) else (some false)) = some r := H
   have A7 := Aside0.mk A70
   clear A70
   by_cases c8 : t244 = true
   ·subst c8
    have H1 : (if t243 = true then (some (!(t242.toList == ([48] : List UInt8)))) else (some (!false))) = some r := by rw [if_pos rfl] at H; exact H
    clear H
    have H := H1
    clear H1
    by_cases c9 : t243 = true
    ·subst c9
     have H1 : (some (!(t242.toList == ([48] : List UInt8)))) = some r := by rw [if_pos rfl] at H; exact H
     clear H
     have H := H1
     clear H1
     obtain rfl := Option.some.inj H
     go_enter Tryd.func65, Tryd.ntmps65
     go_wp2_with (first | ((with_reducible refine gate_callee (f := 108) rfl ?_); refine goesL_ (some 16) rfl rfl Tryd.func108 (by kernel_rfl) rfl #[.string a1, .string (⟨#[45]⟩ : ByteArray)] rfl (by (try simp only [List.map_toArray, List.map_cons, List.map_nil]); first | done | rfl | (simp only [List.length_drop, List.length_take]; rfl)) ?_; (with_reducible refine (strings_CutPrefix.calls a1 (⟨#[45]⟩ : ByteArray) t242 true _ A6.out).mono ?_); rintro e w' ⟨rfl, ⟨nd, rfl⟩⟩; refine ⟨_, rfl, ?_⟩) | ((with_reducible refine gate_callee (f := 107) rfl ?_); refine goesL_ (some 20) rfl rfl Tryd.func107 (by kernel_rfl) rfl #[.string t242] rfl (by (try simp only [List.map_toArray, List.map_cons, List.map_nil]); first | done | rfl | (simp only [List.length_drop, List.length_take]; rfl)) ?_; (with_reducible refine (impl_isNumber.calls k t242 true _ A7.out).mono ?_); rintro e w' ⟨rfl, ⟨nd, rfl⟩⟩; refine ⟨_, rfl, ?_⟩))
     go_ret
     exact ⟨by first | rfl | (simp; done) | (simp [*]; done), by repeat (first | exact Drawn0.refl _ | apply Drawn0.step)⟩
    ·replace c9 := Bool.eq_false_iff.mpr c9
     subst c9
     have H1 : (some (!false)) = some r := by rw [if_neg (show ¬ (false = true) by decide)] at H; exact H
     clear H
     have H := H1
     clear H1
     obtain rfl := Option.some.inj H
     go_enter Tryd.func65, Tryd.ntmps65
     go_wp2_with (first | ((with_reducible refine gate_callee (f := 108) rfl ?_); refine goesL_ (some 16) rfl rfl Tryd.func108 (by kernel_rfl) rfl #[.string a1, .string (⟨#[45]⟩ : ByteArray)] rfl (by (try simp only [List.map_toArray, List.map_cons, List.map_nil]); first | done | rfl | (simp only [List.length_drop, List.length_take]; rfl)) ?_; (with_reducible refine (strings_CutPrefix.calls a1 (⟨#[45]⟩ : ByteArray) t242 false _ A6.out).mono ?_); rintro e w' ⟨rfl, ⟨nd, rfl⟩⟩; refine ⟨_, rfl, ?_⟩) | ((with_reducible refine gate_callee (f := 107) rfl ?_); refine goesL_ (some 20) rfl rfl Tryd.func107 (by kernel_rfl) rfl #[.string t242] rfl (by (try simp only [List.map_toArray, List.map_cons, List.map_nil]); first | done | rfl | (simp only [List.length_drop, List.length_take]; rfl)) ?_; (with_reducible refine (impl_isNumber.calls k t242 true _ A7.out).mono ?_); rintro e w' ⟨rfl, ⟨nd, rfl⟩⟩; refine ⟨_, rfl, ?_⟩))
     go_ret
     exact ⟨by first | rfl | (simp; done) | (simp [*]; done), by repeat (first | exact Drawn0.refl _ | apply Drawn0.step)⟩
   ·replace c8 := Bool.eq_false_iff.mpr c8
    subst c8
    have H1 : (some false) = some r := by rw [if_neg (show ¬ (false = true) by decide)] at H; exact H
    clear H
    have H := H1
    clear H1
    obtain rfl := Option.some.inj H
    go_enter Tryd.func65, Tryd.ntmps65
    go_wp2_with (first | ((with_reducible refine gate_callee (f := 108) rfl ?_); refine goesL_ (some 16) rfl rfl Tryd.func108 (by kernel_rfl) rfl #[.string a1, .string (⟨#[45]⟩ : ByteArray)] rfl (by (try simp only [List.map_toArray, List.map_cons, List.map_nil]); first | done | rfl | (simp only [List.length_drop, List.length_take]; rfl)) ?_; (with_reducible refine (strings_CutPrefix.calls a1 (⟨#[45]⟩ : ByteArray) t242 t243 _ A6.out).mono ?_); rintro e w' ⟨rfl, ⟨nd, rfl⟩⟩; refine ⟨_, rfl, ?_⟩) | ((with_reducible refine gate_callee (f := 107) rfl ?_); refine goesL_ (some 20) rfl rfl Tryd.func107 (by kernel_rfl) rfl #[.string t242] rfl (by (try simp only [List.map_toArray, List.map_cons, List.map_nil]); first | done | rfl | (simp only [List.length_drop, List.length_take]; rfl)) ?_; (with_reducible refine (impl_isNumber.calls k t242 false _ A7.out).mono ?_); rintro e w' ⟨rfl, ⟨nd, rfl⟩⟩; refine ⟨_, rfl, ?_⟩))
    go_ret
    exact ⟨by first | rfl | (simp; done) | (simp [*]; done), by repeat (first | exact Drawn0.refl _ | apply Drawn0.step)⟩
  ·rw [if_neg c5] at H
   have c5b0 : (a0 == 2) = false := beq_eq_false_iff_ne.mpr c5
   have c5b1 : (a0 != 2) = true := bne_iff_ne.mpr c5
   by_cases c10 : a0 = 3
   ·rw [if_pos c10] at H
    have c10b0 : (a0 == 3) = true := beq_iff_eq.mpr c10
    have c10b1 : (a0 != 3) = false := bne_eq_false_iff_eq.mpr c10
    clear c10
    replace H := Option.bind_eq_some_iff.mp H
    obtain ⟨t245, A110, H⟩ := H
    replace H : (some t245) = some r := H
    have A11 := Aside0.mk A110
    clear A110
    obtain rfl := Option.some.inj H
    go_enter Tryd.func65, Tryd.ntmps65
    go_wp2_with (first | ((with_reducible refine gate_callee (f := 109) rfl ?_); refine goesL_ (some 32) rfl rfl Tryd.func109 (by kernel_rfl) rfl #[.string a1] rfl (by (try simp only [List.map_toArray, List.map_cons, List.map_nil]); first | done | rfl | (simp only [List.length_drop, List.length_take]; rfl)) ?_; (with_reducible refine (impl_isName.calls k a1 t245 _ A11.out).mono ?_); rintro e w' ⟨rfl, ⟨nd, rfl⟩⟩; refine ⟨_, rfl, ?_⟩))
    go_ret
    exact ⟨by first | rfl | (simp; done) | (simp [*]; done), by repeat (first | exact Drawn0.refl _ | apply Drawn0.step)⟩
   ·rw [if_neg c10] at H
    have c10b0 : (a0 == 3) = false := beq_eq_false_iff_ne.mpr c10
    have c10b1 : (a0 != 3) = true := bne_iff_ne.mpr c10
    by_cases c12 : a0 = 4
    ·rw [if_pos c12] at H
     have c12b0 : (a0 == 4) = true := beq_iff_eq.mpr c12
     have c12b1 : (a0 != 4) = false := bne_eq_false_iff_eq.mpr c12
     clear c12
     obtain rfl := Option.some.inj H
     go_enter Tryd.func65, Tryd.ntmps65
     go_wp2
     go_ret
     exact ⟨by first | rfl | (simp; done) | (simp [*]; done), by repeat (first | exact Drawn0.refl _ | apply Drawn0.step)⟩
    ·rw [if_neg c12] at H
     have c12b0 : (a0 == 4) = false := beq_eq_false_iff_ne.mpr c12
     have c12b1 : (a0 != 4) = true := bne_iff_ne.mpr c12
     by_cases c13 : a0 = 5
     ·rw [if_pos c13] at H
      have c13b0 : (a0 == 5) = true := beq_iff_eq.mpr c13
      have c13b1 : (a0 != 5) = false := bne_eq_false_iff_eq.mpr c13
      clear c13
      by_cases c14 : a1.toList = ([121, 101, 115] : List UInt8)
      ·rw [if_pos c14] at H
       have c14b0 : (a1.toList == ([121, 101, 115] : List UInt8)) = true := beq_iff_eq.mpr c14
       have c14b1 : (a1.toList != ([121, 101, 115] : List UInt8)) = false := bne_eq_false_iff_eq.mpr c14
       clear c14
       obtain rfl := Option.some.inj H
       go_enter Tryd.func65, Tryd.ntmps65
       go_wp2
       go_ret
       exact ⟨by first | rfl | (simp; done) | (simp [*]; done), by repeat (first | exact Drawn0.refl _ | apply Drawn0.step)⟩
      ·rw [if_neg c14] at H
       have c14b0 : (a1.toList == ([121, 101, 115] : List UInt8)) = false := beq_eq_false_iff_ne.mpr c14
       have c14b1 : (a1.toList != ([121, 101, 115] : List UInt8)) = true := bne_iff_ne.mpr c14
       obtain rfl := Option.some.inj H
       go_enter Tryd.func65, Tryd.ntmps65
       go_wp2
       go_ret
       exact ⟨by first | rfl | (simp; done) | (simp [*]; done), by repeat (first | exact Drawn0.refl _ | apply Drawn0.step)⟩
     ·rw [if_neg c13] at H
      have c13b0 : (a0 == 5) = false := beq_eq_false_iff_ne.mpr c13
      have c13b1 : (a0 != 5) = true := bne_iff_ne.mpr c13
      by_cases c15 : a1.toList = ([110, 111, 110, 101] : List UInt8)
      ·rw [if_pos c15] at H
       have c15b0 : (a1.toList == ([110, 111, 110, 101] : List UInt8)) = true := beq_iff_eq.mpr c15
       have c15b1 : (a1.toList != ([110, 111, 110, 101] : List UInt8)) = false := bne_eq_false_iff_eq.mpr c15
       clear c15
       obtain rfl := Option.some.inj H
       go_enter Tryd.func65, Tryd.ntmps65
       go_wp2
       go_ret
       exact ⟨by first | rfl | (simp; done) | (simp [*]; done), by repeat (first | exact Drawn0.refl _ | apply Drawn0.step)⟩
      ·rw [if_neg c15] at H
       have c15b0 : (a1.toList == ([110, 111, 110, 101] : List UInt8)) = false := beq_eq_false_iff_ne.mpr c15
       have c15b1 : (a1.toList != ([110, 111, 110, 101] : List UInt8)) = true := bne_iff_ne.mpr c15
       by_cases c16 : a1.toList = ([98, 101, 114, 116, 104] : List UInt8)
       ·rw [if_pos c16] at H
        have c16b0 : (a1.toList == ([98, 101, 114, 116, 104] : List UInt8)) = true := beq_iff_eq.mpr c16
        have c16b1 : (a1.toList != ([98, 101, 114, 116, 104] : List UInt8)) = false := bne_eq_false_iff_eq.mpr c16
        clear c16
        obtain rfl := Option.some.inj H
        go_enter Tryd.func65, Tryd.ntmps65
        go_wp2
        go_ret
        exact ⟨by first | rfl | (simp; done) | (simp [*]; done), by repeat (first | exact Drawn0.refl _ | apply Drawn0.step)⟩
       ·rw [if_neg c16] at H
        have c16b0 : (a1.toList == ([98, 101, 114, 116, 104] : List UInt8)) = false := beq_eq_false_iff_ne.mpr c16
        have c16b1 : (a1.toList != ([98, 101, 114, 116, 104] : List UInt8)) = true := bne_iff_ne.mpr c16
        obtain rfl := Option.some.inj H
        go_enter Tryd.func65, Tryd.ntmps65
        go_wp2
        go_ret
        exact ⟨by first | rfl | (simp; done) | (simp [*]; done), by repeat (first | exact Drawn0.refl _ | apply Drawn0.step)⟩
end Go.Proofs.YtmcdnpooclelgaaDoor.PAll
namespace Go.Proofs.YtmcdnpooclelgaaDoor.PAll
open Go.RowKit Go.Proofs.YtmcdnpooclelgaaDoorW.PrintWords
theorem Ev.unf {α : Type} {g : Nat → Option α} {r : α} (f : Nat → Option α) (h : ∀ k, g (k + 1) = f k) (e : Ev f r) : Ev g r := Ev.step h e
theorem w64 {i : Int} (h0 : -9223372036854775808 ≤ i) (h1 : i ≤ 9223372036854775807) : wrap64 i = i := by unfold wrap64; omega
def allFrom (p : Int → Bool) (s : ByteArray) : Nat → Nat → Bool
 | _, 0 => true
 | i, d + 1 => p (bt s i) && allFrom p s (i + 1) d
def nameB (c : Int) : Bool := decide ((97 ≤ c ∧ c ≤ 122) ∨ (48 ≤ c ∧ c ≤ 57) ∨ c = 45)
def nameOk (s : ByteArray) : Bool := decide (1 ≤ s.size) && (decide (s.size ≤ 20) && allFrom nameB s 0 s.size)
theorem l2Name_l0 (s : ByteArray) (hs : s.size ≤ 4611686018427387904) : ∀ (d i : Nat), i + d = s.size → Ev (fun k => spec_l2NameOk.l0 k s i) (allFrom nameB s i d)
 | 0, i, h => Ev.unf (fun _ => some true) (fun k => by simp only [spec_l2NameOk.l0]; rw [if_neg (by omega)]) (Ev.now _)
 | d + 1, i, h => by
  have ih := l2Name_l0 s hs d (i + 1) (by omega)
  have e : wrap64 ((i : Int) + 1) = ((i + 1 : Nat) : Int) := by rw [w64 (by omega) (by omega)]; rfl
  refine Ev.unf (fun k => if nameB (bt s i) = true then spec_l2NameOk.l0 k s ((i + 1 : Nat) : Int) else some false) (fun k => ?_) ?_
  ·simp only [spec_l2NameOk.l0]
   rw [if_pos (by omega), if_pos (by omega), e]
   unfold nameB
   generalize bt s i = c
   simp only [decide_eq_true_eq]
   repeat' split
   all_goals first | rfl | omega
  ·simp only [allFrom]
   cases nameB (bt s i)
   ·simp only [Bool.false_and, Bool.false_eq_true, if_false]; exact Ev.now _
   ·simp only [Bool.true_and, if_true]; exact ih
theorem ev_l2NameOk (s : ByteArray) : Ev (fun k => spec_l2NameOk.f k s) (nameOk s) := by
 unfold spec_l2NameOk.f spec_l1In.f nameOk
 by_cases h1 : 1 ≤ s.size
 ·by_cases h2 : s.size ≤ 20
  ·rw [if_pos (by omega)]
   simp only [Option.bind_some, show ((s.size : Int) ≤ 20) = True from eq_true (by omega), decide_true, if_true, h1, h2, Bool.true_and]
   exact l2Name_l0 s (by omega) s.size 0 (by omega)
  ·rw [if_pos (by omega)]
   simp only [Option.bind_some, show ((s.size : Int) ≤ 20) = False from eq_false (by omega), decide_false, Bool.false_eq_true, if_false, h1, h2, Bool.true_and, Bool.false_and, decide_true]
   exact Ev.now _
 ·rw [if_neg (by omega)]
  simp only [Option.bind_some, Bool.false_eq_true, if_false, h1, decide_false, Bool.false_and]
  exact Ev.now _
theorem size_nil {s : ByteArray} : s.toList = [] ↔ s.size = 0 := by
 rw [Go.Lib.toList_data]
 constructor
 ·intro e; simp [ByteArray.size, ← Array.length_toList, e]
 ·intro e; exact List.eq_nil_of_length_eq_zero (by rw [Array.length_toList]; exact e)
theorem isName_l0 (s : ByteArray) (hs : s.size ≤ 4611686018427387904) : ∀ (d i : Nat), i + d = s.size → Ev (fun k => impl_isName.l0 k s s.size i) (allFrom nameB s i d && (decide (1 ≤ s.size) && decide (s.size ≤ 20)))
 | 0, i, h => Ev.unf (fun _ => some (decide (1 ≤ s.size) && decide (s.size ≤ 20))) (fun k => by
   simp only [impl_isName.l0]; rw [if_neg (by omega)]
   by_cases e : s.toList = []
   ·have : s.size = 0 := size_nil.1 e
    rw [if_pos e]; simp [this]
   ·have : 1 ≤ s.size := by
     have : s.size ≠ 0 := fun z => e (size_nil.2 z)
     omega
    rw [if_neg e]; simp only [this, decide_true, Bool.true_and]
    congr 1; rw [Bool.eq_iff_iff]; simp; omega) (by simp only [allFrom, Bool.true_and]; exact Ev.now _)
 | d + 1, i, h => by
  have ih := isName_l0 s hs d (i + 1) (by omega)
  have e : wrap64 ((i : Int) + 1) = ((i + 1 : Nat) : Int) := by rw [w64 (by omega) (by omega)]; rfl
  refine Ev.unf (fun k => if nameB (bt s i) = true then impl_isName.l0 k s s.size ((i + 1 : Nat) : Int) else some false) (fun k => ?_) ?_
  ·simp only [impl_isName.l0]
   rw [if_pos (by omega), if_pos (by omega), if_pos (by omega), e]
   unfold nameB
   generalize bt s i = c
   simp only [decide_eq_true_eq]
   repeat' split
   all_goals first | rfl | omega
  ·simp only [allFrom]
   cases nameB (bt s i)
   ·simp only [Bool.false_and, Bool.false_eq_true, if_false]; exact Ev.now _
   ·simp only [Bool.true_and, if_true]; exact ih
theorem ev_isName (s : ByteArray) (hs : s.size ≤ 4611686018427387904) : Ev (fun k => impl_isName.f k s) (nameOk s) := by
 have h := isName_l0 s hs s.size 0 (by omega)
 have e : nameOk s = (allFrom nameB s 0 s.size && (decide (1 ≤ s.size) && decide (s.size ≤ 20))) := by unfold nameOk; cases allFrom nameB s 0 s.size <;> simp
 rw [e]
 exact h
def digsV (s : ByteArray) : Nat → Nat → Nat → Option Nat
 | _, 0, n => some n
 | i, d + 1, n => if 48 ≤ bt s i ∧ bt s i ≤ 57 then digsV s (i + 1) d (n * 10 + (bt s i - 48).toNat) else none
def numOk (s : ByteArray) : Bool := decide (1 ≤ s.size) && (decide (s.size ≤ 7) && (!(decide (1 < s.size) && decide (bt s 0 = 48)) && match digsV s 0 s.size 0 with | some n => decide (n ≤ 1000000) | none => false))
theorem digsV_le (s : ByteArray) : ∀ (d i n m N : Nat), digsV s i d n = some N → n < 10 ^ m → N < 10 ^ (m + d)
 | 0, _, n, m, N, h, hn => by simp only [digsV, Option.some.injEq] at h; subst h; exact hn
 | d + 1, i, n, m, N, h, hn => by
  simp only [digsV] at h
  split at h
  ·rename_i hb
   have := digsV_le s d (i + 1) _ (m + 1) N h (by rw [Nat.pow_succ]; omega)
   rwa [show m + 1 + d = m + (d + 1) by omega] at this
  ·cases h
theorem isNumber_l0 (s : ByteArray) (hs : s.size ≤ 7) : ∀ (d i n : Nat), i + d = s.size → n < 10 ^ i → Ev (fun k => impl_isNumber.l0 k s n s.size i) (match digsV s i d n with | some n => decide (n ≤ 1000000) | none => false)
 | 0, i, n, h, hn => Ev.unf (fun _ => some (decide (n ≤ 1000000))) (fun k => by simp only [impl_isNumber.l0]; rw [if_neg (by omega)]; congr 1; rw [Bool.eq_iff_iff]; simp; omega) (by simp only [digsV]; exact Ev.now _)
 | d + 1, i, n, h, hn => by
  have hi : 10 ^ i ≤ 10 ^ 6 := Nat.pow_le_pow_right (by omega) (by omega)
  obtain ⟨c, hc⟩ : ∃ c, bt s i = c := ⟨_, rfl⟩
  have hr := bt_range s i
  have e : wrap64 ((i : Int) + 1) = ((i + 1 : Nat) : Int) := by rw [w64 (by omega) (by omega)]; rfl
  rw [hc] at hr
  by_cases hb : 48 ≤ c ∧ c ≤ 57
  ·have ih := isNumber_l0 s hs d (i + 1) (n * 10 + (c - 48).toNat) (by omega) (by rw [Nat.pow_succ]; omega)
   have e2 : wrap64 ((wrap64 (10 * (n : Int))) + ((c - 48) % 256)) = ((n * 10 + (c - 48).toNat : Nat) : Int) := by
    rw [w64 (i := 10 * (n : Int)) (by omega) (by omega), w64 (by omega) (by omega)]; omega
   refine Ev.unf (fun k => impl_isNumber.l0 k s ((n * 10 + (c - 48).toNat : Nat) : Int) s.size ((i + 1 : Nat) : Int)) (fun k => ?_) ?_
   ·simp only [impl_isNumber.l0]
    rw [if_pos (by omega), if_pos (by omega), if_pos (by omega), hc, if_neg (by omega), if_neg (by omega), e, e2]
   ·simp only [digsV, hc, if_pos hb]; exact ih
  ·refine Ev.unf (fun _ => some false) (fun k => ?_) (by simp only [digsV, hc, if_neg hb]; exact Ev.now _)
   simp only [impl_isNumber.l0]
   rw [if_pos (by omega), if_pos (by omega), if_pos (by omega), hc]
   by_cases h1 : c < 48
   ·rw [if_pos h1]
   ·rw [if_neg h1, if_pos (by omega)]
theorem ev_isNumber (s : ByteArray) : Ev (fun k => impl_isNumber.f k s) (numOk s) := by
 have jt : Ev (fun k => impl_isNumber.j0 k s true) false := Ev.unf (fun _ => some false) (fun k => by simp only [impl_isNumber.j0, if_true]) (Ev.now _)
 unfold impl_isNumber.f numOk
 by_cases h1 : 1 ≤ s.size
 ·have n1 : ¬ s.toList = [] := fun e => by have := size_nil.1 e; omega
  simp only [if_neg n1, h1, decide_true, Bool.true_and]
  by_cases h2 : s.size ≤ 7
  ·have jf : Ev (fun k => impl_isNumber.j0 k s false) (match digsV s 0 s.size 0 with | some n => decide (n ≤ 1000000) | none => false) :=
    Ev.unf (fun k => impl_isNumber.l0 k s ((0 : Nat) : Int) s.size ((0 : Nat) : Int)) (fun k => by simp only [impl_isNumber.j0, Bool.false_eq_true, if_false]; rfl) (isNumber_l0 s h2 s.size 0 0 (by omega) (by simp))
   simp only [if_neg (show ¬ (s.size : Int) > 7 by omega), h2, decide_true, Bool.true_and]
   by_cases h3 : 1 < s.size
   ·simp only [if_pos (show (s.size : Int) > 1 by omega), if_pos (show (0 : Int) < s.size by omega), h3, decide_true, Bool.true_and]
    by_cases h4 : bt s 0 = 48
    ·simp only [h4, beq_self_eq_true, decide_true, Bool.not_true, Bool.false_and]; exact jt
    ·simp only [beq_eq_false_iff_ne.2 h4, h4, decide_false, Bool.not_false, Bool.true_and]; exact jf
   ·simp only [if_neg (show ¬ (s.size : Int) > 1 by omega), h3, decide_false, Bool.false_and, Bool.not_false, Bool.true_and]; exact jf
  ·simp only [if_pos (show (s.size : Int) > 7 by omega), h2, decide_false, Bool.false_and]; exact jt
 ·have n1 : s.toList = [] := size_nil.2 (by omega)
  simp only [if_pos n1, h1, decide_false, Bool.false_and]; exact jt
def decP (n : Nat) : ByteArray := if n < 10 then strOfNums [(48 + n : Nat)] else decP (n / 10) ++ strOfNums [(48 + n % 10 : Nat)]
termination_by n
decreasing_by omega
theorem str1_size (c : Int) : (strOfNums [c]).size = 1 := by simp [strOfNums, ByteArray.size]
theorem decP_size : ∀ (m n : Nat), n < 10 ^ (m + 1) → 1 ≤ (decP n).size ∧ (decP n).size ≤ m + 1
 | 0, n, h => by
  rw [decP, if_pos (by omega), str1_size]; omega
 | m + 1, n, h => by
  rw [decP]
  split
  ·rw [str1_size]; omega
  ·have := decP_size m (n / 10) (by rw [Nat.pow_succ] at h; omega)
   rw [ByteArray.size_append, str1_size]; omega
theorem ev_l2Dec : ∀ (m n : Nat), n < 10 ^ (m + 1) → m ≤ 8 → Ev (fun k => spec_l2Dec.f k n) (decP n)
 | m, n, h, hm => by
  have hp : 10 ^ (m + 1) ≤ 10 ^ 9 := Nat.pow_le_pow_right (by omega) (by omega)
  by_cases h9 : n < 10
  ·refine Ev.unf (fun _ => some (decP n)) (fun k => ?_) (Ev.now _)
   simp only [spec_l2Dec.f]
   rw [if_neg (by omega), if_pos (by omega), decP, if_pos h9, w64 (by omega) (by omega), show (48 + (n : Int)) % 256 = ((48 + n : Nat) : Int) by omega]
  ·cases m with
   | zero => omega
   | succ m =>
    have ih := ev_l2Dec m (n / 10) (by rw [Nat.pow_succ] at h; omega) (by omega)
    have hsz := decP_size m (n / 10) (by rw [Nat.pow_succ] at h; omega)
    have e1 : wrap64 (Int.tdiv (n : Int) 10) = ((n / 10 : Nat) : Int) := by
     rw [Int.tdiv_eq_ediv_of_nonneg (by omega), w64 (by omega) (by omega)]; omega
    have e2 : (wrap64 (48 + Int.tmod (n : Int) 10)) % 256 = ((48 + n % 10 : Nat) : Int) := by
     rw [Int.tmod_eq_emod_of_nonneg (by omega), w64 (by omega) (by omega)]; omega
    refine Ev.unf (fun k => (spec_l2Dec.f k ((n / 10 : Nat) : Int)).bind fun t => if t.size + (strOfNums [((48 + n % 10 : Nat) : Int)]).size ≤ 9223372036854775807 then some (t ++ strOfNums [((48 + n % 10 : Nat) : Int)]) else none) (fun k => ?_) ?_
    ·simp only [spec_l2Dec.f]
     rw [if_neg (by omega), if_neg (by omega), e1, e2]
     rfl
    ·refine Ev.bind ih ?_
     rw [if_pos (by rw [str1_size]; omega)]
     rw [decP.eq_def n, if_neg h9]
     exact Ev.now _
theorem bt_app_left (a b : ByteArray) (j : Nat) (h : j < a.size) : bt (a ++ b) j = bt a j := by
 unfold bt
 rw [dif_pos (by rw [ByteArray.size_append]; simp; omega), dif_pos (by simpa using h)]
 simp only [Int.toNat_natCast]
 rw [ByteArray.getElem_append_left h]
theorem bt_app_right (a b : ByteArray) (j : Nat) (h : j < b.size) : bt (a ++ b) ((a.size + j : Nat) : Int) = bt b j := by
 unfold bt
 rw [dif_pos (by rw [ByteArray.size_append]; simp; omega), dif_pos (by simpa using h)]
 simp only [Int.toNat_natCast]
 rw [ByteArray.getElem_append_right (by omega)]
 simp
theorem bt_one (c : Nat) (h : c < 256) : bt (strOfNums [(c : Int)]) 0 = c := by
 have e : (strOfNums [(c : Int)]) = ⟨#[UInt8.ofNat c]⟩ := rfl
 rw [e]
 unfold bt
 rw [dif_pos (show Int.toNat 0 < (⟨#[UInt8.ofNat c]⟩ : ByteArray).size from Nat.zero_lt_one)]
 show (((UInt8.ofNat c).toNat : Nat) : Int) = c
 have := UInt8.toNat_ofNat' (n := c)
 rw [this]
 omega
theorem ba_ext {a b : ByteArray} (h1 : a.size = b.size) (h2 : ∀ j : Nat, j < a.size → bt a j = bt b j) : a = b := by
 have hd : a.data = b.data := by
  apply Array.ext h1
  intro i hi hi2
  have := h2 i hi
  unfold bt at this
  rw [dif_pos (show (i : Int).toNat < a.size from hi), dif_pos (show (i : Int).toNat < b.size from hi2)] at this
  simp only [Int.toNat_natCast, ByteArray.getElem_eq_getElem_data] at this
  exact UInt8.toNat_inj.1 (by exact_mod_cast this)
 cases a; cases b; congr 1
theorem digsV_snoc (s : ByteArray) : ∀ (d i n : Nat), digsV s i (d + 1) n = (digsV s i d n).bind fun m => if 48 ≤ bt s ((i + d : Nat) : Int) ∧ bt s ((i + d : Nat) : Int) ≤ 57 then some (m * 10 + (bt s ((i + d : Nat) : Int) - 48).toNat) else none
 | 0, i, n => by simp only [digsV, Nat.add_zero, Option.bind_some]
 | d + 1, i, n => by
  show (if 48 ≤ bt s i ∧ bt s i ≤ 57 then digsV s (i + 1) (d + 1) (n * 10 + (bt s i - 48).toNat) else none) = Option.bind (if 48 ≤ bt s i ∧ bt s i ≤ 57 then digsV s (i + 1) d (n * 10 + (bt s i - 48).toNat) else none) _
  split
  ·rw [digsV_snoc s d (i + 1), show i + 1 + d = i + (d + 1) by omega]
  ·rfl
theorem dec_digs (s : ByteArray) : ∀ (i v : Nat), i + 1 ≤ s.size → digsV s 0 (i + 1) 0 = some v → (i = 0 ∨ bt s 0 ≠ 48) → (decP v).size = i + 1 ∧ (∀ j : Nat, j < i + 1 → bt (decP v) j = bt s j) ∧ (bt s 0 ≠ 48 → 1 ≤ v)
  | 0, v, hi, h, _ => by
    have hr := bt_range s 0
    simp only [digsV, Int.natCast_zero] at h
    generalize hc : bt s ((0 : Nat) : Int) = c at h
    have hc' : bt s 0 = c := hc
    split at h
    · rename_i hb
      injection h with h
      have hv : v = (c - 48).toNat := by omega
      have hv2 : v < 10 := by omega
      rw [decP, if_pos hv2]
      refine ⟨str1_size _, fun j hj => ?_, fun _ => by omega⟩
      obtain rfl : j = 0 := by omega
      rw [hc]
      have := bt_one (48 + v) (by omega)
      rw [show ((0 : Nat) : Int) = 0 from rfl, this]
      omega
    · cases h
  | i + 1, v, hi, h, hz => by
    have hz : bt s 0 ≠ 48 := by rcases hz with h' | h'; · omega
                                · exact h'
    rw [digsV_snoc, Option.bind_eq_some_iff] at h
    obtain ⟨m, hm, h⟩ := h
    rw [Nat.zero_add] at h
    obtain ⟨h1, h2, h3⟩ := dec_digs s i m (by omega) hm (.inr hz)
    have h3 := h3 hz
    generalize hc : bt s ((i + 1 : Nat) : Int) = c at h
    split at h
    · rename_i hb
      injection h with h
      have e1 : v / 10 = m := by omega
      have e2 : 48 + v % 10 = c.toNat := by omega
      rw [decP, if_neg (by omega), e1, e2]
      refine ⟨by rw [ByteArray.size_append, h1, str1_size], fun j hj => ?_, fun _ => by omega⟩
      by_cases hj2 : j < i + 1
      · rw [bt_app_left _ _ _ (by omega)]; exact h2 j hj2
      · obtain rfl : j = i + 1 := by omega
        have := bt_app_right (decP m) (strOfNums [(c.toNat : Int)]) 0 (by rw [str1_size]; omega)
        rw [h1, Nat.add_zero] at this
        rw [this, show ((0 : Nat) : Int) = 0 from rfl, bt_one _ (by omega), hc]
        omega
    · cases h
theorem dec_eq (s : ByteArray) (v : Nat) (h1 : 1 ≤ s.size) (h : digsV s 0 s.size 0 = some v) : decP v = s ↔ ¬ (1 < s.size ∧ bt s 0 = 48) := by
  obtain ⟨n, hn⟩ : ∃ n, s.size = n + 1 := ⟨s.size - 1, by omega⟩
  constructor
  · rintro rfl ⟨h2, h3⟩
    obtain ⟨m, rfl⟩ : ∃ m, n = m + 1 := ⟨n - 1, by omega⟩
    rw [hn] at h
    rw [digsV] at h
    split at h
    · rw [show ((0 : Nat) : Int) = 0 from rfl, h3] at h
      have := digsV_le _ _ _ _ 0 _ h (by simp)
      have := (decP_size m v (by simpa using this)).2
      omega
    · cases h
  · intro hz
    rw [hn] at h
    obtain ⟨q1, q2, _⟩ := dec_digs s n v (by omega) h (by by_cases e : n = 0; · exact .inl e
                                                          · exact .inr fun e2 => hz ⟨by omega, e2⟩)
    exact ba_ext (by omega) (fun j hj => q2 j (by omega))
theorem l2Num_l0 (s : ByteArray) (hs : s.size ≤ 7) (hs1 : 1 ≤ s.size) : ∀ (d i n : Nat), i + d = s.size → n < 10 ^ i → digsV s 0 s.size 0 = digsV s i d n → Ev (fun k => spec_l2NumberOk.l0 k s n i) (!(decide (1 < s.size) && decide (bt s 0 = 48)) && match digsV s i d n with | some n => decide (n ≤ 1000000) | none => false)
 | 0, i, n, h, hn, hq => by
  have hi : 10 ^ i ≤ 10 ^ 7 := Nat.pow_le_pow_right (by omega) (by omega)
  have hd := ev_l2Dec 7 n (by omega) (by omega)
  refine Ev.unf (fun k => (spec_l2Dec.f k n).bind fun t => if t.toList = s.toList then some (decide ((n : Int) ≤ 1000000)) else some false) (fun k => by simp only [spec_l2NumberOk.l0]; rw [if_neg (by omega)]) ?_
  refine Ev.bind hd ?_
  have e := dec_eq s n hs1 (hq.trans rfl)
  have e2 : (decP n).toList = s.toList ↔ ¬ (1 < s.size ∧ bt s 0 = 48) := by rw [← e]; exact ⟨fun h => bytes_inj h, fun h => by rw [h]⟩
  by_cases hc : 1 < s.size ∧ bt s 0 = 48
  ·rw [if_neg (fun h => (e2.1 h) hc)]
   simp only [hc.1, hc.2, decide_true, Bool.and_self, Bool.not_true, Bool.false_and]
   exact Ev.now _
  ·rw [if_pos (e2.2 hc)]
   have : (decide (1 < s.size) && decide (bt s 0 = 48)) = false := by rw [Bool.eq_false_iff]; intro h; simp at h; exact hc h
   rw [this]
   simp only [digsV, Bool.not_false, Bool.true_and]
   rw [show decide ((n : Int) ≤ 1000000) = decide (n ≤ 1000000) by rw [Bool.eq_iff_iff]; simp; omega]
   exact Ev.now _
 | d + 1, i, n, h, hn, hq => by
  have hi : 10 ^ i ≤ 10 ^ 6 := Nat.pow_le_pow_right (by omega) (by omega)
  obtain ⟨c, hc⟩ : ∃ c, bt s i = c := ⟨_, rfl⟩
  have hr := bt_range s i
  have e : wrap64 ((i : Int) + 1) = ((i + 1 : Nat) : Int) := by rw [w64 (by omega) (by omega)]; rfl
  rw [hc] at hr
  by_cases hb : 48 ≤ c ∧ c ≤ 57
  ·have ih := l2Num_l0 s hs hs1 d (i + 1) (n * 10 + (c - 48).toNat) (by omega) (by rw [Nat.pow_succ]; omega) (by rw [hq]; simp only [digsV, hc, if_pos hb])
   have e2 : wrap64 ((wrap64 ((n : Int) * 10)) + ((c - 48) % 256)) = ((n * 10 + (c - 48).toNat : Nat) : Int) := by
    rw [w64 (i := (n : Int) * 10) (by omega) (by omega), w64 (by omega) (by omega)]; omega
   refine Ev.unf (fun k => spec_l2NumberOk.l0 k s ((n * 10 + (c - 48).toNat : Nat) : Int) ((i + 1 : Nat) : Int)) (fun k => ?_) ?_
   ·simp only [spec_l2NumberOk.l0]
    rw [if_pos (by omega), if_pos (by omega), hc, if_neg (by omega), if_neg (by omega), e, e2]
   ·simp only [digsV, hc, if_pos hb]; exact ih
  ·refine Ev.unf (fun _ => some false) (fun k => ?_) (by simp only [digsV, hc, if_neg hb, Bool.and_false]; exact Ev.now _)
   simp only [spec_l2NumberOk.l0]
   rw [if_pos (by omega), if_pos (by omega), hc]
   by_cases h1 : c < 48
   ·rw [if_pos h1]
   ·rw [if_neg h1, if_pos (by omega)]
theorem ev_l2NumberOk (s : ByteArray) : Ev (fun k => spec_l2NumberOk.f k s) (numOk s) := by
 unfold spec_l2NumberOk.f spec_l1In.f numOk
 by_cases h1 : 1 ≤ s.size
 ·by_cases h2 : s.size ≤ 7
  ·rw [if_pos (by omega)]
   simp only [Option.bind_some, show ((s.size : Int) ≤ 7) = True from eq_true (by omega), decide_true, if_true, h1, h2, Bool.true_and]
   exact l2Num_l0 s h2 h1 s.size 0 0 (by omega) (by simp) rfl
  ·rw [if_pos (by omega)]
   simp only [Option.bind_some, show ((s.size : Int) ≤ 7) = False from eq_false (by omega), decide_false, Bool.false_eq_true, if_false, h1, h2, Bool.true_and, Bool.false_and, decide_true]
   exact Ev.now _
 ·rw [if_neg (by omega)]
  simp only [Option.bind_some, Bool.false_eq_true, if_false, h1, decide_false, Bool.false_and]
  exact Ev.now _
def tailP (s : ByteArray) : ByteArray := s.extract 1 s.size
def fitsP (t : Int) (s : ByteArray) : Bool :=
 if t = 1 then numOk s else if t = 2 then numOk s || (decide (1 < s.size) && (decide (bt s 0 = 45) && (!((tailP s).toList == ([48] : List UInt8)) && numOk (tailP s)))) else if t = 3 then nameOk s
 else if t = 4 then decide (s.size ≤ 200) else if t = 5 then (s.toList == ([121, 101, 115] : List UInt8)) || (s.toList == ([110, 111] : List UInt8))
 else (s.toList == ([110, 111, 110, 101] : List UInt8)) || ((s.toList == ([98, 101, 114, 116, 104] : List UInt8)) || (s.toList == ([122, 111, 110, 101] : List UInt8)))
theorem ev_l2Fits (t : Int) (s : ByteArray) (h1 : 1 ≤ t) (h6 : t ≤ 6) : Ev (fun k => spec_l2Fits.f k t s) (fitsP t s) := by
 unfold spec_l2Fits.f fitsP
 by_cases t1 : t = 1
 ·simp only [if_pos t1]; exact Ev.bind (ev_l2NumberOk s) (Ev.now _)
 simp only [if_neg t1]
 by_cases t2 : t = 2
 ·simp only [if_pos t2]
  refine Ev.bind (ev_l2NumberOk s) ?_
  cases hn : numOk s
  ·simp only [Bool.false_eq_true, if_false, Bool.false_or]
   by_cases z : 1 < s.size
   ·simp only [if_pos (show (s.size : Int) > 1 by omega), if_pos (show (0 : Int) < s.size by omega), z, decide_true, Bool.true_and]
    by_cases m : bt s 0 = 45
    ·simp only [if_pos m, m, decide_true, Bool.true_and, if_pos (show (1 : Int) ≤ s.size by omega)]
     change Ev (fun k => if (tailP s).toList = ([48] : List UInt8) then some false else (spec_l2NumberOk.f k (tailP s)).bind fun t211 => some t211) _
     by_cases q : (tailP s).toList = ([48] : List UInt8)
     ·simp only [if_pos q, q, beq_self_eq_true, Bool.not_true, Bool.false_and]; exact Ev.now _
     ·simp only [if_neg q, beq_eq_false_iff_ne.2 q, Bool.not_false, Bool.true_and]; exact Ev.bind (ev_l2NumberOk _) (Ev.now _)
    ·simp only [if_neg m, m, decide_false, Bool.false_and]; exact Ev.now _
   ·simp only [if_neg (show ¬ (s.size : Int) > 1 by omega), z, decide_false, Bool.false_and]; exact Ev.now _
  ·simp only [if_true, Bool.true_or]; exact Ev.now _
 simp only [if_neg t2]
 by_cases t3 : t = 3
 ·simp only [if_pos t3]; exact Ev.bind (ev_l2NameOk s) (Ev.now _)
 simp only [if_neg t3]
 by_cases t5 : t = 5
 ·simp only [if_pos t5, if_neg (show ¬ t = 4 by omega)]
  by_cases q : s.toList = ([121, 101, 115] : List UInt8)
  ·simp only [if_pos q, q, beq_self_eq_true, Bool.true_or]; exact Ev.now _
  ·simp only [if_neg q, beq_eq_false_iff_ne.2 q, Bool.false_or]; exact Ev.now _
 simp only [if_neg t5]
 by_cases t6 : t = 6
 ·simp only [if_pos t6, if_neg (show ¬ t = 4 by omega)]
  by_cases q : s.toList = ([110, 111, 110, 101] : List UInt8)
  ·simp only [if_pos q, q, beq_self_eq_true, Bool.true_or]; exact Ev.now _
  ·simp only [if_neg q, beq_eq_false_iff_ne.2 q, Bool.false_or]
   by_cases q : s.toList = ([98, 101, 114, 116, 104] : List UInt8)
   ·simp only [if_pos q, q, beq_self_eq_true, Bool.true_or]; exact Ev.now _
   ·simp only [if_neg q, beq_eq_false_iff_ne.2 q, Bool.false_or]; exact Ev.now _
 ·simp only [if_neg t6, if_pos (show t = 4 by omega)]
  rw [show decide ((s.size : Int) ≤ 200) = decide (s.size ≤ 200) by rw [Bool.eq_iff_iff]; simp; omega]
  exact Ev.now _
end Go.Proofs.YtmcdnpooclelgaaDoor.PAll
namespace Go.Proofs.YtmcdnpooclelgaaDoor.PAll
open Go.RowKit Go.Proofs.YtmcdnpooclelgaaDoorW.PrintWords Go.Proofs.YtmcdnpooclelgaaDoorW.PrintLast Go.Proofs.YtmcdnpooclelgaaDoorW.PrintMore
attribute [local go_sem] max2_int min2_int max_two min_two max_three min_three max_four min_four   -- for this text's walks alone
def spec_l2One.l0 : Nat → ByteArray → Int → Int → ByteArray → List Int → Bool → List ByteArray → Option (ByteArray × List Int × Bool × List ByteArray)
 | 0, _, _, _, _, _, _, _ => none
 | k + 1, x1, x8, x9, x150000, x150001, x150002, x150003 => if x9 ≤ (x1.size : Int) then (if x9 = (x1.size : Int) then (if 0 ≤ x8 then (if x8 ≤ x9 then (if x150003.length < 8796093022208 then (spec_l2One.l0 k x1 (wrap64 (x9 + 1)) (wrap64 (x9 + 1)) x150000 x150001 x150002 (x150003 ++ [x1.extract (x8 : Int).toNat (x9 : Int).toNat])) else (none)) else (none)) else (none)) else (if 0 ≤ x9 then (if x9 < (x1.size : Int) then (if (bt x1 x9) = 32 then (if 0 ≤ x8 then (if x8 ≤ x9 then (if x150003.length < 8796093022208 then (spec_l2One.l0 k x1 (wrap64 (x9 + 1)) (wrap64 (x9 + 1)) x150000 x150001 x150002 (x150003 ++ [x1.extract (x8 : Int).toNat (x9 : Int).toNat])) else (none)) else (none)) else (none)) else (spec_l2One.l0 k x1 x8 (wrap64 (x9 + 1)) x150000 x150001 x150002 x150003)) else (none)) else (none))) else (some (x150000, x150001, x150002, x150003))
def spec_l2One.f (k : Nat) (a0 : ByteArray) (a1 : ByteArray) (l2 : List Int) : Option (ByteArray × List Int × Bool × List ByteArray) := (some (([] : List Int) : List Int)).bind fun y143 => (if y143.length + l2.length < 17592186044416 then (spec_l2One.l0 k a1 0 0 a0 (y143 ++ l2) false ([] : List ByteArray)) else (none))
def spec_l2One.T7 : Bool × List (List Nat × List Nat) := (true, [([], []), ([0], [0]), ([], []), ([], []), ([], []), ([2, 3, 4], [2, 3, 4]), ([5], [5]), ([1, 6], [1, 6]), ([0, 1, 2, 3, 4, 5, 6, 7], []), ([8, 7, 7, 0, 1, 2, 3, 4, 5, 6, 7], [7, 8])])
def spec_l2One.B7 : List Nat := [0, 1, 0, 0, 0, 28, 60, 127, 255, 511]
theorem spec_l2One.tab7 : rtab .any (opsOf Tryd.f53 7) = spec_l2One.T7 := by kernel_rfl
theorem spec_l2One.bits7 : waitsOk spec_l2One.T7.2 spec_l2One.B7 = true := by kernel_rfl
set_option maxHeartbeats 8000000 in
set_option maxRecDepth 100000 in
theorem spec_l2One.calls (k : Nat) (a0 : ByteArray) (a1 : ByteArray) (A2 : Option Addr) (c2 : Nat) (l2 : List Int) (r1 : ByteArray) (r2 : List Int) (r3 : Bool) (r4 : List ByteArray) (w : World) (hr2 : Kd.C (Kd.int .i64) w A2 l2.length l2) (hc2 : l2.length ≤ c2) (h : spec_l2One.f k a0 a1 l2 = some (r1, r2, r3, r4)) :
  Calls Tryd.prog 53 #[.string a0, .string a1, .slice A2 l2.length c2] w fun e w' => ∃ v1_ v3_ : Value, e = .returned (.agg #[.string r1, v1_, .bool r3, v3_]) ∧ Kd.R (Kd.int .i64) 3 w' w.heap.size (fun _ => True) v1_ r2 ∧ Kd.R Kd.string 9 w' w.heap.size (fun _ => True) v3_ r4 ∧ Below w.heap.size w w' := by
 have hu36 := Tryd.underlying36
 have HR2 := Aside0.mk hr2
 have HC2 := Aside0.mk hc2
 clear hr2 hc2
 have HB := Aside0.mk (Below.refl w.heap.size w)
 have H : ((some (([] : List Int) : List Int)).bind fun y143 => (if y143.length + l2.length < 17592186044416 then (spec_l2One.l0 k a1 0 0 a0 (y143 ++ l2) false ([] : List ByteArray)) else (none))) = some (r1, r2, r3, r4) := h
 clear h
 obtain ⟨y143, hy143⟩ : ∃ y_ : List Int, y_ = (([] : List Int)) := ⟨_, rfl⟩
 replace H : (if y143.length + l2.length < 17592186044416 then (spec_l2One.l0 k a1 0 0 a0 (y143 ++ l2) false ([] : List ByteArray)) else (none)) = some (r1, r2, r3, r4) := by first | (rw [hy143]; with_reducible exact H) | (have H2_ := (Option.bind_some _ _).symm.trans H; rw [hy143]; with_reducible exact H2_) | (have H2_ := (Option.bind_some _ _).symm.trans H; with_reducible exact H2_) | with_reducible exact H | (rw [hy143]; exact H) | exact H
 have Ny143 := Aside0.mk hy143
 clear hy143
 by_cases c4 : y143.length + l2.length < 17592186044416
 ·rw [if_pos c4] at H
  have LMc4 := Aside0.mk c4
  clear c4
  obtain ⟨y146, hy146⟩ : ∃ y_ : List Int, y_ = (y143 ++ l2) := ⟨_, rfl⟩
  replace H : (spec_l2One.l0 k a1 0 0 a0 y146 false ([] : List ByteArray)) = some (r1, r2, r3, r4) := by first | (rw [hy146]; with_reducible exact H) | (have H2_ := (Option.bind_some _ _).symm.trans H; rw [hy146]; with_reducible exact H2_) | (have H2_ := (Option.bind_some _ _).symm.trans H; with_reducible exact H2_) | with_reducible exact H | (rw [hy146]; exact H) | exact H
  have Ny146 := Aside0.mk hy146
  clear hy146
  have H' := Aside0.mk H
  clear H
  go_enter Tryd.func53, Tryd.ntmps53
  go_wp2_with (first | ((with_reducible refine gate_dst (N := 6) rfl ?_); refine box_event ?hg (N := 6) ?hd (cs := #[.string (⟨#[]⟩ : ByteArray), .slice none 0 0, .bool false, .slice none 0 0]) (t := 36) ?hr ?_; (case hd => rfl); (case hg => rfl); (case hr => first | (go_simp; done) | (go_simp; rfl)); intro gb142 hg w5 hbox hb; have n0_ := Aside0.mk (below_step (stB HB.out) hb); have n1_ := Aside0.mk (hbox); have n2_ := Aside0.mk ((by rw [hg]; exact (below_size (stB HB.out)) : w.heap.size ≤ gb142)); have n3_ := Aside0.mk ((by rw [hg]; exact (below_size (stB HB.out)) : w.heap.size ≤ gb142)); clear HB; have HB := n0_; have BK142 := n1_; have GW142 := n2_; have GE142 := n3_; clear n0_ n1_ n2_ n3_; clear hb hbox hg) | ((with_reducible refine gate_dst (N := 11) rfl ?_); refine Kd.R_lit (Kd.int .i64) _ 3 ?hg (N := 11) ?hd (xs := ([] : List Int)) (inner := []) (ok := fun _ => True) (okp := fun _ => True) ?hr ?hp (fun _ hk => hk) trivial (Below.refl _ _) (Nat.le_refl _) (by simp) ?_; (case hd => rfl); (case hg => rfl); (case hr => first | (go_simp; done) | (go_simp; rfl)); (case hp => exact (Reps.none _ _)); intro v144 w6 ho7 hb hg_ hnew_; clear hg_ hnew_; (first | rw [← Ny143.out] at ho7 | (simp only [Int.reduceToNat] at ho7; rw [← Ny143.out] at ho7)); have n0_ := Aside0.mk (Kd.R_lower ho7 (below_size (by repeat (first | (with_reducible first | exact HB.out | apply below_alloc | apply pw_below_drewN | apply below_drew1 | refine below_set ?_ GE142.out) | exact HB.out)))); have n1_ := Aside0.mk (blk_below (g := gb142) (o := .cells #[.string (⟨#[]⟩ : ByteArray), .slice none 0 0, .bool false, .slice none 0 0] 36 (0, 0)) (by (with_reducible repeat (first | refine blk_drewN ?_ _ | refine blk_drew ?_ | refine blk_alloc ?_ _)); exact BK142.out) hb); have n2_ := Aside0.mk (below_step (by repeat (first | (with_reducible first | exact HB.out | apply below_alloc | apply pw_below_drewN | apply below_drew1 | refine below_set ?_ GE142.out) | exact HB.out)) hb); clear BK142; clear HB; have HO145 := n0_; have BK142 := n1_; have HB := n2_; clear n0_ n1_ n2_; clear hb ho7) | ((with_reducible refine gate_builtin (b := .append) (xs := #[.tmp 11, .tmp 12]) rfl ?_); at_builtin; refine Kd.R_append_rows (Kd.int .i64) (w0 := w) w.heap.size rfl (.tmp 11) (.tmp 12) 34 3 (.int .i64 0) 8 rfl Tryd.underlying34 info3 rfl (by decide) (by omega) v144 y143 l2 _ _ _ (fun _ => True) (fun _ => False) rfl rfl ?aO ?aR (fun _ _ h => h) (fun _ h => h.elim) ?aF ?aB ?aS ?aL ?_; (case aR => repeat (first | exact (Kd.C_below HR2.out HB.out) | (with_reducible refine Kd.C_alloc ?_ _) | (with_reducible refine Kd.C_drewN ?_ _) | (with_reducible refine Kd.C_drew ?_))); (case aB => exact (by repeat (first | (with_reducible first | exact HB.out | apply below_alloc | apply pw_below_drewN | apply below_drew1 | refine below_set ?_ GE142.out) | exact HB.out))); (case aF => exact (fun _ _ => trivial)); (case aO => exact (stR HO145.out)); (case aS => exact (below_size (by repeat (first | (with_reducible first | exact HB.out | apply below_alloc | apply pw_below_drewN | apply below_drew1 | refine below_set ?_ GE142.out) | exact HB.out)))); (case aL => have := LMc4.out; omega); intro v147 w8 ho hb hg hat; rw [← Ny146.out] at ho; have n0_ := Aside0.mk (blk_grown (g := gb142) (o := .cells #[.string (⟨#[]⟩ : ByteArray), .slice none 0 0, .bool false, .slice none 0 0] 36 (0, 0)) (by (with_reducible repeat (first | refine blk_drewN ?_ _ | refine blk_drew ?_ | refine blk_alloc ?_ _)); exact BK142.out) hg (Kd.R_ne HO145.out BK142.out (by decide))); have n1_ := Aside0.mk (hb); have n2_ := Aside0.mk (ho); clear BK142; clear HB; clear HO145; have BK142 := n0_; have HB := n1_; have HO148 := n2_; clear n0_ n1_ n2_; clear ho hb hg hat; obtain ⟨Ao9, co9, eo9⟩ := Kd.R_slice HO148.out; subst eo9) | ((with_reducible refine gate_dst (N := 7) rfl ?_); refine box_event ?hg (N := 7) ?hd (cs := #[.string (⟨#[]⟩ : ByteArray), .slice none 0 0, .bool false, .slice none 0 0]) (t := 36) ?hr ?_; (case hd => rfl); (case hg => rfl); (case hr => first | (go_simp; done) | (go_simp; rfl)); intro gb149 hg w10 hbox hb; have n0_ := Aside0.mk (Kd.R_below (stR HO148.out) hb); have n1_ := Aside0.mk (blk_below (g := gb142) (o := .cells #[.string (⟨#[]⟩ : ByteArray), .slice none 0 0, .bool false, .slice none 0 0] 36 (0, 0)) (by (with_reducible repeat (first | refine blk_drewN ?_ _ | refine blk_drew ?_ | refine blk_alloc ?_ _)); exact BK142.out) hb); have n2_ := Aside0.mk (below_step (by repeat (first | (with_reducible first | exact HB.out | apply below_alloc | apply pw_below_drewN | apply below_drew1 | refine below_set ?_ GE142.out) | exact HB.out)) hb); have n3_ := Aside0.mk (hbox); have n4_ := Aside0.mk ((by rw [hg]; exact (below_size (by repeat (first | (with_reducible first | exact HB.out | apply below_alloc | apply pw_below_drewN | apply below_drew1 | refine below_set ?_ GE142.out) | exact HB.out))) : w.heap.size ≤ gb149)); have n5_ := Aside0.mk ((by rw [hg]; exact (below_size (by repeat (first | (with_reducible first | exact HB.out | apply below_alloc | apply pw_below_drewN | apply below_drew1 | refine below_set ?_ GE142.out) | exact HB.out))) : w.heap.size ≤ gb149)); have n6_ := Aside0.mk ((by rw [hg]; exact Nat.ne_of_lt (blk_lt (g := gb142) (o := .cells #[.string (⟨#[]⟩ : ByteArray), .slice none 0 0, .bool false, .slice none 0 0] 36 (0, 0)) (by (with_reducible repeat (first | refine blk_drewN ?_ _ | refine blk_drew ?_ | refine blk_alloc ?_ _)); exact BK142.out)) : gb142 ≠ gb149)); have n7_ := Aside0.mk ((by rw [hg]; exact Nat.ne_of_gt (blk_lt (g := gb142) (o := .cells #[.string (⟨#[]⟩ : ByteArray), .slice none 0 0, .bool false, .slice none 0 0] 36 (0, 0)) (by (with_reducible repeat (first | refine blk_drewN ?_ _ | refine blk_drew ?_ | refine blk_alloc ?_ _)); exact BK142.out)) : gb149 ≠ gb142)); clear HO148; clear BK142; clear HB; have HO148 := n0_; have BK142 := n1_; have HB := n2_; have BK149 := n3_; have GW149 := n4_; have GE149 := n5_; have NB142_149 := n6_; have NB149_142 := n7_; clear n0_ n1_ n2_ n3_ n4_ n5_ n6_ n7_; clear hb hbox hg; have hnb11 := NB149_142.out; have hnc11 := NB142_149.out; have hcz12_0 : w10.cell? ⟨gb149, 0, none⟩ = some (.string (⟨#[]⟩ : ByteArray)) := (blk_cell BK149.out 0).trans rfl; have hcz12_1 : w10.cell? ⟨gb149, 1, none⟩ = some (.slice none 0 0) := (blk_cell BK149.out 1).trans rfl; have hcz12_2 : w10.cell? ⟨gb149, 2, none⟩ = some (.bool false) := (blk_cell BK149.out 2).trans rfl; have hcz12_3 : w10.cell? ⟨gb149, 3, none⟩ = some (.slice none 0 0) := (blk_cell BK149.out 3).trans rfl; have hfz12_0 := blk_frozen BK149.out 0; have hfz12_1 := blk_frozen BK149.out 1; have hfz12_2 := blk_frozen BK149.out 2; have hfz12_3 := blk_frozen BK149.out 3))
  go_loopg [8, 9] k (fun kq v8 v9 w' => ∃ (x8_1 : Int) (x9_1 : Int) (x150003_1 : List ByteArray) (u150003 : Value), v8 = .int .i64 x8_1 ∧ v9 = .int .i64 x9_1 ∧ Aside0 (spec_l2One.l0 kq a1 x8_1 x9_1 a0 y146 false x150003_1 = some (r1, r2, r3, r4)) ∧ Aside0 (kq ≤ k) ∧ Aside0 (Kd.R (Kd.int .i64) 3 w' w.heap.size (fun _ => True) (.slice Ao9 y146.length co9) y146) ∧ Aside0 (Kd.R Kd.string 9 w' w.heap.size (fun _ => True) u150003 x150003_1) ∧ Aside0 (w'.heap[gb142]? = some (.cells #[.string (⟨#[]⟩ : ByteArray), (.slice none 0 0), .bool false, (.slice none 0 0)] 36 (0, 0))) ∧ Aside0 (w'.heap[gb149]? = some (.cells #[.string a0, (.slice Ao9 y146.length co9), .bool false, u150003] 36 (0, 0))) ∧ Aside0 (Below w.heap.size w w'))
  case atStart => exact ⟨(0), (0), (([] : List ByteArray)), (.slice none 0 0), (by first | rfl | (simp; done) | (simp [*]; done)), (by first | rfl | (simp; done) | (simp [*]; done)), H', ⟨Nat.le_refl _⟩, ⟨by (with_reducible repeat (first | apply Kd.R_alloc | apply Kd.R_drewN | apply Kd.R_drew)); exact Kd.R_mono (Kd.R_far (p := ⟨gb149, 3, none⟩) (Kd.R_far (p := ⟨gb149, 2, none⟩) (Kd.R_far (p := ⟨gb149, 1, none⟩) (Kd.R_far (p := ⟨gb149, 0, none⟩) (Kd.R_types HO148.out BK149.out (by decide)) (fun _ hk => hk.2) (.string a0)) (fun _ hk => hk.2) (.slice Ao9 y146.length co9)) (fun _ hk => hk.2) (.bool false)) (fun _ hk => hk.2) (.slice none 0 0)) (fun _ hk => trivial)⟩, ⟨by first | exact Kd.R_nil _ _ _ _ _ | exact Kd.N_nil _ _ _ _ _ | exact Kd.V_nil _ _ _ _ _ | exact Kd.Q_nil _ _ _ _ _ | exact Kd.S_nil _ _ _ _ _⟩, ⟨by (with_reducible repeat (first | refine blk_drewN ?_ _ | refine blk_drew ?_ | refine blk_alloc ?_ _)); refine blk_far ?_ NB142_149.out _; (with_reducible repeat (first | refine blk_drewN ?_ _ | refine blk_drew ?_ | refine blk_alloc ?_ _)); refine blk_far ?_ NB142_149.out _; (with_reducible repeat (first | refine blk_drewN ?_ _ | refine blk_drew ?_ | refine blk_alloc ?_ _)); refine blk_far ?_ NB142_149.out _; (with_reducible repeat (first | refine blk_drewN ?_ _ | refine blk_drew ?_ | refine blk_alloc ?_ _)); refine blk_far ?_ NB142_149.out _; (with_reducible repeat (first | refine blk_drewN ?_ _ | refine blk_drew ?_ | refine blk_alloc ?_ _)); exact BK142.out⟩, ⟨by (with_reducible repeat (first | refine blk_drewN ?_ _ | refine blk_drew ?_ | refine blk_alloc ?_ _)); refine blk_put (cs := #[.string a0, .slice Ao9 y146.length co9, .bool false, .slice none 0 0]) ?_ 3 _ rfl; (with_reducible repeat (first | refine blk_drewN ?_ _ | refine blk_drew ?_ | refine blk_alloc ?_ _)); refine blk_put (cs := #[.string a0, .slice Ao9 y146.length co9, .bool false, .slice none 0 0]) ?_ 2 _ rfl; (with_reducible repeat (first | refine blk_drewN ?_ _ | refine blk_drew ?_ | refine blk_alloc ?_ _)); refine blk_put (cs := #[.string a0, .slice none 0 0, .bool false, .slice none 0 0]) ?_ 1 _ rfl; (with_reducible repeat (first | refine blk_drewN ?_ _ | refine blk_drew ?_ | refine blk_alloc ?_ _)); refine blk_put (cs := #[.string (⟨#[]⟩ : ByteArray), .slice none 0 0, .bool false, .slice none 0 0]) ?_ 0 _ rfl; (with_reducible repeat (first | refine blk_drewN ?_ _ | refine blk_drew ?_ | refine blk_alloc ?_ _)); exact BK149.out⟩, ⟨by repeat (first | (with_reducible first | exact HB.out | apply below_alloc | apply pw_below_drewN | apply below_drew1 | refine below_set ?_ GE142.out | refine below_set ?_ GE149.out) | exact HB.out)⟩⟩
  case round =>
   clear H'
   try clear c1
   try clear c2
   try clear p2
   try clear c4
   try clear c5
   try clear c11
   try clear hcz12_0
   try clear hcz12_1
   try clear hcz12_2
   try clear hcz12_3
   try clear hfz12_0
   try clear hfz12_1
   try clear hfz12_2
   try clear hfz12_3
   obtain ⟨x8_1, x9_1, x150003_1, u150003, rfl, rfl, HA, HK1, HO_150001, HO_150003, BK142, BK149, HB⟩ := hrel
   cases gk with
   | zero => exact absurd HA.out (by simp [spec_l2One.l0])
   | succ k1 =>
    have H := HA.out
    clear HA
    simp only [spec_l2One.l0] at H
    by_cases c13 : x9_1 ≤ (a1.size : Int)
    ·rw [if_pos c13] at H
     have c13b0 : decide (x9_1 ≤ (a1.size : Int)) = true := decide_eq_true c13
     clear c13
     by_cases c14 : x9_1 = (a1.size : Int)
     ·rw [if_pos c14] at H
      have c14b0 : (x9_1 == (a1.size : Int)) = true := beq_iff_eq.mpr c14
      have c14b1 : (x9_1 != (a1.size : Int)) = false := bne_eq_false_iff_eq.mpr c14
      clear c14
      by_cases c15 : 0 ≤ x8_1
      ·rw [if_pos c15] at H
       have c15b0 := eq_true c15
       have c15b1 : decide (0 ≤ x8_1) = true := decide_eq_true c15
       clear c15
       by_cases c16 : x8_1 ≤ x9_1
       ·rw [if_pos c16] at H
        have c16b0 := eq_true c16
        have c16b1 : decide (x8_1 ≤ x9_1) = true := decide_eq_true c16
        clear c16
        have c17b0 := eq_true (of_decide_eq_true (by first | (with_reducible assumption) | assumption) : x9_1 ≤ (a1.size : Int))
        by_cases c18 : x150003_1.length < 8796093022208
        ·rw [if_pos c18] at H
         have LMc18 := Aside0.mk c18
         clear c18
         obtain ⟨y150, hy150⟩ : ∃ y_ : List ByteArray, y_ = (x150003_1 ++ [a1.extract (x8_1 : Int).toNat (x9_1 : Int).toNat]) := ⟨_, rfl⟩
         replace H : (spec_l2One.l0 k1 a1 (wrap64 (x9_1 + 1)) (wrap64 (x9_1 + 1)) a0 y146 false y150) = some (r1, r2, r3, r4) := by first | (rw [hy150]; with_reducible exact H) | (have H2_ := (Option.bind_some _ _).symm.trans H; rw [hy150]; with_reducible exact H2_) | (have H2_ := (Option.bind_some _ _).symm.trans H; with_reducible exact H2_) | with_reducible exact H | (rw [hy150]; exact H) | exact H
         have Ny150 := Aside0.mk hy150
         clear hy150
         have H' := Aside0.mk H
         clear H
         try go_wp2
         have n0_ := Aside0.mk (Kd.R_drew HO_150001.out)
         have n1_ := Aside0.mk (Kd.R_drew HO_150003.out)
         have n2_ := Aside0.mk (blk_drew BK142.out)
         have n3_ := Aside0.mk (blk_drew BK149.out)
         have n4_ := Aside0.mk (below_drew1 HB.out)
         clear HO_150001
         clear HO_150003
         clear BK142
         clear BK149
         clear HB
         have HO_150001 := n0_
         have HO_150003 := n1_
         have BK142 := n2_
         have BK149 := n3_
         have HB := n4_
         clear n0_ n1_ n2_ n3_ n4_
         refine start_ (n := 10) (S := fun w' => w'.cell? ⟨gb149, 0, none⟩ = some (.string a0) ∧ w'.cell? ⟨gb149, 1, none⟩ = some (.slice Ao9 y146.length co9) ∧ w'.cell? ⟨gb149, 2, none⟩ = some (.bool false) ∧ w'.cell? ⟨gb149, 3, none⟩ = some (u150003)) (ds := [9]) (bz_ 10 0) (by kernel_rfl) rfl rfl ⟨(blk_cell BK149.out 0).trans rfl, (blk_cell BK149.out 1).trans rfl, (blk_cell BK149.out 2).trans rfl, (blk_cell BK149.out 3).trans rfl⟩ (fun hHeld => ?_); refine with_tabW spec_l2One.tab7 spec_l2One.bits7 (fun HT_ HW_ => ?_)
         generalize wr.drew = w19 at HO_150001 HO_150003 BK142 BK149 HB hHeld ⊢
         refine pure_ (i := 0) (N := some 31) (v := ?_) (a' := ?_) (bz_ 10 1) rfl rfl (any_of HT_.out (by kernel_rfl)) (fun _ _ _ h => h) (Or.inl ⟨by rfl, ?_⟩) ?_ ?_
         rotate_left
         ·intro w'
          go_simp
          with_reducible rfl
         rotate_left
         ·simp only [Act.put, List.setIfInBounds_toArray, List.set_cons_zero, List.set_cons_succ, i64_w, i32_w]
          rfl
         refine pure_ (i := 2) (N := some 33) (v := ?_) (a' := ?_) (bz_ 10 5) rfl rfl (any_of HT_.out (by kernel_rfl)) (fun _ _ _ h => h) (Or.inl ⟨by rfl, ?_⟩) ?_ ?_
         rotate_left
         ·intro w'
          go_simp
          with_reducible rfl
         rotate_left
         ·simp only [Act.put, List.setIfInBounds_toArray, List.set_cons_zero, List.set_cons_succ, i64_w, i32_w]
          rfl
         refine pure_ (i := 3) (N := some 34) (v := ?_) (a' := ?_) (bz_ 10 13) rfl rfl (any_of HT_.out (by kernel_rfl)) (fun _ _ _ h => h) (Or.inl ⟨by rfl, ?_⟩) ?_ ?_
         rotate_left
         ·intro w'
          go_simp
          with_reducible rfl
         rotate_left
         ·simp only [Act.put, List.setIfInBounds_toArray, List.set_cons_zero, List.set_cons_succ, i64_w, i32_w]
          rfl
         refine pure_ (i := 4) (N := some 35) (v := ?_) (a' := ?_) (bz_ 10 29) rfl rfl (any_of HT_.out (by kernel_rfl)) (fun _ _ _ h => h) (Or.inl ⟨by rfl, ?_⟩) ?_ ?_
         rotate_left
         ·intro w'
          go_simp
          with_reducible rfl
         rotate_left
         ·simp only [Act.put, List.setIfInBounds_toArray, List.set_cons_zero, List.set_cons_succ, i64_w, i32_w]
          rfl
         refine pure_ (i := 5) (N := some 36) (v := ?_) (a' := ?_) (bz_ 10 61) rfl rfl (any_of HT_.out (by kernel_rfl)) (fun _ _ _ h => h) (Or.inl ⟨by rfl, ?_⟩) ?_ ?_
         rotate_left
         ·intro w'
          go_simp
          with_reducible rfl
         rotate_left
         ·simp only [Act.put, List.setIfInBounds_toArray, List.set_cons_zero, List.set_cons_succ, i64_w, i32_w]
          rfl
         refine take_ (i := 1) (N := some 32) (v := ?_) (a' := ?_) (bz_ 10 63) rfl rfl (take_ofW HT_.out HW_.out (by kernel_rfl)) (fun _ _ _ h => h) (Or.inl ⟨by rfl, ?_⟩) hHeld ?_ ?_
         rotate_left
         ·rintro w' ⟨s0, s1, s2, s3⟩
          go_simp
          with_reducible rfl
         rotate_left
         ·simp only [Act.put, List.setIfInBounds_toArray, List.set_cons_zero, List.set_cons_succ, i64_w, i32_w]
          rfl
         refine one_ (i := 6) (N := some 37) (bz_ 10 127) rfl rfl (one_of HT_.out (by kernel_rfl)) (by decide) (fun K hK => ?_)
         refine value_ (w1 := ?_) (v := ?_) (by rfl) rfl ?_ ?_
         rotate_left 2
         ·go_simp
          constructor
          ·rfl
          ·rfl
         refine hK.out _ _ ⟨(blk_cell (blk_alloc BK149.out _) 0).trans rfl, (blk_cell (blk_alloc BK149.out _) 1).trans rfl, (blk_cell (blk_alloc BK149.out _) 2).trans rfl, (blk_cell (blk_alloc BK149.out _) 3).trans rfl⟩ (fun hHeld => ?_)
         clear hK K
         refine norm_ (a' := ?_) ?_ ?_
         rotate_left
         ·show Act.put _ (some 37) _ = _
          simp only [Act.put, List.setIfInBounds_toArray, List.set_cons_zero, List.set_cons_succ, i64_w, i32_w]
          rfl
         refine one_ (i := 7) (N := some 38) (bz_ 10 255) rfl rfl (one_of HT_.out (by kernel_rfl)) (by decide) (fun K hK => ?_)
         refine Kd.R_append_step Kd.string (w0 := w) w.heap.size (by rfl) (.tmp 32) (.tmp 37) 27 9 (.string ⟨#[]⟩) 16 rfl Tryd.underlying27 info9 rfl (by decide) (by omega) u150003 x150003_1 (a1.extract (x8_1 : Int).toNat (x9_1 : Int).toNat) [.string (a1.extract (x8_1 : Int).toNat (x9_1 : Int).toNat)] (fun _ => True) (fun _ => False) rfl rfl ?aP (fun _ hk => hk.elim) ?aF ?aO ?aB ?aS ?aL ?_
         (case aP => exact rfl)
         (case aB => exact (by repeat (first | (with_reducible first | exact HB.out | apply below_alloc | apply pw_below_drewN | apply below_drew1 | refine below_set ?_ GE142.out | refine below_set ?_ GE149.out) | exact HB.out)))
         (case aF => exact (fun _ _ => trivial))
         (case aO => exact (stR HO_150003.out))
         (case aS => exact (below_size (by repeat (first | (with_reducible first | exact HB.out | apply below_alloc | apply pw_below_drewN | apply below_drew1 | refine below_set ?_ GE142.out | refine below_set ?_ GE149.out) | exact HB.out))))
         (case aL => have := LMc18.out; omega)
         intro v151 w20 ho hb hg hat
         rw [← Ny150.out] at ho
         have n0_ := Aside0.mk (Kd.R_over' (stR HO_150001.out) (Kd.R_typed (stR HO_150003.out)) (by decide) hg)
         have n1_ := Aside0.mk (blk_grown (g := gb142) (o := .cells #[.string (⟨#[]⟩ : ByteArray), .slice none 0 0, .bool false, .slice none 0 0] 36 (0, 0)) (by (with_reducible repeat (first | refine blk_drewN ?_ _ | refine blk_drew ?_ | refine blk_alloc ?_ _)); exact BK142.out) hg (Kd.R_ne HO_150003.out BK142.out (by decide)))
         have n2_ := Aside0.mk (blk_grown (g := gb149) (o := .cells #[.string a0, .slice Ao9 y146.length co9, .bool false, u150003] 36 (0, 0)) (by (with_reducible repeat (first | refine blk_drewN ?_ _ | refine blk_drew ?_ | refine blk_alloc ?_ _)); exact BK149.out) hg (Kd.R_ne HO_150003.out BK149.out (by decide)))
         have n3_ := Aside0.mk (hb)
         have n4_ := Aside0.mk (ho)
         clear HO_150001
         clear BK142
         clear BK149
         clear HB
         clear HO_150003
         have HO_150001 := n0_
         have BK142 := n1_
         have BK149 := n2_
         have HB := n3_
         have HO152 := n4_
         clear n0_ n1_ n2_ n3_ n4_
         clear ho hb hg hat
         obtain ⟨Ao21, co21, eo21⟩ := Kd.R_slice HO152.out
         (first | subst eo21 | (injection eo21 with f1_ f2_ f3_; have f4_ := f1_.symm; have f5_ := f3_.symm; clear f1_ f2_ f3_; subst f4_; subst f5_))
         refine hK.out _ _ ⟨(blk_cell BK149.out 0).trans rfl, (blk_cell BK149.out 1).trans rfl, (blk_cell BK149.out 2).trans rfl, (blk_cell BK149.out 3).trans rfl⟩ (fun hHeld => ?_)
         clear hK K
         refine norm_ (a' := ?_) ?_ ?_
         rotate_left
         ·show Act.put _ (some 38) _ = _
          simp only [Act.put, List.setIfInBounds_toArray, List.set_cons_zero, List.set_cons_succ, i64_w, i32_w]
          rfl
         refine pure_ (i := 8) (N := some 39) (v := ?_) (a' := ?_) (bz_ 10 511) rfl rfl (any_of HT_.out (by kernel_rfl)) (fun _ _ _ h => h) (Or.inl ⟨by rfl, ?_⟩) ?_ ?_
         rotate_left
         ·intro w'
          go_simp
          with_reducible rfl
         rotate_left
         ·simp only [Act.put, List.setIfInBounds_toArray, List.set_cons_zero, List.set_cons_succ, i64_w, i32_w]
          rfl
         refine last_ (i := 9) (N := none) (bz_ 10 1023) rfl rfl (one_of HT_.out (by kernel_rfl)) (by decide) (fun K hK => ?_)
         have hs22 : w20.cell? ⟨gb149, 3, none⟩ = some (u150003) := (blk_cell BK149.out 3).trans rfl
         have hfs22 := blk_frozen BK149.out 3
         have hns22_0 := NB142_149.out
         have hms22_0 := NB149_142.out
         refine skip_ (w1 := ?_) (by rfl) rfl ?_ ?_
         rotate_left
         ·go_simp
          rfl
         refine hK.out _ _ ?_
         clear hK K
         refine done_ (done_of HT_.out (by kernel_rfl)) ?_
         try go_wp2
         go_roundg k1
         case measure => have := HK1.out; omega
         case rel => exact ⟨(wrap64 (x9_1 + 1)), (wrap64 (x9_1 + 1)), (y150), (.slice Ao21 y150.length co21), (by first | rfl | (simp; done) | (simp [*]; done)), (by first | rfl | (simp; done) | (simp [*]; done)), H', ⟨by have := HK1.out; omega⟩, ⟨by (with_reducible repeat (first | apply Kd.R_alloc | apply Kd.R_drewN | apply Kd.R_drew)); exact Kd.R_mono (Kd.R_far (p := ⟨gb149, 3, none⟩) (Kd.R_types HO_150001.out BK149.out (by decide)) (fun _ hk => hk.2) (.slice Ao21 y150.length co21)) (fun _ hk => trivial)⟩, ⟨by (with_reducible repeat (first | apply Kd.R_alloc | apply Kd.R_drewN | apply Kd.R_drew)); exact Kd.R_mono (Kd.R_far (p := ⟨gb149, 3, none⟩) (Kd.R_types HO152.out BK149.out (by decide)) (fun _ hk => hk.2) (.slice Ao21 y150.length co21)) (fun _ hk => trivial)⟩, ⟨by (with_reducible repeat (first | refine blk_drewN ?_ _ | refine blk_drew ?_ | refine blk_alloc ?_ _)); refine blk_far ?_ NB142_149.out _; (with_reducible repeat (first | refine blk_drewN ?_ _ | refine blk_drew ?_ | refine blk_alloc ?_ _)); exact BK142.out⟩, ⟨by (with_reducible repeat (first | refine blk_drewN ?_ _ | refine blk_drew ?_ | refine blk_alloc ?_ _)); refine blk_put (cs := #[.string a0, .slice Ao9 y146.length co9, .bool false, u150003]) ?_ 3 _ rfl; (with_reducible repeat (first | refine blk_drewN ?_ _ | refine blk_drew ?_ | refine blk_alloc ?_ _)); exact BK149.out⟩, ⟨by repeat (first | (with_reducible first | exact HB.out | apply below_alloc | apply pw_below_drewN | apply below_drew1 | refine below_set ?_ GE142.out | refine below_set ?_ GE149.out) | exact HB.out)⟩⟩
        ·rw [if_neg c18] at H
         exact absurd H (by simp)
       ·rw [if_neg c16] at H
        exact absurd H (by simp)
      ·rw [if_neg c15] at H
       exact absurd H (by simp)
     ·rw [if_neg c14] at H
      have c14b0 : (x9_1 == (a1.size : Int)) = false := beq_eq_false_iff_ne.mpr c14
      have c14b1 : (x9_1 != (a1.size : Int)) = true := bne_iff_ne.mpr c14
      by_cases c23 : 0 ≤ x9_1
      ·rw [if_pos c23] at H
       have c23b0 : decide (0 ≤ x9_1) = true := decide_eq_true c23
       clear c23
       by_cases c24 : x9_1 < (a1.size : Int)
       ·rw [if_pos c24] at H
        have c24b0 : decide (x9_1 < (a1.size : Int)) = true := decide_eq_true c24
        clear c24
        by_cases c26 : (bt a1 x9_1) = 32
        ·rw [if_pos c26] at H
         have c26b0 : ((bt a1 x9_1) == 32) = true := beq_iff_eq.mpr c26
         have c26b1 : ((bt a1 x9_1) != 32) = false := bne_eq_false_iff_eq.mpr c26
         clear c26
         by_cases c27 : 0 ≤ x8_1
         ·rw [if_pos c27] at H
          have c27b0 := eq_true c27
          have c27b1 : decide (0 ≤ x8_1) = true := decide_eq_true c27
          clear c27
          by_cases c28 : x8_1 ≤ x9_1
          ·rw [if_pos c28] at H
           have c28b0 := eq_true c28
           have c28b1 : decide (x8_1 ≤ x9_1) = true := decide_eq_true c28
           clear c28
           have c29b0 := eq_true (of_decide_eq_true (by first | (with_reducible assumption) | assumption) : x9_1 ≤ (a1.size : Int))
           by_cases c30 : x150003_1.length < 8796093022208
           ·rw [if_pos c30] at H
            have LMc30 := Aside0.mk c30
            clear c30
            obtain ⟨y153, hy153⟩ : ∃ y_ : List ByteArray, y_ = (x150003_1 ++ [a1.extract (x8_1 : Int).toNat (x9_1 : Int).toNat]) := ⟨_, rfl⟩
            replace H : (spec_l2One.l0 k1 a1 (wrap64 (x9_1 + 1)) (wrap64 (x9_1 + 1)) a0 y146 false y153) = some (r1, r2, r3, r4) := by first | (rw [hy153]; with_reducible exact H) | (have H2_ := (Option.bind_some _ _).symm.trans H; rw [hy153]; with_reducible exact H2_) | (have H2_ := (Option.bind_some _ _).symm.trans H; with_reducible exact H2_) | with_reducible exact H | (rw [hy153]; exact H) | exact H
            have Ny153 := Aside0.mk hy153
            clear hy153
            have H' := Aside0.mk H
            clear H
            have p25 : 0 ≤ (x9_1 : Int) := of_decide_eq_true (by first | (with_reducible assumption) | assumption)
            have q25 : x9_1 < (a1.size : Int) := of_decide_eq_true (by first | (with_reducible assumption) | assumption)
            have hx25 := bt_at a1 x9_1
            replace p25 := eq_true p25
            replace q25 := eq_true q25
            try go_wp2
            have n0_ := Aside0.mk (Kd.R_drew HO_150001.out)
            have n1_ := Aside0.mk (Kd.R_drew HO_150003.out)
            have n2_ := Aside0.mk (blk_drew BK142.out)
            have n3_ := Aside0.mk (blk_drew BK149.out)
            have n4_ := Aside0.mk (below_drew1 HB.out)
            clear HO_150001
            clear HO_150003
            clear BK142
            clear BK149
            clear HB
            have HO_150001 := n0_
            have HO_150003 := n1_
            have BK142 := n2_
            have BK149 := n3_
            have HB := n4_
            clear n0_ n1_ n2_ n3_ n4_
            refine start_ (n := 10) (S := fun w' => w'.cell? ⟨gb149, 0, none⟩ = some (.string a0) ∧ w'.cell? ⟨gb149, 1, none⟩ = some (.slice Ao9 y146.length co9) ∧ w'.cell? ⟨gb149, 2, none⟩ = some (.bool false) ∧ w'.cell? ⟨gb149, 3, none⟩ = some (u150003)) (ds := [9]) (bz_ 10 0) (by kernel_rfl) rfl rfl ⟨(blk_cell BK149.out 0).trans rfl, (blk_cell BK149.out 1).trans rfl, (blk_cell BK149.out 2).trans rfl, (blk_cell BK149.out 3).trans rfl⟩ (fun hHeld => ?_); refine with_tabW spec_l2One.tab7 spec_l2One.bits7 (fun HT_ HW_ => ?_)
            generalize wr.drew = w31 at HO_150001 HO_150003 BK142 BK149 HB hHeld ⊢
            refine pure_ (i := 0) (N := some 31) (v := ?_) (a' := ?_) (bz_ 10 1) rfl rfl (any_of HT_.out (by kernel_rfl)) (fun _ _ _ h => h) (Or.inl ⟨by rfl, ?_⟩) ?_ ?_
            rotate_left
            ·intro w'
             go_simp
             with_reducible rfl
            rotate_left
            ·simp only [Act.put, List.setIfInBounds_toArray, List.set_cons_zero, List.set_cons_succ, i64_w, i32_w]
             rfl
            refine pure_ (i := 2) (N := some 33) (v := ?_) (a' := ?_) (bz_ 10 5) rfl rfl (any_of HT_.out (by kernel_rfl)) (fun _ _ _ h => h) (Or.inl ⟨by rfl, ?_⟩) ?_ ?_
            rotate_left
            ·intro w'
             go_simp
             with_reducible rfl
            rotate_left
            ·simp only [Act.put, List.setIfInBounds_toArray, List.set_cons_zero, List.set_cons_succ, i64_w, i32_w]
             rfl
            refine pure_ (i := 3) (N := some 34) (v := ?_) (a' := ?_) (bz_ 10 13) rfl rfl (any_of HT_.out (by kernel_rfl)) (fun _ _ _ h => h) (Or.inl ⟨by rfl, ?_⟩) ?_ ?_
            rotate_left
            ·intro w'
             go_simp
             with_reducible rfl
            rotate_left
            ·simp only [Act.put, List.setIfInBounds_toArray, List.set_cons_zero, List.set_cons_succ, i64_w, i32_w]
             rfl
            refine pure_ (i := 4) (N := some 35) (v := ?_) (a' := ?_) (bz_ 10 29) rfl rfl (any_of HT_.out (by kernel_rfl)) (fun _ _ _ h => h) (Or.inl ⟨by rfl, ?_⟩) ?_ ?_
            rotate_left
            ·intro w'
             go_simp
             with_reducible rfl
            rotate_left
            ·simp only [Act.put, List.setIfInBounds_toArray, List.set_cons_zero, List.set_cons_succ, i64_w, i32_w]
             rfl
            refine pure_ (i := 5) (N := some 36) (v := ?_) (a' := ?_) (bz_ 10 61) rfl rfl (any_of HT_.out (by kernel_rfl)) (fun _ _ _ h => h) (Or.inl ⟨by rfl, ?_⟩) ?_ ?_
            rotate_left
            ·intro w'
             go_simp
             with_reducible rfl
            rotate_left
            ·simp only [Act.put, List.setIfInBounds_toArray, List.set_cons_zero, List.set_cons_succ, i64_w, i32_w]
             rfl
            refine take_ (i := 1) (N := some 32) (v := ?_) (a' := ?_) (bz_ 10 63) rfl rfl (take_ofW HT_.out HW_.out (by kernel_rfl)) (fun _ _ _ h => h) (Or.inl ⟨by rfl, ?_⟩) hHeld ?_ ?_
            rotate_left
            ·rintro w' ⟨s0, s1, s2, s3⟩
             go_simp
             with_reducible rfl
            rotate_left
            ·simp only [Act.put, List.setIfInBounds_toArray, List.set_cons_zero, List.set_cons_succ, i64_w, i32_w]
             rfl
            refine one_ (i := 6) (N := some 37) (bz_ 10 127) rfl rfl (one_of HT_.out (by kernel_rfl)) (by decide) (fun K hK => ?_)
            refine value_ (w1 := ?_) (v := ?_) (by rfl) rfl ?_ ?_
            rotate_left 2
            ·go_simp
             constructor
             ·rfl
             ·rfl
            refine hK.out _ _ ⟨(blk_cell (blk_alloc BK149.out _) 0).trans rfl, (blk_cell (blk_alloc BK149.out _) 1).trans rfl, (blk_cell (blk_alloc BK149.out _) 2).trans rfl, (blk_cell (blk_alloc BK149.out _) 3).trans rfl⟩ (fun hHeld => ?_)
            clear hK K
            refine norm_ (a' := ?_) ?_ ?_
            rotate_left
            ·show Act.put _ (some 37) _ = _
             simp only [Act.put, List.setIfInBounds_toArray, List.set_cons_zero, List.set_cons_succ, i64_w, i32_w]
             rfl
            refine one_ (i := 7) (N := some 38) (bz_ 10 255) rfl rfl (one_of HT_.out (by kernel_rfl)) (by decide) (fun K hK => ?_)
            refine Kd.R_append_step Kd.string (w0 := w) w.heap.size (by rfl) (.tmp 32) (.tmp 37) 27 9 (.string ⟨#[]⟩) 16 rfl Tryd.underlying27 info9 rfl (by decide) (by omega) u150003 x150003_1 (a1.extract (x8_1 : Int).toNat (x9_1 : Int).toNat) [.string (a1.extract (x8_1 : Int).toNat (x9_1 : Int).toNat)] (fun _ => True) (fun _ => False) rfl rfl ?aP (fun _ hk => hk.elim) ?aF ?aO ?aB ?aS ?aL ?_
            (case aP => exact rfl)
            (case aB => exact (by repeat (first | (with_reducible first | exact HB.out | apply below_alloc | apply pw_below_drewN | apply below_drew1 | refine below_set ?_ GE142.out | refine below_set ?_ GE149.out) | exact HB.out)))
            (case aF => exact (fun _ _ => trivial))
            (case aO => exact (stR HO_150003.out))
            (case aS => exact (below_size (by repeat (first | (with_reducible first | exact HB.out | apply below_alloc | apply pw_below_drewN | apply below_drew1 | refine below_set ?_ GE142.out | refine below_set ?_ GE149.out) | exact HB.out))))
            (case aL => have := LMc30.out; omega)
            intro v154 w32 ho hb hg hat
            rw [← Ny153.out] at ho
            have n0_ := Aside0.mk (Kd.R_over' (stR HO_150001.out) (Kd.R_typed (stR HO_150003.out)) (by decide) hg)
            have n1_ := Aside0.mk (blk_grown (g := gb142) (o := .cells #[.string (⟨#[]⟩ : ByteArray), .slice none 0 0, .bool false, .slice none 0 0] 36 (0, 0)) (by (with_reducible repeat (first | refine blk_drewN ?_ _ | refine blk_drew ?_ | refine blk_alloc ?_ _)); exact BK142.out) hg (Kd.R_ne HO_150003.out BK142.out (by decide)))
            have n2_ := Aside0.mk (blk_grown (g := gb149) (o := .cells #[.string a0, .slice Ao9 y146.length co9, .bool false, u150003] 36 (0, 0)) (by (with_reducible repeat (first | refine blk_drewN ?_ _ | refine blk_drew ?_ | refine blk_alloc ?_ _)); exact BK149.out) hg (Kd.R_ne HO_150003.out BK149.out (by decide)))
            have n3_ := Aside0.mk (hb)
            have n4_ := Aside0.mk (ho)
            clear HO_150001
            clear BK142
            clear BK149
            clear HB
            clear HO_150003
            have HO_150001 := n0_
            have BK142 := n1_
            have BK149 := n2_
            have HB := n3_
            have HO155 := n4_
            clear n0_ n1_ n2_ n3_ n4_
            clear ho hb hg hat
            obtain ⟨Ao33, co33, eo33⟩ := Kd.R_slice HO155.out
            (first | subst eo33 | (injection eo33 with f1_ f2_ f3_; have f4_ := f1_.symm; have f5_ := f3_.symm; clear f1_ f2_ f3_; subst f4_; subst f5_))
            refine hK.out _ _ ⟨(blk_cell BK149.out 0).trans rfl, (blk_cell BK149.out 1).trans rfl, (blk_cell BK149.out 2).trans rfl, (blk_cell BK149.out 3).trans rfl⟩ (fun hHeld => ?_)
            clear hK K
            refine norm_ (a' := ?_) ?_ ?_
            rotate_left
            ·show Act.put _ (some 38) _ = _
             simp only [Act.put, List.setIfInBounds_toArray, List.set_cons_zero, List.set_cons_succ, i64_w, i32_w]
             rfl
            refine pure_ (i := 8) (N := some 39) (v := ?_) (a' := ?_) (bz_ 10 511) rfl rfl (any_of HT_.out (by kernel_rfl)) (fun _ _ _ h => h) (Or.inl ⟨by rfl, ?_⟩) ?_ ?_
            rotate_left
            ·intro w'
             go_simp
             with_reducible rfl
            rotate_left
            ·simp only [Act.put, List.setIfInBounds_toArray, List.set_cons_zero, List.set_cons_succ, i64_w, i32_w]
             rfl
            refine last_ (i := 9) (N := none) (bz_ 10 1023) rfl rfl (one_of HT_.out (by kernel_rfl)) (by decide) (fun K hK => ?_)
            have hs34 : w32.cell? ⟨gb149, 3, none⟩ = some (u150003) := (blk_cell BK149.out 3).trans rfl
            have hfs34 := blk_frozen BK149.out 3
            have hns34_0 := NB142_149.out
            have hms34_0 := NB149_142.out
            refine skip_ (w1 := ?_) (by rfl) rfl ?_ ?_
            rotate_left
            ·go_simp
             rfl
            refine hK.out _ _ ?_
            clear hK K
            refine done_ (done_of HT_.out (by kernel_rfl)) ?_
            try go_wp2
            go_roundg k1
            case measure => have := HK1.out; omega
            case rel => exact ⟨(wrap64 (x9_1 + 1)), (wrap64 (x9_1 + 1)), (y153), (.slice Ao33 y153.length co33), (by first | rfl | (simp; done) | (simp [*]; done)), (by first | rfl | (simp; done) | (simp [*]; done)), H', ⟨by have := HK1.out; omega⟩, ⟨by (with_reducible repeat (first | apply Kd.R_alloc | apply Kd.R_drewN | apply Kd.R_drew)); exact Kd.R_mono (Kd.R_far (p := ⟨gb149, 3, none⟩) (Kd.R_types HO_150001.out BK149.out (by decide)) (fun _ hk => hk.2) (.slice Ao33 y153.length co33)) (fun _ hk => trivial)⟩, ⟨by (with_reducible repeat (first | apply Kd.R_alloc | apply Kd.R_drewN | apply Kd.R_drew)); exact Kd.R_mono (Kd.R_far (p := ⟨gb149, 3, none⟩) (Kd.R_types HO155.out BK149.out (by decide)) (fun _ hk => hk.2) (.slice Ao33 y153.length co33)) (fun _ hk => trivial)⟩, ⟨by (with_reducible repeat (first | refine blk_drewN ?_ _ | refine blk_drew ?_ | refine blk_alloc ?_ _)); refine blk_far ?_ NB142_149.out _; (with_reducible repeat (first | refine blk_drewN ?_ _ | refine blk_drew ?_ | refine blk_alloc ?_ _)); exact BK142.out⟩, ⟨by (with_reducible repeat (first | refine blk_drewN ?_ _ | refine blk_drew ?_ | refine blk_alloc ?_ _)); refine blk_put (cs := #[.string a0, .slice Ao9 y146.length co9, .bool false, u150003]) ?_ 3 _ rfl; (with_reducible repeat (first | refine blk_drewN ?_ _ | refine blk_drew ?_ | refine blk_alloc ?_ _)); exact BK149.out⟩, ⟨by repeat (first | (with_reducible first | exact HB.out | apply below_alloc | apply pw_below_drewN | apply below_drew1 | refine below_set ?_ GE142.out | refine below_set ?_ GE149.out) | exact HB.out)⟩⟩
           ·rw [if_neg c30] at H
            exact absurd H (by simp)
          ·rw [if_neg c28] at H
           exact absurd H (by simp)
         ·rw [if_neg c27] at H
          exact absurd H (by simp)
        ·rw [if_neg c26] at H
         have c26b0 : ((bt a1 x9_1) == 32) = false := beq_eq_false_iff_ne.mpr c26
         have c26b1 : ((bt a1 x9_1) != 32) = true := bne_iff_ne.mpr c26
         have H' := Aside0.mk H
         clear H
         have p25 : 0 ≤ (x9_1 : Int) := of_decide_eq_true (by first | (with_reducible assumption) | assumption)
         have q25 : x9_1 < (a1.size : Int) := of_decide_eq_true (by first | (with_reducible assumption) | assumption)
         have hx25 := bt_at a1 x9_1
         replace p25 := eq_true p25
         replace q25 := eq_true q25
         go_wp2
         go_roundg k1
         case measure => have := HK1.out; omega
         case rel => exact ⟨(x8_1), (wrap64 (x9_1 + 1)), (x150003_1), (u150003), (by first | rfl | (simp; done) | (simp [*]; done)), (by first | rfl | (simp; done) | (simp [*]; done)), H', ⟨by have := HK1.out; omega⟩, ⟨by (with_reducible repeat (first | apply Kd.R_alloc | apply Kd.R_drewN | apply Kd.R_drew)); exact HO_150001.out⟩, ⟨by (with_reducible repeat (first | apply Kd.R_alloc | apply Kd.R_drewN | apply Kd.R_drew)); exact HO_150003.out⟩, ⟨by (with_reducible repeat (first | refine blk_drewN ?_ _ | refine blk_drew ?_ | refine blk_alloc ?_ _)); exact BK142.out⟩, ⟨by (with_reducible repeat (first | refine blk_drewN ?_ _ | refine blk_drew ?_ | refine blk_alloc ?_ _)); exact BK149.out⟩, ⟨by repeat (first | (with_reducible first | exact HB.out | apply below_alloc | apply pw_below_drewN | apply below_drew1 | refine below_set ?_ GE142.out | refine below_set ?_ GE149.out) | exact HB.out)⟩⟩
       ·rw [if_neg c24] at H
        exact absurd H (by simp)
      ·rw [if_neg c23] at H
       exact absurd H (by simp)
    ·rw [if_neg c13] at H
     have c13b0 : decide (x9_1 ≤ (a1.size : Int)) = false := decide_eq_false c13
     clear c13
     simp only [Option.some.injEq, Prod.mk.injEq] at H
     obtain ⟨rfl, rfl, rfl, rfl⟩ := H
     have hnb35 := NB149_142.out
     have hnc35 := NB142_149.out
     have hcz36_0 : wr.cell? ⟨gb149, 0, none⟩ = some (.string a0) := (blk_cell BK149.out 0).trans rfl
     have hcz36_1 : wr.cell? ⟨gb149, 1, none⟩ = some (.slice Ao9 y146.length co9) := (blk_cell BK149.out 1).trans rfl
     have hcz36_2 : wr.cell? ⟨gb149, 2, none⟩ = some (.bool false) := (blk_cell BK149.out 2).trans rfl
     have hcz36_3 : wr.cell? ⟨gb149, 3, none⟩ = some (u150003) := (blk_cell BK149.out 3).trans rfl
     have hfz36_0 := blk_frozen BK149.out 0
     have hfz36_1 := blk_frozen BK149.out 1
     have hfz36_2 := blk_frozen BK149.out 2
     have hfz36_3 := blk_frozen BK149.out 3
     have hcz37_0 : wr.cell? ⟨gb142, 0, none⟩ = some (.string (⟨#[]⟩ : ByteArray)) := (blk_cell BK142.out 0).trans rfl
     have hcz37_1 : wr.cell? ⟨gb142, 1, none⟩ = some (.slice none 0 0) := (blk_cell BK142.out 1).trans rfl
     have hcz37_2 : wr.cell? ⟨gb142, 2, none⟩ = some (.bool false) := (blk_cell BK142.out 2).trans rfl
     have hcz37_3 : wr.cell? ⟨gb142, 3, none⟩ = some (.slice none 0 0) := (blk_cell BK142.out 3).trans rfl
     have hfz37_0 := blk_frozen BK142.out 0
     have hfz37_1 := blk_frozen BK142.out 1
     have hfz37_2 := blk_frozen BK142.out 2
     have hfz37_3 := blk_frozen BK142.out 3
     obtain ⟨Ao38, co38, eo38⟩ := Kd.R_slice HO_150003.out
     subst eo38
     go_wp2
     refine bodyPost_ret (results_cell_row rfl _ _ gb142 36 #[.string a0, .slice Ao9 y146.length co9, .bool false, .slice Ao38 x150003_1.length co38] (0, 0) _ rfl (by (with_reducible repeat (first | refine blk_drewN ?_ _ | refine blk_drew ?_ | refine blk_alloc ?_ _)); refine blk_put (cs := #[.string a0, .slice Ao9 y146.length co9, .bool false, .slice none 0 0]) ?_ 3 _ rfl; (with_reducible repeat (first | refine blk_drewN ?_ _ | refine blk_drew ?_ | refine blk_alloc ?_ _)); refine blk_put (cs := #[.string a0, .slice Ao9 y146.length co9, .bool false, .slice none 0 0]) ?_ 2 _ rfl; (with_reducible repeat (first | refine blk_drewN ?_ _ | refine blk_drew ?_ | refine blk_alloc ?_ _)); refine blk_put (cs := #[.string a0, .slice none 0 0, .bool false, .slice none 0 0]) ?_ 1 _ rfl; (with_reducible repeat (first | refine blk_drewN ?_ _ | refine blk_drew ?_ | refine blk_alloc ?_ _)); refine blk_put (cs := #[.string (⟨#[]⟩ : ByteArray), .slice none 0 0, .bool false, .slice none 0 0]) ?_ 0 _ rfl; (with_reducible repeat (first | refine blk_drewN ?_ _ | refine blk_drew ?_ | refine blk_alloc ?_ _)); exact BK142.out) Tryd.underlying36 rfl (by kernel_rfl)) rfl ?_
     exact ⟨_, _, by first | rfl | (simp [errW_none, errW_some] <;> rfl) | (simp [*, errW_none, errW_some] <;> rfl), by (with_reducible repeat (first | apply Kd.R_alloc | apply Kd.R_drewN | apply Kd.R_drew)); exact Kd.R_mono (Kd.R_far (p := ⟨gb142, 3, none⟩) (Kd.R_far (p := ⟨gb142, 2, none⟩) (Kd.R_far (p := ⟨gb142, 1, none⟩) (Kd.R_far (p := ⟨gb142, 0, none⟩) (Kd.R_types HO_150001.out BK142.out (by decide)) (fun _ hk => hk.2) (.string a0)) (fun _ hk => hk.2) (.slice Ao9 y146.length co9)) (fun _ hk => hk.2) (.bool false)) (fun _ hk => hk.2) (.slice Ao38 x150003_1.length co38)) (fun _ hk => trivial), by (with_reducible repeat (first | apply Kd.R_alloc | apply Kd.R_drewN | apply Kd.R_drew)); exact Kd.R_mono (Kd.R_far (p := ⟨gb142, 3, none⟩) (Kd.R_far (p := ⟨gb142, 2, none⟩) (Kd.R_far (p := ⟨gb142, 1, none⟩) (Kd.R_far (p := ⟨gb142, 0, none⟩) (Kd.R_types HO_150003.out BK142.out (by decide)) (fun _ hk => hk.2) (.string a0)) (fun _ hk => hk.2) (.slice Ao9 y146.length co9)) (fun _ hk => hk.2) (.bool false)) (fun _ hk => hk.2) (.slice Ao38 x150003_1.length co38)) (fun _ hk => trivial), by repeat (first | (with_reducible first | exact HB.out | apply below_alloc | apply pw_below_drewN | apply below_drew1 | refine below_set ?_ GE142.out | refine below_set ?_ GE149.out) | exact HB.out)⟩
 ·rw [if_neg c4] at H
  exact absurd H (by simp)
def spec_l2Many.f (a0 : ByteArray) (l1 : List Int) : Option (ByteArray × List Int × Bool × List ByteArray) := (some (([] : List Int) : List Int)).bind fun y157 => (if y157.length + l1.length < 17592186044416 then (some (a0, (y157 ++ l1), true, ([] : List ByteArray))) else (none))
set_option maxHeartbeats 8000000 in
set_option maxRecDepth 100000 in
theorem spec_l2Many.calls (a0 : ByteArray) (A1 : Option Addr) (c1 : Nat) (l1 : List Int) (r1 : ByteArray) (r2 : List Int) (r3 : Bool) (r4 : List ByteArray) (w : World) (hr1 : Kd.C (Kd.int .i64) w A1 l1.length l1) (hc1 : l1.length ≤ c1) (h : spec_l2Many.f a0 l1 = some (r1, r2, r3, r4)) :
  Calls Tryd.prog 54 #[.string a0, .slice A1 l1.length c1] w fun e w' => ∃ v1_ v3_ : Value, e = .returned (.agg #[.string r1, v1_, .bool r3, v3_]) ∧ Kd.R (Kd.int .i64) 3 w' w.heap.size (fun _ => True) v1_ r2 ∧ Kd.R Kd.string 9 w' w.heap.size (fun _ => True) v3_ r4 ∧ Below w.heap.size w w' := by
 have hu36 := Tryd.underlying36
 have HR1 := Aside0.mk hr1
 have HC1 := Aside0.mk hc1
 clear hr1 hc1
 have HB := Aside0.mk (Below.refl w.heap.size w)
 have H : ((some (([] : List Int) : List Int)).bind fun y157 => (if y157.length + l1.length < 17592186044416 then (some (a0, (y157 ++ l1), true, ([] : List ByteArray))) else (none))) = some (r1, r2, r3, r4) := h
 clear h
 obtain ⟨y157, hy157⟩ : ∃ y_ : List Int, y_ = (([] : List Int)) := ⟨_, rfl⟩
 replace H : (if y157.length + l1.length < 17592186044416 then (some (a0, (y157 ++ l1), true, ([] : List ByteArray))) else (none)) = some (r1, r2, r3, r4) := by first | (rw [hy157]; with_reducible exact H) | (have H2_ := (Option.bind_some _ _).symm.trans H; rw [hy157]; with_reducible exact H2_) | (have H2_ := (Option.bind_some _ _).symm.trans H; with_reducible exact H2_) | with_reducible exact H | (rw [hy157]; exact H) | exact H
 have Ny157 := Aside0.mk hy157
 clear hy157
 by_cases c3 : y157.length + l1.length < 17592186044416
 ·rw [if_pos c3] at H
  have LMc3 := Aside0.mk c3
  clear c3
  obtain ⟨y160, hy160⟩ : ∃ y_ : List Int, y_ = (y157 ++ l1) := ⟨_, rfl⟩
  replace H : (some (a0, y160, true, ([] : List ByteArray))) = some (r1, r2, r3, r4) := by first | (rw [hy160]; with_reducible exact H) | (have H2_ := (Option.bind_some _ _).symm.trans H; rw [hy160]; with_reducible exact H2_) | (have H2_ := (Option.bind_some _ _).symm.trans H; with_reducible exact H2_) | with_reducible exact H | (rw [hy160]; exact H) | exact H
  have Ny160 := Aside0.mk hy160
  clear hy160
  simp only [Option.some.injEq, Prod.mk.injEq] at H
  obtain ⟨rfl, rfl, rfl, rfl⟩ := H
  go_enter Tryd.func54, Tryd.ntmps54
  go_wp2_with (first | ((with_reducible refine gate_dst (N := 4) rfl ?_); refine box_event ?hg (N := 4) ?hd (cs := #[.string (⟨#[]⟩ : ByteArray), .slice none 0 0, .bool false, .slice none 0 0]) (t := 36) ?hr ?_; (case hd => rfl); (case hg => rfl); (case hr => first | (go_simp; done) | (go_simp; rfl)); intro gb156 hg w4 hbox hb; have n0_ := Aside0.mk (below_step (stB HB.out) hb); have n1_ := Aside0.mk (hbox); have n2_ := Aside0.mk ((by rw [hg]; exact (below_size (stB HB.out)) : w.heap.size ≤ gb156)); have n3_ := Aside0.mk ((by rw [hg]; exact (below_size (stB HB.out)) : w.heap.size ≤ gb156)); clear HB; have HB := n0_; have BK156 := n1_; have GW156 := n2_; have GE156 := n3_; clear n0_ n1_ n2_ n3_; clear hb hbox hg) | ((with_reducible refine gate_dst (N := 6) rfl ?_); refine Kd.R_lit (Kd.int .i64) _ 3 ?hg (N := 6) ?hd (xs := ([] : List Int)) (inner := []) (ok := fun _ => True) (okp := fun _ => True) ?hr ?hp (fun _ hk => hk) trivial (Below.refl _ _) (Nat.le_refl _) (by simp) ?_; (case hd => rfl); (case hg => rfl); (case hr => first | (go_simp; done) | (go_simp; rfl)); (case hp => exact (Reps.none _ _)); intro v158 w5 ho6 hb hg_ hnew_; clear hg_ hnew_; (first | rw [← Ny157.out] at ho6 | (simp only [Int.reduceToNat] at ho6; rw [← Ny157.out] at ho6)); have n0_ := Aside0.mk (Kd.R_lower ho6 (below_size (by repeat (first | (with_reducible first | exact HB.out | apply below_alloc | apply pw_below_drewN | apply below_drew1 | refine below_set ?_ GE156.out) | exact HB.out)))); have n1_ := Aside0.mk (blk_below (g := gb156) (o := .cells #[.string (⟨#[]⟩ : ByteArray), .slice none 0 0, .bool false, .slice none 0 0] 36 (0, 0)) (by (with_reducible repeat (first | refine blk_drewN ?_ _ | refine blk_drew ?_ | refine blk_alloc ?_ _)); exact BK156.out) hb); have n2_ := Aside0.mk (below_step (by repeat (first | (with_reducible first | exact HB.out | apply below_alloc | apply pw_below_drewN | apply below_drew1 | refine below_set ?_ GE156.out) | exact HB.out)) hb); clear BK156; clear HB; have HO159 := n0_; have BK156 := n1_; have HB := n2_; clear n0_ n1_ n2_; clear hb ho6) | ((with_reducible refine gate_builtin (b := .append) (xs := #[.tmp 6, .tmp 7]) rfl ?_); at_builtin; refine Kd.R_append_rows (Kd.int .i64) (w0 := w) w.heap.size rfl (.tmp 6) (.tmp 7) 34 3 (.int .i64 0) 8 rfl Tryd.underlying34 info3 rfl (by decide) (by omega) v158 y157 l1 _ _ _ (fun _ => True) (fun _ => False) rfl rfl ?aO ?aR (fun _ _ h => h) (fun _ h => h.elim) ?aF ?aB ?aS ?aL ?_; (case aR => repeat (first | exact (Kd.C_below HR1.out HB.out) | (with_reducible refine Kd.C_alloc ?_ _) | (with_reducible refine Kd.C_drewN ?_ _) | (with_reducible refine Kd.C_drew ?_))); (case aB => exact (by repeat (first | (with_reducible first | exact HB.out | apply below_alloc | apply pw_below_drewN | apply below_drew1 | refine below_set ?_ GE156.out) | exact HB.out))); (case aF => exact (fun _ _ => trivial)); (case aO => exact (stR HO159.out)); (case aS => exact (below_size (by repeat (first | (with_reducible first | exact HB.out | apply below_alloc | apply pw_below_drewN | apply below_drew1 | refine below_set ?_ GE156.out) | exact HB.out)))); (case aL => have := LMc3.out; omega); intro v161 w7 ho hb hg hat; rw [← Ny160.out] at ho; have n0_ := Aside0.mk (blk_grown (g := gb156) (o := .cells #[.string (⟨#[]⟩ : ByteArray), .slice none 0 0, .bool false, .slice none 0 0] 36 (0, 0)) (by (with_reducible repeat (first | refine blk_drewN ?_ _ | refine blk_drew ?_ | refine blk_alloc ?_ _)); exact BK156.out) hg (Kd.R_ne HO159.out BK156.out (by decide))); have n1_ := Aside0.mk (hb); have n2_ := Aside0.mk (ho); clear BK156; clear HB; clear HO159; have BK156 := n0_; have HB := n1_; have HO162 := n2_; clear n0_ n1_ n2_; clear ho hb hg hat; obtain ⟨Ao8, co8, eo8⟩ := Kd.R_slice HO162.out; subst eo8; have hcz9_0 : w7.cell? ⟨gb156, 0, none⟩ = some (.string (⟨#[]⟩ : ByteArray)) := (blk_cell BK156.out 0).trans rfl; have hcz9_1 : w7.cell? ⟨gb156, 1, none⟩ = some (.slice none 0 0) := (blk_cell BK156.out 1).trans rfl; have hcz9_2 : w7.cell? ⟨gb156, 2, none⟩ = some (.bool false) := (blk_cell BK156.out 2).trans rfl; have hcz9_3 : w7.cell? ⟨gb156, 3, none⟩ = some (.slice none 0 0) := (blk_cell BK156.out 3).trans rfl; have hfz9_0 := blk_frozen BK156.out 0; have hfz9_1 := blk_frozen BK156.out 1; have hfz9_2 := blk_frozen BK156.out 2; have hfz9_3 := blk_frozen BK156.out 3))
  refine bodyPost_ret (results_cell_row rfl _ _ gb156 36 #[.string a0, .slice Ao8 y160.length co8, .bool true, .slice none 0 0] (0, 0) _ rfl (by (with_reducible repeat (first | refine blk_drewN ?_ _ | refine blk_drew ?_ | refine blk_alloc ?_ _)); refine blk_put (cs := #[.string a0, .slice Ao8 y160.length co8, .bool true, .slice none 0 0]) ?_ 3 _ rfl; (with_reducible repeat (first | refine blk_drewN ?_ _ | refine blk_drew ?_ | refine blk_alloc ?_ _)); refine blk_put (cs := #[.string a0, .slice Ao8 y160.length co8, .bool false, .slice none 0 0]) ?_ 2 _ rfl; (with_reducible repeat (first | refine blk_drewN ?_ _ | refine blk_drew ?_ | refine blk_alloc ?_ _)); refine blk_put (cs := #[.string a0, .slice none 0 0, .bool false, .slice none 0 0]) ?_ 1 _ rfl; (with_reducible repeat (first | refine blk_drewN ?_ _ | refine blk_drew ?_ | refine blk_alloc ?_ _)); refine blk_put (cs := #[.string (⟨#[]⟩ : ByteArray), .slice none 0 0, .bool false, .slice none 0 0]) ?_ 0 _ rfl; (with_reducible repeat (first | refine blk_drewN ?_ _ | refine blk_drew ?_ | refine blk_alloc ?_ _)); exact BK156.out) Tryd.underlying36 rfl (by kernel_rfl)) rfl ?_
  exact ⟨_, _, by first | rfl | (simp [errW_none, errW_some] <;> rfl) | (simp [*, errW_none, errW_some] <;> rfl), by (with_reducible repeat (first | apply Kd.R_alloc | apply Kd.R_drewN | apply Kd.R_drew)); exact Kd.R_mono (Kd.R_far (p := ⟨gb156, 3, none⟩) (Kd.R_far (p := ⟨gb156, 2, none⟩) (Kd.R_far (p := ⟨gb156, 1, none⟩) (Kd.R_far (p := ⟨gb156, 0, none⟩) (Kd.R_types HO162.out BK156.out (by decide)) (fun _ hk => hk.2) (.string a0)) (fun _ hk => hk.2) (.slice Ao8 y160.length co8)) (fun _ hk => hk.2) (.bool true)) (fun _ hk => hk.2) (.slice none 0 0)) (fun _ hk => trivial), by first | exact Kd.R_nil _ _ _ _ _ | exact Kd.N_nil _ _ _ _ _ | exact Kd.V_nil _ _ _ _ _ | exact Kd.Q_nil _ _ _ _ _ | exact Kd.S_nil _ _ _ _ _, by repeat (first | (with_reducible first | exact HB.out | apply below_alloc | apply pw_below_drewN | apply below_drew1 | refine below_set ?_ GE156.out) | exact HB.out)⟩
 ·rw [if_neg c3] at H
  exact absurd H (by simp)
end Go.Proofs.YtmcdnpooclelgaaDoor.PAll
namespace Go.Proofs.YtmcdnpooclelgaaDoor.PAll
open Go.RowKit Go.Proofs.YtmcdnpooclelgaaDoorW.PrintWords
def Acc {α : Type} (d : Kd α) (w : World) (b : Nat) (xs : List α) (cs : List Value) : Prop := Reps (fun x c => d.M w b (fun k => k < w.heap.size) x c) d.sz xs cs
theorem Acc.nil {α : Type} (d : Kd α) (w : World) (b : Nat) : Acc d w b [] [] := Reps.none _ _
theorem Acc.snoc {α : Type} {d : Kd α} {w w' : World} {b : Nat} {xs : List α} {cs c : List Value} {x : α} (h : Acc d w b xs cs) (hb : Below w.heap.size w w') (hx : d.M w' w.heap.size (fun _ => True) x c) (hw : b ≤ w.heap.size) : Acc d w' b (xs ++ [x]) (cs ++ c) :=
 Reps.snoc (h.imp_ (fun _ _ hp => d.M_mono (fun k hk => Nat.lt_of_lt_of_le hk hb.size) (Kd.M_step hp (fun k hk _ => hb.block k hk)))) (d.M_mono (fun k hk => hk.2.2.1) (d.M_lower hw (d.M_bound hx))) (d.K_len (d.K_of_M hx))
theorem Acc.lit {α : Type} {d : Kd α} {w : World} {b : Nat} {xs : List α} {cs : List Value} (e : TypeId) (h : Acc d w b xs cs) (hb : b ≤ w.heap.size) (hm : xs.length ≤ 9223372036854775807) :
  d.R e (w.alloc (.cells cs.toArray e)) b (fun _ => True) (.slice (some ⟨w.heap.size, 0, none⟩) xs.length xs.length) xs := by
 refine ⟨fun _ _ => trivial, OwnRow.lit w b (h.imp_ (fun _ _ hp => ?_)) hb hm⟩
 refine d.M_mono (fun k hk => ⟨trivial, fun he => ?_⟩) (Kd.M_step hp (fun k hk _ => (Below.alloc (Below.refl w.heap.size w) (Nat.le_refl _) _).block k hk))
 have : k = w.heap.size := by simpa [Value.ownBlock] using he
 omega
theorem Acc.lit' {α : Type} {d : Kd α} {w : World} {b : Nat} {xs : List α} {cs : List Value} {ca : Array Value} {g n m : Nat} (e : TypeId) (h : Acc d w b xs cs) (hb : b ≤ w.heap.size) (hm : xs.length ≤ 9223372036854775807) (hc : ca = cs.toArray) (hg : g = w.heap.size) (hn : n = xs.length) (hmm : m = xs.length) :
  d.R e (w.alloc (.cells ca e)) b (fun _ => True) (.slice (some ⟨g, 0, none⟩) n m) xs := by
 subst hc hg hn hmm
 exact Acc.lit e h hb hm
theorem ints_C (w : World) (ns : List Int) (hm : ns.length ≤ 9223372036854775807) : Kd.C (Kd.int .i64) (w.alloc (.cells (ns.map (Value.int .i64)).toArray 3)) (some ⟨w.heap.size, 0, none⟩) ns.length ns := by
 obtain ⟨A, c, he, _, hC⟩ := Kd.R_reads (Sh.row_R (A := intS) (ones_lit (Value.int .i64) (fun _ => rfl) 3 w w.heap.size ns (Nat.le_refl _) hm))
 injection he with he _ _
 subst he
 exact hC
set_option maxRecDepth 100000 in
set_option maxHeartbeats 4000000 in
theorem specRules_team (w : World) :
  Calls Tryd.prog 13 #[.string ⟨#[116, 101, 97, 109]⟩] w (fun e w' => ∃ v, e = .returned v ∧ Kd.R k36 36 w' w.heap.size (fun _ => True) v rules_team ∧ Below w.heap.size w w') := by
 have E0 : Aside0 (Acc k36 w w.heap.size [] []) := ⟨Acc.nil _ _ _⟩
 have B0 : Aside0 (Below w.heap.size w w) := ⟨Below.refl _ _⟩
 go_enter Tryd.func13, Tryd.ntmps13
 go_wp2_with fail
 refine (spec_l2One.calls 8 ⟨#[99, 111, 112, 105, 101, 115]⟩ ⟨#[49, 48, 48]⟩ _ _ [1] ⟨#[99, 111, 112, 105, 101, 115]⟩ [1] false [⟨#[49, 48, 48]⟩] _ (ints_C w [1] (by decide)) (Nat.le_refl _) (by decide +kernel)).mono ?_
 rintro e w1 ⟨av1, dv1, rfl, ha1, hd1, hc1⟩
 have hb1 := (Below.alloc (Below.refl w.heap.size w) (Nat.le_refl _) (.cells #[.int .i64 1] 3)).trans (hc1.mono (by simp))
 have ho1 := k36_mkM w1 w.heap.size (fun _ => True) ⟨⟨#[99, 111, 112, 105, 101, 115]⟩, [1], false, [⟨#[49, 48, 48]⟩]⟩ (Kd.R_lower ha1 (by simp)) (Kd.R_lower hd1 (by simp))
 have E1 := Aside0.mk (E0.out.snoc hb1 ho1 B0.out.size)
 have B1 := Aside0.mk (B0.out.trans (hb1.mono B0.out.size))
 clear hb1 ho1 ha1 hd1 hc1 E0 B0
 go_wp2_with fail
 refine (spec_l2One.calls 8 ⟨#[114, 111, 111, 109]⟩ ⟨#[49, 48, 48, 48]⟩ _ _ [1] ⟨#[114, 111, 111, 109]⟩ [1] false [⟨#[49, 48, 48, 48]⟩] _ (ints_C w1 [1] (by decide)) (Nat.le_refl _) (by decide +kernel)).mono ?_
 rintro e w2 ⟨av2, dv2, rfl, ha2, hd2, hc2⟩
 have hb2 := (Below.alloc (Below.refl w1.heap.size w1) (Nat.le_refl _) (.cells #[.int .i64 1] 3)).trans (hc2.mono (by simp))
 have ho2 := k36_mkM w2 w1.heap.size (fun _ => True) ⟨⟨#[114, 111, 111, 109]⟩, [1], false, [⟨#[49, 48, 48, 48]⟩]⟩ (Kd.R_lower ha2 (by simp)) (Kd.R_lower hd2 (by simp))
 have E2 := Aside0.mk (E1.out.snoc hb2 ho2 B1.out.size)
 have B2 := Aside0.mk (B1.out.trans (hb2.mono B1.out.size))
 clear hb2 ho2 ha2 hd2 hc2 E1 B1
 go_wp2_with fail
 go_ret
 exact ⟨_, rfl, Acc.lit' 36 E2.out B2.out.size (by decide) (by rfl) (by simp) (by rfl) (by rfl), B2.out.alloc B2.out.size _⟩
set_option maxRecDepth 100000 in
set_option maxHeartbeats 4000000 in
theorem specRules_berth (w : World) :
  Calls Tryd.prog 13 #[.string ⟨#[98, 101, 114, 116, 104]⟩] w (fun e w' => ∃ v, e = .returned v ∧ Kd.R k36 36 w' w.heap.size (fun _ => True) v rules_berth ∧ Below w.heap.size w w') := by
 have E0 : Aside0 (Acc k36 w w.heap.size [] []) := ⟨Acc.nil _ _ _⟩
 have B0 : Aside0 (Below w.heap.size w w) := ⟨Below.refl _ _⟩
 go_enter Tryd.func13, Tryd.ntmps13
 go_wp2_with fail
 refine (spec_l2One.calls 8 ⟨#[122, 111, 110, 101]⟩ ⟨#[122]⟩ _ _ [3] ⟨#[122, 111, 110, 101]⟩ [3] false [⟨#[122]⟩] _ (ints_C w [3] (by decide)) (Nat.le_refl _) (by decide +kernel)).mono ?_
 rintro e w1 ⟨av1, dv1, rfl, ha1, hd1, hc1⟩
 have hb1 := (Below.alloc (Below.refl w.heap.size w) (Nat.le_refl _) (.cells #[.int .i64 3] 3)).trans (hc1.mono (by simp))
 have ho1 := k36_mkM w1 w.heap.size (fun _ => True) ⟨⟨#[122, 111, 110, 101]⟩, [3], false, [⟨#[122]⟩]⟩ (Kd.R_lower ha1 (by simp)) (Kd.R_lower hd1 (by simp))
 have E1 := Aside0.mk (E0.out.snoc hb1 ho1 B0.out.size)
 have B1 := Aside0.mk (B0.out.trans (hb1.mono B0.out.size))
 clear hb1 ho1 ha1 hd1 hc1 E0 B0
 go_wp2_with fail
 refine (spec_l2One.calls 8 ⟨#[114, 111, 111, 109]⟩ ⟨#[49, 48, 48]⟩ _ _ [1] ⟨#[114, 111, 111, 109]⟩ [1] false [⟨#[49, 48, 48]⟩] _ (ints_C w1 [1] (by decide)) (Nat.le_refl _) (by decide +kernel)).mono ?_
 rintro e w2 ⟨av2, dv2, rfl, ha2, hd2, hc2⟩
 have hb2 := (Below.alloc (Below.refl w1.heap.size w1) (Nat.le_refl _) (.cells #[.int .i64 1] 3)).trans (hc2.mono (by simp))
 have ho2 := k36_mkM w2 w1.heap.size (fun _ => True) ⟨⟨#[114, 111, 111, 109]⟩, [1], false, [⟨#[49, 48, 48]⟩]⟩ (Kd.R_lower ha2 (by simp)) (Kd.R_lower hd2 (by simp))
 have E2 := Aside0.mk (E1.out.snoc hb2 ho2 B1.out.size)
 have B2 := Aside0.mk (B1.out.trans (hb2.mono B1.out.size))
 clear hb2 ho2 ha2 hd2 hc2 E1 B1
 go_wp2_with fail
 refine (spec_l2One.calls 8 ⟨#[104, 111, 108, 100]⟩ ⟨#[49, 48, 48]⟩ _ _ [1] ⟨#[104, 111, 108, 100]⟩ [1] false [⟨#[49, 48, 48]⟩] _ (ints_C w2 [1] (by decide)) (Nat.le_refl _) (by decide +kernel)).mono ?_
 rintro e w3 ⟨av3, dv3, rfl, ha3, hd3, hc3⟩
 have hb3 := (Below.alloc (Below.refl w2.heap.size w2) (Nat.le_refl _) (.cells #[.int .i64 1] 3)).trans (hc3.mono (by simp))
 have ho3 := k36_mkM w3 w2.heap.size (fun _ => True) ⟨⟨#[104, 111, 108, 100]⟩, [1], false, [⟨#[49, 48, 48]⟩]⟩ (Kd.R_lower ha3 (by simp)) (Kd.R_lower hd3 (by simp))
 have E3 := Aside0.mk (E2.out.snoc hb3 ho3 B2.out.size)
 have B3 := Aside0.mk (B2.out.trans (hb3.mono B2.out.size))
 clear hb3 ho3 ha3 hd3 hc3 E2 B2
 go_wp2_with fail
 refine (spec_l2Many.calls ⟨#[109, 97, 114, 107]⟩ _ _ [3] ⟨#[109, 97, 114, 107]⟩ [3] true [] _ (ints_C w3 [3] (by decide)) (Nat.le_refl _) rfl).mono ?_
 rintro e w4 ⟨av4, dv4, rfl, ha4, hd4, hc4⟩
 have hb4 := (Below.alloc (Below.refl w3.heap.size w3) (Nat.le_refl _) (.cells #[.int .i64 3] 3)).trans (hc4.mono (by simp))
 have ho4 := k36_mkM w4 w3.heap.size (fun _ => True) ⟨⟨#[109, 97, 114, 107]⟩, [3], true, []⟩ (Kd.R_lower ha4 (by simp)) (Kd.R_lower hd4 (by simp))
 have E4 := Aside0.mk (E3.out.snoc hb4 ho4 B3.out.size)
 have B4 := Aside0.mk (B3.out.trans (hb4.mono B3.out.size))
 clear hb4 ho4 ha4 hd4 hc4 E3 B3
 go_wp2_with fail
 go_ret
 exact ⟨_, rfl, Acc.lit' 36 E4.out B4.out.size (by decide) (by rfl) (by simp) (by rfl) (by rfl), B4.out.alloc B4.out.size _⟩
set_option maxRecDepth 100000 in
set_option maxHeartbeats 4000000 in
theorem specRules_service (w : World) :
  Calls Tryd.prog 13 #[.string ⟨#[115, 101, 114, 118, 105, 99, 101]⟩] w (fun e w' => ∃ v, e = .returned v ∧ Kd.R k36 36 w' w.heap.size (fun _ => True) v rules_service ∧ Below w.heap.size w w') := by
 have E0 : Aside0 (Acc k36 w w.heap.size [] []) := ⟨Acc.nil _ _ _⟩
 have B0 : Aside0 (Below w.heap.size w w) := ⟨Below.refl _ _⟩
 go_enter Tryd.func13, Tryd.ntmps13
 go_wp2_with fail
 refine (spec_l2One.calls 8 ⟨#[116, 101, 97, 109]⟩ ⟨#[99, 111, 114, 101]⟩ _ _ [3] ⟨#[116, 101, 97, 109]⟩ [3] false [⟨#[99, 111, 114, 101]⟩] _ (ints_C w [3] (by decide)) (Nat.le_refl _) (by decide +kernel)).mono ?_
 rintro e w1 ⟨av1, dv1, rfl, ha1, hd1, hc1⟩
 have hb1 := (Below.alloc (Below.refl w.heap.size w) (Nat.le_refl _) (.cells #[.int .i64 3] 3)).trans (hc1.mono (by simp))
 have ho1 := k36_mkM w1 w.heap.size (fun _ => True) ⟨⟨#[116, 101, 97, 109]⟩, [3], false, [⟨#[99, 111, 114, 101]⟩]⟩ (Kd.R_lower ha1 (by simp)) (Kd.R_lower hd1 (by simp))
 have E1 := Aside0.mk (E0.out.snoc hb1 ho1 B0.out.size)
 have B1 := Aside0.mk (B0.out.trans (hb1.mono B0.out.size))
 clear hb1 ho1 ha1 hd1 hc1 E0 B0
 go_wp2_with fail
 refine (spec_l2One.calls 8 ⟨#[105, 109, 97, 103, 101]⟩ ⟨#[49]⟩ _ _ [1] ⟨#[105, 109, 97, 103, 101]⟩ [1] false [⟨#[49]⟩] _ (ints_C w1 [1] (by decide)) (Nat.le_refl _) (by decide +kernel)).mono ?_
 rintro e w2 ⟨av2, dv2, rfl, ha2, hd2, hc2⟩
 have hb2 := (Below.alloc (Below.refl w1.heap.size w1) (Nat.le_refl _) (.cells #[.int .i64 1] 3)).trans (hc2.mono (by simp))
 have ho2 := k36_mkM w2 w1.heap.size (fun _ => True) ⟨⟨#[105, 109, 97, 103, 101]⟩, [1], false, [⟨#[49]⟩]⟩ (Kd.R_lower ha2 (by simp)) (Kd.R_lower hd2 (by simp))
 have E2 := Aside0.mk (E1.out.snoc hb2 ho2 B1.out.size)
 have B2 := Aside0.mk (B1.out.trans (hb2.mono B1.out.size))
 clear hb2 ho2 ha2 hd2 hc2 E1 B1
 go_wp2_with fail
 refine (spec_l2One.calls 8 ⟨#[119, 97, 110, 116]⟩ ⟨#[49]⟩ _ _ [1] ⟨#[119, 97, 110, 116]⟩ [1] false [⟨#[49]⟩] _ (ints_C w2 [1] (by decide)) (Nat.le_refl _) (by decide +kernel)).mono ?_
 rintro e w3 ⟨av3, dv3, rfl, ha3, hd3, hc3⟩
 have hb3 := (Below.alloc (Below.refl w2.heap.size w2) (Nat.le_refl _) (.cells #[.int .i64 1] 3)).trans (hc3.mono (by simp))
 have ho3 := k36_mkM w3 w2.heap.size (fun _ => True) ⟨⟨#[119, 97, 110, 116]⟩, [1], false, [⟨#[49]⟩]⟩ (Kd.R_lower ha3 (by simp)) (Kd.R_lower hd3 (by simp))
 have E3 := Aside0.mk (E2.out.snoc hb3 ho3 B2.out.size)
 have B3 := Aside0.mk (B2.out.trans (hb3.mono B2.out.size))
 clear hb3 ho3 ha3 hd3 hc3 E2 B2
 go_wp2_with fail
 refine (spec_l2One.calls 8 ⟨#[100, 111, 119, 110]⟩ ⟨#[49]⟩ _ _ [1] ⟨#[100, 111, 119, 110]⟩ [1] false [⟨#[49]⟩] _ (ints_C w3 [1] (by decide)) (Nat.le_refl _) (by decide +kernel)).mono ?_
 rintro e w4 ⟨av4, dv4, rfl, ha4, hd4, hc4⟩
 have hb4 := (Below.alloc (Below.refl w3.heap.size w3) (Nat.le_refl _) (.cells #[.int .i64 1] 3)).trans (hc4.mono (by simp))
 have ho4 := k36_mkM w4 w3.heap.size (fun _ => True) ⟨⟨#[100, 111, 119, 110]⟩, [1], false, [⟨#[49]⟩]⟩ (Kd.R_lower ha4 (by simp)) (Kd.R_lower hd4 (by simp))
 have E4 := Aside0.mk (E3.out.snoc hb4 ho4 B3.out.size)
 have B4 := Aside0.mk (B3.out.trans (hb4.mono B3.out.size))
 clear hb4 ho4 ha4 hd4 hc4 E3 B3
 go_wp2_with fail
 refine (spec_l2One.calls 8 ⟨#[111, 118, 101, 114]⟩ ⟨#[48]⟩ _ _ [1] ⟨#[111, 118, 101, 114]⟩ [1] false [⟨#[48]⟩] _ (ints_C w4 [1] (by decide)) (Nat.le_refl _) (by decide +kernel)).mono ?_
 rintro e w5 ⟨av5, dv5, rfl, ha5, hd5, hc5⟩
 have hb5 := (Below.alloc (Below.refl w4.heap.size w4) (Nat.le_refl _) (.cells #[.int .i64 1] 3)).trans (hc5.mono (by simp))
 have ho5 := k36_mkM w5 w4.heap.size (fun _ => True) ⟨⟨#[111, 118, 101, 114]⟩, [1], false, [⟨#[48]⟩]⟩ (Kd.R_lower ha5 (by simp)) (Kd.R_lower hd5 (by simp))
 have E5 := Aside0.mk (E4.out.snoc hb5 ho5 B4.out.size)
 have B5 := Aside0.mk (B4.out.trans (hb5.mono B4.out.size))
 clear hb5 ho5 ha5 hd5 hc5 E4 B4
 go_wp2_with fail
 refine (spec_l2One.calls 8 ⟨#[110, 101, 101, 100, 115]⟩ ⟨#[49, 32, 49]⟩ _ _ [1, 1] ⟨#[110, 101, 101, 100, 115]⟩ [1, 1] false [⟨#[49]⟩, ⟨#[49]⟩] _ (ints_C w5 [1, 1] (by decide)) (Nat.le_refl _) (by decide +kernel)).mono ?_
 rintro e w6 ⟨av6, dv6, rfl, ha6, hd6, hc6⟩
 have hb6 := (Below.alloc (Below.refl w5.heap.size w5) (Nat.le_refl _) (.cells #[.int .i64 1, .int .i64 1] 3)).trans (hc6.mono (by simp))
 have ho6 := k36_mkM w6 w5.heap.size (fun _ => True) ⟨⟨#[110, 101, 101, 100, 115]⟩, [1, 1], false, [⟨#[49]⟩, ⟨#[49]⟩]⟩ (Kd.R_lower ha6 (by simp)) (Kd.R_lower hd6 (by simp))
 have E6 := Aside0.mk (E5.out.snoc hb6 ho6 B5.out.size)
 have B6 := Aside0.mk (B5.out.trans (hb6.mono B5.out.size))
 clear hb6 ho6 ha6 hd6 hc6 E5 B5
 go_wp2_with fail
 refine (spec_l2One.calls 8 ⟨#[119, 104, 101, 114, 101]⟩ ⟨#[]⟩ _ _ [4] ⟨#[119, 104, 101, 114, 101]⟩ [4] false [⟨#[]⟩] _ (ints_C w6 [4] (by decide)) (Nat.le_refl _) (by decide +kernel)).mono ?_
 rintro e w7 ⟨av7, dv7, rfl, ha7, hd7, hc7⟩
 have hb7 := (Below.alloc (Below.refl w6.heap.size w6) (Nat.le_refl _) (.cells #[.int .i64 4] 3)).trans (hc7.mono (by simp))
 have ho7 := k36_mkM w7 w6.heap.size (fun _ => True) ⟨⟨#[119, 104, 101, 114, 101]⟩, [4], false, [⟨#[]⟩]⟩ (Kd.R_lower ha7 (by simp)) (Kd.R_lower hd7 (by simp))
 have E7 := Aside0.mk (E6.out.snoc hb7 ho7 B6.out.size)
 have B7 := Aside0.mk (B6.out.trans (hb7.mono B6.out.size))
 clear hb7 ho7 ha7 hd7 hc7 E6 B6
 go_wp2_with fail
 refine (spec_l2Many.calls ⟨#[108, 105, 107, 101]⟩ _ _ [4, 2] ⟨#[108, 105, 107, 101]⟩ [4, 2] true [] _ (ints_C w7 [4, 2] (by decide)) (Nat.le_refl _) rfl).mono ?_
 rintro e w8 ⟨av8, dv8, rfl, ha8, hd8, hc8⟩
 have hb8 := (Below.alloc (Below.refl w7.heap.size w7) (Nat.le_refl _) (.cells #[.int .i64 4, .int .i64 2] 3)).trans (hc8.mono (by simp))
 have ho8 := k36_mkM w8 w7.heap.size (fun _ => True) ⟨⟨#[108, 105, 107, 101]⟩, [4, 2], true, []⟩ (Kd.R_lower ha8 (by simp)) (Kd.R_lower hd8 (by simp))
 have E8 := Aside0.mk (E7.out.snoc hb8 ho8 B7.out.size)
 have B8 := Aside0.mk (B7.out.trans (hb8.mono B7.out.size))
 clear hb8 ho8 ha8 hd8 hc8 E7 B7
 go_wp2_with fail
 refine (spec_l2One.calls 8 ⟨#[97, 112, 97, 114, 116]⟩ ⟨#[110, 111, 110, 101]⟩ _ _ [6] ⟨#[97, 112, 97, 114, 116]⟩ [6] false [⟨#[110, 111, 110, 101]⟩] _ (ints_C w8 [6] (by decide)) (Nat.le_refl _) (by decide +kernel)).mono ?_
 rintro e w9 ⟨av9, dv9, rfl, ha9, hd9, hc9⟩
 have hb9 := (Below.alloc (Below.refl w8.heap.size w8) (Nat.le_refl _) (.cells #[.int .i64 6] 3)).trans (hc9.mono (by simp))
 have ho9 := k36_mkM w9 w8.heap.size (fun _ => True) ⟨⟨#[97, 112, 97, 114, 116]⟩, [6], false, [⟨#[110, 111, 110, 101]⟩]⟩ (Kd.R_lower ha9 (by simp)) (Kd.R_lower hd9 (by simp))
 have E9 := Aside0.mk (E8.out.snoc hb9 ho9 B8.out.size)
 have B9 := Aside0.mk (B8.out.trans (hb9.mono B8.out.size))
 clear hb9 ho9 ha9 hd9 hc9 E8 B8
 go_wp2_with fail
 refine (spec_l2One.calls 8 ⟨#[118, 111, 108, 117, 109, 101]⟩ ⟨#[110, 111]⟩ _ _ [5] ⟨#[118, 111, 108, 117, 109, 101]⟩ [5] false [⟨#[110, 111]⟩] _ (ints_C w9 [5] (by decide)) (Nat.le_refl _) (by decide +kernel)).mono ?_
 rintro e w10 ⟨av10, dv10, rfl, ha10, hd10, hc10⟩
 have hb10 := (Below.alloc (Below.refl w9.heap.size w9) (Nat.le_refl _) (.cells #[.int .i64 5] 3)).trans (hc10.mono (by simp))
 have ho10 := k36_mkM w10 w9.heap.size (fun _ => True) ⟨⟨#[118, 111, 108, 117, 109, 101]⟩, [5], false, [⟨#[110, 111]⟩]⟩ (Kd.R_lower ha10 (by simp)) (Kd.R_lower hd10 (by simp))
 have E10 := Aside0.mk (E9.out.snoc hb10 ho10 B9.out.size)
 have B10 := Aside0.mk (B9.out.trans (hb10.mono B9.out.size))
 clear hb10 ho10 ha10 hd10 hc10 E9 B9
 go_wp2_with fail
 refine (spec_l2One.calls 8 ⟨#[102, 111, 108, 108, 111, 119]⟩ ⟨#[48, 32, 48, 32, 48]⟩ _ _ [1, 1, 1] ⟨#[102, 111, 108, 108, 111, 119]⟩ [1, 1, 1] false [⟨#[48]⟩, ⟨#[48]⟩, ⟨#[48]⟩] _ (ints_C w10 [1, 1, 1] (by decide)) (Nat.le_refl _) (by decide +kernel)).mono ?_
 rintro e w11 ⟨av11, dv11, rfl, ha11, hd11, hc11⟩
 have hb11 := (Below.alloc (Below.refl w10.heap.size w10) (Nat.le_refl _) (.cells #[.int .i64 1, .int .i64 1, .int .i64 1] 3)).trans (hc11.mono (by simp))
 have ho11 := k36_mkM w11 w10.heap.size (fun _ => True) ⟨⟨#[102, 111, 108, 108, 111, 119]⟩, [1, 1, 1], false, [⟨#[48]⟩, ⟨#[48]⟩, ⟨#[48]⟩]⟩ (Kd.R_lower ha11 (by simp)) (Kd.R_lower hd11 (by simp))
 have E11 := Aside0.mk (E10.out.snoc hb11 ho11 B10.out.size)
 have B11 := Aside0.mk (B10.out.trans (hb11.mono B10.out.size))
 clear hb11 ho11 ha11 hd11 hc11 E10 B10
 go_wp2_with fail
 refine (spec_l2One.calls 8 ⟨#[112, 97, 99, 101]⟩ ⟨#[48, 32, 48, 32, 48]⟩ _ _ [1, 1, 1] ⟨#[112, 97, 99, 101]⟩ [1, 1, 1] false [⟨#[48]⟩, ⟨#[48]⟩, ⟨#[48]⟩] _ (ints_C w11 [1, 1, 1] (by decide)) (Nat.le_refl _) (by decide +kernel)).mono ?_
 rintro e w12 ⟨av12, dv12, rfl, ha12, hd12, hc12⟩
 have hb12 := (Below.alloc (Below.refl w11.heap.size w11) (Nat.le_refl _) (.cells #[.int .i64 1, .int .i64 1, .int .i64 1] 3)).trans (hc12.mono (by simp))
 have ho12 := k36_mkM w12 w11.heap.size (fun _ => True) ⟨⟨#[112, 97, 99, 101]⟩, [1, 1, 1], false, [⟨#[48]⟩, ⟨#[48]⟩, ⟨#[48]⟩]⟩ (Kd.R_lower ha12 (by simp)) (Kd.R_lower hd12 (by simp))
 have E12 := Aside0.mk (E11.out.snoc hb12 ho12 B11.out.size)
 have B12 := Aside0.mk (B11.out.trans (hb12.mono B11.out.size))
 clear hb12 ho12 ha12 hd12 hc12 E11 B11
 go_wp2_with fail
 go_ret
 exact ⟨_, rfl, Acc.lit' 36 E12.out B12.out.size (by decide) (by rfl) (by simp) (by rfl) (by rfl), B12.out.alloc B12.out.size _⟩
set_option maxRecDepth 100000 in
theorem specRules_any (kind : ByteArray) (w : World) :
  Calls Tryd.prog 13 #[.string kind] w (fun e w' => ∃ v, e = .returned v ∧ Kd.R k36 36 w' w.heap.size (fun _ => True) v (rulesL kind) ∧ Below w.heap.size w w') := by
 rcases kind_cases kind with rfl | rfl | rfl | ⟨h1, h2, h3, h4⟩
 ·rw [rulesL_team]; exact specRules_team w
 ·rw [rulesL_berth]; exact specRules_berth w
 ·rw [rulesL_service]; exact specRules_service w
 ·rw [h4]
  have n1 : (kind.toList == ([116, 101, 97, 109] : List UInt8)) = false := str_neL kind _ h1
  have n2 : (kind.toList == ([98, 101, 114, 116, 104] : List UInt8)) = false := str_neL kind _ h2
  have n3 : (kind.toList == ([115, 101, 114, 118, 105, 99, 101] : List UInt8)) = false := str_neL kind _ h3
  clear h1 h2 h3 h4
  go_enter Tryd.func13, Tryd.ntmps13
  go_wp2
  go_ret
  exact ⟨_, rfl, Acc.lit' 36 (Acc.nil k36 w w.heap.size) (Nat.le_refl _) (by decide) (by rfl) (by rfl) (by rfl) (by rfl), Below.alloc (Below.refl _ _) (Nat.le_refl _) _⟩
def spec_SheetRules.f (a0 : ByteArray) : Option (List S36) := some (rulesL a0)
theorem spec_SheetRules.calls (a0 : ByteArray) (r : List S36) (w : World) (h : spec_SheetRules.f a0 = some r) :
  Calls Tryd.prog 13 #[.string a0] w fun e w' => ∃ v0_ : Value, e = .returned (v0_) ∧ Kd.R k36 36 w' w.heap.size (fun _ => True) v0_ r ∧ Below w.heap.size w w' := by
 obtain rfl := Option.some.inj h
 exact specRules_any a0 w
end Go.Proofs.YtmcdnpooclelgaaDoor.PAll
namespace Go.Proofs.YtmcdnpooclelgaaDoor.PAll
open Go.RowKit Go.Proofs.YtmcdnpooclelgaaDoorW.PrintWords Go.Proofs.YtmcdnpooclelgaaDoorW.PrintLast Go.Proofs.YtmcdnpooclelgaaDoorW.PrintMore
attribute [local go_sem] max2_int min2_int max_two min_two max_three min_three max_four min_four   -- for this text's walks alone
def spec_l2Rule.l0 : Nat → ByteArray → List (S36) → Int → Option (Int)
 | 0, _, _, _ => none
 | k + 1, x1, x5, x6 => if x6 < (x5.length : Int) then (if 0 ≤ x6 then (if ((rd_T36 x5 x6).f0).toList = x1.toList then (some x6) else (spec_l2Rule.l0 k x1 x5 (wrap64 (x6 + 1)))) else (none)) else (some (-1))
def spec_l2Rule.f (k : Nat) (a0 : ByteArray) (a1 : ByteArray) : Option (Int) := (spec_SheetRules.f a0).bind fun t116 => (spec_l2Rule.l0 k a1 t116 0)
set_option maxHeartbeats 8000000 in
set_option maxRecDepth 100000 in
theorem spec_l2Rule.calls (k : Nat) (a0 : ByteArray) (a1 : ByteArray) (r : Int) (w : World) (h : spec_l2Rule.f k a0 a1 = some r) :
  Calls Tryd.prog 62 #[.string a0, .string a1] w fun e w' => e = .returned (.int .i64 r) ∧ Below w.heap.size w w' := by
 have HB := Aside0.mk (Below.refl w.heap.size w)
 have H : ((spec_SheetRules.f a0).bind fun t116 => (spec_l2Rule.l0 k a1 t116 0)) = some r := h
 clear h
 replace H := Option.bind_eq_some_iff.mp H
 obtain ⟨t116, A30, H⟩ := H
 replace H : (spec_l2Rule.l0 k a1 t116 0) = some r := H
 have A3 := Aside0.mk A30
 clear A30
 have H' := Aside0.mk H
 clear H
 go_enter Tryd.func62, Tryd.ntmps62
 go_wp2_with (first | ((with_reducible refine gate_callee (f := 13) rfl ?_); refine goesL_ (some 8) rfl rfl Tryd.func13 (by kernel_rfl) rfl #[.string a0] rfl (by (try simp only [List.map_toArray, List.map_cons, List.map_nil]); first | done | rfl | (simp only [List.length_drop, List.length_take]; rfl)) ?_; (with_reducible refine (spec_SheetRules.calls a0 t116 _ A3.out).mono ?_); rintro e w4 ⟨v117, rfl, ho0, hb⟩; refine ⟨_, rfl, ?_⟩; have n0_ := Aside0.mk (Kd.R_lower ho0 (below_size (stB HB.out))); have n1_ := Aside0.mk (below_step (stB HB.out) hb); clear HB; have HO118 := n0_; have HB := n1_; clear n0_ n1_; (try clear hb); (try clear hb2); (try clear hk); (try clear hi); (try clear ho0)))
 go_loopg [6] k (fun kq v6 w' => ∃ (x6_1 : Int), v6 = .int .i64 x6_1 ∧ Aside0 (spec_l2Rule.l0 kq a1 t116 x6_1 = some r) ∧ Aside0 (kq ≤ k) ∧ Aside0 (Kd.R k36 36 w' w.heap.size (fun _ => True) v117 t116) ∧ Aside0 (Below w.heap.size w w'))
 case atStart => exact ⟨(0), (by first | rfl | (simp; done) | (simp [*]; done)), H', ⟨Nat.le_refl _⟩, ⟨by (with_reducible repeat (first | apply Kd.R_alloc | apply Kd.R_drewN | apply Kd.R_drew)); exact HO118.out⟩, ⟨by repeat (first | (with_reducible first | exact HB.out | apply below_alloc | apply pw_below_drewN | apply below_drew1) | exact HB.out)⟩⟩
 case round =>
  clear H'
  try clear c1
  try clear p2
  obtain ⟨x6_1, rfl, HA, HK1, HO_5, HB⟩ := hrel
  cases gk with
  | zero => exact absurd HA.out (by simp [spec_l2Rule.l0])
  | succ k1 =>
   have H := HA.out
   clear HA
   simp only [spec_l2Rule.l0] at H
   by_cases c5 : x6_1 < (t116.length : Int)
   ·rw [if_pos c5] at H
    have c5b0 : decide (x6_1 < (t116.length : Int)) = true := decide_eq_true c5
    clear c5
    by_cases c6 : 0 ≤ x6_1
    ·rw [if_pos c6] at H
     have c6b0 : decide (0 ≤ x6_1) = true := decide_eq_true c6
     clear c6
     by_cases c7 : ((rd_T36 t116 x6_1).f0).toList = a1.toList
     ·rw [if_pos c7] at H
      have c7b0 : (((rd_T36 t116 x6_1).f0).toList == a1.toList) = true := beq_iff_eq.mpr c7
      have c7b1 : (((rd_T36 t116 x6_1).f0).toList != a1.toList) = false := bne_eq_false_iff_eq.mpr c7
      clear c7
      obtain rfl := Option.some.inj H
      obtain ⟨Ao8, co8, eo8⟩ := Kd.R_slice HO_5.out
      subst eo8
      have p119 : 0 ≤ (x6_1 : Int) := of_decide_eq_true (by first | (with_reducible assumption) | assumption)
      have q119 : x6_1 < (t116.length : Int) := of_decide_eq_true (by first | (with_reducible assumption) | assumption)
      obtain ⟨ad119, A119_1, c119_1, A119_3, c119_3, e119, hx119_0, hx119_1, hx119_2, hx119_3, hl119_1, hi119_1, hl119_3, hi119_3⟩ := at_T36 (Kd.R_reads' HO_5.out).2.2 x6_1 p119 q119
      cases e119
      obtain ⟨ce119, hce119, hMe119, hcc119⟩ := Kd.R_get HO_5.out z36 x6_1 p119 (by first | exact q119 | exact of_decide_eq_true (by first | (with_reducible assumption) | assumption) | (have e_ := (Kd.R_reads' HO_5.out).1; omega))
      obtain ⟨ve119_1, ve119_3, rfl, ge119_1, ge119_3⟩ := k36_openM hMe119
      have hv119_1 := hcc119 1 _ rfl
      rw [add_field _ _ 1 (by omega)] at hv119_1
      replace hv119_1 := Option.some.inj (hv119_1.symm.trans hx119_1)
      rw [hv119_1] at ge119_1
      have HL119_1 := Aside0.mk (show Kd.R (Kd.int .i64) 3 _ _ _ _ ((rd_T36 t116 x6_1).f1) from ge119_1)
      clear hv119_1 ge119_1
      have hv119_3 := hcc119 3 _ rfl
      rw [add_field _ _ 3 (by omega)] at hv119_3
      replace hv119_3 := Option.some.inj (hv119_3.symm.trans hx119_3)
      rw [hv119_3] at ge119_3
      have HL119_3 := Aside0.mk (show Kd.R Kd.string 9 _ _ _ _ ((rd_T36 t116 x6_1).f3) from ge119_3)
      clear hv119_3 ge119_3
      clear hcc119 hce119
      have HR119_1 := Aside0.mk hi119_1
      have HC119_1 := Aside0.mk hl119_1
      clear hi119_1 hl119_1
      have HR119_3 := Aside0.mk hi119_3
      have HC119_3 := Aside0.mk hl119_3
      clear hi119_3 hl119_3
      replace p119 := eq_true p119
      replace q119 := eq_true q119
      go_wp2
      go_ret
      exact ⟨by first | rfl | (simp [errW_none, errW_some] <;> rfl) | (simp [*, errW_none, errW_some] <;> rfl), by repeat (first | (with_reducible first | exact HB.out | apply below_alloc | apply pw_below_drewN | apply below_drew1) | exact HB.out)⟩
     ·rw [if_neg c7] at H
      have c7b0 : (((rd_T36 t116 x6_1).f0).toList == a1.toList) = false := beq_eq_false_iff_ne.mpr c7
      have c7b1 : (((rd_T36 t116 x6_1).f0).toList != a1.toList) = true := bne_iff_ne.mpr c7
      have H' := Aside0.mk H
      clear H
      obtain ⟨Ao9, co9, eo9⟩ := Kd.R_slice HO_5.out
      subst eo9
      have p119 : 0 ≤ (x6_1 : Int) := of_decide_eq_true (by first | (with_reducible assumption) | assumption)
      have q119 : x6_1 < (t116.length : Int) := of_decide_eq_true (by first | (with_reducible assumption) | assumption)
      obtain ⟨ad119, A119_1, c119_1, A119_3, c119_3, e119, hx119_0, hx119_1, hx119_2, hx119_3, hl119_1, hi119_1, hl119_3, hi119_3⟩ := at_T36 (Kd.R_reads' HO_5.out).2.2 x6_1 p119 q119
      cases e119
      obtain ⟨ce119, hce119, hMe119, hcc119⟩ := Kd.R_get HO_5.out z36 x6_1 p119 (by first | exact q119 | exact of_decide_eq_true (by first | (with_reducible assumption) | assumption) | (have e_ := (Kd.R_reads' HO_5.out).1; omega))
      obtain ⟨ve119_1, ve119_3, rfl, ge119_1, ge119_3⟩ := k36_openM hMe119
      have hv119_1 := hcc119 1 _ rfl
      rw [add_field _ _ 1 (by omega)] at hv119_1
      replace hv119_1 := Option.some.inj (hv119_1.symm.trans hx119_1)
      rw [hv119_1] at ge119_1
      have HL119_1 := Aside0.mk (show Kd.R (Kd.int .i64) 3 _ _ _ _ ((rd_T36 t116 x6_1).f1) from ge119_1)
      clear hv119_1 ge119_1
      have hv119_3 := hcc119 3 _ rfl
      rw [add_field _ _ 3 (by omega)] at hv119_3
      replace hv119_3 := Option.some.inj (hv119_3.symm.trans hx119_3)
      rw [hv119_3] at ge119_3
      have HL119_3 := Aside0.mk (show Kd.R Kd.string 9 _ _ _ _ ((rd_T36 t116 x6_1).f3) from ge119_3)
      clear hv119_3 ge119_3
      clear hcc119 hce119
      have HR119_1 := Aside0.mk hi119_1
      have HC119_1 := Aside0.mk hl119_1
      clear hi119_1 hl119_1
      have HR119_3 := Aside0.mk hi119_3
      have HC119_3 := Aside0.mk hl119_3
      clear hi119_3 hl119_3
      replace p119 := eq_true p119
      replace q119 := eq_true q119
      go_wp2
      go_roundg k1
      case measure => have := HK1.out; omega
      case rel => exact ⟨(wrap64 (x6_1 + 1)), (by first | rfl | (simp; done) | (simp [*]; done)), H', ⟨by have := HK1.out; omega⟩, ⟨by (with_reducible repeat (first | apply Kd.R_alloc | apply Kd.R_drewN | apply Kd.R_drew)); exact HO_5.out⟩, ⟨by repeat (first | (with_reducible first | exact HB.out | apply below_alloc | apply pw_below_drewN | apply below_drew1) | exact HB.out)⟩⟩
    ·rw [if_neg c6] at H
     exact absurd H (by simp)
   ·rw [if_neg c5] at H
    have c5b0 : decide (x6_1 < (t116.length : Int)) = false := decide_eq_false c5
    clear c5
    obtain rfl := Option.some.inj H
    obtain ⟨Ao10, co10, eo10⟩ := Kd.R_slice HO_5.out
    subst eo10
    go_wp2
    go_ret
    exact ⟨by first | rfl | (simp [errW_none, errW_some] <;> rfl) | (simp [*, errW_none, errW_some] <;> rfl), by repeat (first | (with_reducible first | exact HB.out | apply below_alloc | apply pw_below_drewN | apply below_drew1) | exact HB.out)⟩
end Go.Proofs.YtmcdnpooclelgaaDoor.PAll
