/- Texts of this claim, packed: contracts of functions and plain lemmas that the law is proved from. -/
import Derived.ChangeArms
import Derived.ChangeSame
import Derived.Deep.DeepCutAuto
import Derived.Deep.LoopGhost
import Derived.Deep.RegionHeld3
import Derived.Deep.Slices
import Derived.Deep.Strs
import Derived.Laws.Cover1
import Derived.Lib.Hide
import Derived.Maps.Own
import Derived.Maps.OwnOps
import Derived.Maps.Views
import Derived.Shelf.LaysM
import Derived.Shelf.Slices.Empties2
import Derived.Shelf.Slices.Equal
import Derived.Shelf.Small.Strs
import Derived.Shelf.Small.Wraps
import Derived.Shelf.Strings.Builder1
import Derived.Shelf.Strings.BuilderF
import Derived.Shelf.Strings.BuilderK
import Derived.Shelf.Strings.Count
import Derived.Shelf.Strings.Prefix
import Derived.Shelf.Strings.Search1
import Derived.Shelf.Strings.Search2
import Derived.Shelf.Strings.Search3
import Derived.Shelf.Strings.Shaped
import Derived.Shelf.Strings.Split
import Derived.Shelf.Unicode.DecodeSlow
import Derived.Test.YtmcdnpooclelgaaDoorProg
import Derived.WalkSpells
import Derived.Test.YtmcdnpooclelgaaDoorQDiff1
import Derived.Test.YtmcdnpooclelgaaDoorQDiff2
set_option linter.unusedVariables false
set_option linter.unusedSimpArgs false
namespace Go.Proofs
open Go.Shelf
def Tryd.lays106_ren : Go.Shelf.Ren := ⟨fun | 106 => 117 | 213 => 140 | 265 => 154 | n => n, fun | 9 => 9 | 3 => 3 | n => n, fun | n => n⟩
theorem Tryd.lays106 : Go.Proofs.Lays.n106 Tryd.prog Tryd.lays106_ren := {
 mixed := by kernel_rfl
 f106 := Tryd.func117.trans (congrArg some (by kernel_rfl))
 f213 := Tryd.func140.trans (congrArg some (by kernel_rfl))
 f265 := Tryd.func154.trans (congrArg some (by kernel_rfl))
 t3 := Tryd.underlying3
 a3 := Tryd.isAgg3
 z3 := Tryd.sizeOf3
 v3 := Tryd.zeroValue3
 t9 := Tryd.underlying9
 a9 := Tryd.isAgg9
 z9 := Tryd.sizeOf9
 v9 := Tryd.zeroValue9 }
open Go.RowKit in
/-- strings.Compare: "Compare returns an integer comparing two strings lexicographically. The result will be 0 if a == b, -1 if a < b, and +1 if a > b.": IT RETURNS 'Lib.compareBytes a b'; the world is as it was. (LAID: no walk: one application.) -/
theorem Tryd.strings_Compare (a b : ByteArray) (w : World) :
  Calls Tryd.prog 117 #[.string a, .string b] w fun e w' => e = .returned (.int .i64 (Lib.compareBytes a.data.toList b.data.toList)) ∧ w' = w := Any.strings_Compare Tryd.lays106 a b w
def Tryd.lays143_ren : Go.Shelf.Ren := ⟨fun | 143 => 149 | 219 => 159 | 217 => 162 | 225 => 163 | 224 => 164 | 267 => 165 | 266 => 166 | 314 => 167 | n => n, fun | 9 => 9 | 3 => 3 | 4 => 4 | 5 => 5 | 46 => 149 | 146 => 168 | 51 => 167 | n => n, fun | 1 => 0 | n => n⟩
theorem Tryd.lays143 : Go.Proofs.Lays.n143 Tryd.prog Tryd.lays143_ren := {
 mixed := by kernel_rfl
 f143 := Tryd.func149.trans (congrArg some (by kernel_rfl))
 f217 := Tryd.func162.trans (congrArg some (by kernel_rfl))
 f219 := Tryd.func159.trans (congrArg some (by kernel_rfl))
 f224 := Tryd.func164.trans (congrArg some (by kernel_rfl))
 f225 := Tryd.func163.trans (congrArg some (by kernel_rfl))
 f266 := Tryd.func166.trans (congrArg some (by kernel_rfl))
 f267 := Tryd.func165.trans (congrArg some (by kernel_rfl))
 f314 := Tryd.func167.trans (congrArg some (by kernel_rfl))
 t3 := Tryd.underlying3
 a3 := Tryd.isAgg3
 z3 := Tryd.sizeOf3
 v3 := Tryd.zeroValue3
 t4 := Tryd.underlying4
 a4 := Tryd.isAgg4
 z4 := Tryd.sizeOf4
 v4 := Tryd.zeroValue4
 t5 := Tryd.underlying5
 a5 := Tryd.isAgg5
 z5 := Tryd.sizeOf5
 v5 := Tryd.zeroValue5
 t9 := Tryd.underlying9
 a9 := Tryd.isAgg9
 z9 := Tryd.sizeOf9
 v9 := Tryd.zeroValue9
 t46 := Tryd.underlying149
 a46 := Tryd.isAgg149
 z46 := Tryd.sizeOf149
 v46 := Tryd.zeroValue149
 t51 := Tryd.underlying167
 a51 := Tryd.isAgg167
 z51 := Tryd.sizeOf167
 v51 := Tryd.zeroValue167
 t146 := Tryd.underlying168
 a146 := Tryd.isAgg168
 z146 := Tryd.sizeOf168
 v146 := Tryd.zeroValue168
 g1 := by kernel_rfl }
open Go.RowKit Go.Lib in
/-- strings.Index: "Index returns the index of the first instance of substr in s, or -1 if substr is not present in s.": AT A substr OF ONE BYTE c: IT RETURNS 'Lib.indexByte s c'; the world is as it was. (LAID: no walk: one application.) -/
theorem Tryd.strings_Index_one (s : ByteArray) (c : UInt8) (w : World) :
  Calls Tryd.prog 149 #[.string s, .string ⟨#[c]⟩] w fun e w' => e = .returned (.int .i64 (Lib.indexByte s.data.toList c)) ∧ w' = w := Any.strings_Index_one Tryd.lays143 s c w
def Tryd.lays138_ren : Go.Shelf.Ren := ⟨fun | 138 => 148 | 195 => 156 | 218 => 158 | 143 => 149 | 219 => 159 | 217 => 162 | 225 => 163 | 224 => 164 | 267 => 165 | 266 => 166 | 314 => 167 | n => n, fun | 9 => 9 | 3 => 3 | 4 => 4 | 5 => 5 | 0 => 0 | 46 => 149 | 146 => 168 | 51 => 167 | n => n, fun | 1 => 0 | n => n⟩
theorem Tryd.lays138 : Go.Proofs.Lays.n138 Tryd.prog Tryd.lays138_ren := {
 mixed := by kernel_rfl
 f138 := Tryd.func148.trans (congrArg some (by kernel_rfl))
 f143 := Tryd.func149.trans (congrArg some (by kernel_rfl))
 f195 := Tryd.func156.trans (congrArg some (by kernel_rfl))
 f217 := Tryd.func162.trans (congrArg some (by kernel_rfl))
 f218 := Tryd.func158.trans (congrArg some (by kernel_rfl))
 f219 := Tryd.func159.trans (congrArg some (by kernel_rfl))
 f224 := Tryd.func164.trans (congrArg some (by kernel_rfl))
 f225 := Tryd.func163.trans (congrArg some (by kernel_rfl))
 f266 := Tryd.func166.trans (congrArg some (by kernel_rfl))
 f267 := Tryd.func165.trans (congrArg some (by kernel_rfl))
 f314 := Tryd.func167.trans (congrArg some (by kernel_rfl))
 t0 := Tryd.underlying0
 a0 := Tryd.isAgg0
 z0 := Tryd.sizeOf0
 v0 := Tryd.zeroValue0
 t3 := Tryd.underlying3
 a3 := Tryd.isAgg3
 z3 := Tryd.sizeOf3
 v3 := Tryd.zeroValue3
 t4 := Tryd.underlying4
 a4 := Tryd.isAgg4
 z4 := Tryd.sizeOf4
 v4 := Tryd.zeroValue4
 t5 := Tryd.underlying5
 a5 := Tryd.isAgg5
 z5 := Tryd.sizeOf5
 v5 := Tryd.zeroValue5
 t9 := Tryd.underlying9
 a9 := Tryd.isAgg9
 z9 := Tryd.sizeOf9
 v9 := Tryd.zeroValue9
 t46 := Tryd.underlying149
 a46 := Tryd.isAgg149
 z46 := Tryd.sizeOf149
 v46 := Tryd.zeroValue149
 t51 := Tryd.underlying167
 a51 := Tryd.isAgg167
 z51 := Tryd.sizeOf167
 v51 := Tryd.zeroValue167
 t146 := Tryd.underlying168
 a146 := Tryd.isAgg168
 z146 := Tryd.sizeOf168
 v146 := Tryd.zeroValue168
 g1 := by kernel_rfl }
open Go.RowKit Go.Lib in
/-- strings.Count AT A substr OF ONE BYTE ('hp'): "Count counts the number of non-overlapping instances of substr in s.": IT RETURNS 'Lib.countByte s (that byte)'; the world is as it was. ✋ NO CONTRACT HERE YET at an empty substr (utf8.RuneCountInString) or at a longer one (a loop over strings.Index). (LAID: no walk: one application.) -/
theorem Tryd.strings_Count_one (s : ByteArray) (c : UInt8) (w : World) :
  Calls Tryd.prog 148 #[.string s, .string ⟨#[c]⟩] w fun e w' => e = .returned (.int .i64 (Lib.countByte s.data.toList c)) ∧ w' = w := Any.strings_Count_one Tryd.lays138 s c w
def Tryd.lays221_ren : Go.Shelf.Ren := ⟨fun | 221 => 133 | 268 => 147 | 138 => 148 | 143 => 149 | 195 => 156 | 197 => 157 | 218 => 158 | 219 => 159 | 260 => 161 | 217 => 162 | 225 => 163 | 224 => 164 | 267 => 165 | 266 => 166 | 314 => 167 | n => n, fun | 9 => 9 | 3 => 3 | 31 => 27 | 4 => 4 | 0 => 0 | 105 => 160 | 21 => 21 | 5 => 5 | 46 => 149 | 119 => 163 | 139 => 166 | 138 => 165 | 146 => 168 | 51 => 167 | n => n, fun | 1 => 0 | 3 => 1 | 4 => 2 | n => n⟩
theorem Tryd.lays221 : Go.Proofs.Lays.n221 Tryd.prog Tryd.lays221_ren := {
 mixed := by kernel_rfl
 f138 := Tryd.func148.trans (congrArg some (by kernel_rfl))
 f143 := Tryd.func149.trans (congrArg some (by kernel_rfl))
 f195 := Tryd.func156.trans (congrArg some (by kernel_rfl))
 f197 := Tryd.func157.trans (congrArg some (by kernel_rfl))
 f217 := Tryd.func162.trans (congrArg some (by kernel_rfl))
 f218 := Tryd.func158.trans (congrArg some (by kernel_rfl))
 f219 := Tryd.func159.trans (congrArg some (by kernel_rfl))
 f221 := Tryd.func133.trans (congrArg some (by kernel_rfl))
 f224 := Tryd.func164.trans (congrArg some (by kernel_rfl))
 f225 := Tryd.func163.trans (congrArg some (by kernel_rfl))
 f260 := Tryd.func161.trans (congrArg some (by kernel_rfl))
 f266 := Tryd.func166.trans (congrArg some (by kernel_rfl))
 f267 := Tryd.func165.trans (congrArg some (by kernel_rfl))
 f268 := Tryd.func147.trans (congrArg some (by kernel_rfl))
 f314 := Tryd.func167.trans (congrArg some (by kernel_rfl))
 t0 := Tryd.underlying0
 a0 := Tryd.isAgg0
 z0 := Tryd.sizeOf0
 v0 := Tryd.zeroValue0
 t3 := Tryd.underlying3
 a3 := Tryd.isAgg3
 z3 := Tryd.sizeOf3
 v3 := Tryd.zeroValue3
 t4 := Tryd.underlying4
 a4 := Tryd.isAgg4
 z4 := Tryd.sizeOf4
 v4 := Tryd.zeroValue4
 t5 := Tryd.underlying5
 a5 := Tryd.isAgg5
 z5 := Tryd.sizeOf5
 v5 := Tryd.zeroValue5
 t9 := Tryd.underlying9
 a9 := Tryd.isAgg9
 z9 := Tryd.sizeOf9
 v9 := Tryd.zeroValue9
 t21 := Tryd.underlying21
 a21 := Tryd.isAgg21
 z21 := Tryd.sizeOf21
 v21 := Tryd.zeroValue21
 t31 := Tryd.underlying27
 a31 := Tryd.isAgg27
 z31 := Tryd.sizeOf27
 v31 := Tryd.zeroValue27
 t46 := Tryd.underlying149
 a46 := Tryd.isAgg149
 z46 := Tryd.sizeOf149
 v46 := Tryd.zeroValue149
 t51 := Tryd.underlying167
 a51 := Tryd.isAgg167
 z51 := Tryd.sizeOf167
 v51 := Tryd.zeroValue167
 t105 := Tryd.underlying160
 a105 := Tryd.isAgg160
 z105 := Tryd.sizeOf160
 v105 := Tryd.zeroValue160
 t119 := Tryd.underlying163
 a119 := Tryd.isAgg163
 z119 := Tryd.sizeOf163
 t138 := Tryd.underlying165
 a138 := Tryd.isAgg165
 z138 := Tryd.sizeOf165
 v138 := Tryd.zeroValue165
 t139 := Tryd.underlying166
 a139 := Tryd.isAgg166
 z139 := Tryd.sizeOf166
 v139 := Tryd.zeroValue166
 t146 := Tryd.underlying168
 a146 := Tryd.isAgg168
 z146 := Tryd.sizeOf168
 v146 := Tryd.zeroValue168
 g1 := by kernel_rfl
 g3 := by kernel_rfl
 g4 := by kernel_rfl }
end Go.Proofs
namespace Go.Proofs.YtmcdnpooclelgaaDoor.PAll
open Go.RowKit Go.Proofs.YtmcdnpooclelgaaDoorW.PrintWords
set_option maxHeartbeats 1000000 in
theorem split_one (s : ByteArray) (c : UInt8) (w : World) (hs : s.size < 4294967281) :
  Calls Tryd.prog 104 #[.string s, .string ⟨#[c]⟩] w fun e w' =>
   e = .returned (.slice (some ⟨w.heap.size, 0, none⟩) (Lib.countB s ⟨#[c]⟩ + 1) (Lib.countB s ⟨#[c]⟩ + 1)) ∧ w' = w.alloc (.cells ((Lib.splitB ⟨#[c]⟩ 0 (Lib.countB s ⟨#[c]⟩) s).map Value.string).toArray 9) := by
 have h1 : 1 ≤ (⟨#[c]⟩ : ByteArray).size := by show 1 ≤ 1; omega
 have hle := Lib.countB_le ⟨#[c]⟩ h1 s.size s (Nat.le_refl _)
 have hlen := Lib.splitB_all ⟨#[c]⟩ h1 0 _ s rfl
 have q := Any.strings_genSplit_core Tryd.lays221 (by kernel_rfl) s ⟨#[c]⟩ 0 (-1) (Lib.countB s ⟨#[c]⟩ + 1) w hs h1 (Nat.zero_le _)
  (fun x cc hx => (Tryd.strings_Index_one x c _).mono fun e w' ⟨he, hw⟩ => ⟨by
   rw [he]
   show _ = Ending.returned (Value.int .i64 (Lib.index x.data.toList [c]))
   rw [Lib.index_one], hw⟩)
  ((Tryd.strings_Count_one s c w).mono fun e w' ⟨he, hw⟩ => ⟨by
   rw [he]
   show _ = Ending.returned (Value.int .i64 ((Lib.count s.data.toList [c] : Nat) : Int))
   rw [Lib.count_one]
   rfl, hw⟩) (by decide) (by decide) (by rw [if_pos (by decide)]; omega)
 rw [Nat.add_sub_cancel, hlen] at q
 have e2 : Lib.cellsOf (Lib.splitB ⟨#[c]⟩ 0 (Lib.countB s ⟨#[c]⟩) s) (Lib.countB s ⟨#[c]⟩ + 1) = ((Lib.splitB ⟨#[c]⟩ 0 (Lib.countB s ⟨#[c]⟩) s).map Value.string).toArray := by rw [← hlen]; exact Lib.cellsOf_full _
 rw [e2] at q
 have Q := Aside0.mk q
 clear q e2 hlen hle h1
 go_enter Tryd.func104, Tryd.ntmps104
 go_wp2_with fail
 refine Q.out.mono ?_
 rintro e w' ⟨rfl, rfl⟩
 go_wp2_with fail
 go_ret
 exact ⟨rfl, rfl⟩
def strings_Compare.f (a0 a1 : ByteArray) : Option Int := some (Lib.compareBytes a0.data.toList a1.data.toList)
theorem strings_Compare.calls (a0 a1 : ByteArray) (r : Int) (w : World) (h : strings_Compare.f a0 a1 = some r) :
  Calls Tryd.prog 117 #[.string a0, .string a1] w fun e w' => e = .returned (.int .i64 r) ∧ Below w.heap.size w w' := by
 obtain rfl := Option.some.inj h
 refine (Tryd.strings_Compare a0 a1 w).mono ?_
 rintro e w' ⟨rfl, rfl⟩
 exact ⟨rfl, Below.refl _ _⟩
abbrev strsS : Sh (List ByteArray) := .row strS 9
abbrev intsS : Sh (List Int) := .row intS 3
def ruleS : Sh S36 := .iso (.pair strS (.pair intsS (.pair boolS strsS))) (fun x : S36 => (x.f0, x.f1, x.f2, x.f3))
theorem rule_ow {w : World} {b : Nat} {key : ByteArray} {av dv : Value} {ns : List Int} {m : Bool} {ds : List ByteArray} {G H : List Nat} (h1 : intsS.ow w b [av] ns G) (h2 : strsS.ow w b [dv] ds H) (hd : ∀ g ∈ G, g ∉ H) :
  ruleS.ow w b [.string key, av, .bool m, dv] ⟨key, ns, m, ds⟩ (G ++ H) :=
 ⟨[.string key], [av, .bool m, dv], [], G ++ H, rfl, rfl, ⟨rfl, rfl⟩, ⟨[av], [.bool m, dv], G, H, rfl, rfl, h1, ⟨[.bool m], [dv], [], H, rfl, rfl, ⟨rfl, rfl⟩, h2, by simp⟩, hd⟩, by simp⟩
def RulePost (W : World) (r : S36) (e : Ending) (w' : World) : Prop := ∃ av dv G, e = .returned (.agg #[.string r.f0, av, .bool r.f2, dv]) ∧ ruleS.ow w' W.heap.size [.string r.f0, av, .bool r.f2, dv] r G ∧ Below W.heap.size W w'
set_option maxRecDepth 100000 in
set_option maxHeartbeats 1000000 in
theorem rule_any (W : World) (g : Nat) (hg : g = W.heap.size) (key d : ByteArray) (ns : List Int) (n : Nat) (hn : n = ns.length) (hl : ns.length ≤ 100) (hd : d.size ≤ 1000) (hcb : Lib.countB d ⟨#[32]⟩ + 1 ≤ 9223372036854775807) :
  Calls Tryd.prog 55 #[.string key, .string d, .slice (some ⟨g, 0, none⟩) n n] (W.alloc (.cells (ns.map (Value.int .i64)).toArray 3)) (RulePost W ⟨key, ns, false, Lib.splitB ⟨#[32]⟩ 0 (Lib.countB d ⟨#[32]⟩) d⟩) := by
 subst hn hg
 generalize hW : W.alloc (.cells (ns.map (Value.int .i64)).toArray 3) = W1
 have hs : W1.heap.size = W.heap.size + 1 := by rw [← hW]; simp
 have hB : Below W.heap.size W W1 := by rw [← hW]; exact (Below.refl _ _).alloc (Nat.le_refl _) _
 have hA : intsS.ow W1 W.heap.size [.slice (some ⟨W.heap.size, 0, none⟩) ns.length ns.length] ns [W.heap.size] := by
  rw [← hW]; exact ones_lit (Value.int .i64) (fun _ => rfl) 3 W _ ns (Nat.le_refl _) (by omega)
 go_enter Tryd.func55, Tryd.ntmps55
 go_wp2_with fail
 refine (split_one d 32 _ (by omega)).mono ?_
 rintro e w2 ⟨rfl, rfl⟩
 have hlen : Lib.countB d ⟨#[32]⟩ + 1 = (Lib.splitB ⟨#[32]⟩ 0 (Lib.countB d ⟨#[32]⟩) d).length := (Lib.splitB_all _ (by decide) 0 _ d rfl).symm
 rw [hlen]
 have hle : (Lib.splitB ⟨#[32]⟩ 0 (Lib.countB d ⟨#[32]⟩) d).length ≤ 9223372036854775807 := by rw [← hlen]; exact hcb
 generalize Lib.splitB ⟨#[32]⟩ 0 (Lib.countB d ⟨#[32]⟩) d = ds at *
 have hA2 := Aside0.mk hA
 clear hA
 go_wp2_with fail
 generalize hvals : (#[.string key, .slice (some ⟨W.heap.size, 0, none⟩) ns.length ns.length, .bool false, .slice (some ⟨W.heap.size + 1 + 1, 0, none⟩) ds.length ds.length] : Array Value) = vals
 have hblk : ((W1.alloc (.cells vals 36)).alloc (.cells (ds.map Value.string).toArray 9)).heap[W.heap.size + 1]? = some (.cells vals 36 (0, 0)) := by
  rw [← hs]; exact blk_alloc (blk_new W1 _) _
 have hD := ones_lit Value.string (fun _ => rfl) 9 (W1.alloc (.cells vals 36)) W.heap.size ds (by simp; omega) hle
 have hsz : (W1.alloc (.cells vals 36)).heap.size = W.heap.size + 1 + 1 := by simp; omega
 rw [hsz] at hD
 subst hvals
 refine bodyPost_ret (results_cell_row rfl _ _ (W.heap.size + 1) _ #[.string key, .slice (some ⟨W.heap.size, 0, none⟩) ns.length ns.length, .bool false, .slice (some ⟨W.heap.size + 1 + 1, 0, none⟩) ds.length ds.length] (0, 0) _ rfl hblk Tryd.underlying36 rfl (by kernel_rfl)) rfl ⟨_, _, _, rfl, rule_ow (intsS.obelow hA2.out (((Below.refl _ _).alloc (Nat.le_refl _) _).alloc (by simp) _)) hD (by simp; omega), ?_⟩
 exact (hB.alloc (by omega) _).alloc (by simp; omega) _
def rulesS : Sh (List S36) := .row ruleS 36
theorem cut0 : Lib.splitB ⟨#[32]⟩ 0 (Lib.countB ⟨#[49, 48, 48]⟩ ⟨#[32]⟩) ⟨#[49, 48, 48]⟩ = [⟨#[49, 48, 48]⟩] := by decide +kernel
theorem cut1 : Lib.splitB ⟨#[32]⟩ 0 (Lib.countB ⟨#[49, 48, 48, 48]⟩ ⟨#[32]⟩) ⟨#[49, 48, 48, 48]⟩ = [⟨#[49, 48, 48, 48]⟩] := by decide +kernel
theorem cut2 : Lib.splitB ⟨#[32]⟩ 0 (Lib.countB ⟨#[122]⟩ ⟨#[32]⟩) ⟨#[122]⟩ = [⟨#[122]⟩] := by decide +kernel
theorem cut3 : Lib.splitB ⟨#[32]⟩ 0 (Lib.countB ⟨#[99, 111, 114, 101]⟩ ⟨#[32]⟩) ⟨#[99, 111, 114, 101]⟩ = [⟨#[99, 111, 114, 101]⟩] := by decide +kernel
theorem cut4 : Lib.splitB ⟨#[32]⟩ 0 (Lib.countB ⟨#[49]⟩ ⟨#[32]⟩) ⟨#[49]⟩ = [⟨#[49]⟩] := by decide +kernel
theorem cut5 : Lib.splitB ⟨#[32]⟩ 0 (Lib.countB ⟨#[48]⟩ ⟨#[32]⟩) ⟨#[48]⟩ = [⟨#[48]⟩] := by decide +kernel
theorem cut6 : Lib.splitB ⟨#[32]⟩ 0 (Lib.countB ⟨#[49, 32, 49]⟩ ⟨#[32]⟩) ⟨#[49, 32, 49]⟩ = [⟨#[49]⟩, ⟨#[49]⟩] := by decide +kernel
theorem cut7 : Lib.splitB ⟨#[32]⟩ 0 (Lib.countB ⟨#[]⟩ ⟨#[32]⟩) ⟨#[]⟩ = [⟨#[]⟩] := by decide +kernel
theorem cut8 : Lib.splitB ⟨#[32]⟩ 0 (Lib.countB ⟨#[110, 111, 110, 101]⟩ ⟨#[32]⟩) ⟨#[110, 111, 110, 101]⟩ = [⟨#[110, 111, 110, 101]⟩] := by decide +kernel
theorem cut9 : Lib.splitB ⟨#[32]⟩ 0 (Lib.countB ⟨#[110, 111]⟩ ⟨#[32]⟩) ⟨#[110, 111]⟩ = [⟨#[110, 111]⟩] := by decide +kernel
theorem cut10 : Lib.splitB ⟨#[32]⟩ 0 (Lib.countB ⟨#[48, 32, 48, 32, 48]⟩ ⟨#[32]⟩) ⟨#[48, 32, 48, 32, 48]⟩ = [⟨#[48]⟩, ⟨#[48]⟩, ⟨#[48]⟩] := by decide +kernel
set_option maxRecDepth 100000 in
set_option maxHeartbeats 4000000 in
theorem implRules_team (w : World) :
  Calls Tryd.prog 14 #[.string ⟨#[116, 101, 97, 109]⟩] w (fun e w' => ∃ v F, e = .returned v ∧ rulesS.ow w' w.heap.size [v] rules_team F ∧ Below w.heap.size w w') := by
 have E0 : Aside0 (Els ruleS w w.heap.size [] [] []) := ⟨Els.nil⟩
 have B0 : Aside0 (Below w.heap.size w w) := ⟨Below.refl _ _⟩
 go_enter Tryd.func14, Tryd.ntmps14
 go_wp2_with fail
 refine (rule_any w _ (by simp) ⟨#[99, 111, 112, 105, 101, 115]⟩ ⟨#[49, 48, 48]⟩ [1] 1 rfl (by decide) (by decide) (by decide +kernel)).mono ?_
 rw [cut0]
 rintro e w1 ⟨av1, dv1, G1, rfl, ho1, hb1⟩
 have E1 := Aside0.mk (E0.out.snoc hb1 ho1 B0.out.size)
 have B1 := Aside0.mk (B0.out.trans (hb1.mono B0.out.size))
 clear hb1 ho1 E0 B0
 go_wp2_with fail
 refine (rule_any w1 _ (by simp) ⟨#[114, 111, 111, 109]⟩ ⟨#[49, 48, 48, 48]⟩ [1] 1 rfl (by decide) (by decide) (by decide +kernel)).mono ?_
 rw [cut1]
 rintro e w2 ⟨av2, dv2, G2, rfl, ho2, hb2⟩
 have E2 := Aside0.mk (E1.out.snoc hb2 ho2 B1.out.size)
 have B2 := Aside0.mk (B1.out.trans (hb2.mono B1.out.size))
 clear hb2 ho2 E1 B1
 go_wp2_with fail
 go_ret
 exact ⟨_, _, rfl, Sh.row_lit' (e := 36) E2.out B2.out.size (by decide) (by rfl) (by simp) (by rfl) (by rfl), B2.out.alloc B2.out.size _⟩
set_option maxRecDepth 100000 in
set_option maxHeartbeats 4000000 in
theorem implRules_berth (w : World) :
  Calls Tryd.prog 14 #[.string ⟨#[98, 101, 114, 116, 104]⟩] w (fun e w' => ∃ v F, e = .returned v ∧ rulesS.ow w' w.heap.size [v] rules_berth F ∧ Below w.heap.size w w') := by
 have E0 : Aside0 (Els ruleS w w.heap.size [] [] []) := ⟨Els.nil⟩
 have B0 : Aside0 (Below w.heap.size w w) := ⟨Below.refl _ _⟩
 go_enter Tryd.func14, Tryd.ntmps14
 go_wp2_with fail
 refine (rule_any w _ (by simp) ⟨#[122, 111, 110, 101]⟩ ⟨#[122]⟩ [3] 1 rfl (by decide) (by decide) (by decide +kernel)).mono ?_
 rw [cut2]
 rintro e w1 ⟨av1, dv1, G1, rfl, ho1, hb1⟩
 have E1 := Aside0.mk (E0.out.snoc hb1 ho1 B0.out.size)
 have B1 := Aside0.mk (B0.out.trans (hb1.mono B0.out.size))
 clear hb1 ho1 E0 B0
 go_wp2_with fail
 refine (rule_any w1 _ (by simp) ⟨#[114, 111, 111, 109]⟩ ⟨#[49, 48, 48]⟩ [1] 1 rfl (by decide) (by decide) (by decide +kernel)).mono ?_
 rw [cut0]
 rintro e w2 ⟨av2, dv2, G2, rfl, ho2, hb2⟩
 have E2 := Aside0.mk (E1.out.snoc hb2 ho2 B1.out.size)
 have B2 := Aside0.mk (B1.out.trans (hb2.mono B1.out.size))
 clear hb2 ho2 E1 B1
 go_wp2_with fail
 refine (rule_any w2 _ (by simp) ⟨#[104, 111, 108, 100]⟩ ⟨#[49, 48, 48]⟩ [1] 1 rfl (by decide) (by decide) (by decide +kernel)).mono ?_
 rw [cut0]
 rintro e w3 ⟨av3, dv3, G3, rfl, ho3, hb3⟩
 have E3 := Aside0.mk (E2.out.snoc hb3 ho3 B2.out.size)
 have B3 := Aside0.mk (B2.out.trans (hb3.mono B2.out.size))
 clear hb3 ho3 E2 B2
 have ho4 := rule_ow (m := true) (key := ⟨#[109, 97, 114, 107]⟩) (ones_lit (Value.int .i64) (fun _ => rfl) 3 w3 w3.heap.size [3] (Nat.le_refl _) (by decide)) (Sh.row_nil strS 9 (w3.alloc (.cells #[.int .i64 3] 3)) _) (by simp)
 have hb4 : Below w3.heap.size w3 (w3.alloc (.cells #[.int .i64 3] 3)) := (Below.refl _ _).alloc (Nat.le_refl _) _
 have E4 := Aside0.mk (E3.out.snoc hb4 ho4 B3.out.size)
 have B4 := Aside0.mk (B3.out.trans (hb4.mono B3.out.size))
 clear hb4 ho4 E3 B3
 go_wp2_with fail
 go_ret
 exact ⟨_, _, rfl, Sh.row_lit' (e := 36) E4.out B4.out.size (by decide) (by rfl) (by simp) (by rfl) (by rfl), B4.out.alloc B4.out.size _⟩
set_option maxRecDepth 100000 in
set_option maxHeartbeats 4000000 in
theorem implRules_service (w : World) :
  Calls Tryd.prog 14 #[.string ⟨#[115, 101, 114, 118, 105, 99, 101]⟩] w (fun e w' => ∃ v F, e = .returned v ∧ rulesS.ow w' w.heap.size [v] rules_service F ∧ Below w.heap.size w w') := by
 have E0 : Aside0 (Els ruleS w w.heap.size [] [] []) := ⟨Els.nil⟩
 have B0 : Aside0 (Below w.heap.size w w) := ⟨Below.refl _ _⟩
 go_enter Tryd.func14, Tryd.ntmps14
 go_wp2_with fail
 refine (rule_any w _ (by simp) ⟨#[116, 101, 97, 109]⟩ ⟨#[99, 111, 114, 101]⟩ [3] 1 rfl (by decide) (by decide) (by decide +kernel)).mono ?_
 rw [cut3]
 rintro e w1 ⟨av1, dv1, G1, rfl, ho1, hb1⟩
 have E1 := Aside0.mk (E0.out.snoc hb1 ho1 B0.out.size)
 have B1 := Aside0.mk (B0.out.trans (hb1.mono B0.out.size))
 clear hb1 ho1 E0 B0
 go_wp2_with fail
 refine (rule_any w1 _ (by simp) ⟨#[105, 109, 97, 103, 101]⟩ ⟨#[49]⟩ [1] 1 rfl (by decide) (by decide) (by decide +kernel)).mono ?_
 rw [cut4]
 rintro e w2 ⟨av2, dv2, G2, rfl, ho2, hb2⟩
 have E2 := Aside0.mk (E1.out.snoc hb2 ho2 B1.out.size)
 have B2 := Aside0.mk (B1.out.trans (hb2.mono B1.out.size))
 clear hb2 ho2 E1 B1
 go_wp2_with fail
 refine (rule_any w2 _ (by simp) ⟨#[119, 97, 110, 116]⟩ ⟨#[49]⟩ [1] 1 rfl (by decide) (by decide) (by decide +kernel)).mono ?_
 rw [cut4]
 rintro e w3 ⟨av3, dv3, G3, rfl, ho3, hb3⟩
 have E3 := Aside0.mk (E2.out.snoc hb3 ho3 B2.out.size)
 have B3 := Aside0.mk (B2.out.trans (hb3.mono B2.out.size))
 clear hb3 ho3 E2 B2
 go_wp2_with fail
 refine (rule_any w3 _ (by simp) ⟨#[100, 111, 119, 110]⟩ ⟨#[49]⟩ [1] 1 rfl (by decide) (by decide) (by decide +kernel)).mono ?_
 rw [cut4]
 rintro e w4 ⟨av4, dv4, G4, rfl, ho4, hb4⟩
 have E4 := Aside0.mk (E3.out.snoc hb4 ho4 B3.out.size)
 have B4 := Aside0.mk (B3.out.trans (hb4.mono B3.out.size))
 clear hb4 ho4 E3 B3
 go_wp2_with fail
 refine (rule_any w4 _ (by simp) ⟨#[111, 118, 101, 114]⟩ ⟨#[48]⟩ [1] 1 rfl (by decide) (by decide) (by decide +kernel)).mono ?_
 rw [cut5]
 rintro e w5 ⟨av5, dv5, G5, rfl, ho5, hb5⟩
 have E5 := Aside0.mk (E4.out.snoc hb5 ho5 B4.out.size)
 have B5 := Aside0.mk (B4.out.trans (hb5.mono B4.out.size))
 clear hb5 ho5 E4 B4
 go_wp2_with fail
 refine (rule_any w5 _ (by simp) ⟨#[110, 101, 101, 100, 115]⟩ ⟨#[49, 32, 49]⟩ [1, 1] 2 rfl (by decide) (by decide) (by decide +kernel)).mono ?_
 rw [cut6]
 rintro e w6 ⟨av6, dv6, G6, rfl, ho6, hb6⟩
 have E6 := Aside0.mk (E5.out.snoc hb6 ho6 B5.out.size)
 have B6 := Aside0.mk (B5.out.trans (hb6.mono B5.out.size))
 clear hb6 ho6 E5 B5
 go_wp2_with fail
 refine (rule_any w6 _ (by simp) ⟨#[119, 104, 101, 114, 101]⟩ ⟨#[]⟩ [4] 1 rfl (by decide) (by decide) (by decide +kernel)).mono ?_
 rw [cut7]
 rintro e w7 ⟨av7, dv7, G7, rfl, ho7, hb7⟩
 have E7 := Aside0.mk (E6.out.snoc hb7 ho7 B6.out.size)
 have B7 := Aside0.mk (B6.out.trans (hb7.mono B6.out.size))
 clear hb7 ho7 E6 B6
 have ho8 := rule_ow (m := true) (key := ⟨#[108, 105, 107, 101]⟩) (ones_lit (Value.int .i64) (fun _ => rfl) 3 w7 w7.heap.size [4, 2] (Nat.le_refl _) (by decide)) (Sh.row_nil strS 9 (w7.alloc (.cells #[.int .i64 4, .int .i64 2] 3)) _) (by simp)
 have hb8 : Below w7.heap.size w7 (w7.alloc (.cells #[.int .i64 4, .int .i64 2] 3)) := (Below.refl _ _).alloc (Nat.le_refl _) _
 have E8 := Aside0.mk (E7.out.snoc hb8 ho8 B7.out.size)
 have B8 := Aside0.mk (B7.out.trans (hb8.mono B7.out.size))
 clear hb8 ho8 E7 B7
 go_wp2_with fail
 refine (rule_any (w7.alloc (.cells #[.int .i64 4, .int .i64 2] 3)) _ (by simp) ⟨#[97, 112, 97, 114, 116]⟩ ⟨#[110, 111, 110, 101]⟩ [6] 1 rfl (by decide) (by decide) (by decide +kernel)).mono ?_
 rw [cut8]
 rintro e w9 ⟨av9, dv9, G9, rfl, ho9, hb9⟩
 have E9 := Aside0.mk (E8.out.snoc hb9 ho9 B8.out.size)
 have B9 := Aside0.mk (B8.out.trans (hb9.mono B8.out.size))
 clear hb9 ho9 E8 B8
 go_wp2_with fail
 refine (rule_any w9 _ (by simp) ⟨#[118, 111, 108, 117, 109, 101]⟩ ⟨#[110, 111]⟩ [5] 1 rfl (by decide) (by decide) (by decide +kernel)).mono ?_
 rw [cut9]
 rintro e w10 ⟨av10, dv10, G10, rfl, ho10, hb10⟩
 have E10 := Aside0.mk (E9.out.snoc hb10 ho10 B9.out.size)
 have B10 := Aside0.mk (B9.out.trans (hb10.mono B9.out.size))
 clear hb10 ho10 E9 B9
 go_wp2_with fail
 refine (rule_any w10 _ (by simp) ⟨#[102, 111, 108, 108, 111, 119]⟩ ⟨#[48, 32, 48, 32, 48]⟩ [1, 1, 1] 3 rfl (by decide) (by decide) (by decide +kernel)).mono ?_
 rw [cut10]
 rintro e w11 ⟨av11, dv11, G11, rfl, ho11, hb11⟩
 have E11 := Aside0.mk (E10.out.snoc hb11 ho11 B10.out.size)
 have B11 := Aside0.mk (B10.out.trans (hb11.mono B10.out.size))
 clear hb11 ho11 E10 B10
 go_wp2_with fail
 refine (rule_any w11 _ (by simp) ⟨#[112, 97, 99, 101]⟩ ⟨#[48, 32, 48, 32, 48]⟩ [1, 1, 1] 3 rfl (by decide) (by decide) (by decide +kernel)).mono ?_
 rw [cut10]
 rintro e w12 ⟨av12, dv12, G12, rfl, ho12, hb12⟩
 have E12 := Aside0.mk (E11.out.snoc hb12 ho12 B11.out.size)
 have B12 := Aside0.mk (B11.out.trans (hb12.mono B11.out.size))
 clear hb12 ho12 E11 B11
 go_wp2_with fail
 go_ret
 exact ⟨_, _, rfl, Sh.row_lit' (e := 36) E12.out B12.out.size (by decide) (by rfl) (by simp) (by rfl) (by rfl), B12.out.alloc B12.out.size _⟩
set_option maxRecDepth 100000 in
theorem implRules_any (kind : ByteArray) (w : World) :
  Calls Tryd.prog 14 #[.string kind] w (fun e w' => ∃ v F, e = .returned v ∧ rulesS.ow w' w.heap.size [v] (rulesL kind) F ∧ Below w.heap.size w w') := by
 rcases kind_cases kind with rfl | rfl | rfl | ⟨h1, h2, h3, h4⟩
 ·rw [rulesL_team]; exact implRules_team w
 ·rw [rulesL_berth]; exact implRules_berth w
 ·rw [rulesL_service]; exact implRules_service w
 ·rw [h4]
  have n1 : (kind.toList == ([116, 101, 97, 109] : List UInt8)) = false := str_neL kind _ h1
  have n2 : (kind.toList == ([98, 101, 114, 116, 104] : List UInt8)) = false := str_neL kind _ h2
  have n3 : (kind.toList == ([115, 101, 114, 118, 105, 99, 101] : List UInt8)) = false := str_neL kind _ h3
  clear h1 h2 h3 h4
  go_enter Tryd.func14, Tryd.ntmps14
  go_wp2
  go_ret
  exact ⟨_, _, rfl, Sh.row_nil _ _ _ _, Below.refl _ _⟩
def impl_SheetRules.f (a0 : ByteArray) : Option (List S36) := some (rulesL a0)
theorem impl_SheetRules.calls (a0 : ByteArray) (r : List S36) (w : World) (h : impl_SheetRules.f a0 = some r) :
  Calls Tryd.prog 14 #[.string a0] w fun e w' => ∃ v0_ : Value, e = .returned (v0_) ∧ Kd.R k36 36 w' w.heap.size (fun _ => True) v0_ r ∧ Below w.heap.size w w' := by
 obtain rfl := Option.some.inj h
 refine (implRules_any a0 w).mono ?_
 rintro e w' ⟨v, F, rfl, ho, hb⟩
 exact ⟨v, rfl, Sh.row_R (A := ruleS) ho, hb⟩
end Go.Proofs.YtmcdnpooclelgaaDoor.PAll
namespace Go.Proofs.YtmcdnpooclelgaaDoor.PAll
open Go.RowKit Go.Proofs.YtmcdnpooclelgaaDoorW.PrintWords Go.Proofs.YtmcdnpooclelgaaDoorW.PrintLast Go.Proofs.YtmcdnpooclelgaaDoorW.PrintMore
attribute [local go_sem] max2_int min2_int max_two min_two max_three min_three max_four min_four   -- for this text's walks alone
def impl_find.l0 : Nat → ByteArray → List (S36) → Int → Int → Option (ByteArray × List Int × Bool × List ByteArray × Int)
 | 0, _, _, _, _ => none
 | k + 1, x1, x9, x10, x11 => if x11 < x10 then (if 0 ≤ x11 then (if x11 < (x9.length : Int) then (if ((rd_T36 x9 x11).f0).toList = x1.toList then (some ((rd_T36 x9 x11).f0, (rd_T36 x9 x11).f1, (rd_T36 x9 x11).f2, (rd_T36 x9 x11).f3, x11)) else (impl_find.l0 k x1 x9 x10 (wrap64 (x11 + 1)))) else (none)) else (none)) else (some ((⟨#[]⟩ : ByteArray), ([] : List Int), false, ([] : List ByteArray), (-1)))
def impl_find.f (k : Nat) (a0 : ByteArray) (a1 : ByteArray) : Option (ByteArray × List Int × Bool × List ByteArray × Int) := (impl_SheetRules.f a0).bind fun t164 => (impl_find.l0 k a1 t164 (t164.length : Int) 0)
set_option maxHeartbeats 8000000 in
set_option maxRecDepth 100000 in
theorem impl_find.calls (k : Nat) (a0 : ByteArray) (a1 : ByteArray) (r1 : ByteArray) (r2 : List Int) (r3 : Bool) (r4 : List ByteArray) (r5 : Int) (w : World) (h : impl_find.f k a0 a1 = some (r1, r2, r3, r4, r5)) :
  Calls Tryd.prog 64 #[.string a0, .string a1] w fun e w' => ∃ v1_ v3_ : Value, e = .returned (.tuple #[.agg #[.string r1, v1_, .bool r3, v3_], .int .i64 r5]) ∧ Kd.R (Kd.int .i64) 3 w' w.heap.size (fun _ => True) v1_ r2 ∧ Kd.R Kd.string 9 w' w.heap.size (fun _ => True) v3_ r4 ∧ Below w.heap.size w w' := by
 have hu36 := Tryd.underlying36
 have HB := Aside0.mk (Below.refl w.heap.size w)
 have H : ((impl_SheetRules.f a0).bind fun t164 => (impl_find.l0 k a1 t164 (t164.length : Int) 0)) = some (r1, r2, r3, r4, r5) := h
 clear h
 replace H := Option.bind_eq_some_iff.mp H
 obtain ⟨t164, A30, H⟩ := H
 replace H : (impl_find.l0 k a1 t164 (t164.length : Int) 0) = some (r1, r2, r3, r4, r5) := H
 have A3 := Aside0.mk A30
 clear A30
 have H' := Aside0.mk H
 clear H
 go_enter Tryd.func64, Tryd.ntmps64
 go_wp2_with (first | ((with_reducible refine gate_dst (N := 4) rfl ?_); refine box_event ?hg (N := 4) ?hd (cs := #[.string (⟨#[]⟩ : ByteArray), .slice none 0 0, .bool false, .slice none 0 0]) (t := 36) ?hr ?_; (case hd => rfl); (case hg => rfl); (case hr => first | (go_simp; done) | (go_simp; rfl)); intro gb163 hg w4 hbox hb; have n0_ := Aside0.mk (below_step (stB HB.out) hb); have n1_ := Aside0.mk (hbox); have n2_ := Aside0.mk ((by rw [hg]; exact (below_size (stB HB.out)) : w.heap.size ≤ gb163)); have n3_ := Aside0.mk ((by rw [hg]; exact (below_size (stB HB.out)) : w.heap.size ≤ gb163)); clear HB; have HB := n0_; have BK163 := n1_; have GW163 := n2_; have GE163 := n3_; clear n0_ n1_ n2_ n3_; clear hb hbox hg) | ((with_reducible refine gate_callee (f := 14) rfl ?_); refine goesL_ (some 9) rfl rfl Tryd.func14 (by kernel_rfl) rfl #[.string a0] rfl (by (try simp only [List.map_toArray, List.map_cons, List.map_nil]); first | done | rfl | (simp only [List.length_drop, List.length_take]; rfl)) ?_; (with_reducible refine (impl_SheetRules.calls a0 t164 _ A3.out).mono ?_); rintro e w5 ⟨v165, rfl, ho0, hb⟩; refine ⟨_, rfl, ?_⟩; have n0_ := Aside0.mk (Kd.R_lower (Kd.R_newB ho0 (g := gb163) (o := .cells #[.string (⟨#[]⟩ : ByteArray), .slice none 0 0, .bool false, .slice none 0 0] 36 (0, 0)) (by (with_reducible repeat (first | refine blk_drewN ?_ _ | refine blk_drew ?_ | refine blk_alloc ?_ _)); exact BK163.out)) (below_size (by repeat (first | (with_reducible first | exact HB.out | apply below_alloc | apply pw_below_drewN | apply below_drew1 | refine below_set ?_ GE163.out) | exact HB.out)))); have n1_ := Aside0.mk (blk_below (g := gb163) (o := .cells #[.string (⟨#[]⟩ : ByteArray), .slice none 0 0, .bool false, .slice none 0 0] 36 (0, 0)) (by (with_reducible repeat (first | refine blk_drewN ?_ _ | refine blk_drew ?_ | refine blk_alloc ?_ _)); exact BK163.out) hb); have n2_ := Aside0.mk (below_step (by repeat (first | (with_reducible first | exact HB.out | apply below_alloc | apply pw_below_drewN | apply below_drew1 | refine below_set ?_ GE163.out) | exact HB.out)) hb); clear BK163; clear HB; have HO166 := n0_; have BK163 := n1_; have HB := n2_; clear n0_ n1_ n2_; (try clear hb); (try clear hb2); (try clear hk); (try clear hi); (try clear ho0); obtain ⟨Ao6, co6, eo6⟩ := Kd.R_slice HO166.out; subst eo6))
 go_loopg [11] k (fun kq v11 w' => ∃ (x11_1 : Int) (x164000_1 : ByteArray) (x164002_1 : Bool), v11 = .int .i64 x11_1 ∧ Aside0 (impl_find.l0 kq a1 t164 (t164.length : Int) x11_1 = some (r1, r2, r3, r4, r5)) ∧ Aside0 (kq ≤ k) ∧ Aside0 (Kd.R k36 36 w' w.heap.size (fun k_ => k_ ≠ gb163) (.slice Ao6 t164.length co6) t164) ∧ Aside0 (w'.heap[gb163]? = some (.cells #[.string x164000_1, (.slice none 0 0), .bool x164002_1, (.slice none 0 0)] 36 (0, 0))) ∧ Aside0 (Below w.heap.size w w'))
 case atStart => exact ⟨(0), ((⟨#[]⟩ : ByteArray)), (false), (by first | rfl | (simp; done) | (simp [*]; done)), H', ⟨Nat.le_refl _⟩, ⟨by (with_reducible repeat (first | apply Kd.R_alloc | apply Kd.R_drewN | apply Kd.R_drew)); exact Kd.R_mono HO166.out (fun _ hk => hk.2)⟩, ⟨by (with_reducible repeat (first | refine blk_drewN ?_ _ | refine blk_drew ?_ | refine blk_alloc ?_ _)); exact BK163.out⟩, ⟨by repeat (first | (with_reducible first | exact HB.out | apply below_alloc | apply pw_below_drewN | apply below_drew1 | refine below_set ?_ GE163.out) | exact HB.out)⟩⟩
 case round =>
  clear H'
  try clear c1
  try clear p2
  try clear c6
  obtain ⟨x11_1, x164000_1, x164002_1, rfl, HA, HK1, HO_9, BK163, HB⟩ := hrel
  cases gk with
  | zero => exact absurd HA.out (by simp [impl_find.l0])
  | succ k1 =>
   have H := HA.out
   clear HA
   simp only [impl_find.l0] at H
   by_cases c7 : x11_1 < (t164.length : Int)
   ·rw [if_pos c7] at H
    have c7b0 : decide (x11_1 < (t164.length : Int)) = true := decide_eq_true c7
    clear c7
    by_cases c8 : 0 ≤ x11_1
    ·rw [if_pos c8] at H
     have c8b0 : decide (0 ≤ x11_1) = true := decide_eq_true c8
     clear c8
     by_cases c9 : x11_1 < (t164.length : Int)
     ·rw [if_pos c9] at H
      have c9b0 : decide (x11_1 < (t164.length : Int)) = true := decide_eq_true c9
      clear c9
      by_cases c10 : ((rd_T36 t164 x11_1).f0).toList = a1.toList
      ·rw [if_pos c10] at H
       have c10b0 : (((rd_T36 t164 x11_1).f0).toList == a1.toList) = true := beq_iff_eq.mpr c10
       have c10b1 : (((rd_T36 t164 x11_1).f0).toList != a1.toList) = false := bne_eq_false_iff_eq.mpr c10
       clear c10
       simp only [Option.some.injEq, Prod.mk.injEq] at H
       obtain ⟨rfl, rfl, rfl, rfl, rfl⟩ := H
       have p167 : 0 ≤ (x11_1 : Int) := of_decide_eq_true (by first | (with_reducible assumption) | assumption)
       have q167 : x11_1 < (t164.length : Int) := of_decide_eq_true (by first | (with_reducible assumption) | assumption)
       obtain ⟨ad167, A167_1, c167_1, A167_3, c167_3, e167, hx167_0, hx167_1, hx167_2, hx167_3, hl167_1, hi167_1, hl167_3, hi167_3⟩ := at_T36 (Kd.R_reads' HO_9.out).2.2 x11_1 p167 q167
       cases e167
       obtain ⟨ce167, hce167, hMe167, hcc167⟩ := Kd.R_get HO_9.out z36 x11_1 p167 (by first | exact q167 | exact of_decide_eq_true (by first | (with_reducible assumption) | assumption) | (have e_ := (Kd.R_reads' HO_9.out).1; omega))
       obtain ⟨ve167_1, ve167_3, rfl, ge167_1, ge167_3⟩ := k36_openM hMe167
       have hv167_1 := hcc167 1 _ rfl
       rw [add_field _ _ 1 (by omega)] at hv167_1
       replace hv167_1 := Option.some.inj (hv167_1.symm.trans hx167_1)
       rw [hv167_1] at ge167_1
       have HL167_1 := Aside0.mk (show Kd.R (Kd.int .i64) 3 _ _ _ _ ((rd_T36 t164 x11_1).f1) from ge167_1)
       clear hv167_1 ge167_1
       have hv167_3 := hcc167 3 _ rfl
       rw [add_field _ _ 3 (by omega)] at hv167_3
       replace hv167_3 := Option.some.inj (hv167_3.symm.trans hx167_3)
       rw [hv167_3] at ge167_3
       have HL167_3 := Aside0.mk (show Kd.R Kd.string 9 _ _ _ _ ((rd_T36 t164 x11_1).f3) from ge167_3)
       clear hv167_3 ge167_3
       clear hcc167 hce167
       have HR167_1 := Aside0.mk hi167_1
       have HC167_1 := Aside0.mk hl167_1
       clear hi167_1 hl167_1
       have HR167_3 := Aside0.mk hi167_3
       have HC167_3 := Aside0.mk hl167_3
       clear hi167_3 hl167_3
       replace p167 := eq_true p167
       replace q167 := eq_true q167
       go_wp2_with (first | ((with_reducible refine gate_dst (N := 7) rfl ?_); refine box_event ?hg (N := 7) ?hd (cs := #[.string (⟨#[]⟩ : ByteArray), .slice none 0 0, .bool false, .slice none 0 0]) (t := 36) ?hr ?_; (case hd => rfl); (case hg => rfl); (case hr => first | (go_simp; done) | (go_simp; rfl)); intro gb168 hg w11 hbox hb; have n0_ := Aside0.mk (Kd.R_below (Kd.R_elderB (stR HO_9.out) gb168 (Nat.le_of_eq hg.symm)) hb); have n1_ := Aside0.mk (Kd.R_below (stR HL167_1.out) hb); have n2_ := Aside0.mk (Kd.R_below (stR HL167_3.out) hb); have n3_ := Aside0.mk (blk_below (g := gb163) (o := .cells #[.string x164000_1, .slice none 0 0, .bool x164002_1, .slice none 0 0] 36 (0, 0)) (by (with_reducible repeat (first | refine blk_drewN ?_ _ | refine blk_drew ?_ | refine blk_alloc ?_ _)); exact BK163.out) hb); have n4_ := Aside0.mk (Kd.C_below (stC HR167_1.out) hb); have n5_ := Aside0.mk (Kd.C_below (stC HR167_3.out) hb); have n6_ := Aside0.mk (below_step (by repeat (first | (with_reducible first | exact HB.out | apply below_alloc | apply pw_below_drewN | apply below_drew1 | refine below_set ?_ GE163.out) | exact HB.out)) hb); have n7_ := Aside0.mk (hbox); have n8_ := Aside0.mk ((by rw [hg]; exact (below_size (by repeat (first | (with_reducible first | exact HB.out | apply below_alloc | apply pw_below_drewN | apply below_drew1 | refine below_set ?_ GE163.out) | exact HB.out))) : w.heap.size ≤ gb168)); have n9_ := Aside0.mk ((by rw [hg]; exact (below_size (by repeat (first | (with_reducible first | exact HB.out | apply below_alloc | apply pw_below_drewN | apply below_drew1 | refine below_set ?_ GE163.out) | exact HB.out))) : w.heap.size ≤ gb168)); have n10_ := Aside0.mk ((by rw [hg]; exact Nat.ne_of_lt (blk_lt (g := gb163) (o := .cells #[.string x164000_1, .slice none 0 0, .bool x164002_1, .slice none 0 0] 36 (0, 0)) (by (with_reducible repeat (first | refine blk_drewN ?_ _ | refine blk_drew ?_ | refine blk_alloc ?_ _)); exact BK163.out)) : gb163 ≠ gb168)); have n11_ := Aside0.mk ((by rw [hg]; exact Nat.ne_of_gt (blk_lt (g := gb163) (o := .cells #[.string x164000_1, .slice none 0 0, .bool x164002_1, .slice none 0 0] 36 (0, 0)) (by (with_reducible repeat (first | refine blk_drewN ?_ _ | refine blk_drew ?_ | refine blk_alloc ?_ _)); exact BK163.out)) : gb168 ≠ gb163)); clear HO_9; clear HL167_1; clear HL167_3; clear BK163; clear HR167_1; clear HR167_3; clear HB; have HO_9 := n0_; have HL167_1 := n1_; have HL167_3 := n2_; have BK163 := n3_; have HR167_1 := n4_; have HR167_3 := n5_; have HB := n6_; have BK168 := n7_; have GW168 := n8_; have GE168 := n9_; have NB163_168 := n10_; have NB168_163 := n11_; clear n0_ n1_ n2_ n3_ n4_ n5_ n6_ n7_ n8_ n9_ n10_ n11_; clear hb hbox hg; have hnb12 := NB168_163.out; have hnc12 := NB163_168.out; have hcz13_0 : w11.cell? ⟨gb168, 0, none⟩ = some (.string (⟨#[]⟩ : ByteArray)) := (blk_cell BK168.out 0).trans rfl; have hcz13_1 : w11.cell? ⟨gb168, 1, none⟩ = some (.slice none 0 0) := (blk_cell BK168.out 1).trans rfl; have hcz13_2 : w11.cell? ⟨gb168, 2, none⟩ = some (.bool false) := (blk_cell BK168.out 2).trans rfl; have hcz13_3 : w11.cell? ⟨gb168, 3, none⟩ = some (.slice none 0 0) := (blk_cell BK168.out 3).trans rfl; have hfz13_0 := blk_frozen BK168.out 0; have hfz13_1 := blk_frozen BK168.out 1; have hfz13_2 := blk_frozen BK168.out 2; have hfz13_3 := blk_frozen BK168.out 3; have hcz14_0 : w11.cell? ⟨gb163, 0, none⟩ = some (.string x164000_1) := (blk_cell BK163.out 0).trans rfl; have hcz14_1 : w11.cell? ⟨gb163, 1, none⟩ = some (.slice none 0 0) := (blk_cell BK163.out 1).trans rfl; have hcz14_2 : w11.cell? ⟨gb163, 2, none⟩ = some (.bool x164002_1) := (blk_cell BK163.out 2).trans rfl; have hcz14_3 : w11.cell? ⟨gb163, 3, none⟩ = some (.slice none 0 0) := (blk_cell BK163.out 3).trans rfl; have hfz14_0 := blk_frozen BK163.out 0; have hfz14_1 := blk_frozen BK163.out 1; have hfz14_2 := blk_frozen BK163.out 2; have hfz14_3 := blk_frozen BK163.out 3))
       refine bodyPost_ret (results_ct rfl _ _ gb163 36 #[.string ((rd_T36 t164 x11_1).f0), .slice A167_1 ((rd_T36 t164 x11_1).f1).length c167_1, .bool ((rd_T36 t164 x11_1).f2), .slice A167_3 ((rd_T36 t164 x11_1).f3).length c167_3] (0, 0) _ rfl (by (with_reducible repeat (first | refine blk_drewN ?_ _ | refine blk_drew ?_ | refine blk_alloc ?_ _)); refine blk_put (cs := #[.string ((rd_T36 t164 x11_1).f0), .slice A167_1 ((rd_T36 t164 x11_1).f1).length c167_1, .bool ((rd_T36 t164 x11_1).f2), .slice none 0 0]) ?_ 3 _ rfl; (with_reducible repeat (first | refine blk_drewN ?_ _ | refine blk_drew ?_ | refine blk_alloc ?_ _)); refine blk_put (cs := #[.string ((rd_T36 t164 x11_1).f0), .slice A167_1 ((rd_T36 t164 x11_1).f1).length c167_1, .bool x164002_1, .slice none 0 0]) ?_ 2 _ rfl; (with_reducible repeat (first | refine blk_drewN ?_ _ | refine blk_drew ?_ | refine blk_alloc ?_ _)); refine blk_put (cs := #[.string ((rd_T36 t164 x11_1).f0), .slice none 0 0, .bool x164002_1, .slice none 0 0]) ?_ 1 _ rfl; (with_reducible repeat (first | refine blk_drewN ?_ _ | refine blk_drew ?_ | refine blk_alloc ?_ _)); refine blk_put (cs := #[.string x164000_1, .slice none 0 0, .bool x164002_1, .slice none 0 0]) ?_ 0 _ rfl; (with_reducible repeat (first | refine blk_drewN ?_ _ | refine blk_drew ?_ | refine blk_alloc ?_ _)); refine blk_far ?_ NB163_168.out _; (with_reducible repeat (first | refine blk_drewN ?_ _ | refine blk_drew ?_ | refine blk_alloc ?_ _)); refine blk_far ?_ NB163_168.out _; (with_reducible repeat (first | refine blk_drewN ?_ _ | refine blk_drew ?_ | refine blk_alloc ?_ _)); refine blk_far ?_ NB163_168.out _; (with_reducible repeat (first | refine blk_drewN ?_ _ | refine blk_drew ?_ | refine blk_alloc ?_ _)); refine blk_far ?_ NB163_168.out _; (with_reducible repeat (first | refine blk_drewN ?_ _ | refine blk_drew ?_ | refine blk_alloc ?_ _)); exact BK163.out) Tryd.underlying36 rfl (by kernel_rfl)) rfl ?_
       exact ⟨_, _, by first | rfl | (simp [errW_none, errW_some] <;> rfl) | (simp [*, errW_none, errW_some] <;> rfl), by (with_reducible repeat (first | apply Kd.R_alloc | apply Kd.R_drewN | apply Kd.R_drew)); exact Kd.R_mono (Kd.R_far (p := ⟨gb163, 3, none⟩) (Kd.R_far (p := ⟨gb163, 2, none⟩) (Kd.R_far (p := ⟨gb163, 1, none⟩) (Kd.R_far (p := ⟨gb163, 0, none⟩) (Kd.R_far (p := ⟨gb168, 3, none⟩) (Kd.R_far (p := ⟨gb168, 2, none⟩) (Kd.R_far (p := ⟨gb168, 1, none⟩) (Kd.R_far (p := ⟨gb168, 0, none⟩) (Kd.R_types (Kd.R_types HL167_1.out BK168.out (by decide)) BK163.out (by decide)) (fun _ hk => hk.1.2) (.string ((rd_T36 t164 x11_1).f0))) (fun _ hk => hk.1.2) (.slice A167_1 ((rd_T36 t164 x11_1).f1).length c167_1)) (fun _ hk => hk.1.2) (.bool ((rd_T36 t164 x11_1).f2))) (fun _ hk => hk.1.2) (.slice A167_3 ((rd_T36 t164 x11_1).f3).length c167_3)) (fun _ hk => hk.2) (.string ((rd_T36 t164 x11_1).f0))) (fun _ hk => hk.2) (.slice A167_1 ((rd_T36 t164 x11_1).f1).length c167_1)) (fun _ hk => hk.2) (.bool ((rd_T36 t164 x11_1).f2))) (fun _ hk => hk.2) (.slice A167_3 ((rd_T36 t164 x11_1).f3).length c167_3)) (fun _ hk => trivial), by (with_reducible repeat (first | apply Kd.R_alloc | apply Kd.R_drewN | apply Kd.R_drew)); exact Kd.R_mono (Kd.R_far (p := ⟨gb163, 3, none⟩) (Kd.R_far (p := ⟨gb163, 2, none⟩) (Kd.R_far (p := ⟨gb163, 1, none⟩) (Kd.R_far (p := ⟨gb163, 0, none⟩) (Kd.R_far (p := ⟨gb168, 3, none⟩) (Kd.R_far (p := ⟨gb168, 2, none⟩) (Kd.R_far (p := ⟨gb168, 1, none⟩) (Kd.R_far (p := ⟨gb168, 0, none⟩) (Kd.R_types (Kd.R_types HL167_3.out BK168.out (by decide)) BK163.out (by decide)) (fun _ hk => hk.1.2) (.string ((rd_T36 t164 x11_1).f0))) (fun _ hk => hk.1.2) (.slice A167_1 ((rd_T36 t164 x11_1).f1).length c167_1)) (fun _ hk => hk.1.2) (.bool ((rd_T36 t164 x11_1).f2))) (fun _ hk => hk.1.2) (.slice A167_3 ((rd_T36 t164 x11_1).f3).length c167_3)) (fun _ hk => hk.2) (.string ((rd_T36 t164 x11_1).f0))) (fun _ hk => hk.2) (.slice A167_1 ((rd_T36 t164 x11_1).f1).length c167_1)) (fun _ hk => hk.2) (.bool ((rd_T36 t164 x11_1).f2))) (fun _ hk => hk.2) (.slice A167_3 ((rd_T36 t164 x11_1).f3).length c167_3)) (fun _ hk => trivial), by repeat (first | (with_reducible first | exact HB.out | apply below_alloc | apply pw_below_drewN | apply below_drew1 | refine below_set ?_ GE163.out | refine below_set ?_ GE168.out) | exact HB.out)⟩
      ·rw [if_neg c10] at H
       have c10b0 : (((rd_T36 t164 x11_1).f0).toList == a1.toList) = false := beq_eq_false_iff_ne.mpr c10
       have c10b1 : (((rd_T36 t164 x11_1).f0).toList != a1.toList) = true := bne_iff_ne.mpr c10
       have H' := Aside0.mk H
       clear H
       have p167 : 0 ≤ (x11_1 : Int) := of_decide_eq_true (by first | (with_reducible assumption) | assumption)
       have q167 : x11_1 < (t164.length : Int) := of_decide_eq_true (by first | (with_reducible assumption) | assumption)
       obtain ⟨ad167, A167_1, c167_1, A167_3, c167_3, e167, hx167_0, hx167_1, hx167_2, hx167_3, hl167_1, hi167_1, hl167_3, hi167_3⟩ := at_T36 (Kd.R_reads' HO_9.out).2.2 x11_1 p167 q167
       cases e167
       obtain ⟨ce167, hce167, hMe167, hcc167⟩ := Kd.R_get HO_9.out z36 x11_1 p167 (by first | exact q167 | exact of_decide_eq_true (by first | (with_reducible assumption) | assumption) | (have e_ := (Kd.R_reads' HO_9.out).1; omega))
       obtain ⟨ve167_1, ve167_3, rfl, ge167_1, ge167_3⟩ := k36_openM hMe167
       have hv167_1 := hcc167 1 _ rfl
       rw [add_field _ _ 1 (by omega)] at hv167_1
       replace hv167_1 := Option.some.inj (hv167_1.symm.trans hx167_1)
       rw [hv167_1] at ge167_1
       have HL167_1 := Aside0.mk (show Kd.R (Kd.int .i64) 3 _ _ _ _ ((rd_T36 t164 x11_1).f1) from ge167_1)
       clear hv167_1 ge167_1
       have hv167_3 := hcc167 3 _ rfl
       rw [add_field _ _ 3 (by omega)] at hv167_3
       replace hv167_3 := Option.some.inj (hv167_3.symm.trans hx167_3)
       rw [hv167_3] at ge167_3
       have HL167_3 := Aside0.mk (show Kd.R Kd.string 9 _ _ _ _ ((rd_T36 t164 x11_1).f3) from ge167_3)
       clear hv167_3 ge167_3
       clear hcc167 hce167
       have HR167_1 := Aside0.mk hi167_1
       have HC167_1 := Aside0.mk hl167_1
       clear hi167_1 hl167_1
       have HR167_3 := Aside0.mk hi167_3
       have HC167_3 := Aside0.mk hl167_3
       clear hi167_3 hl167_3
       replace p167 := eq_true p167
       replace q167 := eq_true q167
       go_wp2_with (first | ((with_reducible refine gate_dst (N := 7) rfl ?_); refine box_event ?hg (N := 7) ?hd (cs := #[.string (⟨#[]⟩ : ByteArray), .slice none 0 0, .bool false, .slice none 0 0]) (t := 36) ?hr ?_; (case hd => rfl); (case hg => rfl); (case hr => first | (go_simp; done) | (go_simp; rfl)); intro gb168 hg w15 hbox hb; have n0_ := Aside0.mk (Kd.R_below (Kd.R_elderB (stR HO_9.out) gb168 (Nat.le_of_eq hg.symm)) hb); have n1_ := Aside0.mk (Kd.R_below (stR HL167_1.out) hb); have n2_ := Aside0.mk (Kd.R_below (stR HL167_3.out) hb); have n3_ := Aside0.mk (blk_below (g := gb163) (o := .cells #[.string x164000_1, .slice none 0 0, .bool x164002_1, .slice none 0 0] 36 (0, 0)) (by (with_reducible repeat (first | refine blk_drewN ?_ _ | refine blk_drew ?_ | refine blk_alloc ?_ _)); exact BK163.out) hb); have n4_ := Aside0.mk (Kd.C_below (stC HR167_1.out) hb); have n5_ := Aside0.mk (Kd.C_below (stC HR167_3.out) hb); have n6_ := Aside0.mk (below_step (by repeat (first | (with_reducible first | exact HB.out | apply below_alloc | apply pw_below_drewN | apply below_drew1 | refine below_set ?_ GE163.out) | exact HB.out)) hb); have n7_ := Aside0.mk (hbox); have n8_ := Aside0.mk ((by rw [hg]; exact (below_size (by repeat (first | (with_reducible first | exact HB.out | apply below_alloc | apply pw_below_drewN | apply below_drew1 | refine below_set ?_ GE163.out) | exact HB.out))) : w.heap.size ≤ gb168)); have n9_ := Aside0.mk ((by rw [hg]; exact (below_size (by repeat (first | (with_reducible first | exact HB.out | apply below_alloc | apply pw_below_drewN | apply below_drew1 | refine below_set ?_ GE163.out) | exact HB.out))) : w.heap.size ≤ gb168)); have n10_ := Aside0.mk ((by rw [hg]; exact Nat.ne_of_lt (blk_lt (g := gb163) (o := .cells #[.string x164000_1, .slice none 0 0, .bool x164002_1, .slice none 0 0] 36 (0, 0)) (by (with_reducible repeat (first | refine blk_drewN ?_ _ | refine blk_drew ?_ | refine blk_alloc ?_ _)); exact BK163.out)) : gb163 ≠ gb168)); have n11_ := Aside0.mk ((by rw [hg]; exact Nat.ne_of_gt (blk_lt (g := gb163) (o := .cells #[.string x164000_1, .slice none 0 0, .bool x164002_1, .slice none 0 0] 36 (0, 0)) (by (with_reducible repeat (first | refine blk_drewN ?_ _ | refine blk_drew ?_ | refine blk_alloc ?_ _)); exact BK163.out)) : gb168 ≠ gb163)); clear HO_9; clear HL167_1; clear HL167_3; clear BK163; clear HR167_1; clear HR167_3; clear HB; have HO_9 := n0_; have HL167_1 := n1_; have HL167_3 := n2_; have BK163 := n3_; have HR167_1 := n4_; have HR167_3 := n5_; have HB := n6_; have BK168 := n7_; have GW168 := n8_; have GE168 := n9_; have NB163_168 := n10_; have NB168_163 := n11_; clear n0_ n1_ n2_ n3_ n4_ n5_ n6_ n7_ n8_ n9_ n10_ n11_; clear hb hbox hg; have hnb16 := NB168_163.out; have hnc16 := NB163_168.out; have hcz17_0 : w15.cell? ⟨gb168, 0, none⟩ = some (.string (⟨#[]⟩ : ByteArray)) := (blk_cell BK168.out 0).trans rfl; have hcz17_1 : w15.cell? ⟨gb168, 1, none⟩ = some (.slice none 0 0) := (blk_cell BK168.out 1).trans rfl; have hcz17_2 : w15.cell? ⟨gb168, 2, none⟩ = some (.bool false) := (blk_cell BK168.out 2).trans rfl; have hcz17_3 : w15.cell? ⟨gb168, 3, none⟩ = some (.slice none 0 0) := (blk_cell BK168.out 3).trans rfl; have hfz17_0 := blk_frozen BK168.out 0; have hfz17_1 := blk_frozen BK168.out 1; have hfz17_2 := blk_frozen BK168.out 2; have hfz17_3 := blk_frozen BK168.out 3))
       go_roundg k1
       case measure => have := HK1.out; omega
       case rel => exact ⟨(wrap64 (x11_1 + 1)), (x164000_1), (x164002_1), (by first | rfl | (simp; done) | (simp [*]; done)), H', ⟨by have := HK1.out; omega⟩, ⟨by (with_reducible repeat (first | apply Kd.R_alloc | apply Kd.R_drewN | apply Kd.R_drew)); exact Kd.R_mono (Kd.R_far (p := ⟨gb168, 3, none⟩) (Kd.R_far (p := ⟨gb168, 2, none⟩) (Kd.R_far (p := ⟨gb168, 1, none⟩) (Kd.R_far (p := ⟨gb168, 0, none⟩) (Kd.R_mono HO_9.out (fun k_ hk => (⟨hk, hk.2⟩ : _ ∧ k_ ≠ gb168))) (fun _ hk => hk.2) (.string ((rd_T36 t164 x11_1).f0))) (fun _ hk => hk.2) (.slice A167_1 ((rd_T36 t164 x11_1).f1).length c167_1)) (fun _ hk => hk.2) (.bool ((rd_T36 t164 x11_1).f2))) (fun _ hk => hk.2) (.slice A167_3 ((rd_T36 t164 x11_1).f3).length c167_3)) (fun _ hk => hk.1.1)⟩, ⟨by (with_reducible repeat (first | refine blk_drewN ?_ _ | refine blk_drew ?_ | refine blk_alloc ?_ _)); refine blk_far ?_ NB163_168.out _; (with_reducible repeat (first | refine blk_drewN ?_ _ | refine blk_drew ?_ | refine blk_alloc ?_ _)); refine blk_far ?_ NB163_168.out _; (with_reducible repeat (first | refine blk_drewN ?_ _ | refine blk_drew ?_ | refine blk_alloc ?_ _)); refine blk_far ?_ NB163_168.out _; (with_reducible repeat (first | refine blk_drewN ?_ _ | refine blk_drew ?_ | refine blk_alloc ?_ _)); refine blk_far ?_ NB163_168.out _; (with_reducible repeat (first | refine blk_drewN ?_ _ | refine blk_drew ?_ | refine blk_alloc ?_ _)); exact BK163.out⟩, ⟨by repeat (first | (with_reducible first | exact HB.out | apply below_alloc | apply pw_below_drewN | apply below_drew1 | refine below_set ?_ GE163.out | refine below_set ?_ GE168.out) | exact HB.out)⟩⟩
     ·rw [if_neg c9] at H
      exact absurd H (by simp)
    ·rw [if_neg c8] at H
     exact absurd H (by simp)
   ·rw [if_neg c7] at H
    have c7b0 : decide (x11_1 < (t164.length : Int)) = false := decide_eq_false c7
    clear c7
    simp only [Option.some.injEq, Prod.mk.injEq] at H
    obtain ⟨rfl, rfl, rfl, rfl, rfl⟩ := H
    have hcz18_0 : wr.cell? ⟨gb163, 0, none⟩ = some (.string x164000_1) := (blk_cell BK163.out 0).trans rfl
    have hcz18_1 : wr.cell? ⟨gb163, 1, none⟩ = some (.slice none 0 0) := (blk_cell BK163.out 1).trans rfl
    have hcz18_2 : wr.cell? ⟨gb163, 2, none⟩ = some (.bool x164002_1) := (blk_cell BK163.out 2).trans rfl
    have hcz18_3 : wr.cell? ⟨gb163, 3, none⟩ = some (.slice none 0 0) := (blk_cell BK163.out 3).trans rfl
    have hfz18_0 := blk_frozen BK163.out 0
    have hfz18_1 := blk_frozen BK163.out 1
    have hfz18_2 := blk_frozen BK163.out 2
    have hfz18_3 := blk_frozen BK163.out 3
    go_wp2
    refine bodyPost_ret (results_ct rfl _ _ gb163 36 #[.string (⟨#[]⟩ : ByteArray), .slice none 0 0, .bool false, .slice none 0 0] (0, 0) _ rfl (by (with_reducible repeat (first | refine blk_drewN ?_ _ | refine blk_drew ?_ | refine blk_alloc ?_ _)); refine blk_put (cs := #[.string (⟨#[]⟩ : ByteArray), .slice none 0 0, .bool false, .slice none 0 0]) ?_ 3 _ rfl; (with_reducible repeat (first | refine blk_drewN ?_ _ | refine blk_drew ?_ | refine blk_alloc ?_ _)); refine blk_put (cs := #[.string (⟨#[]⟩ : ByteArray), .slice none 0 0, .bool x164002_1, .slice none 0 0]) ?_ 2 _ rfl; (with_reducible repeat (first | refine blk_drewN ?_ _ | refine blk_drew ?_ | refine blk_alloc ?_ _)); refine blk_put (cs := #[.string (⟨#[]⟩ : ByteArray), .slice none 0 0, .bool x164002_1, .slice none 0 0]) ?_ 1 _ rfl; (with_reducible repeat (first | refine blk_drewN ?_ _ | refine blk_drew ?_ | refine blk_alloc ?_ _)); refine blk_put (cs := #[.string x164000_1, .slice none 0 0, .bool x164002_1, .slice none 0 0]) ?_ 0 _ rfl; (with_reducible repeat (first | refine blk_drewN ?_ _ | refine blk_drew ?_ | refine blk_alloc ?_ _)); exact BK163.out) Tryd.underlying36 rfl (by kernel_rfl)) rfl ?_
    exact ⟨_, _, by first | rfl | (simp [errW_none, errW_some] <;> rfl) | (simp [*, errW_none, errW_some] <;> rfl), by first | exact Kd.R_nil _ _ _ _ _ | exact Kd.N_nil _ _ _ _ _ | exact Kd.V_nil _ _ _ _ _ | exact Kd.Q_nil _ _ _ _ _ | exact Kd.S_nil _ _ _ _ _, by first | exact Kd.R_nil _ _ _ _ _ | exact Kd.N_nil _ _ _ _ _ | exact Kd.V_nil _ _ _ _ _ | exact Kd.Q_nil _ _ _ _ _ | exact Kd.S_nil _ _ _ _ _, by repeat (first | (with_reducible first | exact HB.out | apply below_alloc | apply pw_below_drewN | apply below_drew1 | refine below_set ?_ GE163.out) | exact HB.out)⟩
mutual
def impl_SheetFits.j0 : Nat → List ByteArray → Bool → ByteArray → List Int → Bool → List ByteArray → Option (Bool)
 | 0, _, _, _, _, _, _ => none
 | k + 1, x2, x26, x256000, x256001, x256002, x256003 => if x26 = true then (some false) else (impl_SheetFits.l0 k x2 x256001 (x256001.length : Int) 0)
def impl_SheetFits.l0 : Nat → List ByteArray → List Int → Int → Int → Option (Bool)
 | 0, _, _, _, _ => none
 | k + 1, x2, x28, x29, x30 => if x30 < x29 then (if 0 ≤ x30 then (if x30 < (x28.length : Int) then (if x30 < (x2.length : Int) then ((impl_isType.f k (rd x28 x30) (rdOf ByteArray.empty x2 x30)).bind fun t258 => (if t258 = true then (impl_SheetFits.l0 k x2 x28 x29 (wrap64 (x30 + 1))) else (some false))) else (none)) else (none)) else (none)) else (some true)
end
def impl_SheetFits.f (k : Nat) (a0 : ByteArray) (a1 : ByteArray) (l2 : List ByteArray) : Option (Bool) := (impl_find.f k a0 a1).bind fun bt246 => (if bt246.2.2.2.2 < 0 then (impl_SheetFits.j0 k l2 true bt246.1 bt246.2.1 bt246.2.2.1 bt246.2.2.2.1) else (impl_SheetFits.j0 k l2 ((l2.length : Int) != (bt246.2.1.length : Int)) bt246.1 bt246.2.1 bt246.2.2.1 bt246.2.2.2.1))
set_option maxHeartbeats 8000000 in
set_option maxRecDepth 100000 in
theorem impl_SheetFits.calls (k : Nat) (a0 : ByteArray) (a1 : ByteArray) (A2 : Option Addr) (c2 : Nat) (l2 : List ByteArray) (r : Bool) (w : World) (hr2 : Kd.C Kd.string w A2 l2.length l2) (hc2 : l2.length ≤ c2) (h : impl_SheetFits.f k a0 a1 l2 = some r) :
  Calls Tryd.prog 21 #[.string a0, .string a1, .slice A2 l2.length c2] w fun e w' => e = .returned (.bool r) ∧ Below w.heap.size w w' := by
 have hu36 := Tryd.underlying36
 have HR2 := Aside0.mk hr2
 have HC2 := Aside0.mk hc2
 clear hr2 hc2
 have HB := Aside0.mk (Below.refl w.heap.size w)
 have H : ((impl_find.f k a0 a1).bind fun bt246 => (if bt246.2.2.2.2 < 0 then (impl_SheetFits.j0 k l2 true bt246.1 bt246.2.1 bt246.2.2.1 bt246.2.2.2.1) else (impl_SheetFits.j0 k l2 ((l2.length : Int) != (bt246.2.1.length : Int)) bt246.1 bt246.2.1 bt246.2.2.1 bt246.2.2.2.1))) = some r := h
 clear h
 replace H := Option.bind_eq_some_iff.mp H
 obtain ⟨⟨t246, t247, t250, t251, t254⟩, A40, H⟩ := H
 replace H : (if t254 < 0 then (impl_SheetFits.j0 k l2 true t246 t247 t250 t251) else (impl_SheetFits.j0 k l2 ((l2.length : Int) != (t247.length : Int)) t246 t247 t250 t251)) = some r := H
 have A4 := Aside0.mk A40
 clear A40
 have HC5 := Aside0.mk H
 clear H
 go_enter Tryd.func21, Tryd.ntmps21
 go_upto_region 2 with (first | ((with_reducible refine gate_callee (f := 64) rfl ?_); refine goesL_ (some 14) rfl rfl Tryd.func64 (by kernel_rfl) rfl #[.string a0, .string a1] rfl (by (try simp only [List.map_toArray, List.map_cons, List.map_nil]); first | done | rfl | (simp only [List.length_drop, List.length_take]; rfl)) ?_; (with_reducible refine (impl_find.calls k a0 a1 t246 t247 t250 t251 t254 _ A4.out).mono ?_); rintro e w6 ⟨v248, v252, rfl, ho0, ho1, hb⟩; refine ⟨_, rfl, ?_⟩; have n0_ := Aside0.mk (Kd.R_lower ho0 (below_size (stB HB.out))); have n1_ := Aside0.mk (Kd.R_lower ho1 (below_size (stB HB.out))); have n2_ := Aside0.mk (below_step (stB HB.out) hb); clear HB; have HO249 := n0_; have HO253 := n1_; have HB := n2_; clear n0_ n1_ n2_; (try clear hb); (try clear hb2); (try clear hk); (try clear hi); (try clear ho0); (try clear ho1)) | ((with_reducible refine gate_dst (N := 7) rfl ?_); (try (refine gate_guard (by rfl) ?_; dsimp only)); refine box_event ?hg (N := 7) ?hd (cs := #[.string (⟨#[]⟩ : ByteArray), .slice none 0 0, .bool false, .slice none 0 0]) (t := 36) ?hr ?_; (case hd => rfl); (case hg => rfl); (case hr => first | (go_simp; done) | (go_simp; rfl)); intro gb255 hg w7 hbox hb; have n0_ := Aside0.mk (Kd.R_below (stR HO249.out) hb); have n1_ := Aside0.mk (Kd.R_below (stR HO253.out) hb); have n2_ := Aside0.mk (below_step (stB HB.out) hb); have n3_ := Aside0.mk (hbox); have n4_ := Aside0.mk ((by rw [hg]; exact (below_size (stB HB.out)) : w.heap.size ≤ gb255)); have n5_ := Aside0.mk ((by rw [hg]; exact (below_size (stB HB.out)) : w.heap.size ≤ gb255)); clear HO249; clear HO253; clear HB; have HO249 := n0_; have HO253 := n1_; have HB := n2_; have BK255 := n3_; have GW255 := n4_; have GE255 := n5_; clear n0_ n1_ n2_ n3_ n4_ n5_; clear hb hbox hg; have hcz8_0 : w7.cell? ⟨gb255, 0, none⟩ = some (.string (⟨#[]⟩ : ByteArray)) := (blk_cell BK255.out 0).trans rfl; have hcz8_1 : w7.cell? ⟨gb255, 1, none⟩ = some (.slice none 0 0) := (blk_cell BK255.out 1).trans rfl; have hcz8_2 : w7.cell? ⟨gb255, 2, none⟩ = some (.bool false) := (blk_cell BK255.out 2).trans rfl; have hcz8_3 : w7.cell? ⟨gb255, 3, none⟩ = some (.slice none 0 0) := (blk_cell BK255.out 3).trans rfl; have hfz8_0 := blk_frozen BK255.out 0; have hfz8_1 := blk_frozen BK255.out 1; have hfz8_2 := blk_frozen BK255.out 2; have hfz8_3 := blk_frozen BK255.out 3; obtain ⟨Ao9, co9, eo9⟩ := Kd.R_slice HO249.out; subst eo9; obtain ⟨Ao10, co10, eo10⟩ := Kd.R_slice HO253.out; subst eo10))
 (try simp only [Act.put, List.setIfInBounds_toArray, List.set_cons_zero, List.set_cons_succ])
 go_cut [26] (fun v26 wc => ∃ (kq : Nat) (x26_4 : Bool), v26 = .bool x26_4 ∧ Aside0 (impl_SheetFits.j0 kq l2 x26_4 t246 t247 t250 t251 = some r) ∧ Aside0 (kq ≤ k) ∧ Aside0 (Kd.R (Kd.int .i64) 3 wc w.heap.size (fun _ => True) (.slice Ao9 t247.length co9) t247) ∧ Aside0 (Kd.R Kd.string 9 wc w.heap.size (fun _ => True) (.slice Ao10 t251.length co10) t251) ∧ Aside0 (wc.heap[gb255]? = some (.cells #[.string t246, (.slice Ao9 t247.length co9), .bool t250, (.slice Ao10 t251.length co10)] 36 (0, 0))) ∧ Aside0 (Below w.heap.size w wc))
 case first =>
  have H := HC5.out
  clear HC5
  by_cases c11 : t254 < 0
  ·rw [if_pos c11] at H
   have c11b0 : decide (t254 < 0) = true := decide_eq_true c11
   clear c11
   (first | rw [c11b0] | (simp only [i64_w, i32_w]; rw [c11b0]) | skip)
   have H' := Aside0.mk H
   clear H
   go_wp2
   go_meet
   case rel => exact ⟨_, (true), (by first | rfl | (simp; done) | (simp [*]; done)), H', ⟨by first | omega | exact Nat.le_refl _⟩, ⟨by (with_reducible repeat (first | apply Kd.R_alloc | apply Kd.R_drewN | apply Kd.R_drew)); exact Kd.R_mono (Kd.R_far (p := ⟨gb255, 3, none⟩) (Kd.R_far (p := ⟨gb255, 2, none⟩) (Kd.R_far (p := ⟨gb255, 1, none⟩) (Kd.R_far (p := ⟨gb255, 0, none⟩) (Kd.R_types HO249.out BK255.out (by decide)) (fun _ hk => hk.2) (.string t246)) (fun _ hk => hk.2) (.slice Ao9 t247.length co9)) (fun _ hk => hk.2) (.bool t250)) (fun _ hk => hk.2) (.slice Ao10 t251.length co10)) (fun _ hk => trivial)⟩, ⟨by (with_reducible repeat (first | apply Kd.R_alloc | apply Kd.R_drewN | apply Kd.R_drew)); exact Kd.R_mono (Kd.R_far (p := ⟨gb255, 3, none⟩) (Kd.R_far (p := ⟨gb255, 2, none⟩) (Kd.R_far (p := ⟨gb255, 1, none⟩) (Kd.R_far (p := ⟨gb255, 0, none⟩) (Kd.R_types HO253.out BK255.out (by decide)) (fun _ hk => hk.2) (.string t246)) (fun _ hk => hk.2) (.slice Ao9 t247.length co9)) (fun _ hk => hk.2) (.bool t250)) (fun _ hk => hk.2) (.slice Ao10 t251.length co10)) (fun _ hk => trivial)⟩, ⟨by (with_reducible repeat (first | refine blk_drewN ?_ _ | refine blk_drew ?_ | refine blk_alloc ?_ _)); refine blk_put (cs := #[.string t246, .slice Ao9 t247.length co9, .bool t250, .slice none 0 0]) ?_ 3 _ rfl; (with_reducible repeat (first | refine blk_drewN ?_ _ | refine blk_drew ?_ | refine blk_alloc ?_ _)); refine blk_put (cs := #[.string t246, .slice Ao9 t247.length co9, .bool false, .slice none 0 0]) ?_ 2 _ rfl; (with_reducible repeat (first | refine blk_drewN ?_ _ | refine blk_drew ?_ | refine blk_alloc ?_ _)); refine blk_put (cs := #[.string t246, .slice none 0 0, .bool false, .slice none 0 0]) ?_ 1 _ rfl; (with_reducible repeat (first | refine blk_drewN ?_ _ | refine blk_drew ?_ | refine blk_alloc ?_ _)); refine blk_put (cs := #[.string (⟨#[]⟩ : ByteArray), .slice none 0 0, .bool false, .slice none 0 0]) ?_ 0 _ rfl; (with_reducible repeat (first | refine blk_drewN ?_ _ | refine blk_drew ?_ | refine blk_alloc ?_ _)); exact BK255.out⟩, ⟨by repeat (first | (with_reducible first | exact HB.out | apply below_alloc | apply pw_below_drewN | apply below_drew1 | refine below_set ?_ GE255.out) | exact HB.out)⟩⟩
  ·rw [if_neg c11] at H
   have c11b0 : decide (t254 < 0) = false := decide_eq_false c11
   clear c11
   (first | rw [c11b0] | (simp only [i64_w, i32_w]; rw [c11b0]) | skip)
   have H' := Aside0.mk H
   clear H
   have hcz12_0 : w7.cell? ⟨gb255, 0, none⟩ = some (.string (⟨#[]⟩ : ByteArray)) := (blk_cell BK255.out 0).trans rfl
   have hcz12_1 : w7.cell? ⟨gb255, 1, none⟩ = some (.slice none 0 0) := (blk_cell BK255.out 1).trans rfl
   have hcz12_2 : w7.cell? ⟨gb255, 2, none⟩ = some (.bool false) := (blk_cell BK255.out 2).trans rfl
   have hcz12_3 : w7.cell? ⟨gb255, 3, none⟩ = some (.slice none 0 0) := (blk_cell BK255.out 3).trans rfl
   have hfz12_0 := blk_frozen BK255.out 0
   have hfz12_1 := blk_frozen BK255.out 1
   have hfz12_2 := blk_frozen BK255.out 2
   have hfz12_3 := blk_frozen BK255.out 3
   go_wp2
   go_meet
   case rel => exact ⟨_, (((l2.length : Int) != (t247.length : Int))), (by first | rfl | (simp; done) | (simp [*]; done)), H', ⟨by first | omega | exact Nat.le_refl _⟩, ⟨by (with_reducible repeat (first | apply Kd.R_alloc | apply Kd.R_drewN | apply Kd.R_drew)); exact Kd.R_mono (Kd.R_far (p := ⟨gb255, 3, none⟩) (Kd.R_far (p := ⟨gb255, 2, none⟩) (Kd.R_far (p := ⟨gb255, 1, none⟩) (Kd.R_far (p := ⟨gb255, 0, none⟩) (Kd.R_types HO249.out BK255.out (by decide)) (fun _ hk => hk.2) (.string t246)) (fun _ hk => hk.2) (.slice Ao9 t247.length co9)) (fun _ hk => hk.2) (.bool t250)) (fun _ hk => hk.2) (.slice Ao10 t251.length co10)) (fun _ hk => trivial)⟩, ⟨by (with_reducible repeat (first | apply Kd.R_alloc | apply Kd.R_drewN | apply Kd.R_drew)); exact Kd.R_mono (Kd.R_far (p := ⟨gb255, 3, none⟩) (Kd.R_far (p := ⟨gb255, 2, none⟩) (Kd.R_far (p := ⟨gb255, 1, none⟩) (Kd.R_far (p := ⟨gb255, 0, none⟩) (Kd.R_types HO253.out BK255.out (by decide)) (fun _ hk => hk.2) (.string t246)) (fun _ hk => hk.2) (.slice Ao9 t247.length co9)) (fun _ hk => hk.2) (.bool t250)) (fun _ hk => hk.2) (.slice Ao10 t251.length co10)) (fun _ hk => trivial)⟩, ⟨by (with_reducible repeat (first | refine blk_drewN ?_ _ | refine blk_drew ?_ | refine blk_alloc ?_ _)); refine blk_put (cs := #[.string t246, .slice Ao9 t247.length co9, .bool t250, .slice none 0 0]) ?_ 3 _ rfl; (with_reducible repeat (first | refine blk_drewN ?_ _ | refine blk_drew ?_ | refine blk_alloc ?_ _)); refine blk_put (cs := #[.string t246, .slice Ao9 t247.length co9, .bool false, .slice none 0 0]) ?_ 2 _ rfl; (with_reducible repeat (first | refine blk_drewN ?_ _ | refine blk_drew ?_ | refine blk_alloc ?_ _)); refine blk_put (cs := #[.string t246, .slice none 0 0, .bool false, .slice none 0 0]) ?_ 1 _ rfl; (with_reducible repeat (first | refine blk_drewN ?_ _ | refine blk_drew ?_ | refine blk_alloc ?_ _)); refine blk_put (cs := #[.string (⟨#[]⟩ : ByteArray), .slice none 0 0, .bool false, .slice none 0 0]) ?_ 0 _ rfl; (with_reducible repeat (first | refine blk_drewN ?_ _ | refine blk_drew ?_ | refine blk_alloc ?_ _)); exact BK255.out⟩, ⟨by repeat (first | (with_reducible first | exact HB.out | apply below_alloc | apply pw_below_drewN | apply below_drew1 | refine below_set ?_ GE255.out) | exact HB.out)⟩⟩
 case rest =>
  clear HC5
  try clear c1
  try clear c2
  try clear p2
  try clear c6
  try clear c11
  try clear c11b0
  try clear hcz12_0
  try clear hcz12_1
  try clear hcz12_2
  try clear hcz12_3
  try clear hcz8_0
  try clear hcz8_1
  try clear hcz8_2
  try clear hcz8_3
  try clear hfz12_0
  try clear hfz12_1
  try clear hfz12_2
  try clear hfz12_3
  try clear hfz8_0
  try clear hfz8_1
  try clear hfz8_2
  try clear hfz8_3
  obtain ⟨kq, x26_4, rfl, HA, HJ4, HO_256001, HO_256003, BK255, HB⟩ := hcut
  cases kq with
  | zero => exact absurd HA.out (by simp [impl_SheetFits.j0])
  | succ kj4 =>
   have H := HA.out
   clear HA
   simp only [impl_SheetFits.j0] at H
   by_cases c13 : x26_4 = true
   ·subst c13
    have H1 : (some false) = some r := by rw [if_pos rfl] at H; exact H
    clear H
    have H := H1
    clear H1
    obtain rfl := Option.some.inj H
    go_wp2
    go_ret
    exact ⟨by first | rfl | (simp [errW_none, errW_some] <;> rfl) | (simp [*, errW_none, errW_some] <;> rfl), by repeat (first | (with_reducible first | exact HB.out | apply below_alloc | apply pw_below_drewN | apply below_drew1 | refine below_set ?_ GE255.out) | exact HB.out)⟩
   ·replace c13 := Bool.eq_false_iff.mpr c13
    subst c13
    have H1 : (impl_SheetFits.l0 kj4 l2 t247 (t247.length : Int) 0) = some r := by rw [if_neg (show ¬ (false = true) by decide)] at H; exact H
    clear H
    have H := H1
    clear H1
    have H' := Aside0.mk H
    clear H
    have hcz14_0 : wc.cell? ⟨gb255, 0, none⟩ = some (.string t246) := (blk_cell BK255.out 0).trans rfl
    have hcz14_1 : wc.cell? ⟨gb255, 1, none⟩ = some (.slice Ao9 t247.length co9) := (blk_cell BK255.out 1).trans rfl
    have hcz14_2 : wc.cell? ⟨gb255, 2, none⟩ = some (.bool t250) := (blk_cell BK255.out 2).trans rfl
    have hcz14_3 : wc.cell? ⟨gb255, 3, none⟩ = some (.slice Ao10 t251.length co10) := (blk_cell BK255.out 3).trans rfl
    have hfz14_0 := blk_frozen BK255.out 0
    have hfz14_1 := blk_frozen BK255.out 1
    have hfz14_2 := blk_frozen BK255.out 2
    have hfz14_3 := blk_frozen BK255.out 3
    go_wp2
    go_loopg [30] kj4 (fun kq v30 w' => ∃ (x30_2 : Int), v30 = .int .i64 x30_2 ∧ Aside0 (impl_SheetFits.l0 kq l2 t247 (t247.length : Int) x30_2 = some r) ∧ Aside0 (kq ≤ kj4) ∧ Aside0 (Kd.R (Kd.int .i64) 3 w' w.heap.size (fun _ => True) (.slice Ao9 t247.length co9) t247) ∧ Aside0 (Kd.R (Kd.int .i64) 3 w' w.heap.size (fun _ => True) (.slice Ao9 t247.length co9) t247) ∧ Aside0 (Kd.R Kd.string 9 w' w.heap.size (fun _ => True) (.slice Ao10 t251.length co10) t251) ∧ Aside0 (w'.heap[gb255]? = some (.cells #[.string t246, (.slice Ao9 t247.length co9), .bool t250, (.slice Ao10 t251.length co10)] 36 (0, 0))) ∧ Aside0 (Below w.heap.size w w'))
    case atStart => exact ⟨(0), (by first | rfl | (simp; done) | (simp [*]; done)), H', ⟨Nat.le_refl _⟩, ⟨by (with_reducible repeat (first | apply Kd.R_alloc | apply Kd.R_drewN | apply Kd.R_drew)); exact HO_256001.out⟩, ⟨by (with_reducible repeat (first | apply Kd.R_alloc | apply Kd.R_drewN | apply Kd.R_drew)); exact HO_256001.out⟩, ⟨by (with_reducible repeat (first | apply Kd.R_alloc | apply Kd.R_drewN | apply Kd.R_drew)); exact HO_256003.out⟩, ⟨by (with_reducible repeat (first | refine blk_drewN ?_ _ | refine blk_drew ?_ | refine blk_alloc ?_ _)); exact BK255.out⟩, ⟨by repeat (first | (with_reducible first | exact HB.out | apply below_alloc | apply pw_below_drewN | apply below_drew1 | refine below_set ?_ GE255.out) | exact HB.out)⟩⟩
    case round =>
     clear H'
     try clear c1
     try clear c2
     try clear p2
     try clear c6
     try clear c11
     try clear c11b0
     try clear c13
     try clear hcz12_0
     try clear hcz12_1
     try clear hcz12_2
     try clear hcz12_3
     try clear hcz14_0
     try clear hcz14_1
     try clear hcz14_2
     try clear hcz14_3
     try clear hcz8_0
     try clear hcz8_1
     try clear hcz8_2
     try clear hcz8_3
     try clear hfz12_0
     try clear hfz12_1
     try clear hfz12_2
     try clear hfz12_3
     try clear hfz14_0
     try clear hfz14_1
     try clear hfz14_2
     try clear hfz14_3
     try clear hfz8_0
     try clear hfz8_1
     try clear hfz8_2
     try clear hfz8_3
     try clear p2
     obtain ⟨x30_2, rfl, HA, HK2, HO_28, HO_256001, HO_256003, BK255, HB⟩ := hrel
     cases gk with
     | zero => exact absurd HA.out (by simp [impl_SheetFits.l0])
     | succ k2 =>
      have H := HA.out
      clear HA
      simp only [impl_SheetFits.l0] at H
      by_cases c15 : x30_2 < (t247.length : Int)
      ·rw [if_pos c15] at H
       have c15b0 : decide (x30_2 < (t247.length : Int)) = true := decide_eq_true c15
       clear c15
       by_cases c16 : 0 ≤ x30_2
       ·rw [if_pos c16] at H
        have c16b0 : decide (0 ≤ x30_2) = true := decide_eq_true c16
        clear c16
        by_cases c17 : x30_2 < (t247.length : Int)
        ·rw [if_pos c17] at H
         have c17b0 : decide (x30_2 < (t247.length : Int)) = true := decide_eq_true c17
         clear c17
         by_cases c18 : x30_2 < (l2.length : Int)
         ·rw [if_pos c18] at H
          have c18b0 : decide (x30_2 < (l2.length : Int)) = true := decide_eq_true c18
          clear c18
          replace H := Option.bind_eq_some_iff.mp H
          obtain ⟨t258, A190, H⟩ := H
          replace H : (if t258 = true then (impl_SheetFits.l0 k2 l2 t247 (t247.length : Int) (wrap64 (x30_2 + 1))) else (some false)) = some r := H
          have A19 := Aside0.mk A190
          clear A190
          by_cases c20 : t258 = true
          ·subst c20
           have H1 : (impl_SheetFits.l0 k2 l2 t247 (t247.length : Int) (wrap64 (x30_2 + 1))) = some r := by rw [if_pos rfl] at H; exact H
           clear H
           have H := H1
           clear H1
           have H' := Aside0.mk H
           clear H
           have p256 : 0 ≤ (x30_2 : Int) := of_decide_eq_true (by first | (with_reducible assumption) | assumption)
           have q256 : x30_2 < (t247.length : Int) := of_decide_eq_true (by first | (with_reducible assumption) | assumption)
           obtain ⟨ad256, e256, hx256_0⟩ := Kd.at_int (Kd.R_reads' HO_28.out).2.2 x30_2 p256 q256
           cases e256
           replace p256 := eq_true p256
           replace q256 := eq_true q256
           have p257 : 0 ≤ (x30_2 : Int) := of_decide_eq_true (by first | (with_reducible assumption) | assumption)
           have q257 : x30_2 < (l2.length : Int) := of_decide_eq_true (by first | (with_reducible assumption) | assumption)
           obtain ⟨ad257, e257, hx257_0⟩ := Kd.at_string HR2.out x30_2 p257 q257
           cases e257
           (try replace hx257_0 := (HB.out.cell (World.block_lt_of_cell? w _ hx257_0)).trans hx257_0)
           replace p257 := eq_true p257
           replace q257 := eq_true q257
           go_wp2_with (first | ((with_reducible refine gate_callee (f := 65) rfl ?_); refine goesL_ (some 40) rfl rfl Tryd.func65 (by kernel_rfl) rfl #[.int .i64 (rd t247 x30_2), .string (rdOf ByteArray.empty l2 x30_2)] rfl (by (try simp only [List.map_toArray, List.map_cons, List.map_nil]); first | done | rfl | (simp only [List.length_drop, List.length_take]; rfl)) ?_; (with_reducible refine (impl_isType.calls k2 (rd t247 x30_2) (rdOf ByteArray.empty l2 x30_2) true _ A19.out).mono ?_); rintro e w' ⟨rfl, ⟨nd, rfl⟩⟩; refine ⟨_, rfl, ?_⟩))
           go_roundg k2
           case measure => have := HJ4.out; have := HK2.out; omega
           case rel => exact ⟨(wrap64 (x30_2 + 1)), (by first | rfl | (simp; done) | (simp [*]; done)), H', ⟨by have := HJ4.out; have := HK2.out; omega⟩, ⟨by (with_reducible repeat (first | apply Kd.R_alloc | apply Kd.R_drewN | apply Kd.R_drew)); exact HO_28.out⟩, ⟨by (with_reducible repeat (first | apply Kd.R_alloc | apply Kd.R_drewN | apply Kd.R_drew)); exact HO_256001.out⟩, ⟨by (with_reducible repeat (first | apply Kd.R_alloc | apply Kd.R_drewN | apply Kd.R_drew)); exact HO_256003.out⟩, ⟨by (with_reducible repeat (first | refine blk_drewN ?_ _ | refine blk_drew ?_ | refine blk_alloc ?_ _)); exact BK255.out⟩, ⟨by repeat (first | (with_reducible first | exact HB.out | apply below_alloc | apply pw_below_drewN | apply below_drew1 | refine below_set ?_ GE255.out) | exact HB.out)⟩⟩
          ·replace c20 := Bool.eq_false_iff.mpr c20
           subst c20
           have H1 : (some false) = some r := by rw [if_neg (show ¬ (false = true) by decide)] at H; exact H
           clear H
           have H := H1
           clear H1
           obtain rfl := Option.some.inj H
           have p256 : 0 ≤ (x30_2 : Int) := of_decide_eq_true (by first | (with_reducible assumption) | assumption)
           have q256 : x30_2 < (t247.length : Int) := of_decide_eq_true (by first | (with_reducible assumption) | assumption)
           obtain ⟨ad256, e256, hx256_0⟩ := Kd.at_int (Kd.R_reads' HO_28.out).2.2 x30_2 p256 q256
           cases e256
           replace p256 := eq_true p256
           replace q256 := eq_true q256
           have p257 : 0 ≤ (x30_2 : Int) := of_decide_eq_true (by first | (with_reducible assumption) | assumption)
           have q257 : x30_2 < (l2.length : Int) := of_decide_eq_true (by first | (with_reducible assumption) | assumption)
           obtain ⟨ad257, e257, hx257_0⟩ := Kd.at_string HR2.out x30_2 p257 q257
           cases e257
           (try replace hx257_0 := (HB.out.cell (World.block_lt_of_cell? w _ hx257_0)).trans hx257_0)
           replace p257 := eq_true p257
           replace q257 := eq_true q257
           go_wp2_with (first | ((with_reducible refine gate_callee (f := 65) rfl ?_); refine goesL_ (some 40) rfl rfl Tryd.func65 (by kernel_rfl) rfl #[.int .i64 (rd t247 x30_2), .string (rdOf ByteArray.empty l2 x30_2)] rfl (by (try simp only [List.map_toArray, List.map_cons, List.map_nil]); first | done | rfl | (simp only [List.length_drop, List.length_take]; rfl)) ?_; (with_reducible refine (impl_isType.calls k2 (rd t247 x30_2) (rdOf ByteArray.empty l2 x30_2) false _ A19.out).mono ?_); rintro e w' ⟨rfl, ⟨nd, rfl⟩⟩; refine ⟨_, rfl, ?_⟩))
           go_ret
           exact ⟨by first | rfl | (simp [errW_none, errW_some] <;> rfl) | (simp [*, errW_none, errW_some] <;> rfl), by repeat (first | (with_reducible first | exact HB.out | apply below_alloc | apply pw_below_drewN | apply below_drew1 | refine below_set ?_ GE255.out) | exact HB.out)⟩
         ·rw [if_neg c18] at H
          exact absurd H (by simp)
        ·rw [if_neg c17] at H
         exact absurd H (by simp)
       ·rw [if_neg c16] at H
        exact absurd H (by simp)
      ·rw [if_neg c15] at H
       have c15b0 : decide (x30_2 < (t247.length : Int)) = false := decide_eq_false c15
       clear c15
       obtain rfl := Option.some.inj H
       go_wp2
       go_ret
       exact ⟨by first | rfl | (simp [errW_none, errW_some] <;> rfl) | (simp [*, errW_none, errW_some] <;> rfl), by repeat (first | (with_reducible first | exact HB.out | apply below_alloc | apply pw_below_drewN | apply below_drew1 | refine below_set ?_ GE255.out) | exact HB.out)⟩
end Go.Proofs.YtmcdnpooclelgaaDoor.PAll
namespace Go.Proofs.YtmcdnpooclelgaaDoor.PAll
open Go.RowKit Go.Proofs.YtmcdnpooclelgaaDoorW.PrintWords
def lookFrom (key : ByteArray) : List S36 → Nat → Option (S36 × Nat)
 | [], _ => none
 | r :: rs, i => if r.f0 = key then some (r, i) else lookFrom key rs (i + 1)
def lookL (kind key : ByteArray) : Option (S36 × Nat) := lookFrom key (rulesL kind) 0
def placeL (kind key : ByteArray) : Int := match lookL kind key with | none => -1 | some (_, i) => i
theorem toList_iff {a b : ByteArray} : a.toList = b.toList ↔ a = b := ⟨bytes_inj, fun h => by rw [h]⟩
theorem rd_drop {rs : List S36} {i : Nat} {r : S36} {t : List S36} (h : rs.drop i = r :: t) : rd_T36 rs (i : Int) = r ∧ i < rs.length ∧ rs.drop (i + 1) = t := by
 have hi : i < rs.length := by
  rcases Nat.lt_or_ge i rs.length with h' | h'
  ·exact h'
  ·rw [List.drop_eq_nil_of_le h'] at h; cases h
 rw [List.drop_eq_getElem_cons hi] at h
 injection h with h1 h2
 refine ⟨?_, hi, h2⟩
 unfold rd_T36
 rw [List.getD_eq_getElem?_getD, Int.toNat_natCast, List.getElem?_eq_getElem hi]
 exact h1
theorem l2Rule_l0 (key : ByteArray) (rs : List S36) (hl : rs.length ≤ 1000) : ∀ (t : List S36) (i : Nat), rs.drop i = t → i ≤ rs.length → Ev (fun k => spec_l2Rule.l0 k key rs i) (match lookFrom key t i with | none => -1 | some (_, i) => (i : Int))
 | [], i, h, hi => Ev.unf (fun _ => some (-1)) (fun k => by
   have : rs.length ≤ i := List.drop_eq_nil_iff.1 h
   simp only [spec_l2Rule.l0]; rw [if_neg (by omega)]) (Ev.now _)
 | r :: t, i, h, hi => by
  obtain ⟨h1, h2, h3⟩ := rd_drop h
  have ih := l2Rule_l0 key rs hl t (i + 1) h3 (by omega)
  have e : wrap64 ((i : Int) + 1) = ((i + 1 : Nat) : Int) := by rw [w64 (by omega) (by omega)]; rfl
  refine Ev.unf (fun k => if r.f0 = key then some (i : Int) else spec_l2Rule.l0 k key rs ((i + 1 : Nat) : Int)) (fun k => ?_) ?_
  ·simp only [spec_l2Rule.l0, toList_iff]
   rw [if_pos (by omega), if_pos (by omega), h1, e]
  ·simp only [lookFrom]
   by_cases q : r.f0 = key
   ·simp only [if_pos q]; exact Ev.now _
   ·simp only [if_neg q]; exact ih
theorem rulesL_len (kind : ByteArray) : (rulesL kind).length ≤ 12 := by
  unfold rulesL; split; · decide
  split; · decide
  split; · decide
  decide
theorem ev_l2Rule (kind key : ByteArray) : Ev (fun k => spec_l2Rule.f k kind key) (placeL kind key) := by
 have hl := rulesL_len kind
 unfold spec_l2Rule.f spec_SheetRules.f
 simp only [Option.bind_some]
 exact l2Rule_l0 key (rulesL kind) (by omega) (rulesL kind) 0 rfl (by omega)
def findR : Option (S36 × Nat) → ByteArray × List Int × Bool × List ByteArray × Int
 | none => (⟨#[]⟩, [], false, [], -1)
 | some (r, i) => (r.f0, r.f1, r.f2, r.f3, (i : Int))
theorem find_l0 (key : ByteArray) (rs : List S36) (hl : rs.length ≤ 1000) : ∀ (t : List S36) (i : Nat), rs.drop i = t → i ≤ rs.length → Ev (fun k => impl_find.l0 k key rs rs.length i) (findR (lookFrom key t i))
 | [], i, h, hi => Ev.unf (fun _ => some (findR none)) (fun k => by
   have : rs.length ≤ i := List.drop_eq_nil_iff.1 h
   simp only [impl_find.l0]; rw [if_neg (by omega)]; rfl) (Ev.now _)
 | r :: t, i, h, hi => by
  obtain ⟨h1, h2, h3⟩ := rd_drop h
  have ih := find_l0 key rs hl t (i + 1) h3 (by omega)
  have e : wrap64 ((i : Int) + 1) = ((i + 1 : Nat) : Int) := by rw [w64 (by omega) (by omega)]; rfl
  refine Ev.unf (fun k => if r.f0 = key then some (findR (some (r, i))) else impl_find.l0 k key rs rs.length ((i + 1 : Nat) : Int)) (fun k => ?_) ?_
  ·simp only [impl_find.l0, toList_iff]
   rw [if_pos (by omega), if_pos (by omega), if_pos (by omega), h1, e]
   rfl
  ·simp only [lookFrom]
   by_cases q : r.f0 = key
   ·simp only [if_pos q]; exact Ev.now _
   ·simp only [if_neg q]; exact ih
theorem ev_find (kind key : ByteArray) : Ev (fun k => impl_find.f k kind key) (findR (lookL kind key)) := by
 have hl := rulesL_len kind
 unfold impl_find.f impl_SheetRules.f
 simp only [Option.bind_some]
 exact find_l0 key (rulesL kind) (by omega) (rulesL kind) 0 rfl (by omega)
theorem lookFrom_mem (key : ByteArray) : ∀ (rs : List S36) (i : Nat) (r : S36) (j : Nat), lookFrom key rs i = some (r, j) → r ∈ rs ∧ r.f0 = key ∧ i ≤ j ∧ rs[j - i]? = some r
 | [], i, r, j, h => by cases h
 | q :: rs, i, r, j, h => by
  simp only [lookFrom] at h
  split at h
  ·injection h with h
   injection h with h1 h2
   subst h1 h2
   rename_i hk
   exact ⟨List.mem_cons_self, hk, Nat.le_refl _, by simp⟩
  ·obtain ⟨h1, h2, h3, h4⟩ := lookFrom_mem key rs (i + 1) r j h
   refine ⟨List.mem_cons_of_mem _ h1, h2, by omega, ?_⟩
   rw [show j - i = (j - (i + 1)) + 1 by omega, List.getElem?_cons_succ]
   exact h4
theorem rules_types (kind : ByteArray) : ∀ r ∈ rulesL kind, r.f1.length ≤ 3 ∧ ∀ t ∈ r.f1, 1 ≤ t ∧ t ≤ 6 := by
  unfold rulesL; split; · unfold rules_team; decide
  split; · unfold rules_berth; decide
  split; · unfold rules_service; decide
  intro r h; cases h
def fitsAll : List Int → List ByteArray → Bool
 | [], _ => true
 | _ :: _, [] => false
 | t :: ts, s :: ss => fitsP t s && fitsAll ts ss
def fitsL (kind key : ByteArray) (ws : List ByteArray) : Bool := match lookL kind key with
 | none => false
 | some (r, _) => decide (ws.length = r.f1.length) && fitsAll r.f1 ws
theorem bt_extract (s : ByteArray) (a b j : Nat) (hb : b ≤ s.size) (hj : j < b - a) : bt (s.extract a b) j = bt s ((a + j : Nat) : Int) := by
 have hs : (s.extract a b).size = b - a := by rw [ByteArray.size_extract]; omega
 unfold bt
 rw [dif_pos (show (j : Int).toNat < (s.extract a b).size by rw [hs]; simpa using hj), dif_pos (show ((a + j : Nat) : Int).toNat < s.size by rw [Int.toNat_natCast]; omega)]
 simp only [Int.toNat_natCast]
 rw [ByteArray.getElem_extract]
theorem numOk_first (s : ByteArray) (h : numOk s = true) : 1 ≤ s.size ∧ 48 ≤ bt s 0 := by
 unfold numOk at h
 simp only [Bool.and_eq_true, decide_eq_true_eq] at h
 obtain ⟨h1, h2, h3, h4⟩ := h
 obtain ⟨n, hn⟩ : ∃ n, s.size = n + 1 := ⟨s.size - 1, by omega⟩
 refine ⟨h1, ?_⟩
 rw [hn] at h4
 simp only [digsV] at h4
 by_cases hb : 48 ≤ bt s ((0 : Nat) : Int) ∧ bt s ((0 : Nat) : Int) ≤ 57
 ·exact hb.1
 ·rw [if_neg hb] at h4; cases h4
theorem prefix_iff (s : ByteArray) (h : 1 ≤ s.size) : ((s.extract 0 1).toList == (⟨#[45]⟩ : ByteArray).toList) = decide (bt s 0 = 45) := by
 rw [Bool.eq_iff_iff, beq_iff_eq, decide_eq_true_eq, toList_iff]
 have hb : bt (⟨#[45]⟩ : ByteArray) 0 = 45 := by decide +kernel
 have e := bt_extract s 0 1 0 h (by omega)
 constructor
 ·intro q; rw [q] at e; exact e.symm.trans hb
 ·intro q
  refine ba_ext (by rw [ByteArray.size_extract]; show min 1 s.size - 0 = 1; omega) (fun j hj => ?_)
  have : j = 0 := by rw [ByteArray.size_extract] at hj; omega
  subst this
  rw [e]
  exact q.trans hb.symm
theorem ev_isType (t : Int) (s : ByteArray) (h1 : 1 ≤ t) (h6 : t ≤ 6) (hs : s.size ≤ 4611686018427387904) : Ev (fun k => impl_isType.f k t s) (fitsP t s) := by
 unfold impl_isType.f fitsP
 by_cases t1 : t = 1
 ·simp only [if_pos t1]; exact Ev.bind (ev_isNumber s) (Ev.now _)
 simp only [if_neg t1]
 by_cases t2 : t = 2
 ·simp only [if_pos t2]
  unfold strings_CutPrefix.f stringslite_CutPrefix.f stringslite_HasPrefix.f
  have hz : ((⟨#[45]⟩ : ByteArray).size : Int) = 1 := rfl
  simp only [hz]
  by_cases z : 1 ≤ s.size
  ·simp only [if_pos (show (s.size : Int) ≥ 1 by omega), if_pos (show (0 : Int) ≤ 1 by omega), if_pos (show (1 : Int) ≤ (s.size : Int) by omega), Option.bind_some, show (1 : Int).toNat = 1 from rfl, prefix_iff s z]
   by_cases m : bt s 0 = 45
   ·have hn : numOk s = false := by rw [Bool.eq_false_iff]; intro h; have := (numOk_first s h).2; omega
    simp only [m, decide_true, if_true, Option.bind_some, hn, Bool.false_or, Bool.true_and]
    refine Ev.bind (ev_isNumber (s.extract 1 s.size)) ?_
    change Ev (fun k => if numOk (tailP s) = true then some (!((tailP s).toList == ([48] : List UInt8))) else some false) _
    cases hq : numOk (tailP s)
    ·simp only [Bool.false_eq_true, if_false, Bool.and_false]; exact Ev.now _
    ·have h2 : 1 < s.size := by have := (numOk_first _ hq).1; unfold tailP at this; rw [ByteArray.size_extract] at this; omega
     simp only [if_true, h2, decide_true, Bool.true_and, Bool.and_true]; exact Ev.now _
   ·simp only [m, decide_false, Bool.false_eq_true, if_false, Option.bind_some, Bool.false_and, Bool.and_false, Bool.or_false]
    refine Ev.bind (ev_isNumber s) ?_
    cases numOk s
    ·exact Ev.now _
    ·exact Ev.now _
  ·have hn : numOk s = false := by rw [Bool.eq_false_iff]; intro h; have := (numOk_first s h).1; omega
   simp only [if_neg (show ¬ (s.size : Int) ≥ 1 by omega), Option.bind_some, Bool.false_eq_true, if_false, hn, Bool.false_or, show decide (1 < s.size) = false from decide_eq_false (by omega), Bool.false_and]
   refine Ev.bind (ev_isNumber s) ?_
   rw [hn]; exact Ev.now _
 simp only [if_neg t2]
 by_cases t3 : t = 3
 ·simp only [if_pos t3]; exact Ev.bind (ev_isName s hs) (Ev.now _)
 simp only [if_neg t3]
 by_cases t4 : t = 4
 ·simp only [if_pos t4]
  rw [show decide ((s.size : Int) ≤ 200) = decide (s.size ≤ 200) by rw [Bool.eq_iff_iff]; simp; omega]
  exact Ev.now _
 simp only [if_neg t4]
 by_cases t5 : t = 5
 ·simp only [if_pos t5]
  by_cases q : s.toList = ([121, 101, 115] : List UInt8)
  ·simp only [if_pos q, q, beq_self_eq_true, Bool.true_or]; exact Ev.now _
  ·simp only [if_neg q, beq_eq_false_iff_ne.2 q, Bool.false_or]; exact Ev.now _
 simp only [if_neg t5]
 by_cases q : s.toList = ([110, 111, 110, 101] : List UInt8)
 ·simp only [if_pos q, q, beq_self_eq_true, Bool.true_or]; exact Ev.now _
 ·simp only [if_neg q, beq_eq_false_iff_ne.2 q, Bool.false_or]
  by_cases q : s.toList = ([98, 101, 114, 116, 104] : List UInt8)
  ·simp only [if_pos q, q, beq_self_eq_true, Bool.true_or]; exact Ev.now _
  ·simp only [if_neg q, beq_eq_false_iff_ne.2 q, Bool.false_or]; exact Ev.now _
theorem fits_l0 (ts : List Int) (ws : List ByteArray) (hl : ts.length ≤ 1000) (he : ws.length = ts.length) (ht : ∀ t ∈ ts, 1 ≤ t ∧ t ≤ 6) (hw : ∀ s ∈ ws, s.size ≤ 4611686018427387904) : ∀ (d i : Nat), i + d = ts.length → Ev (fun k => impl_SheetFits.l0 k ws ts ts.length i) (fitsAll (ts.drop i) (ws.drop i))
 | 0, i, h => by
  refine Ev.unf (fun _ => some true) (fun k => by simp only [impl_SheetFits.l0]; rw [if_neg (by omega)]) ?_
  rw [List.drop_eq_nil_of_le (by omega)]; exact Ev.now _
 | d + 1, i, h => by
  have ih := fits_l0 ts ws hl he ht hw d (i + 1) (by omega)
  have e : wrap64 ((i : Int) + 1) = ((i + 1 : Nat) : Int) := by rw [w64 (by omega) (by omega)]; rfl
  have e1 : rd ts (i : Int) = ts[i]'(by omega) := by unfold rd; rw [List.getD_eq_getElem?_getD, Int.toNat_natCast, List.getElem?_eq_getElem (by omega)]; rfl
  have e2 : rdOf ByteArray.empty ws (i : Int) = ws[i]'(by omega) := by unfold rdOf; rw [List.getD_eq_getElem?_getD, Int.toNat_natCast, List.getElem?_eq_getElem (by omega)]; rfl
  rw [List.drop_eq_getElem_cons (show i < ts.length by omega), List.drop_eq_getElem_cons (show i < ws.length by omega)]
  have hT := ht _ (List.getElem_mem (show i < ts.length by omega))
  have hW := hw _ (List.getElem_mem (show i < ws.length by omega))
  generalize ts[i]'(by omega) = t at *
  generalize ws[i]'(by omega) = s at *
  refine Ev.unf (fun k => (impl_isType.f k t s).bind fun b => if b = true then impl_SheetFits.l0 k ws ts ts.length ((i + 1 : Nat) : Int) else some false) (fun k => ?_) ?_
  ·simp only [impl_SheetFits.l0]
   rw [if_pos (by omega), if_pos (by omega), if_pos (by omega), if_pos (by omega), e1, e2, e]
  ·refine Ev.bind (ev_isType t s hT.1 hT.2 hW) ?_
   simp only [fitsAll]
   cases fitsP t s
   ·exact Ev.now _
   ·simp only [if_true, Bool.true_and]; exact ih
theorem ev_implFits (kind key : ByteArray) (ws : List ByteArray) (hw : ∀ s ∈ ws, s.size ≤ 4611686018427387904) : Ev (fun k => impl_SheetFits.f k kind key ws) (fitsL kind key ws) := by
 unfold impl_SheetFits.f
 refine Ev.bind (ev_find kind key) ?_
 unfold fitsL
 cases hk : lookL kind key with
 | none =>
  change Ev (fun k => if (-1 : Int) < 0 then impl_SheetFits.j0 k ws true ⟨#[]⟩ [] false [] else impl_SheetFits.j0 k ws ((ws.length : Int) != (([] : List Int).length : Int)) ⟨#[]⟩ [] false []) false
  simp only [if_pos (show (-1 : Int) < 0 by omega)]
  exact Ev.unf (fun _ => some false) (fun k => by simp only [impl_SheetFits.j0, if_true]) (Ev.now _)
 | some q =>
  obtain ⟨r, i⟩ := q
  obtain ⟨hm, _⟩ := lookFrom_mem key _ _ _ _ hk
  obtain ⟨hl, ht⟩ := rules_types kind r hm
  change Ev (fun k => if (i : Int) < 0 then impl_SheetFits.j0 k ws true r.f0 r.f1 r.f2 r.f3 else impl_SheetFits.j0 k ws ((ws.length : Int) != (r.f1.length : Int)) r.f0 r.f1 r.f2 r.f3) _
  simp only [if_neg (show ¬ (i : Int) < 0 by omega)]
  by_cases he : ws.length = r.f1.length
  ·have hb : ((ws.length : Int) != (r.f1.length : Int)) = false := by simp [he]
   rw [hb]
   refine Ev.unf (fun k => impl_SheetFits.l0 k ws r.f1 r.f1.length ((0 : Nat) : Int)) (fun k => by simp only [impl_SheetFits.j0, Bool.false_eq_true, if_false]; rfl) ?_
   simp only [he, decide_true, Bool.true_and]
   exact fits_l0 r.f1 ws (by omega) he ht hw r.f1.length 0 (by omega)
  ·have hb : ((ws.length : Int) != (r.f1.length : Int)) = true := by simp; omega
   rw [hb]
   simp only [he, decide_false, Bool.false_and]
   exact Ev.unf (fun _ => some false) (fun k => by simp only [impl_SheetFits.j0, if_true]) (Ev.now _)
end Go.Proofs.YtmcdnpooclelgaaDoor.PAll
namespace Go.Proofs.YtmcdnpooclelgaaDoor.PAll
open Go.RowKit Go.Proofs.YtmcdnpooclelgaaDoorW.PrintWords Go.Proofs.YtmcdnpooclelgaaDoorW.PrintLast Go.Proofs.YtmcdnpooclelgaaDoorW.PrintMore
attribute [local go_sem] max2_int min2_int max_two min_two max_three min_three max_four min_four   -- for this text's walks alone
def laws_eqStringS.l0 : Nat → List ByteArray → List ByteArray → Int → Option (Bool)
 | 0, _, _, _ => none
 | k + 1, x0, x1, x5 => if x5 < (x0.length : Int) then (if 0 ≤ x5 then (if x5 < (x1.length : Int) then (if (rdOf ByteArray.empty x0 x5).toList = (rdOf ByteArray.empty x1 x5).toList then (laws_eqStringS.l0 k x0 x1 (wrap64 (x5 + 1))) else (some false)) else (none)) else (none)) else (some true)
def laws_eqStringS.f (k : Nat) (l0 : List ByteArray) (l1 : List ByteArray) : Option (Bool) := if (l0.length : Int) = (l1.length : Int) then (laws_eqStringS.l0 k l0 l1 0) else (some false)
set_option maxHeartbeats 8000000 in
set_option maxRecDepth 100000 in
theorem laws_eqStringS.calls (k : Nat) (A0 : Option Addr) (c0 : Nat) (l0 : List ByteArray) (A1 : Option Addr) (c1 : Nat) (l1 : List ByteArray) (r : Bool) (w : World) (hr0 : Kd.C Kd.string w A0 l0.length l0) (hc0 : l0.length ≤ c0) (hr1 : Kd.C Kd.string w A1 l1.length l1) (hc1 : l1.length ≤ c1) (h : laws_eqStringS.f k l0 l1 = some r) :
  Calls Tryd.prog 22 #[.slice A0 l0.length c0, .slice A1 l1.length c1] w fun e w' => e = .returned (.bool r) ∧ Drawn0 w w' := by
 have HR0 := Aside0.mk hr0
 have HC0 := Aside0.mk hc0
 clear hr0 hc0
 have HR1 := Aside0.mk hr1
 have HC1 := Aside0.mk hc1
 clear hr1 hc1
 have H : (if (l0.length : Int) = (l1.length : Int) then (laws_eqStringS.l0 k l0 l1 0) else (some false)) = some r := h
 clear h
 by_cases c3 : (l0.length : Int) = (l1.length : Int)
 ·rw [if_pos c3] at H
  have c3b0 : ((l0.length : Int) == (l1.length : Int)) = true := beq_iff_eq.mpr c3
  have c3b1 : ((l0.length : Int) != (l1.length : Int)) = false := bne_eq_false_iff_eq.mpr c3
  have c3b2 : (l0.length == l1.length) = true := by first | simpa using c3 | (simp at c3 ⊢; omega)
  clear c3
  have H' := Aside0.mk H
  clear H
  go_enter Tryd.func22, Tryd.ntmps22
  go_wp2
  repeat (go_quiet (fail); try go_wp2)
  go_loopg [5] k (fun kq v5 w' => ∃ (x5_1 : Int), v5 = .int .i64 x5_1 ∧ Aside0 (laws_eqStringS.l0 kq l0 l1 x5_1 = some r) ∧ Aside0 (kq ≤ k) ∧ Drawn0 w w')
  case atStart => exact ⟨(0), (by first | rfl | (simp; done) | (simp [*]; done)), H', ⟨Nat.le_refl _⟩, by repeat (first | exact Drawn0.refl _ | apply Drawn0.step)⟩
  case round =>
   clear H'
   try clear c1
   try clear c2
   try clear p2
   try clear c3
   try clear c3b0
   try clear c3b1
   try clear c3b2
   obtain ⟨x5_1, rfl, HA, HK1, ⟨m1, rfl⟩⟩ := hrel
   cases gk with
   | zero => exact absurd HA.out (by simp [laws_eqStringS.l0])
   | succ k1 =>
    have H := HA.out
    clear HA
    simp only [laws_eqStringS.l0] at H
    by_cases c4 : x5_1 < (l0.length : Int)
    ·rw [if_pos c4] at H
     have c4b0 : decide (x5_1 < (l0.length : Int)) = true := decide_eq_true c4
     clear c4
     by_cases c5 : 0 ≤ x5_1
     ·rw [if_pos c5] at H
      have c5b0 : decide (0 ≤ x5_1) = true := decide_eq_true c5
      clear c5
      by_cases c6 : x5_1 < (l1.length : Int)
      ·rw [if_pos c6] at H
       have c6b0 : decide (x5_1 < (l1.length : Int)) = true := decide_eq_true c6
       clear c6
       by_cases c7 : (rdOf ByteArray.empty l0 x5_1).toList = (rdOf ByteArray.empty l1 x5_1).toList
       ·rw [if_pos c7] at H
        have c7b0 : ((rdOf ByteArray.empty l0 x5_1).toList == (rdOf ByteArray.empty l1 x5_1).toList) = true := beq_iff_eq.mpr c7
        have c7b1 : ((rdOf ByteArray.empty l0 x5_1).toList != (rdOf ByteArray.empty l1 x5_1).toList) = false := bne_eq_false_iff_eq.mpr c7
        clear c7
        have H' := Aside0.mk H
        clear H
        have p197 : 0 ≤ (x5_1 : Int) := of_decide_eq_true (by first | (with_reducible assumption) | assumption)
        have q197 : x5_1 < (l0.length : Int) := of_decide_eq_true (by first | (with_reducible assumption) | assumption)
        obtain ⟨ad197, e197, hx197_0⟩ := Kd.at_string HR0.out x5_1 p197 q197
        cases e197
        replace p197 := eq_true p197
        replace q197 := eq_true q197
        have p198 : 0 ≤ (x5_1 : Int) := of_decide_eq_true (by first | (with_reducible assumption) | assumption)
        have q198 : x5_1 < (l1.length : Int) := of_decide_eq_true (by first | (with_reducible assumption) | assumption)
        obtain ⟨ad198, e198, hx198_0⟩ := Kd.at_string HR1.out x5_1 p198 q198
        cases e198
        replace p198 := eq_true p198
        replace q198 := eq_true q198
        go_wp2
        repeat (go_quiet (fail); try go_wp2)
        go_roundg k1
        case measure => have := HK1.out; omega
        case rel => exact ⟨(wrap64 (x5_1 + 1)), (by first | rfl | (simp; done) | (simp [*]; done)), H', ⟨by have := HK1.out; omega⟩, by repeat (first | exact Drawn0.refl _ | apply Drawn0.step)⟩
       ·rw [if_neg c7] at H
        have c7b0 : ((rdOf ByteArray.empty l0 x5_1).toList == (rdOf ByteArray.empty l1 x5_1).toList) = false := beq_eq_false_iff_ne.mpr c7
        have c7b1 : ((rdOf ByteArray.empty l0 x5_1).toList != (rdOf ByteArray.empty l1 x5_1).toList) = true := bne_iff_ne.mpr c7
        obtain rfl := Option.some.inj H
        have p197 : 0 ≤ (x5_1 : Int) := of_decide_eq_true (by first | (with_reducible assumption) | assumption)
        have q197 : x5_1 < (l0.length : Int) := of_decide_eq_true (by first | (with_reducible assumption) | assumption)
        obtain ⟨ad197, e197, hx197_0⟩ := Kd.at_string HR0.out x5_1 p197 q197
        cases e197
        replace p197 := eq_true p197
        replace q197 := eq_true q197
        have p198 : 0 ≤ (x5_1 : Int) := of_decide_eq_true (by first | (with_reducible assumption) | assumption)
        have q198 : x5_1 < (l1.length : Int) := of_decide_eq_true (by first | (with_reducible assumption) | assumption)
        obtain ⟨ad198, e198, hx198_0⟩ := Kd.at_string HR1.out x5_1 p198 q198
        cases e198
        replace p198 := eq_true p198
        replace q198 := eq_true q198
        go_wp2
        repeat (go_quiet (fail); try go_wp2)
        go_ret
        exact ⟨by first | rfl | (simp; done) | (simp [*]; done), by repeat (first | exact Drawn0.refl _ | apply Drawn0.step)⟩
      ·rw [if_neg c6] at H
       exact absurd H (by simp)
     ·rw [if_neg c5] at H
      exact absurd H (by simp)
    ·rw [if_neg c4] at H
     have c4b0 : decide (x5_1 < (l0.length : Int)) = false := decide_eq_false c4
     clear c4
     obtain rfl := Option.some.inj H
     go_wp2
     repeat (go_quiet (fail); try go_wp2)
     go_ret
     exact ⟨by first | rfl | (simp; done) | (simp [*]; done), by repeat (first | exact Drawn0.refl _ | apply Drawn0.step)⟩
 ·rw [if_neg c3] at H
  have c3b0 : ((l0.length : Int) == (l1.length : Int)) = false := beq_eq_false_iff_ne.mpr c3
  have c3b1 : ((l0.length : Int) != (l1.length : Int)) = true := bne_iff_ne.mpr c3
  have c3b2 : (l0.length == l1.length) = false := by first | simpa using c3 | (simp at c3 ⊢; omega)
  obtain rfl := Option.some.inj H
  go_enter Tryd.func22, Tryd.ntmps22
  go_wp2
  repeat (go_quiet (fail); try go_wp2)
  go_ret
  exact ⟨by first | rfl | (simp; done) | (simp [*]; done), by repeat (first | exact Drawn0.refl _ | apply Drawn0.step)⟩
def laws_szStringS.l0 : Nat → List ByteArray → Int → Int → Option (Int)
 | 0, _, _, _ => none
 | k + 1, x0, x1, x5 => if x5 < (x0.length : Int) then (if 0 ≤ x5 then (if (wrap64 (x1 - ((rdOf ByteArray.empty x0 x5).size : Int))) < 0 then (some (-1)) else (laws_szStringS.l0 k x0 (wrap64 (x1 - ((rdOf ByteArray.empty x0 x5).size : Int))) (wrap64 (x5 + 1)))) else (none)) else (some x1)
def laws_szStringS.f (k : Nat) (l0 : List ByteArray) (a1 : Int) : Option (Int) := if (wrap64 (a1 - (l0.length : Int))) < 0 then (some (-1)) else (laws_szStringS.l0 k l0 (wrap64 (a1 - (l0.length : Int))) 0)
set_option maxHeartbeats 8000000 in
set_option maxRecDepth 100000 in
theorem laws_szStringS.calls (k : Nat) (A0 : Option Addr) (c0 : Nat) (l0 : List ByteArray) (a1 : Int) (r : Int) (w : World) (hr0 : Kd.C Kd.string w A0 l0.length l0) (hc0 : l0.length ≤ c0) (h : laws_szStringS.f k l0 a1 = some r) :
  Calls Tryd.prog 18 #[.slice A0 l0.length c0, .int .i64 a1] w fun e w' => e = .returned (.int .i64 r) ∧ Drawn0 w w' := by
 have HR0 := Aside0.mk hr0
 have HC0 := Aside0.mk hc0
 clear hr0 hc0
 have H : (if (wrap64 (a1 - (l0.length : Int))) < 0 then (some (-1)) else (laws_szStringS.l0 k l0 (wrap64 (a1 - (l0.length : Int))) 0)) = some r := h
 clear h
 by_cases c3 : (wrap64 (a1 - (l0.length : Int))) < 0
 ·rw [if_pos c3] at H
  have c3b0 : decide ((wrap64 (a1 - (l0.length : Int))) < 0) = true := decide_eq_true c3
  clear c3
  obtain rfl := Option.some.inj H
  go_enter Tryd.func18, Tryd.ntmps18
  go_wp2
  go_ret
  exact ⟨by first | rfl | (simp; done) | (simp [*]; done), by repeat (first | exact Drawn0.refl _ | apply Drawn0.step)⟩
 ·rw [if_neg c3] at H
  have c3b0 : decide ((wrap64 (a1 - (l0.length : Int))) < 0) = false := decide_eq_false c3
  clear c3
  have H' := Aside0.mk H
  clear H
  go_enter Tryd.func18, Tryd.ntmps18
  go_wp2
  go_loopg [1, 5] k (fun kq v1 v5 w' => ∃ (x1_1 : Int) (x5_1 : Int), v1 = .int .i64 x1_1 ∧ v5 = .int .i64 x5_1 ∧ Aside0 (laws_szStringS.l0 kq l0 x1_1 x5_1 = some r) ∧ Aside0 (kq ≤ k) ∧ Drawn0 w w')
  case atStart => exact ⟨(wrap64 (a1 - (l0.length : Int))), (0), (by first | rfl | (simp; done) | (simp [*]; done)), (by first | rfl | (simp; done) | (simp [*]; done)), H', ⟨Nat.le_refl _⟩, by repeat (first | exact Drawn0.refl _ | apply Drawn0.step)⟩
  case round =>
   clear H'
   try clear c1
   try clear p2
   try clear c3
   try clear c3b0
   obtain ⟨x1_1, x5_1, rfl, rfl, HA, HK1, ⟨m1, rfl⟩⟩ := hrel
   cases gk with
   | zero => exact absurd HA.out (by simp [laws_szStringS.l0])
   | succ k1 =>
    have H := HA.out
    clear HA
    simp only [laws_szStringS.l0] at H
    by_cases c4 : x5_1 < (l0.length : Int)
    ·rw [if_pos c4] at H
     have c4b0 : decide (x5_1 < (l0.length : Int)) = true := decide_eq_true c4
     clear c4
     by_cases c5 : 0 ≤ x5_1
     ·rw [if_pos c5] at H
      have c5b0 : decide (0 ≤ x5_1) = true := decide_eq_true c5
      clear c5
      by_cases c6 : (wrap64 (x1_1 - ((rdOf ByteArray.empty l0 x5_1).size : Int))) < 0
      ·rw [if_pos c6] at H
       have c6b0 : decide ((wrap64 (x1_1 - ((rdOf ByteArray.empty l0 x5_1).size : Int))) < 0) = true := decide_eq_true c6
       clear c6
       obtain rfl := Option.some.inj H
       have p232 : 0 ≤ (x5_1 : Int) := of_decide_eq_true (by first | (with_reducible assumption) | assumption)
       have q232 : x5_1 < (l0.length : Int) := of_decide_eq_true (by first | (with_reducible assumption) | assumption)
       obtain ⟨ad232, e232, hx232_0⟩ := Kd.at_string HR0.out x5_1 p232 q232
       cases e232
       replace p232 := eq_true p232
       replace q232 := eq_true q232
       go_wp2
       go_ret
       exact ⟨by first | rfl | (simp; done) | (simp [*]; done), by repeat (first | exact Drawn0.refl _ | apply Drawn0.step)⟩
      ·rw [if_neg c6] at H
       have c6b0 : decide ((wrap64 (x1_1 - ((rdOf ByteArray.empty l0 x5_1).size : Int))) < 0) = false := decide_eq_false c6
       clear c6
       have H' := Aside0.mk H
       clear H
       have p232 : 0 ≤ (x5_1 : Int) := of_decide_eq_true (by first | (with_reducible assumption) | assumption)
       have q232 : x5_1 < (l0.length : Int) := of_decide_eq_true (by first | (with_reducible assumption) | assumption)
       obtain ⟨ad232, e232, hx232_0⟩ := Kd.at_string HR0.out x5_1 p232 q232
       cases e232
       replace p232 := eq_true p232
       replace q232 := eq_true q232
       go_wp2
       go_roundg k1
       case measure => have := HK1.out; omega
       case rel => exact ⟨(wrap64 (x1_1 - ((rdOf ByteArray.empty l0 x5_1).size : Int))), (wrap64 (x5_1 + 1)), (by first | rfl | (simp; done) | (simp [*]; done)), (by first | rfl | (simp; done) | (simp [*]; done)), H', ⟨by have := HK1.out; omega⟩, by repeat (first | exact Drawn0.refl _ | apply Drawn0.step)⟩
     ·rw [if_neg c5] at H
      exact absurd H (by simp)
    ·rw [if_neg c4] at H
     have c4b0 : decide (x5_1 < (l0.length : Int)) = false := decide_eq_false c4
     clear c4
     obtain rfl := Option.some.inj H
     go_wp2
     go_ret
     exact ⟨by first | rfl | (simp; done) | (simp [*]; done), by repeat (first | exact Drawn0.refl _ | apply Drawn0.step)⟩
def laws_toStringS.l0 : Nat → List ByteArray → List ByteArray → Int → Option (List ByteArray)
 | 0, _, _, _ => none
 | k + 1, x0, x3, x4 => if x4 < (x0.length : Int) then (if 0 ≤ x4 then (if x4 < (x3.length : Int) then (laws_toStringS.l0 k x0 (x3.set (x4 : Int).toNat (rdOf ByteArray.empty x0 x4)) (wrap64 (x4 + 1))) else (none)) else (none)) else (some x3)
def laws_toStringS.f (k : Nat) (l0 : List ByteArray) : Option (List ByteArray) := if 0 ≤ (l0.length : Int) then (if ((l0.length : Int) : Int).toNat ≤ 17592186044416 then (laws_toStringS.l0 k l0 (List.replicate ((l0.length : Int) : Int).toNat (⟨#[]⟩ : ByteArray)) 0) else (none)) else (none)
set_option maxHeartbeats 8000000 in
set_option maxRecDepth 100000 in
theorem laws_toStringS.calls (k : Nat) (A0 : Option Addr) (c0 : Nat) (l0 : List ByteArray) (r : List ByteArray) (w : World) (hr0 : Kd.C Kd.string w A0 l0.length l0) (hc0 : l0.length ≤ c0) (h : laws_toStringS.f k l0 = some r) :
  Calls Tryd.prog 20 #[.slice A0 l0.length c0] w fun e w' => ∃ v0_ : Value, e = .returned (v0_) ∧ Kd.R Kd.string 9 w' w.heap.size (fun _ => True) v0_ r ∧ Below w.heap.size w w' := by
 have HR0 := Aside0.mk hr0
 have HC0 := Aside0.mk hc0
 clear hr0 hc0
 have HB := Aside0.mk (Below.refl w.heap.size w)
 have H : (if 0 ≤ (l0.length : Int) then (if ((l0.length : Int) : Int).toNat ≤ 17592186044416 then (laws_toStringS.l0 k l0 (List.replicate ((l0.length : Int) : Int).toNat (⟨#[]⟩ : ByteArray)) 0) else (none)) else (none)) = some r := h
 clear h
 by_cases c2 : 0 ≤ (l0.length : Int)
 ·rw [if_pos c2] at H
  have c2b0 := eq_true c2
  have c2b1 : decide (0 ≤ (l0.length : Int)) = true := decide_eq_true c2
  clear c2
  by_cases c3 : ((l0.length : Int) : Int).toNat ≤ 17592186044416
  ·rw [if_pos c3] at H
   have c3b0 := eq_true c3
   have c3b1 : decide (((l0.length : Int) : Int).toNat ≤ 17592186044416) = true := decide_eq_true c3
   clear c3
   obtain ⟨y233, hy233⟩ : ∃ y_ : List ByteArray, y_ = (List.replicate ((l0.length : Int) : Int).toNat (⟨#[]⟩ : ByteArray)) := ⟨_, rfl⟩
   replace H : (laws_toStringS.l0 k l0 y233 0) = some r := by first | (rw [hy233]; with_reducible exact H) | (have H2_ := (Option.bind_some _ _).symm.trans H; rw [hy233]; with_reducible exact H2_) | (have H2_ := (Option.bind_some _ _).symm.trans H; with_reducible exact H2_) | with_reducible exact H | (rw [hy233]; exact H) | exact H
   have Ny233 := Aside0.mk hy233
   clear hy233
   have H' := Aside0.mk H
   clear H
   go_enter Tryd.func20, Tryd.ntmps20
   go_wp2_with (first | ((with_reducible refine gate_dst (N := 7) rfl ?_); refine Kd.R_make Kd.string _ 9 rfl (N := 7) rfl 27 _ _ rfl (l0.length : Int) rfl rfl Tryd.underlying27 (.string ⟨#[]⟩) 16 info9 rfl (by decide) (by omega) (⟨#[]⟩ : ByteArray) (ok := fun _ => True) (okp := fun _ => True) rfl (fun _ hk => hk) trivial (of_decide_eq_true (by first | (with_reducible assumption) | assumption)) (Nat.le_trans (Nat.mul_le_mul_right _ (of_decide_eq_true (by first | (with_reducible assumption) | assumption) : (l0.length : Int).toNat ≤ 17592186044416)) (by omega)) (Below.refl _ _) (Nat.le_refl _) ?_; intro v234 w4 ho5 hb hg_ hnew_; clear hg_ hnew_; (first | rw [← Ny233.out] at ho5 | (simp only [Int.reduceToNat] at ho5; rw [← Ny233.out] at ho5)); have n0_ := Aside0.mk (Kd.R_lower ho5 (below_size (stB HB.out))); have n1_ := Aside0.mk (below_step (stB HB.out) hb); clear HB; have HO235 := n0_; have HB := n1_; clear n0_ n1_; clear hb ho5))
   go_loopg [4] k (fun kq v4 w' => ∃ (x3_1 : List ByteArray) (x4_1 : Int), v4 = .int .i64 x4_1 ∧ Aside0 (laws_toStringS.l0 kq l0 x3_1 x4_1 = some r) ∧ Aside0 (kq ≤ k) ∧ Aside0 (Kd.R Kd.string 9 w' w.heap.size (fun _ => True) v234 x3_1) ∧ Aside0 (Below w.heap.size w w'))
   case atStart => exact ⟨(y233), (0), (by first | rfl | (simp; done) | (simp [*]; done)), H', ⟨Nat.le_refl _⟩, ⟨by (with_reducible repeat (first | apply Kd.R_alloc | apply Kd.R_drewN | apply Kd.R_drew)); exact HO235.out⟩, ⟨by repeat (first | (with_reducible first | exact HB.out | apply below_alloc | apply pw_below_drewN | apply below_drew1) | exact HB.out)⟩⟩
   case round =>
    clear H'
    try clear c2
    try clear c2b0
    try clear c2b1
    try clear p2
    try clear c3
    try clear c3b0
    try clear c3b1
    obtain ⟨x3_1, x4_1, rfl, HA, HK1, HO_3, HB⟩ := hrel
    cases gk with
    | zero => exact absurd HA.out (by simp [laws_toStringS.l0])
    | succ k1 =>
     have H := HA.out
     clear HA
     simp only [laws_toStringS.l0] at H
     by_cases c6 : x4_1 < (l0.length : Int)
     ·rw [if_pos c6] at H
      have c6b0 : decide (x4_1 < (l0.length : Int)) = true := decide_eq_true c6
      clear c6
      by_cases c7 : 0 ≤ x4_1
      ·rw [if_pos c7] at H
       have c7b0 : decide (0 ≤ x4_1) = true := decide_eq_true c7
       clear c7
       by_cases c8 : x4_1 < (x3_1.length : Int)
       ·rw [if_pos c8] at H
        have c8b0 : decide (x4_1 < (x3_1.length : Int)) = true := decide_eq_true c8
        clear c8
        obtain ⟨y237, hy237⟩ : ∃ y_ : List ByteArray, y_ = (x3_1.set (x4_1 : Int).toNat (rdOf ByteArray.empty l0 x4_1)) := ⟨_, rfl⟩
        replace H : (laws_toStringS.l0 k1 l0 y237 (wrap64 (x4_1 + 1))) = some r := by first | (rw [hy237]; with_reducible exact H) | (have H2_ := (Option.bind_some _ _).symm.trans H; rw [hy237]; with_reducible exact H2_) | (have H2_ := (Option.bind_some _ _).symm.trans H; with_reducible exact H2_) | with_reducible exact H | (rw [hy237]; exact H) | exact H
        have Ny237 := Aside0.mk hy237
        clear hy237
        have H' := Aside0.mk H
        clear H
        have p236 : 0 ≤ (x4_1 : Int) := of_decide_eq_true (by first | (with_reducible assumption) | assumption)
        have q236 : x4_1 < (l0.length : Int) := of_decide_eq_true (by first | (with_reducible assumption) | assumption)
        obtain ⟨ad236, e236, hx236_0⟩ := Kd.at_string HR0.out x4_1 p236 q236
        cases e236
        (try replace hx236_0 := (HB.out.cell (World.block_lt_of_cell? w _ hx236_0)).trans hx236_0)
        replace p236 := eq_true p236
        replace q236 := eq_true q236
        have p9 : 0 ≤ (x4_1 : Int) := of_decide_eq_true (by first | (with_reducible assumption) | assumption)
        have q9 : (x4_1 : Int) < ((x3_1.length : Int) : Int) := of_decide_eq_true (by first | (with_reducible assumption) | assumption)
        obtain ⟨go9, co9, eo9, gb9, gl9, cl9, HG9⟩ := Kd.R_form HO_3.out (by omega)
        (first | cases eo9 | (injection eo9 with ea_ en_ ec_; (first | subst ea_ | (injection ea_ with ea_; subst ea_)); subst ec_; clear en_))
        have GB9 := Aside0.mk gb9
        have GG9 := Aside0.mk HG9
        clear gb9 gl9 HG9
        obtain ⟨hx9_0, hf9_0⟩ := Kd.R_celln (⟨#[]⟩ : ByteArray) HO_3.out (x4_1 : Int) p9 q9
        replace p9 := eq_true p9
        replace q9 := eq_true q9
        have HP10 := Kd.R_putg HO_3.out (x4_1 : Int) (rdOf ByteArray.empty l0 x4_1)
        go_wp2_with (first | ((with_reducible refine gate_store (t := 9) (p := 20) rfl ?_); refine store_event (t := 9) (p := 20) (v := ?vo_w11) (w1 := (wr.setCell ⟨go9, (x4_1 : Int).toNat, none⟩ (.string (rdOf ByteArray.empty l0 x4_1)))) ?hg ?ho ?hn ?hr ?_; (case ho => rfl); (case hg => rfl); (case hn => rfl); (case hr => first | (go_simp; done) | (go_simp; rfl)); intro w11 hw; have hg : wr.grownBy w11 (some go9) := (by rw [hw]; exact HP10.2); have hp_ : Kd.R Kd.string 9 w11 w.heap.size (fun _ => True) (.slice (some ⟨go9, 0, none⟩) x3_1.length co9) y237 := (by rw [hw, Ny237.out]; exact HP10.1); clear HP10; have n0_ := Aside0.mk (hp_); have n1_ := Aside0.mk ((by rw [hw]; exact below_set (HB.out) GB9.out : Below w.heap.size w w11)); clear HO_3; clear HB; have HO_3 := n0_; have HB := n1_; clear n0_ n1_; clear hg hw hp_))
        go_roundg k1
        case measure => have := HK1.out; omega
        case rel => exact ⟨(y237), (wrap64 (x4_1 + 1)), (by first | rfl | (simp; done) | (simp [*]; done)), H', ⟨by have := HK1.out; omega⟩, ⟨by (with_reducible repeat (first | apply Kd.R_alloc | apply Kd.R_drewN | apply Kd.R_drew)); exact HO_3.out⟩, ⟨by repeat (first | (with_reducible first | exact HB.out | apply below_alloc | apply pw_below_drewN | apply below_drew1) | exact HB.out)⟩⟩
       ·rw [if_neg c8] at H
        exact absurd H (by simp)
      ·rw [if_neg c7] at H
       exact absurd H (by simp)
     ·rw [if_neg c6] at H
      have c6b0 : decide (x4_1 < (l0.length : Int)) = false := decide_eq_false c6
      clear c6
      obtain rfl := Option.some.inj H
      go_wp2
      go_ret
      exact ⟨_, by first | rfl | (simp [errW_none, errW_some] <;> rfl) | (simp [*, errW_none, errW_some] <;> rfl), by (with_reducible repeat (first | apply Kd.R_alloc | apply Kd.R_drewN | apply Kd.R_drew)); exact HO_3.out, by repeat (first | (with_reducible first | exact HB.out | apply below_alloc | apply pw_below_drewN | apply below_drew1) | exact HB.out)⟩
  ·rw [if_neg c3] at H
   exact absurd H (by simp)
 ·rw [if_neg c2] at H
  exact absurd H (by simp)
end Go.Proofs.YtmcdnpooclelgaaDoor.PAll
namespace Go.Proofs.YtmcdnpooclelgaaDoor.PAll
open Go.RowKit Go.Proofs.YtmcdnpooclelgaaDoorW.PrintWords
set_option maxRecDepth 100000 in
set_option maxHeartbeats 2000000 in
theorem specFits_any (kind key : ByteArray) (A : Option Addr) (c : Nat) (ws : List ByteArray) (w : World) (hr : Kd.C Kd.string w A ws.length ws) :
  Calls Tryd.prog 19 #[.string kind, .string key, .slice A ws.length c] w fun e w' => e = .returned (.bool (fitsL kind key ws)) ∧ Below w.heap.size w w' := by
 obtain ⟨K1, hk1⟩ := ev_l2Rule kind key
 have hlen := rulesL_len kind
 have HR := Aside0.mk hr
 have hwl : ws.length ≤ 9223372036854775807 := hr.2.1
 clear hr
 have HK1 := Aside0.mk (hk1 K1 (Nat.le_refl _))
 clear hk1
 cases hk : lookL kind key with
 | none =>
  have HF : Aside0 (fitsL kind key ws = false) := ⟨by unfold fitsL; rw [hk]⟩
  have HP : Aside0 (placeL kind key = -1) := ⟨by unfold placeL; rw [hk]⟩
  clear hk
  go_enter Tryd.func19, Tryd.ntmps19
  go_wp2_with fail
  refine (spec_l2Rule.calls K1 kind key _ _ HK1.out).mono ?_
  rw [HP.out]
  rintro e w1 ⟨rfl, hb1⟩
  go_wp2
  go_ret
  exact ⟨retB HF.out.symm, hb1⟩
 | some q =>
  obtain ⟨r, i⟩ := q
  obtain ⟨hm, _, _, hget⟩ := lookFrom_mem key _ _ _ _ hk
  obtain ⟨hl3, ht⟩ := rules_types kind r hm
  have hil : i < (rulesL kind).length := by have := (List.getElem?_eq_some_iff.1 hget).1; omega
  have HF : Aside0 (fitsL kind key ws = (decide (ws.length = r.f1.length) && fitsAll r.f1 ws)) := ⟨by unfold fitsL; rw [hk]⟩
  have HP : Aside0 (placeL kind key = (i : Int)) := ⟨by unfold placeL; rw [hk]⟩
  have HG : Aside0 (rd_T36 (rulesL kind) (i : Int) = r) := ⟨by unfold rd_T36; rw [List.getD_eq_getElem?_getD, Int.toNat_natCast, show (rulesL kind)[i]? = some r by simpa using hget]; rfl⟩
  clear hk hget hm
  go_enter Tryd.func19, Tryd.ntmps19
  go_wp2_with fail
  refine (spec_l2Rule.calls K1 kind key _ _ HK1.out).mono ?_
  rw [HP.out]
  rintro e w1 ⟨rfl, hb1⟩
  go_wp2_with fail
  refine (spec_SheetRules.calls kind _ _ rfl).mono ?_
  rintro e w2 ⟨v, rfl, ho, hb2⟩
  obtain ⟨A2, c2, rfl, _, hC⟩ := Kd.R_reads ho
  generalize rulesL kind = rs at *
  obtain ⟨ad, A1, c1, A3, c3, rfl, hx0, hx1, hx2, hx3, hl1, hC1, hl3', hC3⟩ := at_T36 hC (i : Int) (by omega) (by omega)
  rw [HG.out, Int.toNat_natCast] at hx1
  rw [HG.out] at hl1 hC1
  have HC1 := Aside0.mk hC1
  have B2 := Aside0.mk (hb1.trans (hb2.mono hb1.size))
  clear hC1 hC3 hx0 hx2 hx3 hl3' hl1 ho hb1 hb2 hC
  obtain ⟨ts, hts⟩ : ∃ ts, ts = r.f1 := ⟨_, rfl⟩
  rw [← hts] at hx1 HC1 hl3 ht HF
  have HT := Aside0.mk ht
  clear ht hts HG HK1 HP
  by_cases he : ws.length = ts.length
  ·have e1 : ((ts.length : Int) != (ws.length : Int)) = false := by simp [he]
   have e2 : (ts.length != ws.length) = false := by simp [he]
   have HE := Lib.hid he
   clear he
   go_wp2
   go_loopw [9] (fun v wr => ∃ k : Nat, v = .int .i64 k ∧ k ≤ ts.length ∧ Below w.heap.size w wr ∧ Aside0 (Below w2.heap.size w2 wr) ∧ Aside0 (fitsAll ts ws = fitsAll (ts.drop k) (ws.drop k))) (fun v _ => ts.length - (intOf v).toNat)
   case atStart => exact ⟨0, rfl, Nat.zero_le _, B2.out, ⟨Below.refl _ _⟩, ⟨rfl⟩⟩
   case round =>
    obtain ⟨k, rfl, hk, hB, hB2, hf⟩ := hrel
    by_cases hlt : k < ts.length
    ·have hlt2 : k < ws.length := by rw [HE.out]; exact hlt
     have i1 : (k : Int) < (ws.length : Int) := by omega
     have hB3 := hB2.out
     obtain ⟨ad1, rfl, hc1⟩ := Kd.at_int (Kd.C_below HC1.out hB3) (k : Int) (by omega) (by omega)
     obtain ⟨ad2, rfl, hc2⟩ := Kd.at_string (Kd.C_below (Kd.C_below HR.out B2.out) hB3) (k : Int) (by omega) (by omega)
     rw [Int.toNat_natCast] at hc1 hc2
     have g1 : rd ts (k : Int) = ts[k] := by unfold rd; rw [List.getD_eq_getElem?_getD, Int.toNat_natCast, List.getElem?_eq_getElem hlt]; rfl
     have g2 : rdOf ByteArray.empty ws (k : Int) = ws[k] := by unfold rdOf; rw [List.getD_eq_getElem?_getD, Int.toNat_natCast, List.getElem?_eq_getElem hlt2]; rfl
     rw [g1] at hc1
     rw [g2] at hc2
     have hT := HT.out _ (List.getElem_mem hlt)
     have hstep := hf.out
     rw [List.drop_eq_getElem_cons hlt, List.drop_eq_getElem_cons hlt2] at hstep
     simp only [fitsAll] at hstep
     generalize ts[k] = t at *
     generalize ws[k] = x at *
     obtain ⟨K2, hk2⟩ := ev_l2Fits t x hT.1 hT.2
     have HK2 := Aside0.mk (hk2 K2 (Nat.le_refl _))
     clear hk2 g1 g2 hf hT
     cases hb : fitsP t x
     all_goals
      rw [hb] at hstep HK2
      have hstep := Aside0.mk hstep
      rename_i hstep0
      clear hstep0 hb
      go_wp2_with fail
      go_region_held3 (fun w' => w'.cell? (ad1.add k) = some (.int .i64 t) ∧ w'.cell? (ad2.add k) = some (.string x)) (first | go_keep | exact ⟨pw_cell_below hbl (by simpa using hc1), pw_cell_below hbl (by simpa using hc2)⟩) (first | (go_at_call 63; refine (spec_l2Fits.calls K2 t x _ _ HK2.out).mono ?_; rintro e w3 ⟨rfl, hbl⟩))
      have hBn : Below w.heap.size w w3 := (below_drew hB).trans (hbl.mono hB.size)
     ·have HF2 : Aside0 (fitsL kind key ws = false) := ⟨by rw [HF.out, hstep.out]; simp⟩
      go_wp2
      go_ret
      exact ⟨retB HF2.out.symm, hBn⟩
     ·have hBm := Aside0.mk ((below_drew hB3).trans (hbl.mono hB3.size))
      have hS : Aside0 (fitsAll ts ws = fitsAll (ts.drop (k + 1)) (ws.drop (k + 1))) := ⟨by rw [hstep.out, Bool.true_and]⟩
      go_wp2
      go_roundw
      case rel => exact ⟨k + 1, by go_num, hlt, hBn, hBm, hS⟩
      case measure => simp [intOf]; omega
    ·obtain rfl : k = ts.length := by omega
     have HF2 : Aside0 (fitsL kind key ws = true) := ⟨by rw [HF.out, hf.out, List.drop_length, HE.out]; simp [fitsAll]⟩
     go_wp2
     go_ret
     exact ⟨retB HF2.out.symm, hB⟩
  ·have e1 : ((ts.length : Int) != (ws.length : Int)) = true := by simp; omega
   have e2 : (ts.length != ws.length) = true := by simp; omega
   have HF2 : Aside0 (fitsL kind key ws = false) := ⟨by rw [HF.out, decide_eq_false he]; rfl⟩
   clear he
   go_wp2
   go_ret
   exact ⟨retB HF2.out.symm, B2.out⟩
def spec_SheetFits.f (a0 a1 : ByteArray) (l2 : List ByteArray) : Option Bool := some (fitsL a0 a1 l2)
theorem spec_SheetFits.calls (a0 a1 : ByteArray) (A2 : Option Addr) (c2 : Nat) (l2 : List ByteArray) (r : Bool) (w : World) (hr2 : Kd.C Kd.string w A2 l2.length l2) (_hc2 : l2.length ≤ c2) (h : spec_SheetFits.f a0 a1 l2 = some r) :
  Calls Tryd.prog 19 #[.string a0, .string a1, .slice A2 l2.length c2] w fun e w' => e = .returned (.bool r) ∧ Below w.heap.size w w' := by
 obtain rfl := Option.some.inj h
 exact specFits_any a0 a1 A2 c2 l2 w hr2
end Go.Proofs.YtmcdnpooclelgaaDoor.PAll
namespace Go.Proofs.YtmcdnpooclelgaaDoor.PAll
open Go.ChangeShapes Go.WideShapes Go.Deep
open Go.RowKit Go.Proofs.YtmcdnpooclelgaaDoorW.PrintWords
def Opens {α : Type} (t : TypeId) (d : Kd α) (B : α → Prop) : Prop := ∀ (H : Type) (enc : TypeId × Value → H) (w : World) (base : Nat) (sp : Nat → Bool) (held : Bool) (fuel : Nat) (cs : List Value) (x : DataW H × List MemPlace), DataW.trod enc Tryd.prog w base sp held fuel t cs = some x → ∃ y, d.K w y cs ∧ B y
theorem list_choose {α : Type} (p : Nat → α → Prop) : ∀ n, (∀ i, i < n → ∃ y, p i y) → ∃ ys : List α, ys.length = n ∧ ∀ i y, ys[i]? = some y → p i y
 | 0, _ => ⟨[], rfl, by simp⟩
 | k + 1, each => by
  obtain ⟨ys, hl, hys⟩ := list_choose p k (fun i hi => each i (by omega))
  obtain ⟨y, hy⟩ := each k (by omega)
  refine ⟨ys ++ [y], by simp [hl], fun i z hz => ?_⟩
  rcases Nat.lt_trichotomy i k with hi | hi | hi
  ·rw [List.getElem?_append_left (by omega)] at hz; exact hys i z hz
  ·subst hi
   rw [List.getElem?_append_right (by omega), hl, Nat.sub_self] at hz
   injection hz with hz
   subst hz
   exact hy
  ·rw [List.getElem?_eq_none (by simp; omega)] at hz; cases hz
theorem opens_str : Opens 9 Kd.string (fun s => s.size ≤ 9223372036854775807) := by
 intro H enc w base sp held fuel cs x h
 obtain ⟨s, rfl, _, hs⟩ := DataW.trod_string Tryd.underlying9 h
 exact ⟨s, rfl, hs⟩
theorem opens_slice {α : Type} {t e : TypeId} {d : Kd α} {B : α → Prop} (ht : Tryd.prog.underlying t = some (.slice e)) (hc : Tryd.prog.cellsOf e = d.sz) (h : Opens e d B) : Opens t (Kd.slice e d) (fun ys => ∀ y ∈ ys, B y) := by
 intro H enc w base sp held fuel cs x hx
 rcases open_slice ht hx with ⟨rfl, _⟩ | ⟨a, len, cap, m, n, D, Pl, rfl, _, hl, hm, hmm, _, hel⟩
 ·exact ⟨[], ⟨none, 0, rfl, Nat.le_refl _, Kd.C_nil d w⟩, by simp⟩
 ·have hlm : len ≤ m := by rw [hmm]; split <;> omega
  have each : ∀ i, i < len → ∃ y : α, (∃ c, c.length = d.sz ∧ d.K w y c ∧ ∀ j u, c[j]? = some u → w.cell? (a.add (i * d.sz + j)) = some u) ∧ B y := by
   intro i hi
   obtain ⟨cs', h1, h2⟩ := hel i (by omega)
   obtain ⟨y, hK, hB⟩ := h H enc w base sp held n cs' _ h2
   rw [hc] at h1
   obtain ⟨_, hlen, hcell⟩ := World.cells?_some h1
   refine ⟨y, ⟨cs', hlen, hK, fun j u hj => ?_⟩, hB⟩
   have hjl := (List.getElem?_eq_some_iff.1 hj).1
   have e1 := hcell j (by omega)
   rw [Go.Deep.add_add] at e1
   rw [e1]
   exact hj
  have hlm2 : len ≤ 9223372036854775807 := by unfold maxLen at hm; omega
  obtain ⟨ys, hyl, hys⟩ := list_choose _ len each
  subst hyl
  refine ⟨ys, ⟨some a, cap, rfl, hl, rfl, hlm2, fun _ => ⟨a, rfl, fun j p hj => ?_⟩⟩, fun y hy => ?_⟩
  ·obtain ⟨⟨c, h1, h2, h3⟩, _⟩ := hys j p hj
   exact ⟨c, h1, h2, h3⟩
  ·obtain ⟨i, hi⟩ := List.getElem?_of_mem hy
   exact (hys i y hi).2
def BS (ss : List ByteArray) : Prop := ∀ s ∈ ss, s.size ≤ 9223372036854775807
theorem opens_strs : Opens 27 (Kd.slice 9 Kd.string) BS := opens_slice Tryd.underlying27 (by kernel_rfl) opens_str
def BL (x : S155) : Prop := x.f0.size ≤ 9223372036854775807 ∧ BS x.f1
set_option maxRecDepth 100000 in
theorem opens_line : Opens 155 k155 BL := by
 intro H enc w base sp held fuel cs x h
 obtain ⟨y0, y1, n, _, hl, h0, h1⟩ := trod_struct2 Tryd.underlying155 h
 have c0 : Tryd.prog.cellsOf 9 = 1 := by kernel_rfl
 have c1 : Tryd.prog.cellsOf 27 = 1 := by kernel_rfl
 have hl2 : cs.length = 2 := hl.trans (by kernel_rfl)
 match cs, hl2 with
 | [a, b], _ =>
  simp only [c0, c1] at h0 h1
  obtain ⟨s, hs, hb⟩ := opens_str H enc w base sp held n _ _ h0
  obtain ⟨ss, hss, hbs⟩ := opens_strs H enc w base sp held n _ _ h1
  exact ⟨⟨s, ss⟩, ⟨[a], [b], rfl, hs, hss⟩, hb, hbs⟩
def BLs (xs : List S155) : Prop := ∀ x ∈ xs, BL x
theorem opens_lines : Opens 126 (Kd.slice 155 k155) BLs := opens_slice Tryd.underlying126 (by kernel_rfl) opens_line
def BB (x : S128) : Prop := x.f0.size ≤ 9223372036854775807 ∧ x.f1.size ≤ 9223372036854775807 ∧ BLs x.f2
set_option maxRecDepth 100000 in
theorem opens_block : Opens 128 k128 BB := by
 intro H enc w base sp held fuel cs x h
 obtain ⟨y0, y1, y2, n, _, hl, h0, h1, h2⟩ := Go.Deep.trod_struct3 Tryd.underlying128 h
 have c0 : Tryd.prog.cellsOf 9 = 1 := by kernel_rfl
 have c1 : Tryd.prog.cellsOf 126 = 1 := by kernel_rfl
 have hl2 : cs.length = 3 := hl.trans (by kernel_rfl)
 match cs, hl2 with
 | [a, b, c], _ =>
  simp only [c0, c1] at h0 h1 h2
  obtain ⟨s, hs, hb⟩ := opens_str H enc w base sp held n _ _ h0
  obtain ⟨s', hs', hb'⟩ := opens_str H enc w base sp held n _ _ h1
  obtain ⟨ss, hss, hbs⟩ := opens_lines H enc w base sp held n _ _ h2
  exact ⟨⟨s, s', ss⟩, ⟨[a], [b, c], rfl, hs, [b], [c], rfl, hs', hss⟩, hb, hb', hbs⟩
def BBs (xs : List S128) : Prop := ∀ x ∈ xs, BB x
theorem opens_blocks : Opens 40 (Kd.slice 128 k128) BBs := opens_slice Tryd.underlying40 (by kernel_rfl) opens_block
set_option maxRecDepth 100000 in
/-- a sheet that comes in by value: its one field's slice -/
theorem open_sheet {H : Type} {enc : TypeId × Value → H} {w : World} {base b0 : Nat} {sp : Nat → Bool} {held : Bool} {r : Reach} {v : Value} {d : DataW H} {p : List MemPlace} (hv : Value.okWide Tryd.prog w r b0 42 v) (h : DataW.Trod enc Tryd.prog w base sp held 42 v d p) :
  ∃ (A : Option Addr) (c : Nat) (bs : List S128), v = .agg #[.slice A bs.length c] ∧ bs.length ≤ c ∧ Kd.C k128 w A bs.length bs ∧ BBs bs := by
 obtain ⟨cs, rfl, hsz⟩ := okWide_struct Tryd.underlying42 hv
 obtain ⟨fuel, hf⟩ := h
 obtain ⟨y0, n, _, hl, h0⟩ := trod_struct1 Tryd.underlying42 hf
 have c1 : Tryd.prog.cellsOf 40 = 1 := by kernel_rfl
 have hs1 : cs.size = 1 := hsz.trans (by kernel_rfl)
 simp only [c1, Value.cells] at h0
 obtain ⟨bs, ⟨A, c, he, hlc, hC⟩, hB⟩ := opens_blocks H enc w base sp held n _ _ h0
 refine ⟨A, c, bs, ?_, hlc, hC, hB⟩
 have : cs = #[.slice A bs.length c] := by
  apply Array.toList_inj.1
  have h3 : cs.toList.length = 1 := by rw [Array.length_toList]; exact hs1
  rw [List.drop_zero, List.take_of_length_le (by omega)] at he
  exact he
 rw [this]
end Go.Proofs.YtmcdnpooclelgaaDoor.PAll
namespace Go.Proofs.YtmcdnpooclelgaaDoor.PAll
open Go.RowKit Go.Proofs.YtmcdnpooclelgaaDoorW.PrintWords
theorem rdStr {ws : List ByteArray} {i : Nat} (h : i < ws.length) : rdOf ByteArray.empty ws (i : Int) = ws[i] := by unfold rdOf; rw [List.getD_eq_getElem?_getD, Int.toNat_natCast, List.getElem?_eq_getElem h]; rfl
theorem inc {i : Nat} (h : i < 9223372036854775807) : wrap64 ((i : Int) + 1) = ((i + 1 : Nat) : Int) := by rw [w64 (by omega) (by omega)]; rfl
theorem cons_dec {α : Type} [DecidableEq α] (a b : α) (l m : List α) : decide (a :: l = b :: m) = (decide (a = b) && decide (l = m)) := by
 rw [Bool.eq_iff_iff, Bool.and_eq_true, decide_eq_true_iff, decide_eq_true_iff, decide_eq_true_iff, List.cons.injEq]
theorem eqStr_l0 (xs ys : List ByteArray) (hl : xs.length = ys.length) (hn : xs.length ≤ 9223372036854775807) : ∀ (d i : Nat), i + d = xs.length → Ev (fun k => laws_eqStringS.l0 k xs ys i) (decide (xs.drop i = ys.drop i))
 | 0, i, h => Ev.unf (fun _ => some true) (fun k => by simp only [laws_eqStringS.l0]; rw [if_neg (by omega)]) (by rw [List.drop_eq_nil_of_le (by omega), List.drop_eq_nil_of_le (by omega)]; exact Ev.now _)
 | d + 1, i, h => by
  have ih := eqStr_l0 xs ys hl hn d (i + 1) (by omega)
  have h1 : i < xs.length := by omega
  have h2 : i < ys.length := by omega
  refine Ev.unf (fun k => if xs[i] = ys[i] then laws_eqStringS.l0 k xs ys ((i + 1 : Nat) : Int) else some false) (fun k => ?_) ?_
  ·simp only [laws_eqStringS.l0]
   rw [if_pos (by omega), if_pos (by omega), if_pos (by omega), rdStr h1, rdStr h2, inc (by omega)]
   simp only [toList_iff]
  ·rw [List.drop_eq_getElem_cons h1, List.drop_eq_getElem_cons h2]
   by_cases q : xs[i] = ys[i]
   ·simp only [if_pos q]
    rw [cons_dec, decide_eq_true q, Bool.true_and]
    exact ih
   ·simp only [if_neg q]
    rw [cons_dec, decide_eq_false q, Bool.false_and]
    exact Ev.now _
theorem ev_eqStringS (xs ys : List ByteArray) (hn : xs.length ≤ 9223372036854775807) : Ev (fun k => laws_eqStringS.f k xs ys) (decide (xs = ys)) := by
 unfold laws_eqStringS.f
 by_cases hl : xs.length = ys.length
 ·simp only [if_pos (show (xs.length : Int) = ys.length by omega)]
  exact eqStr_l0 xs ys hl hn xs.length 0 (by omega)
 ·simp only [if_neg (show ¬ (xs.length : Int) = ys.length by omega)]
  rw [show decide (xs = ys) = false from decide_eq_false (fun e => hl (by rw [e]))]
  exact Ev.now _
theorem toStr_l0 (xs : List ByteArray) (hn : xs.length ≤ 9223372036854775807) : ∀ (d i : Nat) (out : List ByteArray), i + d = xs.length → out.length = xs.length → out.take i = xs.take i → Ev (fun k => laws_toStringS.l0 k xs out i) xs
 | 0, i, out, h, hl, ht => Ev.unf (fun _ => some xs) (fun k => by
   simp only [laws_toStringS.l0]; rw [if_neg (by omega)]
   rw [List.take_of_length_le (by omega), List.take_of_length_le (by omega)] at ht
   rw [ht]) (Ev.now _)
 | d + 1, i, out, h, hl, ht => by
  have h1 : i < xs.length := by omega
  have ih := toStr_l0 xs hn d (i + 1) (out.set i xs[i]) (by omega) (by simpa using hl) (by
   rw [List.take_add_one, List.take_add_one, List.take_set, List.set_eq_of_length_le (by rw [List.length_take]; omega), ht, List.getElem?_set_self (by omega), List.getElem?_eq_getElem h1])
  refine Ev.unf (fun k => laws_toStringS.l0 k xs (out.set i xs[i]) ((i + 1 : Nat) : Int)) (fun k => ?_) ih
  simp only [laws_toStringS.l0]
  rw [if_pos (by omega), if_pos (by omega), if_pos (by omega), rdStr h1, inc (by omega), Int.toNat_natCast]
theorem ev_toStringS (xs : List ByteArray) (hn : xs.length ≤ 17592186044416) : Ev (fun k => laws_toStringS.f k xs) xs := by
 unfold laws_toStringS.f
 simp only [if_pos (show (0 : Int) ≤ (xs.length : Int) by omega), Int.toNat_natCast, if_pos hn]
 exact toStr_l0 xs (by omega) xs.length 0 _ (by omega) (by simp) (by simp)
def szS : List ByteArray → Int → Int
 | [], left => left
 | s :: ss, left => if left - s.size < 0 then -1 else szS ss (left - s.size)
theorem szStr_l0 (xs : List ByteArray) (hn : xs.length ≤ 9223372036854775807) (hb : ∀ s ∈ xs, s.size ≤ 9223372036854775807) : ∀ (d i : Nat) (left : Int), i + d = xs.length → 0 ≤ left → left ≤ 1048576 → Ev (fun k => laws_szStringS.l0 k xs left i) (szS (xs.drop i) left)
 | 0, i, left, h, _, _ => Ev.unf (fun _ => some left) (fun k => by simp only [laws_szStringS.l0]; rw [if_neg (by omega)]) (by rw [List.drop_eq_nil_of_le (by omega)]; exact Ev.now _)
 | d + 1, i, left, h, h0, h9 => by
  have h1 : i < xs.length := by omega
  have hs := hb _ (List.getElem_mem h1)
  have e : wrap64 (left - (xs[i].size : Int)) = left - xs[i].size := w64 (by omega) (by omega)
  refine Ev.unf (fun k => if left - (xs[i].size : Int) < 0 then some (-1) else laws_szStringS.l0 k xs (left - xs[i].size) ((i + 1 : Nat) : Int)) (fun k => ?_) ?_
  ·simp only [laws_szStringS.l0]
   rw [if_pos (by omega), if_pos (by omega), rdStr h1, inc (by omega), e]
  ·rw [List.drop_eq_getElem_cons h1, szS]
   by_cases q : left - (xs[i].size : Int) < 0
   ·simp only [if_pos q]; exact Ev.now _
   ·simp only [if_neg q]; exact szStr_l0 xs hn hb d (i + 1) _ (by omega) (by omega) (by omega)
def szL (xs : List ByteArray) (left : Int) : Int := if left - xs.length < 0 then -1 else szS xs (left - xs.length)
theorem ev_szStringS (xs : List ByteArray) (left : Int) (hn : xs.length ≤ 9223372036854775807) (hb : BS xs) (h0 : 0 ≤ left) (h9 : left ≤ 1048576) : Ev (fun k => laws_szStringS.f k xs left) (szL xs left) := by
 unfold laws_szStringS.f szL
 rw [w64 (by omega) (by omega)]
 by_cases q : left - (xs.length : Int) < 0
 ·simp only [if_pos q]; exact Ev.now _
 ·simp only [if_neg q]; exact szStr_l0 xs hn hb xs.length 0 _ (by omega) (by omega) (by omega)
theorem szS_le : ∀ (xs : List ByteArray) (left : Int), 0 ≤ szS xs left → szS xs left ≤ left ∧ ∀ s ∈ xs, (s.size : Int) ≤ left
 | [], left, _ => ⟨Int.le_refl _, by simp⟩
 | s :: ss, left, h => by
  rw [szS] at h ⊢
  split at h
  ·omega
  ·rename_i q
   rw [if_neg q]
   obtain ⟨h1, h2⟩ := szS_le ss _ h
   refine ⟨by omega, fun x hx => ?_⟩
   rcases List.mem_cons.1 hx with rfl | hx
   ·omega
   ·have := h2 x hx; omega
end Go.Proofs.YtmcdnpooclelgaaDoor.PAll
namespace Go.Proofs.YtmcdnpooclelgaaDoor.PAll
open Go.RowKit Go.Proofs.YtmcdnpooclelgaaDoorW.PrintWords Go.Proofs.YtmcdnpooclelgaaDoorW.PrintLast Go.Proofs.YtmcdnpooclelgaaDoorW.PrintMore
attribute [local go_sem] max2_int min2_int max_two min_two max_three min_three max_four min_four   -- for this text's walks alone
mutual
def spec_l3Less.l0 : Nat → List ByteArray → List ByteArray → Int → Option (Bool)
 | 0, _, _, _ => none
 | k + 1, x0, x1, x5 => if x5 < (x0.length : Int) then (spec_l3Less.j1 k x0 x1 x5 (decide (x5 < (x1.length : Int)))) else (spec_l3Less.j1 k x0 x1 x5 false)
def spec_l3Less.j1 : Nat → List ByteArray → List ByteArray → Int → Bool → Option (Bool)
 | 0, _, _, _, _ => none
 | k + 1, x0, x1, x5, x15 => if x15 = true then (if 0 ≤ x5 then (if x5 < (x0.length : Int) then (if x5 < (x1.length : Int) then (if (rdOf ByteArray.empty x0 x5).toList = (rdOf ByteArray.empty x1 x5).toList then (spec_l3Less.l0 k x0 x1 (wrap64 (x5 + 1))) else (some (Op.bytesLess ((rdOf ByteArray.empty x0 x5).toList) ((rdOf ByteArray.empty x1 x5).toList)))) else (none)) else (none)) else (none)) else (some (decide ((x0.length : Int) < (x1.length : Int))))
end
def spec_l3Less.f (k : Nat) (l0 : List ByteArray) (l1 : List ByteArray) : Option (Bool) := spec_l3Less.l0 k l0 l1 0
set_option maxHeartbeats 8000000 in
set_option maxRecDepth 100000 in
theorem spec_l3Less.calls (k : Nat) (A0 : Option Addr) (c0 : Nat) (l0 : List ByteArray) (A1 : Option Addr) (c1 : Nat) (l1 : List ByteArray) (r : Bool) (w : World) (hr0 : Kd.C Kd.string w A0 l0.length l0) (hc0 : l0.length ≤ c0) (hr1 : Kd.C Kd.string w A1 l1.length l1) (hc1 : l1.length ≤ c1) (h : spec_l3Less.f k l0 l1 = some r) :
  Calls Tryd.prog 126 #[.slice A0 l0.length c0, .slice A1 l1.length c1] w fun e w' => e = .returned (.bool r) ∧ Drawn0 w w' := by
 have HR0 := Aside0.mk hr0
 have HC0 := Aside0.mk hc0
 clear hr0 hc0
 have HR1 := Aside0.mk hr1
 have HC1 := Aside0.mk hc1
 clear hr1 hc1
 have H : (spec_l3Less.l0 k l0 l1 0) = some r := h
 clear h
 have H' := Aside0.mk H
 clear H
 go_enter Tryd.func126, Tryd.ntmps126
 go_wp2
 repeat (go_quiet (fail); try go_wp2)
 go_loopg [5] k (fun kq v5 w' => ∃ (x5_1 : Int), v5 = .int .i64 x5_1 ∧ Aside0 (spec_l3Less.l0 kq l0 l1 x5_1 = some r) ∧ Aside0 (kq ≤ k) ∧ Drawn0 w w')
 case atStart => exact ⟨(0), (by first | rfl | (simp; done) | (simp [*]; done)), H', ⟨Nat.le_refl _⟩, by repeat (first | exact Drawn0.refl _ | apply Drawn0.step)⟩
 case round =>
  clear H'
  try clear c1
  try clear p2
  obtain ⟨x5_1, rfl, HA, HK1, ⟨m1, rfl⟩⟩ := hrel
  cases gk with
  | zero => exact absurd HA.out (by simp [spec_l3Less.l0])
  | succ k1 =>
   have H := HA.out
   clear HA
   simp only [spec_l3Less.l0] at H
   have HC3 := Aside0.mk H
   clear H
   go_upto_region 2 with (fail)
   repeat (go_quiet (fail); go_upto_region 2 with (fail))
   go_cut [15] (fun v15 wc => ∃ (kq : Nat) (x15_2 : Bool), v15 = .bool x15_2 ∧ Aside0 (spec_l3Less.j1 kq l0 l1 x5_1 x15_2 = some r) ∧ Aside0 (kq ≤ k1) ∧ Drawn0 w wc)
   case first =>
    have H := HC3.out
    clear HC3
    by_cases c4 : x5_1 < (l0.length : Int)
    ·rw [if_pos c4] at H
     have c4b0 : decide (x5_1 < (l0.length : Int)) = true := decide_eq_true c4
     clear c4
     (first | rw [c4b0] | (simp only [i64_w, i32_w]; rw [c4b0]) | skip)
     have H' := Aside0.mk H
     clear H
     go_wp2
     repeat (go_quiet (fail); try go_wp2)
     go_meet
     case rel => exact ⟨_, (decide (x5_1 < (l1.length : Int))), (by first | rfl | (simp; done) | (simp [*]; done)), H', ⟨by have := HK1.out; first | omega | exact Nat.le_refl _⟩, by repeat (first | exact Drawn0.refl _ | apply Drawn0.step)⟩
    ·rw [if_neg c4] at H
     have c4b0 : decide (x5_1 < (l0.length : Int)) = false := decide_eq_false c4
     clear c4
     (first | rw [c4b0] | (simp only [i64_w, i32_w]; rw [c4b0]) | skip)
     have H' := Aside0.mk H
     clear H
     go_wp2
     repeat (go_quiet (fail); try go_wp2)
     go_meet
     case rel => exact ⟨_, (false), (by first | rfl | (simp; done) | (simp [*]; done)), H', ⟨by have := HK1.out; first | omega | exact Nat.le_refl _⟩, by repeat (first | exact Drawn0.refl _ | apply Drawn0.step)⟩
   case rest =>
    clear HC3
    try clear c1
    try clear p2
    try clear c4
    try clear c4b0
    try clear p2
    obtain ⟨kq, x15_2, rfl, HA, HJ2, ⟨mc2, rfl⟩⟩ := hcut
    cases kq with
    | zero => exact absurd HA.out (by simp [spec_l3Less.j1])
    | succ kj2 =>
     have H := HA.out
     clear HA
     simp only [spec_l3Less.j1] at H
     by_cases c5 : x15_2 = true
     ·subst c5
      have H1 : (if 0 ≤ x5_1 then (if x5_1 < (l0.length : Int) then (if x5_1 < (l1.length : Int) then (if (rdOf ByteArray.empty l0 x5_1).toList = (rdOf ByteArray.empty l1 x5_1).toList then (spec_l3Less.l0 kj2 l0 l1 (wrap64 (x5_1 + 1))) else (some (Op.bytesLess ((rdOf ByteArray.empty l0 x5_1).toList) ((rdOf ByteArray.empty l1 x5_1).toList)))) else (none)) else (none)) else (none)) = some r := by rw [if_pos rfl] at H; exact H
      clear H
      have H := H1
      clear H1
      by_cases c6 : 0 ≤ x5_1
      ·rw [if_pos c6] at H
       have c6b0 : decide (0 ≤ x5_1) = true := decide_eq_true c6
       clear c6
       by_cases c7 : x5_1 < (l0.length : Int)
       ·rw [if_pos c7] at H
        have c7b0 : decide (x5_1 < (l0.length : Int)) = true := decide_eq_true c7
        clear c7
        by_cases c8 : x5_1 < (l1.length : Int)
        ·rw [if_pos c8] at H
         have c8b0 : decide (x5_1 < (l1.length : Int)) = true := decide_eq_true c8
         clear c8
         by_cases c9 : (rdOf ByteArray.empty l0 x5_1).toList = (rdOf ByteArray.empty l1 x5_1).toList
         ·rw [if_pos c9] at H
          have c9b0 : ((rdOf ByteArray.empty l0 x5_1).toList == (rdOf ByteArray.empty l1 x5_1).toList) = true := beq_iff_eq.mpr c9
          have c9b1 : ((rdOf ByteArray.empty l0 x5_1).toList != (rdOf ByteArray.empty l1 x5_1).toList) = false := bne_eq_false_iff_eq.mpr c9
          clear c9
          have H' := Aside0.mk H
          clear H
          have p120 : 0 ≤ (x5_1 : Int) := of_decide_eq_true (by first | (with_reducible assumption) | assumption)
          have q120 : x5_1 < (l0.length : Int) := of_decide_eq_true (by first | (with_reducible assumption) | assumption)
          obtain ⟨ad120, e120, hx120_0⟩ := Kd.at_string HR0.out x5_1 p120 q120
          cases e120
          replace p120 := eq_true p120
          replace q120 := eq_true q120
          have p121 : 0 ≤ (x5_1 : Int) := of_decide_eq_true (by first | (with_reducible assumption) | assumption)
          have q121 : x5_1 < (l1.length : Int) := of_decide_eq_true (by first | (with_reducible assumption) | assumption)
          obtain ⟨ad121, e121, hx121_0⟩ := Kd.at_string HR1.out x5_1 p121 q121
          cases e121
          replace p121 := eq_true p121
          replace q121 := eq_true q121
          go_wp2
          repeat (go_quiet (fail); try go_wp2)
          go_roundg kj2
          case measure => have := HK1.out; have := HJ2.out; omega
          case rel => exact ⟨(wrap64 (x5_1 + 1)), (by first | rfl | (simp; done) | (simp [*]; done)), H', ⟨by have := HK1.out; have := HJ2.out; omega⟩, by repeat (first | exact Drawn0.refl _ | apply Drawn0.step)⟩
         ·rw [if_neg c9] at H
          have c9b0 : ((rdOf ByteArray.empty l0 x5_1).toList == (rdOf ByteArray.empty l1 x5_1).toList) = false := beq_eq_false_iff_ne.mpr c9
          have c9b1 : ((rdOf ByteArray.empty l0 x5_1).toList != (rdOf ByteArray.empty l1 x5_1).toList) = true := bne_iff_ne.mpr c9
          obtain rfl := Option.some.inj H
          have p120 : 0 ≤ (x5_1 : Int) := of_decide_eq_true (by first | (with_reducible assumption) | assumption)
          have q120 : x5_1 < (l0.length : Int) := of_decide_eq_true (by first | (with_reducible assumption) | assumption)
          obtain ⟨ad120, e120, hx120_0⟩ := Kd.at_string HR0.out x5_1 p120 q120
          cases e120
          replace p120 := eq_true p120
          replace q120 := eq_true q120
          have p121 : 0 ≤ (x5_1 : Int) := of_decide_eq_true (by first | (with_reducible assumption) | assumption)
          have q121 : x5_1 < (l1.length : Int) := of_decide_eq_true (by first | (with_reducible assumption) | assumption)
          obtain ⟨ad121, e121, hx121_0⟩ := Kd.at_string HR1.out x5_1 p121 q121
          cases e121
          replace p121 := eq_true p121
          replace q121 := eq_true q121
          have p122 : 0 ≤ (x5_1 : Int) := of_decide_eq_true (by first | (with_reducible assumption) | assumption)
          have q122 : x5_1 < (l0.length : Int) := of_decide_eq_true (by first | (with_reducible assumption) | assumption)
          obtain ⟨ad122, e122, hx122_0⟩ := Kd.at_string HR0.out x5_1 p122 q122
          obtain rfl : ad120 = ad122 := (by injection e122)
          replace p122 := eq_true p122
          replace q122 := eq_true q122
          have p123 : 0 ≤ (x5_1 : Int) := of_decide_eq_true (by first | (with_reducible assumption) | assumption)
          have q123 : x5_1 < (l1.length : Int) := of_decide_eq_true (by first | (with_reducible assumption) | assumption)
          obtain ⟨ad123, e123, hx123_0⟩ := Kd.at_string HR1.out x5_1 p123 q123
          obtain rfl : ad121 = ad123 := (by injection e123)
          replace p123 := eq_true p123
          replace q123 := eq_true q123
          go_wp2
          repeat (go_quiet (fail); try go_wp2)
          go_ret
          exact ⟨by first | rfl | (simp; done) | (simp [*]; done), by repeat (first | exact Drawn0.refl _ | apply Drawn0.step)⟩
        ·rw [if_neg c8] at H
         exact absurd H (by simp)
       ·rw [if_neg c7] at H
        exact absurd H (by simp)
      ·rw [if_neg c6] at H
       exact absurd H (by simp)
     ·replace c5 := Bool.eq_false_iff.mpr c5
      subst c5
      have H1 : (some (decide ((l0.length : Int) < (l1.length : Int)))) = some r := by rw [if_neg (show ¬ (false = true) by decide)] at H; exact H
      clear H
      have H := H1
      clear H1
      obtain rfl := Option.some.inj H
      go_wp2
      repeat (go_quiet (fail); try go_wp2)
      go_ret
      exact ⟨by first | rfl | (simp; done) | (simp [*]; done), by repeat (first | exact Drawn0.refl _ | apply Drawn0.step)⟩
def spec_l3LineLess.f (k : Nat) (a0 : ByteArray) (a1_0 : ByteArray) (l1_1 : List ByteArray) (a2_0 : ByteArray) (l2_1 : List ByteArray) : Option (Bool) := (spec_l2Rule.f k a0 a1_0).bind fun t126 => ((spec_l2Rule.f k a0 a2_0).bind fun t127 => (if t126 < t127 then (some true) else (if t126 = t127 then ((spec_l3Less.f k l1_1 l2_1).bind fun t128 => (some t128)) else (some false))))
set_option maxHeartbeats 8000000 in
set_option maxRecDepth 100000 in
theorem spec_l3LineLess.calls (k : Nat) (a0 : ByteArray) (a1_0 : ByteArray) (A1_1 : Option Addr) (c1_1 : Nat) (l1_1 : List ByteArray) (a2_0 : ByteArray) (A2_1 : Option Addr) (c2_1 : Nat) (l2_1 : List ByteArray) (r : Bool) (w : World) (hr1_1 : Kd.C Kd.string w A1_1 l1_1.length l1_1) (hc1_1 : l1_1.length ≤ c1_1) (hr2_1 : Kd.C Kd.string w A2_1 l2_1.length l2_1) (hc2_1 : l2_1.length ≤ c2_1) (h : spec_l3LineLess.f k a0 a1_0 l1_1 a2_0 l2_1 = some r) :
  Calls Tryd.prog 114 #[.string a0, .agg #[.string a1_0, .slice A1_1 l1_1.length c1_1], .agg #[.string a2_0, .slice A2_1 l2_1.length c2_1]] w fun e w' => e = .returned (.bool r) ∧ Below w.heap.size w w' := by
 have hu83 := Tryd.underlying83
 have HR1_1 := Aside0.mk hr1_1
 have HC1_1 := Aside0.mk hc1_1
 clear hr1_1 hc1_1
 have HR2_1 := Aside0.mk hr2_1
 have HC2_1 := Aside0.mk hc2_1
 clear hr2_1 hc2_1
 have HB := Aside0.mk (Below.refl w.heap.size w)
 have H : ((spec_l2Rule.f k a0 a1_0).bind fun t126 => ((spec_l2Rule.f k a0 a2_0).bind fun t127 => (if t126 < t127 then (some true) else (if t126 = t127 then ((spec_l3Less.f k l1_1 l2_1).bind fun t128 => (some t128)) else (some false))))) = some r := h
 clear h
 replace H := Option.bind_eq_some_iff.mp H
 obtain ⟨t126, A40, H⟩ := H
 replace H : ((spec_l2Rule.f k a0 a2_0).bind fun t127 => (if t126 < t127 then (some true) else (if t126 = t127 then ((spec_l3Less.f k l1_1 l2_1).bind fun t128 => (some t128)) else (some false)))) = some r := H
 have A4 := Aside0.mk A40
 clear A40
 replace H := Option.bind_eq_some_iff.mp H
 obtain ⟨t127, A50, H⟩ := H
 replace H : (if t126 < t127 then (some true) else (if t126 = t127 then ((spec_l3Less.f k l1_1 l2_1).bind fun t128 => (some t128)) else (some false))) = some r := H
 have A5 := Aside0.mk A50
 clear A50
 by_cases c6 : t126 < t127
 ·rw [if_pos c6] at H
  have c6b0 : decide (t126 < t127) = true := decide_eq_true c6
  clear c6
  obtain rfl := Option.some.inj H
  go_enter Tryd.func114, Tryd.ntmps114
  go_wp2_with (first | ((with_reducible refine gate_dst (N := 4) rfl ?_); refine box_event ?hg (N := 4) ?hd (cs := #[.string a1_0, .slice A1_1 l1_1.length c1_1]) (t := 83) ?hr ?_; (case hd => rfl); (case hg => rfl); (case hr => first | (go_simp; done) | (go_simp; rfl)); intro gb124 hg w7 hbox hb; have n0_ := Aside0.mk (below_step (stB HB.out) hb); have n1_ := Aside0.mk (hbox); have n2_ := Aside0.mk ((by rw [hg]; exact (below_size (stB HB.out)) : w.heap.size ≤ gb124)); have n3_ := Aside0.mk ((by rw [hg]; exact (below_size (stB HB.out)) : w.heap.size ≤ gb124)); clear HB; have HB := n0_; have BK124 := n1_; have GW124 := n2_; have GE124 := n3_; clear n0_ n1_ n2_ n3_; clear hb hbox hg) | ((with_reducible refine gate_dst (N := 5) rfl ?_); refine box_event ?hg (N := 5) ?hd (cs := #[.string a2_0, .slice A2_1 l2_1.length c2_1]) (t := 83) ?hr ?_; (case hd => rfl); (case hg => rfl); (case hr => first | (go_simp; done) | (go_simp; rfl)); intro gb125 hg w8 hbox hb; have n0_ := Aside0.mk (blk_below (g := gb124) (o := .cells #[.string a1_0, .slice A1_1 l1_1.length c1_1] 83 (0, 0)) (by (with_reducible repeat (first | refine blk_drewN ?_ _ | refine blk_drew ?_ | refine blk_alloc ?_ _)); exact BK124.out) hb); have n1_ := Aside0.mk (below_step (by repeat (first | (with_reducible first | exact HB.out | apply below_alloc | apply pw_below_drewN | apply below_drew1 | refine below_set ?_ GE124.out) | exact HB.out)) hb); have n2_ := Aside0.mk (hbox); have n3_ := Aside0.mk ((by rw [hg]; exact (below_size (by repeat (first | (with_reducible first | exact HB.out | apply below_alloc | apply pw_below_drewN | apply below_drew1 | refine below_set ?_ GE124.out) | exact HB.out))) : w.heap.size ≤ gb125)); have n4_ := Aside0.mk ((by rw [hg]; exact (below_size (by repeat (first | (with_reducible first | exact HB.out | apply below_alloc | apply pw_below_drewN | apply below_drew1 | refine below_set ?_ GE124.out) | exact HB.out))) : w.heap.size ≤ gb125)); have n5_ := Aside0.mk ((by rw [hg]; exact Nat.ne_of_lt (blk_lt (g := gb124) (o := .cells #[.string a1_0, .slice A1_1 l1_1.length c1_1] 83 (0, 0)) (by (with_reducible repeat (first | refine blk_drewN ?_ _ | refine blk_drew ?_ | refine blk_alloc ?_ _)); exact BK124.out)) : gb124 ≠ gb125)); have n6_ := Aside0.mk ((by rw [hg]; exact Nat.ne_of_gt (blk_lt (g := gb124) (o := .cells #[.string a1_0, .slice A1_1 l1_1.length c1_1] 83 (0, 0)) (by (with_reducible repeat (first | refine blk_drewN ?_ _ | refine blk_drew ?_ | refine blk_alloc ?_ _)); exact BK124.out)) : gb125 ≠ gb124)); clear BK124; clear HB; have BK124 := n0_; have HB := n1_; have BK125 := n2_; have GW125 := n3_; have GE125 := n4_; have NB124_125 := n5_; have NB125_124 := n6_; clear n0_ n1_ n2_ n3_ n4_ n5_ n6_; clear hb hbox hg; have hnb9 := NB124_125.out; have hnc9 := NB125_124.out; have hcz10_0 : w8.cell? ⟨gb124, 0, none⟩ = some (.string a1_0) := (blk_cell BK124.out 0).trans rfl; have hcz10_1 : w8.cell? ⟨gb124, 1, none⟩ = some (.slice A1_1 l1_1.length c1_1) := (blk_cell BK124.out 1).trans rfl; have hfz10_0 := blk_frozen BK124.out 0; have hfz10_1 := blk_frozen BK124.out 1) | ((with_reducible refine gate_callee (f := 62) rfl ?_); refine goesL_ (some 12) rfl rfl Tryd.func62 (by kernel_rfl) rfl #[.string a0, .string a1_0] rfl (by (try simp only [List.map_toArray, List.map_cons, List.map_nil]); first | done | rfl | (simp only [List.length_drop, List.length_take]; rfl)) ?_; (with_reducible refine (spec_l2Rule.calls k a0 a1_0 t126 _ A4.out).mono ?_); rintro e w11 ⟨rfl, hb⟩; refine ⟨_, rfl, ?_⟩; have n0_ := Aside0.mk (blk_below (g := gb124) (o := .cells #[.string a1_0, .slice A1_1 l1_1.length c1_1] 83 (0, 0)) (by (with_reducible repeat (first | refine blk_drewN ?_ _ | refine blk_drew ?_ | refine blk_alloc ?_ _)); exact BK124.out) hb); have n1_ := Aside0.mk (blk_below (g := gb125) (o := .cells #[.string a2_0, .slice A2_1 l2_1.length c2_1] 83 (0, 0)) (by (with_reducible repeat (first | refine blk_drewN ?_ _ | refine blk_drew ?_ | refine blk_alloc ?_ _)); exact BK125.out) hb); have n2_ := Aside0.mk (below_step (by repeat (first | (with_reducible first | exact HB.out | apply below_alloc | apply pw_below_drewN | apply below_drew1 | refine below_set ?_ GE124.out | refine below_set ?_ GE125.out) | exact HB.out)) hb); clear BK124; clear BK125; clear HB; have BK124 := n0_; have BK125 := n1_; have HB := n2_; clear n0_ n1_ n2_; (try clear hb); (try clear hb2); (try clear hk); (try clear hi); have hcz12_0 : w11.cell? ⟨gb125, 0, none⟩ = some (.string a2_0) := (blk_cell BK125.out 0).trans rfl; have hcz12_1 : w11.cell? ⟨gb125, 1, none⟩ = some (.slice A2_1 l2_1.length c2_1) := (blk_cell BK125.out 1).trans rfl; have hfz12_0 := blk_frozen BK125.out 0; have hfz12_1 := blk_frozen BK125.out 1) | ((with_reducible refine gate_callee (f := 62) rfl ?_); refine goesL_ (some 16) rfl rfl Tryd.func62 (by kernel_rfl) rfl #[.string a0, .string a2_0] rfl (by (try simp only [List.map_toArray, List.map_cons, List.map_nil]); first | done | rfl | (simp only [List.length_drop, List.length_take]; rfl)) ?_; (with_reducible refine (spec_l2Rule.calls k a0 a2_0 t127 _ A5.out).mono ?_); rintro e w13 ⟨rfl, hb⟩; refine ⟨_, rfl, ?_⟩; have n0_ := Aside0.mk (blk_below (g := gb124) (o := .cells #[.string a1_0, .slice A1_1 l1_1.length c1_1] 83 (0, 0)) (by (with_reducible repeat (first | refine blk_drewN ?_ _ | refine blk_drew ?_ | refine blk_alloc ?_ _)); exact BK124.out) hb); have n1_ := Aside0.mk (blk_below (g := gb125) (o := .cells #[.string a2_0, .slice A2_1 l2_1.length c2_1] 83 (0, 0)) (by (with_reducible repeat (first | refine blk_drewN ?_ _ | refine blk_drew ?_ | refine blk_alloc ?_ _)); exact BK125.out) hb); have n2_ := Aside0.mk (below_step (by repeat (first | (with_reducible first | exact HB.out | apply below_alloc | apply pw_below_drewN | apply below_drew1 | refine below_set ?_ GE124.out | refine below_set ?_ GE125.out) | exact HB.out)) hb); clear BK124; clear BK125; clear HB; have BK124 := n0_; have BK125 := n1_; have HB := n2_; clear n0_ n1_ n2_; (try clear hb); (try clear hb2); (try clear hk); (try clear hi)))
  go_ret
  exact ⟨by first | rfl | (simp [errW_none, errW_some] <;> rfl) | (simp [*, errW_none, errW_some] <;> rfl), by repeat (first | (with_reducible first | exact HB.out | apply below_alloc | apply pw_below_drewN | apply below_drew1 | refine below_set ?_ GE124.out | refine below_set ?_ GE125.out) | exact HB.out)⟩
 ·rw [if_neg c6] at H
  have c6b0 : decide (t126 < t127) = false := decide_eq_false c6
  clear c6
  by_cases c14 : t126 = t127
  ·rw [if_pos c14] at H
   have c14b0 : (t126 == t127) = true := beq_iff_eq.mpr c14
   have c14b1 : (t126 != t127) = false := bne_eq_false_iff_eq.mpr c14
   clear c14
   replace H := Option.bind_eq_some_iff.mp H
   obtain ⟨t128, A150, H⟩ := H
   replace H : (some t128) = some r := H
   have A15 := Aside0.mk A150
   clear A150
   obtain rfl := Option.some.inj H
   go_enter Tryd.func114, Tryd.ntmps114
   go_wp2_with (first | ((with_reducible refine gate_dst (N := 4) rfl ?_); refine box_event ?hg (N := 4) ?hd (cs := #[.string a1_0, .slice A1_1 l1_1.length c1_1]) (t := 83) ?hr ?_; (case hd => rfl); (case hg => rfl); (case hr => first | (go_simp; done) | (go_simp; rfl)); intro gb124 hg w16 hbox hb; have n0_ := Aside0.mk (below_step (stB HB.out) hb); have n1_ := Aside0.mk (hbox); have n2_ := Aside0.mk ((by rw [hg]; exact (below_size (stB HB.out)) : w.heap.size ≤ gb124)); have n3_ := Aside0.mk ((by rw [hg]; exact (below_size (stB HB.out)) : w.heap.size ≤ gb124)); clear HB; have HB := n0_; have BK124 := n1_; have GW124 := n2_; have GE124 := n3_; clear n0_ n1_ n2_ n3_; clear hb hbox hg) | ((with_reducible refine gate_dst (N := 5) rfl ?_); refine box_event ?hg (N := 5) ?hd (cs := #[.string a2_0, .slice A2_1 l2_1.length c2_1]) (t := 83) ?hr ?_; (case hd => rfl); (case hg => rfl); (case hr => first | (go_simp; done) | (go_simp; rfl)); intro gb125 hg w17 hbox hb; have n0_ := Aside0.mk (blk_below (g := gb124) (o := .cells #[.string a1_0, .slice A1_1 l1_1.length c1_1] 83 (0, 0)) (by (with_reducible repeat (first | refine blk_drewN ?_ _ | refine blk_drew ?_ | refine blk_alloc ?_ _)); exact BK124.out) hb); have n1_ := Aside0.mk (below_step (by repeat (first | (with_reducible first | exact HB.out | apply below_alloc | apply pw_below_drewN | apply below_drew1 | refine below_set ?_ GE124.out) | exact HB.out)) hb); have n2_ := Aside0.mk (hbox); have n3_ := Aside0.mk ((by rw [hg]; exact (below_size (by repeat (first | (with_reducible first | exact HB.out | apply below_alloc | apply pw_below_drewN | apply below_drew1 | refine below_set ?_ GE124.out) | exact HB.out))) : w.heap.size ≤ gb125)); have n4_ := Aside0.mk ((by rw [hg]; exact (below_size (by repeat (first | (with_reducible first | exact HB.out | apply below_alloc | apply pw_below_drewN | apply below_drew1 | refine below_set ?_ GE124.out) | exact HB.out))) : w.heap.size ≤ gb125)); have n5_ := Aside0.mk ((by rw [hg]; exact Nat.ne_of_lt (blk_lt (g := gb124) (o := .cells #[.string a1_0, .slice A1_1 l1_1.length c1_1] 83 (0, 0)) (by (with_reducible repeat (first | refine blk_drewN ?_ _ | refine blk_drew ?_ | refine blk_alloc ?_ _)); exact BK124.out)) : gb124 ≠ gb125)); have n6_ := Aside0.mk ((by rw [hg]; exact Nat.ne_of_gt (blk_lt (g := gb124) (o := .cells #[.string a1_0, .slice A1_1 l1_1.length c1_1] 83 (0, 0)) (by (with_reducible repeat (first | refine blk_drewN ?_ _ | refine blk_drew ?_ | refine blk_alloc ?_ _)); exact BK124.out)) : gb125 ≠ gb124)); clear BK124; clear HB; have BK124 := n0_; have HB := n1_; have BK125 := n2_; have GW125 := n3_; have GE125 := n4_; have NB124_125 := n5_; have NB125_124 := n6_; clear n0_ n1_ n2_ n3_ n4_ n5_ n6_; clear hb hbox hg; have hnb18 := NB124_125.out; have hnc18 := NB125_124.out; have hcz19_0 : w17.cell? ⟨gb124, 0, none⟩ = some (.string a1_0) := (blk_cell BK124.out 0).trans rfl; have hcz19_1 : w17.cell? ⟨gb124, 1, none⟩ = some (.slice A1_1 l1_1.length c1_1) := (blk_cell BK124.out 1).trans rfl; have hfz19_0 := blk_frozen BK124.out 0; have hfz19_1 := blk_frozen BK124.out 1) | ((with_reducible refine gate_callee (f := 62) rfl ?_); refine goesL_ (some 12) rfl rfl Tryd.func62 (by kernel_rfl) rfl #[.string a0, .string a1_0] rfl (by (try simp only [List.map_toArray, List.map_cons, List.map_nil]); first | done | rfl | (simp only [List.length_drop, List.length_take]; rfl)) ?_; (with_reducible refine (spec_l2Rule.calls k a0 a1_0 t126 _ A4.out).mono ?_); rintro e w20 ⟨rfl, hb⟩; refine ⟨_, rfl, ?_⟩; have n0_ := Aside0.mk (blk_below (g := gb124) (o := .cells #[.string a1_0, .slice A1_1 l1_1.length c1_1] 83 (0, 0)) (by (with_reducible repeat (first | refine blk_drewN ?_ _ | refine blk_drew ?_ | refine blk_alloc ?_ _)); exact BK124.out) hb); have n1_ := Aside0.mk (blk_below (g := gb125) (o := .cells #[.string a2_0, .slice A2_1 l2_1.length c2_1] 83 (0, 0)) (by (with_reducible repeat (first | refine blk_drewN ?_ _ | refine blk_drew ?_ | refine blk_alloc ?_ _)); exact BK125.out) hb); have n2_ := Aside0.mk (below_step (by repeat (first | (with_reducible first | exact HB.out | apply below_alloc | apply pw_below_drewN | apply below_drew1 | refine below_set ?_ GE124.out | refine below_set ?_ GE125.out) | exact HB.out)) hb); clear BK124; clear BK125; clear HB; have BK124 := n0_; have BK125 := n1_; have HB := n2_; clear n0_ n1_ n2_; (try clear hb); (try clear hb2); (try clear hk); (try clear hi); have hcz21_0 : w20.cell? ⟨gb125, 0, none⟩ = some (.string a2_0) := (blk_cell BK125.out 0).trans rfl; have hcz21_1 : w20.cell? ⟨gb125, 1, none⟩ = some (.slice A2_1 l2_1.length c2_1) := (blk_cell BK125.out 1).trans rfl; have hfz21_0 := blk_frozen BK125.out 0; have hfz21_1 := blk_frozen BK125.out 1) | ((with_reducible refine gate_callee (f := 62) rfl ?_); refine goesL_ (some 16) rfl rfl Tryd.func62 (by kernel_rfl) rfl #[.string a0, .string a2_0] rfl (by (try simp only [List.map_toArray, List.map_cons, List.map_nil]); first | done | rfl | (simp only [List.length_drop, List.length_take]; rfl)) ?_; (with_reducible refine (spec_l2Rule.calls k a0 a2_0 t127 _ A5.out).mono ?_); rintro e w22 ⟨rfl, hb⟩; refine ⟨_, rfl, ?_⟩; have n0_ := Aside0.mk (blk_below (g := gb124) (o := .cells #[.string a1_0, .slice A1_1 l1_1.length c1_1] 83 (0, 0)) (by (with_reducible repeat (first | refine blk_drewN ?_ _ | refine blk_drew ?_ | refine blk_alloc ?_ _)); exact BK124.out) hb); have n1_ := Aside0.mk (blk_below (g := gb125) (o := .cells #[.string a2_0, .slice A2_1 l2_1.length c2_1] 83 (0, 0)) (by (with_reducible repeat (first | refine blk_drewN ?_ _ | refine blk_drew ?_ | refine blk_alloc ?_ _)); exact BK125.out) hb); have n2_ := Aside0.mk (below_step (by repeat (first | (with_reducible first | exact HB.out | apply below_alloc | apply pw_below_drewN | apply below_drew1 | refine below_set ?_ GE124.out | refine below_set ?_ GE125.out) | exact HB.out)) hb); clear BK124; clear BK125; clear HB; have BK124 := n0_; have BK125 := n1_; have HB := n2_; clear n0_ n1_ n2_; (try clear hb); (try clear hb2); (try clear hk); (try clear hi); have hcz23_0 : w22.cell? ⟨gb124, 0, none⟩ = some (.string a1_0) := (blk_cell BK124.out 0).trans rfl; have hcz23_1 : w22.cell? ⟨gb124, 1, none⟩ = some (.slice A1_1 l1_1.length c1_1) := (blk_cell BK124.out 1).trans rfl; have hfz23_0 := blk_frozen BK124.out 0; have hfz23_1 := blk_frozen BK124.out 1; have hcz24_0 : w22.cell? ⟨gb125, 0, none⟩ = some (.string a2_0) := (blk_cell BK125.out 0).trans rfl; have hcz24_1 : w22.cell? ⟨gb125, 1, none⟩ = some (.slice A2_1 l2_1.length c2_1) := (blk_cell BK125.out 1).trans rfl; have hfz24_0 := blk_frozen BK125.out 0; have hfz24_1 := blk_frozen BK125.out 1) | (go_at_call 126; (with_reducible refine (spec_l3Less.calls k _ _ l1_1 _ _ l2_1 t128 _ ?side1 ?side2 ?side3 ?side4 A15.out).mono ?_); (case side1 => repeat (first | exact (Kd.C_below HR1_1.out HB.out) | (with_reducible refine Kd.C_alloc ?_ _) | (with_reducible refine Kd.C_drewN ?_ _) | (with_reducible refine Kd.C_drew ?_))); (case side2 => exact HC1_1.out); (case side3 => repeat (first | exact (Kd.C_below HR2_1.out HB.out) | (with_reducible refine Kd.C_alloc ?_ _) | (with_reducible refine Kd.C_drewN ?_ _) | (with_reducible refine Kd.C_drew ?_))); (case side4 => exact HC2_1.out); rintro e w' ⟨rfl, ⟨nd, rfl⟩⟩))
   go_ret
   exact ⟨by first | rfl | (simp [errW_none, errW_some] <;> rfl) | (simp [*, errW_none, errW_some] <;> rfl), by repeat (first | (with_reducible first | exact HB.out | apply below_alloc | apply pw_below_drewN | apply below_drew1 | refine below_set ?_ GE124.out | refine below_set ?_ GE125.out) | exact HB.out)⟩
  ·rw [if_neg c14] at H
   have c14b0 : (t126 == t127) = false := beq_eq_false_iff_ne.mpr c14
   have c14b1 : (t126 != t127) = true := bne_iff_ne.mpr c14
   obtain rfl := Option.some.inj H
   go_enter Tryd.func114, Tryd.ntmps114
   go_wp2_with (first | ((with_reducible refine gate_dst (N := 4) rfl ?_); refine box_event ?hg (N := 4) ?hd (cs := #[.string a1_0, .slice A1_1 l1_1.length c1_1]) (t := 83) ?hr ?_; (case hd => rfl); (case hg => rfl); (case hr => first | (go_simp; done) | (go_simp; rfl)); intro gb124 hg w25 hbox hb; have n0_ := Aside0.mk (below_step (stB HB.out) hb); have n1_ := Aside0.mk (hbox); have n2_ := Aside0.mk ((by rw [hg]; exact (below_size (stB HB.out)) : w.heap.size ≤ gb124)); have n3_ := Aside0.mk ((by rw [hg]; exact (below_size (stB HB.out)) : w.heap.size ≤ gb124)); clear HB; have HB := n0_; have BK124 := n1_; have GW124 := n2_; have GE124 := n3_; clear n0_ n1_ n2_ n3_; clear hb hbox hg) | ((with_reducible refine gate_dst (N := 5) rfl ?_); refine box_event ?hg (N := 5) ?hd (cs := #[.string a2_0, .slice A2_1 l2_1.length c2_1]) (t := 83) ?hr ?_; (case hd => rfl); (case hg => rfl); (case hr => first | (go_simp; done) | (go_simp; rfl)); intro gb125 hg w26 hbox hb; have n0_ := Aside0.mk (blk_below (g := gb124) (o := .cells #[.string a1_0, .slice A1_1 l1_1.length c1_1] 83 (0, 0)) (by (with_reducible repeat (first | refine blk_drewN ?_ _ | refine blk_drew ?_ | refine blk_alloc ?_ _)); exact BK124.out) hb); have n1_ := Aside0.mk (below_step (by repeat (first | (with_reducible first | exact HB.out | apply below_alloc | apply pw_below_drewN | apply below_drew1 | refine below_set ?_ GE124.out) | exact HB.out)) hb); have n2_ := Aside0.mk (hbox); have n3_ := Aside0.mk ((by rw [hg]; exact (below_size (by repeat (first | (with_reducible first | exact HB.out | apply below_alloc | apply pw_below_drewN | apply below_drew1 | refine below_set ?_ GE124.out) | exact HB.out))) : w.heap.size ≤ gb125)); have n4_ := Aside0.mk ((by rw [hg]; exact (below_size (by repeat (first | (with_reducible first | exact HB.out | apply below_alloc | apply pw_below_drewN | apply below_drew1 | refine below_set ?_ GE124.out) | exact HB.out))) : w.heap.size ≤ gb125)); have n5_ := Aside0.mk ((by rw [hg]; exact Nat.ne_of_lt (blk_lt (g := gb124) (o := .cells #[.string a1_0, .slice A1_1 l1_1.length c1_1] 83 (0, 0)) (by (with_reducible repeat (first | refine blk_drewN ?_ _ | refine blk_drew ?_ | refine blk_alloc ?_ _)); exact BK124.out)) : gb124 ≠ gb125)); have n6_ := Aside0.mk ((by rw [hg]; exact Nat.ne_of_gt (blk_lt (g := gb124) (o := .cells #[.string a1_0, .slice A1_1 l1_1.length c1_1] 83 (0, 0)) (by (with_reducible repeat (first | refine blk_drewN ?_ _ | refine blk_drew ?_ | refine blk_alloc ?_ _)); exact BK124.out)) : gb125 ≠ gb124)); clear BK124; clear HB; have BK124 := n0_; have HB := n1_; have BK125 := n2_; have GW125 := n3_; have GE125 := n4_; have NB124_125 := n5_; have NB125_124 := n6_; clear n0_ n1_ n2_ n3_ n4_ n5_ n6_; clear hb hbox hg; have hnb27 := NB124_125.out; have hnc27 := NB125_124.out; have hcz28_0 : w26.cell? ⟨gb124, 0, none⟩ = some (.string a1_0) := (blk_cell BK124.out 0).trans rfl; have hcz28_1 : w26.cell? ⟨gb124, 1, none⟩ = some (.slice A1_1 l1_1.length c1_1) := (blk_cell BK124.out 1).trans rfl; have hfz28_0 := blk_frozen BK124.out 0; have hfz28_1 := blk_frozen BK124.out 1) | ((with_reducible refine gate_callee (f := 62) rfl ?_); refine goesL_ (some 12) rfl rfl Tryd.func62 (by kernel_rfl) rfl #[.string a0, .string a1_0] rfl (by (try simp only [List.map_toArray, List.map_cons, List.map_nil]); first | done | rfl | (simp only [List.length_drop, List.length_take]; rfl)) ?_; (with_reducible refine (spec_l2Rule.calls k a0 a1_0 t126 _ A4.out).mono ?_); rintro e w29 ⟨rfl, hb⟩; refine ⟨_, rfl, ?_⟩; have n0_ := Aside0.mk (blk_below (g := gb124) (o := .cells #[.string a1_0, .slice A1_1 l1_1.length c1_1] 83 (0, 0)) (by (with_reducible repeat (first | refine blk_drewN ?_ _ | refine blk_drew ?_ | refine blk_alloc ?_ _)); exact BK124.out) hb); have n1_ := Aside0.mk (blk_below (g := gb125) (o := .cells #[.string a2_0, .slice A2_1 l2_1.length c2_1] 83 (0, 0)) (by (with_reducible repeat (first | refine blk_drewN ?_ _ | refine blk_drew ?_ | refine blk_alloc ?_ _)); exact BK125.out) hb); have n2_ := Aside0.mk (below_step (by repeat (first | (with_reducible first | exact HB.out | apply below_alloc | apply pw_below_drewN | apply below_drew1 | refine below_set ?_ GE124.out | refine below_set ?_ GE125.out) | exact HB.out)) hb); clear BK124; clear BK125; clear HB; have BK124 := n0_; have BK125 := n1_; have HB := n2_; clear n0_ n1_ n2_; (try clear hb); (try clear hb2); (try clear hk); (try clear hi); have hcz30_0 : w29.cell? ⟨gb125, 0, none⟩ = some (.string a2_0) := (blk_cell BK125.out 0).trans rfl; have hcz30_1 : w29.cell? ⟨gb125, 1, none⟩ = some (.slice A2_1 l2_1.length c2_1) := (blk_cell BK125.out 1).trans rfl; have hfz30_0 := blk_frozen BK125.out 0; have hfz30_1 := blk_frozen BK125.out 1) | ((with_reducible refine gate_callee (f := 62) rfl ?_); refine goesL_ (some 16) rfl rfl Tryd.func62 (by kernel_rfl) rfl #[.string a0, .string a2_0] rfl (by (try simp only [List.map_toArray, List.map_cons, List.map_nil]); first | done | rfl | (simp only [List.length_drop, List.length_take]; rfl)) ?_; (with_reducible refine (spec_l2Rule.calls k a0 a2_0 t127 _ A5.out).mono ?_); rintro e w31 ⟨rfl, hb⟩; refine ⟨_, rfl, ?_⟩; have n0_ := Aside0.mk (blk_below (g := gb124) (o := .cells #[.string a1_0, .slice A1_1 l1_1.length c1_1] 83 (0, 0)) (by (with_reducible repeat (first | refine blk_drewN ?_ _ | refine blk_drew ?_ | refine blk_alloc ?_ _)); exact BK124.out) hb); have n1_ := Aside0.mk (blk_below (g := gb125) (o := .cells #[.string a2_0, .slice A2_1 l2_1.length c2_1] 83 (0, 0)) (by (with_reducible repeat (first | refine blk_drewN ?_ _ | refine blk_drew ?_ | refine blk_alloc ?_ _)); exact BK125.out) hb); have n2_ := Aside0.mk (below_step (by repeat (first | (with_reducible first | exact HB.out | apply below_alloc | apply pw_below_drewN | apply below_drew1 | refine below_set ?_ GE124.out | refine below_set ?_ GE125.out) | exact HB.out)) hb); clear BK124; clear BK125; clear HB; have BK124 := n0_; have BK125 := n1_; have HB := n2_; clear n0_ n1_ n2_; (try clear hb); (try clear hb2); (try clear hk); (try clear hi)))
   go_ret
   exact ⟨by first | rfl | (simp [errW_none, errW_some] <;> rfl) | (simp [*, errW_none, errW_some] <;> rfl), by repeat (first | (with_reducible first | exact HB.out | apply below_alloc | apply pw_below_drewN | apply below_drew1 | refine below_set ?_ GE124.out | refine below_set ?_ GE125.out) | exact HB.out)⟩
end Go.Proofs.YtmcdnpooclelgaaDoor.PAll
namespace Go.Proofs.YtmcdnpooclelgaaDoor.PAll
open Go.RowKit Go.Proofs.YtmcdnpooclelgaaDoorW.PrintWords
def ltB (a b : ByteArray) : Bool := Op.bytesLess a.toList b.toList
def lessW : List ByteArray → List ByteArray → Bool
 | [], ys => decide (0 < ys.length)
 | _ :: _, [] => false
 | x :: xs, y :: ys => if x = y then lessW xs ys else ltB x y
theorem less_l0 (xs ys : List ByteArray) (hx : xs.length ≤ 1099511627776) (hy : ys.length ≤ 1099511627776) : ∀ (d i : Nat), i + d = xs.length → i ≤ ys.length → Ev (fun k => spec_l3Less.l0 k xs ys i) (lessW (xs.drop i) (ys.drop i))
 | 0, i, h, hi => by
  refine Ev.unf (fun k => spec_l3Less.j1 k xs ys i false) (fun k => by simp only [spec_l3Less.l0]; rw [if_neg (by omega)]) ?_
  refine Ev.unf (fun _ => some (decide ((xs.length : Int) < ys.length))) (fun k => by simp only [spec_l3Less.j1, Bool.false_eq_true, if_false]) ?_
  rw [List.drop_eq_nil_of_le (show xs.length ≤ i by omega), lessW, List.length_drop, show decide (0 < ys.length - i) = decide ((xs.length : Int) < ys.length) by rw [Bool.eq_iff_iff]; simp; omega]
  exact Ev.now _
 | d + 1, i, h, hi => by
  have h1 : i < xs.length := by omega
  by_cases h2 : i < ys.length
  ·have ih := less_l0 xs ys hx hy d (i + 1) (by omega) (by omega)
   refine Ev.unf (fun k => spec_l3Less.j1 k xs ys i true) (fun k => by simp only [spec_l3Less.l0]; rw [if_pos (by omega), decide_eq_true (by omega)]) ?_
   refine Ev.unf (fun k => if xs[i] = ys[i] then spec_l3Less.l0 k xs ys ((i + 1 : Nat) : Int) else some (ltB xs[i] ys[i])) (fun k => ?_) ?_
   ·simp only [spec_l3Less.j1, if_true]
    rw [if_pos (by omega), if_pos (by omega), if_pos (by omega), rdStr h1, rdStr h2, inc (by omega)]
    simp only [toList_iff, ltB]
   ·rw [List.drop_eq_getElem_cons h1, List.drop_eq_getElem_cons h2, lessW]
    by_cases q : xs[i] = ys[i]
    ·simp only [if_pos q]; exact ih
    ·simp only [if_neg q]; exact Ev.now _
  ·refine Ev.unf (fun k => spec_l3Less.j1 k xs ys i false) (fun k => by simp only [spec_l3Less.l0]; rw [if_pos (by omega), decide_eq_false (by omega)]) ?_
   refine Ev.unf (fun _ => some (decide ((xs.length : Int) < ys.length))) (fun k => by simp only [spec_l3Less.j1, Bool.false_eq_true, if_false]) ?_
   rw [List.drop_eq_getElem_cons h1, List.drop_eq_nil_of_le (show ys.length ≤ i by omega), lessW, show decide ((xs.length : Int) < ys.length) = false from decide_eq_false (by omega)]
   exact Ev.now _
theorem ev_l3Less (xs ys : List ByteArray) (hx : xs.length ≤ 1099511627776) (hy : ys.length ≤ 1099511627776) : Ev (fun k => spec_l3Less.f k xs ys) (lessW xs ys) := by
 unfold spec_l3Less.f
 exact less_l0 xs ys hx hy xs.length 0 (by omega) (by omega)
def lineLt (kind : ByteArray) (a b : S83) : Bool := decide (placeL kind a.f0 < placeL kind b.f0) || (decide (placeL kind a.f0 = placeL kind b.f0) && lessW a.f1 b.f1)
theorem ev_l3LineLess (kind : ByteArray) (a b : S83) (ha : a.f1.length ≤ 1099511627776) (hb : b.f1.length ≤ 1099511627776) : Ev (fun k => spec_l3LineLess.f k kind a.f0 a.f1 b.f0 b.f1) (lineLt kind a b) := by
 unfold spec_l3LineLess.f lineLt
 refine Ev.bind (ev_l2Rule kind a.f0) ?_
 refine Ev.bind (ev_l2Rule kind b.f0) ?_
 by_cases h1 : placeL kind a.f0 < placeL kind b.f0
 ·simp only [if_pos h1, h1, decide_true, Bool.true_or]; exact Ev.now _
 ·simp only [if_neg h1, h1, decide_false, Bool.false_or]
  by_cases h2 : placeL kind a.f0 = placeL kind b.f0
  ·simp only [if_pos h2, h2, decide_true, Bool.true_and]; exact Ev.bind (ev_l3Less _ _ ha hb) (Ev.now _)
  ·simp only [if_neg h2, h2, decide_false, Bool.false_and]; exact Ev.now _
def manyL (kind key : ByteArray) : Bool := match lookL kind key with | none => false | some (r, _) => r.f2
def cntKey (key : ByteArray) : List S83 → Nat
 | [] => 0
 | l :: ls => (if l.f0 = key then 1 else 0) + cntKey key ls
def tooMany (kind key : ByteArray) (n : Nat) : Bool := (!manyL kind key && decide (1 < n)) || decide (10 < n)
def headOk (kind : ByteArray) (pre : List S83) (l : S83) : Bool := match pre.getLast? with | none => true | some p => lineLt kind p l
theorem headOk_nil (kind : ByteArray) (l : S83) : headOk kind [] l = true := rfl
theorem headOk_take (kind : ByteArray) (ls : List S83) (j : Nat) (p l : S83) (h : ls[j]? = some p) : headOk kind (ls.take (j + 1)) l = lineLt kind p l := by
 have e : (ls.take (j + 1)).getLast? = some p := by rw [List.take_add_one, h]; simp
 unfold headOk
 rw [e]
def linesFrom (kind : ByteArray) : List S83 → List S83 → Bool
 | _, [] => true
 | pre, l :: ls => fitsL kind l.f0 l.f1 && (headOk kind pre l && (!tooMany kind l.f0 (cntKey l.f0 (pre ++ [l])) && linesFrom kind (pre ++ [l]) ls))
def linesOkL (kind : ByteArray) (ls : List S83) : Bool := linesFrom kind [] ls
theorem cntKey_snoc (key : ByteArray) : ∀ (ls : List S83) (l : S83), cntKey key (ls ++ [l]) = cntKey key ls + (if l.f0 = key then 1 else 0)
 | [], l => by simp [cntKey]
 | x :: ls, l => by simp only [List.cons_append, cntKey, cntKey_snoc key ls l]; omega
theorem cntKey_le (key : ByteArray) : ∀ (ls : List S83), cntKey key ls ≤ ls.length
 | [] => Nat.le_refl _
 | x :: ls => by simp only [cntKey, List.length_cons]; have := cntKey_le key ls; split <;> omega
end Go.Proofs.YtmcdnpooclelgaaDoor.PAll
namespace Go.Proofs.YtmcdnpooclelgaaDoor.PAll
open Go.RowKit Go.Proofs.YtmcdnpooclelgaaDoorW.PrintWords Go.Proofs.YtmcdnpooclelgaaDoorW.PrintLast Go.Proofs.YtmcdnpooclelgaaDoorW.PrintMore
attribute [local go_sem] max2_int min2_int max_two min_two max_three min_three max_four min_four   -- for this text's walks alone
def cmp_isNaN_string.f (a0 : ByteArray) : Option (Bool) := some (a0.toList != a0.toList)
set_option maxHeartbeats 8000000 in
set_option maxRecDepth 100000 in
theorem cmp_isNaN_string.calls (a0 : ByteArray) (r : Bool) (w : World) (h : cmp_isNaN_string.f a0 = some r) :
  Calls Tryd.prog 160 #[.string a0] w fun e w' => e = .returned (.bool r) ∧ Drawn0 w w' := by
 have H : (some (a0.toList != a0.toList)) = some r := h
 clear h
 obtain rfl := Option.some.inj H
 go_enter Tryd.func160, Tryd.ntmps160
 go_wp2
 go_ret
 exact ⟨by first | rfl | (simp; done) | (simp [*]; done), by repeat (first | exact Drawn0.refl _ | apply Drawn0.step)⟩
end Go.Proofs.YtmcdnpooclelgaaDoor.PAll
namespace Go.Proofs.YtmcdnpooclelgaaDoor.PAll
open Go.RowKit Go.Proofs.YtmcdnpooclelgaaDoorW.PrintWords
def cmpB (a b : ByteArray) : Int := if Op.bytesLess a.toList b.toList = true then -1 else if (a.toList == b.toList) = true then 0 else 1
def cmp_Compare_string.f (a0 a1 : ByteArray) : Option Int := some (cmpB a0 a1)
theorem isNaN_f (a : ByteArray) : cmp_isNaN_string.f a = some false := by simp [cmp_isNaN_string.f]
set_option maxHeartbeats 4000000 in
set_option maxRecDepth 100000 in
theorem cmp_Compare_string.calls (a0 a1 : ByteArray) (r : Int) (w : World) (h : cmp_Compare_string.f a0 a1 = some r) :
  Calls Tryd.prog 153 #[.string a0, .string a1] w fun e w' => e = .returned (.int .i64 r) ∧ Below w.heap.size w w' := by
 obtain rfl := Option.some.inj h
 unfold cmpB
 by_cases h1 : Op.bytesLess a0.toList a1.toList = true
 ·rw [if_pos h1]
  go_enter Tryd.func153, Tryd.ntmps153
  go_wp2_with fail
  refine (cmp_isNaN_string.calls a0 false _ (isNaN_f a0)).mono ?_
  rintro e w1 ⟨rfl, ⟨n1, rfl⟩⟩
  go_wp2_with fail
  refine (cmp_isNaN_string.calls a1 false _ (isNaN_f a1)).mono ?_
  rintro e w2 ⟨rfl, ⟨n2, rfl⟩⟩
  go_wp2
  go_ret
  exact ⟨rfl, pw_below_drewN (Below.refl _ _) _⟩
 ·rw [if_neg h1]
  have h1' := Bool.eq_false_iff.mpr h1
  clear h1
  by_cases h2 : (a0.toList == a1.toList) = true
  ·rw [if_pos h2]
   go_enter Tryd.func153, Tryd.ntmps153
   go_wp2_with fail
   refine (cmp_isNaN_string.calls a0 false _ (isNaN_f a0)).mono ?_
   rintro e w1 ⟨rfl, ⟨n1, rfl⟩⟩
   go_wp2_with fail
   refine (cmp_isNaN_string.calls a1 false _ (isNaN_f a1)).mono ?_
   rintro e w2 ⟨rfl, ⟨n2, rfl⟩⟩
   go_wp2
   go_ret
   exact ⟨rfl, pw_below_drewN (Below.refl _ _) _⟩
  ·rw [if_neg h2]
   have h2' := Bool.eq_false_iff.mpr h2
   clear h2
   go_enter Tryd.func153, Tryd.ntmps153
   go_wp2_with fail
   refine (cmp_isNaN_string.calls a0 false _ (isNaN_f a0)).mono ?_
   rintro e w1 ⟨rfl, ⟨n1, rfl⟩⟩
   go_wp2_with fail
   refine (cmp_isNaN_string.calls a1 false _ (isNaN_f a1)).mono ?_
   rintro e w2 ⟨rfl, ⟨n2, rfl⟩⟩
   go_wp2
   go_ret
   exact ⟨rfl, pw_below_drewN (Below.refl _ _) _⟩
end Go.Proofs.YtmcdnpooclelgaaDoor.PAll
namespace Go.Proofs.YtmcdnpooclelgaaDoor.PAll
open Go.RowKit Go.Proofs.YtmcdnpooclelgaaDoorW.PrintWords Go.Proofs.YtmcdnpooclelgaaDoorW.PrintLast Go.Proofs.YtmcdnpooclelgaaDoorW.PrintMore
attribute [local go_sem] max2_int min2_int max_two min_two max_three min_three max_four min_four   -- for this text's walks alone
def slices_Compare_string_string.l0 : Nat → List ByteArray → List ByteArray → List ByteArray → Int → Int → Option (Int)
 | 0, _, _, _, _, _ => none
 | k + 1, x0, x1, x9, x10, x11 => if x11 < x10 then (if 0 ≤ x11 then (if x11 < (x9.length : Int) then (if x11 ≥ (x1.length : Int) then (some 1) else (if x11 < (x1.length : Int) then ((cmp_Compare_string.f (rdOf ByteArray.empty x9 x11) (rdOf ByteArray.empty x1 x11)).bind fun t171 => (if t171 = 0 then (slices_Compare_string_string.l0 k x0 x1 x9 x10 (wrap64 (x11 + 1))) else (some t171))) else (none))) else (none)) else (none)) else (if (x0.length : Int) < (x1.length : Int) then (some (-1)) else (some 0))
def slices_Compare_string_string.f (k : Nat) (l0 : List ByteArray) (l1 : List ByteArray) : Option (Int) := slices_Compare_string_string.l0 k l0 l1 l0 (l0.length : Int) 0
set_option maxHeartbeats 8000000 in
set_option maxRecDepth 100000 in
theorem slices_Compare_string_string.calls (k : Nat) (A0 : Option Addr) (c0 : Nat) (l0 : List ByteArray) (A1 : Option Addr) (c1 : Nat) (l1 : List ByteArray) (r : Int) (w : World) (hr0 : Kd.C Kd.string w A0 l0.length l0) (hc0 : l0.length ≤ c0) (hr1 : Kd.C Kd.string w A1 l1.length l1) (hc1 : l1.length ≤ c1) (h : slices_Compare_string_string.f k l0 l1 = some r) :
  Calls Tryd.prog 139 #[.slice A0 l0.length c0, .slice A1 l1.length c1] w fun e w' => e = .returned (.int .i64 r) ∧ Below w.heap.size w w' := by
 have HR0 := Aside0.mk hr0
 have HC0 := Aside0.mk hc0
 clear hr0 hc0
 have HR1 := Aside0.mk hr1
 have HC1 := Aside0.mk hc1
 clear hr1 hc1
 have HB := Aside0.mk (Below.refl w.heap.size w)
 have H : (slices_Compare_string_string.l0 k l0 l1 l0 (l0.length : Int) 0) = some r := h
 clear h
 have H' := Aside0.mk H
 clear H
 go_enter Tryd.func139, Tryd.ntmps139
 go_wp2
 go_loopg [11] k (fun kq v11 w' => ∃ (x11_1 : Int), v11 = .int .i64 x11_1 ∧ Aside0 (slices_Compare_string_string.l0 kq l0 l1 l0 (l0.length : Int) x11_1 = some r) ∧ Aside0 (kq ≤ k) ∧ Aside0 (Below w.heap.size w w'))
 case atStart => exact ⟨(0), (by first | rfl | (simp; done) | (simp [*]; done)), H', ⟨Nat.le_refl _⟩, ⟨by repeat (first | (with_reducible first | exact HB.out | apply below_alloc | apply pw_below_drewN | apply below_drew1) | exact HB.out)⟩⟩
 case round =>
  clear H'
  try clear c1
  try clear p2
  obtain ⟨x11_1, rfl, HA, HK1, HB⟩ := hrel
  cases gk with
  | zero => exact absurd HA.out (by simp [slices_Compare_string_string.l0])
  | succ k1 =>
   have H := HA.out
   clear HA
   simp only [slices_Compare_string_string.l0] at H
   by_cases c3 : x11_1 < (l0.length : Int)
   ·rw [if_pos c3] at H
    have c3b0 : decide (x11_1 < (l0.length : Int)) = true := decide_eq_true c3
    clear c3
    by_cases c4 : 0 ≤ x11_1
    ·rw [if_pos c4] at H
     have c4b0 : decide (0 ≤ x11_1) = true := decide_eq_true c4
     clear c4
     by_cases c5 : x11_1 < (l0.length : Int)
     ·rw [if_pos c5] at H
      have c5b0 : decide (x11_1 < (l0.length : Int)) = true := decide_eq_true c5
      clear c5
      by_cases c6 : x11_1 ≥ (l1.length : Int)
      ·rw [if_pos c6] at H
       have c6b0 : decide ((l1.length : Int) ≤ x11_1) = true := decide_eq_true c6
       clear c6
       obtain rfl := Option.some.inj H
       have p169 : 0 ≤ (x11_1 : Int) := of_decide_eq_true (by first | (with_reducible assumption) | assumption)
       have q169 : x11_1 < (l0.length : Int) := of_decide_eq_true (by first | (with_reducible assumption) | assumption)
       obtain ⟨ad169, e169, hx169_0⟩ := Kd.at_string HR0.out x11_1 p169 q169
       cases e169
       (try replace hx169_0 := (HB.out.cell (World.block_lt_of_cell? w _ hx169_0)).trans hx169_0)
       replace p169 := eq_true p169
       replace q169 := eq_true q169
       go_wp2
       go_ret
       exact ⟨by first | rfl | (simp [errW_none, errW_some] <;> rfl) | (simp [*, errW_none, errW_some] <;> rfl), by repeat (first | (with_reducible first | exact HB.out | apply below_alloc | apply pw_below_drewN | apply below_drew1) | exact HB.out)⟩
      ·rw [if_neg c6] at H
       have c6b0 : decide ((l1.length : Int) ≤ x11_1) = false := decide_eq_false c6
       clear c6
       by_cases c7 : x11_1 < (l1.length : Int)
       ·rw [if_pos c7] at H
        have c7b0 : decide (x11_1 < (l1.length : Int)) = true := decide_eq_true c7
        clear c7
        replace H := Option.bind_eq_some_iff.mp H
        obtain ⟨t171, A80, H⟩ := H
        replace H : (if t171 = 0 then (slices_Compare_string_string.l0 k1 l0 l1 l0 (l0.length : Int) (wrap64 (x11_1 + 1))) else (some t171)) = some r := H
        have A8 := Aside0.mk A80
        clear A80
        by_cases c9 : t171 = 0
        ·rw [if_pos c9] at H
         have c9b0 : (t171 == 0) = true := beq_iff_eq.mpr c9
         have c9b1 : (t171 != 0) = false := bne_eq_false_iff_eq.mpr c9
         clear c9
         have H' := Aside0.mk H
         clear H
         have p169 : 0 ≤ (x11_1 : Int) := of_decide_eq_true (by first | (with_reducible assumption) | assumption)
         have q169 : x11_1 < (l0.length : Int) := of_decide_eq_true (by first | (with_reducible assumption) | assumption)
         obtain ⟨ad169, e169, hx169_0⟩ := Kd.at_string HR0.out x11_1 p169 q169
         cases e169
         (try replace hx169_0 := (HB.out.cell (World.block_lt_of_cell? w _ hx169_0)).trans hx169_0)
         replace p169 := eq_true p169
         replace q169 := eq_true q169
         have p170 : 0 ≤ (x11_1 : Int) := of_decide_eq_true (by first | (with_reducible assumption) | assumption)
         have q170 : x11_1 < (l1.length : Int) := of_decide_eq_true (by first | (with_reducible assumption) | assumption)
         obtain ⟨ad170, e170, hx170_0⟩ := Kd.at_string HR1.out x11_1 p170 q170
         cases e170
         (try replace hx170_0 := (HB.out.cell (World.block_lt_of_cell? w _ hx170_0)).trans hx170_0)
         replace p170 := eq_true p170
         replace q170 := eq_true q170
         go_wp2_with (first | ((with_reducible refine gate_callee (f := 153) rfl ?_); refine goesL_ (some 26) rfl rfl Tryd.func153 (by kernel_rfl) rfl #[.string (rdOf ByteArray.empty l0 x11_1), .string (rdOf ByteArray.empty l1 x11_1)] rfl (by (try simp only [List.map_toArray, List.map_cons, List.map_nil]); first | done | rfl | (simp only [List.length_drop, List.length_take]; rfl)) ?_; (with_reducible refine (cmp_Compare_string.calls (rdOf ByteArray.empty l0 x11_1) (rdOf ByteArray.empty l1 x11_1) t171 _ A8.out).mono ?_); rintro e w10 ⟨rfl, hb⟩; refine ⟨_, rfl, ?_⟩; have n0_ := Aside0.mk (below_step (stB HB.out) hb); clear HB; have HB := n0_; clear n0_; (try clear hb); (try clear hb2); (try clear hk); (try clear hi)))
         go_roundg k1
         case measure => have := HK1.out; omega
         case rel => exact ⟨(wrap64 (x11_1 + 1)), (by first | rfl | (simp; done) | (simp [*]; done)), H', ⟨by have := HK1.out; omega⟩, ⟨by repeat (first | (with_reducible first | exact HB.out | apply below_alloc | apply pw_below_drewN | apply below_drew1) | exact HB.out)⟩⟩
        ·rw [if_neg c9] at H
         have c9b0 : (t171 == 0) = false := beq_eq_false_iff_ne.mpr c9
         have c9b1 : (t171 != 0) = true := bne_iff_ne.mpr c9
         obtain rfl := Option.some.inj H
         have p169 : 0 ≤ (x11_1 : Int) := of_decide_eq_true (by first | (with_reducible assumption) | assumption)
         have q169 : x11_1 < (l0.length : Int) := of_decide_eq_true (by first | (with_reducible assumption) | assumption)
         obtain ⟨ad169, e169, hx169_0⟩ := Kd.at_string HR0.out x11_1 p169 q169
         cases e169
         (try replace hx169_0 := (HB.out.cell (World.block_lt_of_cell? w _ hx169_0)).trans hx169_0)
         replace p169 := eq_true p169
         replace q169 := eq_true q169
         have p170 : 0 ≤ (x11_1 : Int) := of_decide_eq_true (by first | (with_reducible assumption) | assumption)
         have q170 : x11_1 < (l1.length : Int) := of_decide_eq_true (by first | (with_reducible assumption) | assumption)
         obtain ⟨ad170, e170, hx170_0⟩ := Kd.at_string HR1.out x11_1 p170 q170
         cases e170
         (try replace hx170_0 := (HB.out.cell (World.block_lt_of_cell? w _ hx170_0)).trans hx170_0)
         replace p170 := eq_true p170
         replace q170 := eq_true q170
         go_wp2_with (first | ((with_reducible refine gate_callee (f := 153) rfl ?_); refine goesL_ (some 26) rfl rfl Tryd.func153 (by kernel_rfl) rfl #[.string (rdOf ByteArray.empty l0 x11_1), .string (rdOf ByteArray.empty l1 x11_1)] rfl (by (try simp only [List.map_toArray, List.map_cons, List.map_nil]); first | done | rfl | (simp only [List.length_drop, List.length_take]; rfl)) ?_; (with_reducible refine (cmp_Compare_string.calls (rdOf ByteArray.empty l0 x11_1) (rdOf ByteArray.empty l1 x11_1) t171 _ A8.out).mono ?_); rintro e w11 ⟨rfl, hb⟩; refine ⟨_, rfl, ?_⟩; have n0_ := Aside0.mk (below_step (stB HB.out) hb); clear HB; have HB := n0_; clear n0_; (try clear hb); (try clear hb2); (try clear hk); (try clear hi)))
         go_ret
         exact ⟨by first | rfl | (simp [errW_none, errW_some] <;> rfl) | (simp [*, errW_none, errW_some] <;> rfl), by repeat (first | (with_reducible first | exact HB.out | apply below_alloc | apply pw_below_drewN | apply below_drew1) | exact HB.out)⟩
       ·rw [if_neg c7] at H
        exact absurd H (by simp)
     ·rw [if_neg c5] at H
      exact absurd H (by simp)
    ·rw [if_neg c4] at H
     exact absurd H (by simp)
   ·rw [if_neg c3] at H
    have c3b0 : decide (x11_1 < (l0.length : Int)) = false := decide_eq_false c3
    clear c3
    by_cases c12 : (l0.length : Int) < (l1.length : Int)
    ·rw [if_pos c12] at H
     have c12b0 : decide ((l0.length : Int) < (l1.length : Int)) = true := decide_eq_true c12
     have c12b1 : decide (l0.length < l1.length) = true := decide_eq_true (Int.ofNat_lt.mp c12)
     clear c12
     obtain rfl := Option.some.inj H
     go_wp2
     go_ret
     exact ⟨by first | rfl | (simp [errW_none, errW_some] <;> rfl) | (simp [*, errW_none, errW_some] <;> rfl), by repeat (first | (with_reducible first | exact HB.out | apply below_alloc | apply pw_below_drewN | apply below_drew1) | exact HB.out)⟩
    ·rw [if_neg c12] at H
     have c12b0 : decide ((l0.length : Int) < (l1.length : Int)) = false := decide_eq_false c12
     have c12b1 : decide (l0.length < l1.length) = false := decide_eq_false (fun h => c12 (Int.ofNat_lt.mpr h))
     clear c12
     obtain rfl := Option.some.inj H
     go_wp2
     go_ret
     exact ⟨by first | rfl | (simp [errW_none, errW_some] <;> rfl) | (simp [*, errW_none, errW_some] <;> rfl), by repeat (first | (with_reducible first | exact HB.out | apply below_alloc | apply pw_below_drewN | apply below_drew1) | exact HB.out)⟩
def impl_order.f (k : Nat) (a0 : ByteArray) (a1_0 : ByteArray) (l1_1 : List ByteArray) (a2_0 : ByteArray) (l2_1 : List ByteArray) : Option (Int) := (impl_find.f k a0 a1_0).bind fun bt174 => ((impl_find.f k a0 a2_0).bind fun bt184 => (if bt174.2.2.2.2 = bt184.2.2.2.2 then ((slices_Compare_string_string.f k l1_1 l2_1).bind fun t194 => (some t194)) else (some (wrap64 (bt174.2.2.2.2 - bt184.2.2.2.2)))))
set_option maxHeartbeats 8000000 in
set_option maxRecDepth 100000 in
theorem impl_order.calls (k : Nat) (a0 : ByteArray) (a1_0 : ByteArray) (A1_1 : Option Addr) (c1_1 : Nat) (l1_1 : List ByteArray) (a2_0 : ByteArray) (A2_1 : Option Addr) (c2_1 : Nat) (l2_1 : List ByteArray) (r : Int) (w : World) (hr1_1 : Kd.C Kd.string w A1_1 l1_1.length l1_1) (hc1_1 : l1_1.length ≤ c1_1) (hr2_1 : Kd.C Kd.string w A2_1 l2_1.length l2_1) (hc2_1 : l2_1.length ≤ c2_1) (h : impl_order.f k a0 a1_0 l1_1 a2_0 l2_1 = some r) :
  Calls Tryd.prog 116 #[.string a0, .agg #[.string a1_0, .slice A1_1 l1_1.length c1_1], .agg #[.string a2_0, .slice A2_1 l2_1.length c2_1]] w fun e w' => e = .returned (.int .i64 r) ∧ Below w.heap.size w w' := by
 have hu83 := Tryd.underlying83
 have hu36 := Tryd.underlying36
 have HR1_1 := Aside0.mk hr1_1
 have HC1_1 := Aside0.mk hc1_1
 clear hr1_1 hc1_1
 have HR2_1 := Aside0.mk hr2_1
 have HC2_1 := Aside0.mk hc2_1
 clear hr2_1 hc2_1
 have HB := Aside0.mk (Below.refl w.heap.size w)
 have H : ((impl_find.f k a0 a1_0).bind fun bt174 => ((impl_find.f k a0 a2_0).bind fun bt184 => (if bt174.2.2.2.2 = bt184.2.2.2.2 then ((slices_Compare_string_string.f k l1_1 l2_1).bind fun t194 => (some t194)) else (some (wrap64 (bt174.2.2.2.2 - bt184.2.2.2.2)))))) = some r := h
 clear h
 replace H := Option.bind_eq_some_iff.mp H
 obtain ⟨⟨t174, t175, t178, t179, t182⟩, A40, H⟩ := H
 replace H : ((impl_find.f k a0 a2_0).bind fun bt184 => (if t182 = bt184.2.2.2.2 then ((slices_Compare_string_string.f k l1_1 l2_1).bind fun t194 => (some t194)) else (some (wrap64 (t182 - bt184.2.2.2.2))))) = some r := H
 have A4 := Aside0.mk A40
 clear A40
 replace H := Option.bind_eq_some_iff.mp H
 obtain ⟨⟨t184, t185, t188, t189, t192⟩, A50, H⟩ := H
 replace H : (if t182 = t192 then ((slices_Compare_string_string.f k l1_1 l2_1).bind fun t194 => (some t194)) else (some (wrap64 (t182 - t192)))) = some r := H
 have A5 := Aside0.mk A50
 clear A50
 by_cases c6 : t182 = t192
 ·rw [if_pos c6] at H
  have c6b0 : (t182 == t192) = true := beq_iff_eq.mpr c6
  have c6b1 : (t182 != t192) = false := bne_eq_false_iff_eq.mpr c6
  clear c6
  replace H := Option.bind_eq_some_iff.mp H
  obtain ⟨t194, A70, H⟩ := H
  replace H : (some t194) = some r := H
  have A7 := Aside0.mk A70
  clear A70
  obtain rfl := Option.some.inj H
  go_enter Tryd.func116, Tryd.ntmps116
  go_wp2_with (first | ((with_reducible refine gate_dst (N := 4) rfl ?_); refine box_event ?hg (N := 4) ?hd (cs := #[.string a1_0, .slice A1_1 l1_1.length c1_1]) (t := 83) ?hr ?_; (case hd => rfl); (case hg => rfl); (case hr => first | (go_simp; done) | (go_simp; rfl)); intro gb172 hg w8 hbox hb; have n0_ := Aside0.mk (below_step (stB HB.out) hb); have n1_ := Aside0.mk (hbox); have n2_ := Aside0.mk ((by rw [hg]; exact (below_size (stB HB.out)) : w.heap.size ≤ gb172)); have n3_ := Aside0.mk ((by rw [hg]; exact (below_size (stB HB.out)) : w.heap.size ≤ gb172)); clear HB; have HB := n0_; have BK172 := n1_; have GW172 := n2_; have GE172 := n3_; clear n0_ n1_ n2_ n3_; clear hb hbox hg) | ((with_reducible refine gate_dst (N := 5) rfl ?_); refine box_event ?hg (N := 5) ?hd (cs := #[.string a2_0, .slice A2_1 l2_1.length c2_1]) (t := 83) ?hr ?_; (case hd => rfl); (case hg => rfl); (case hr => first | (go_simp; done) | (go_simp; rfl)); intro gb173 hg w9 hbox hb; have n0_ := Aside0.mk (blk_below (g := gb172) (o := .cells #[.string a1_0, .slice A1_1 l1_1.length c1_1] 83 (0, 0)) (by (with_reducible repeat (first | refine blk_drewN ?_ _ | refine blk_drew ?_ | refine blk_alloc ?_ _)); exact BK172.out) hb); have n1_ := Aside0.mk (below_step (by repeat (first | (with_reducible first | exact HB.out | apply below_alloc | apply pw_below_drewN | apply below_drew1 | refine below_set ?_ GE172.out) | exact HB.out)) hb); have n2_ := Aside0.mk (hbox); have n3_ := Aside0.mk ((by rw [hg]; exact (below_size (by repeat (first | (with_reducible first | exact HB.out | apply below_alloc | apply pw_below_drewN | apply below_drew1 | refine below_set ?_ GE172.out) | exact HB.out))) : w.heap.size ≤ gb173)); have n4_ := Aside0.mk ((by rw [hg]; exact (below_size (by repeat (first | (with_reducible first | exact HB.out | apply below_alloc | apply pw_below_drewN | apply below_drew1 | refine below_set ?_ GE172.out) | exact HB.out))) : w.heap.size ≤ gb173)); have n5_ := Aside0.mk ((by rw [hg]; exact Nat.ne_of_lt (blk_lt (g := gb172) (o := .cells #[.string a1_0, .slice A1_1 l1_1.length c1_1] 83 (0, 0)) (by (with_reducible repeat (first | refine blk_drewN ?_ _ | refine blk_drew ?_ | refine blk_alloc ?_ _)); exact BK172.out)) : gb172 ≠ gb173)); have n6_ := Aside0.mk ((by rw [hg]; exact Nat.ne_of_gt (blk_lt (g := gb172) (o := .cells #[.string a1_0, .slice A1_1 l1_1.length c1_1] 83 (0, 0)) (by (with_reducible repeat (first | refine blk_drewN ?_ _ | refine blk_drew ?_ | refine blk_alloc ?_ _)); exact BK172.out)) : gb173 ≠ gb172)); clear BK172; clear HB; have BK172 := n0_; have HB := n1_; have BK173 := n2_; have GW173 := n3_; have GE173 := n4_; have NB172_173 := n5_; have NB173_172 := n6_; clear n0_ n1_ n2_ n3_ n4_ n5_ n6_; clear hb hbox hg; have hnb10 := NB172_173.out; have hnc10 := NB173_172.out; have hcz11_0 : w9.cell? ⟨gb172, 0, none⟩ = some (.string a1_0) := (blk_cell BK172.out 0).trans rfl; have hcz11_1 : w9.cell? ⟨gb172, 1, none⟩ = some (.slice A1_1 l1_1.length c1_1) := (blk_cell BK172.out 1).trans rfl; have hfz11_0 := blk_frozen BK172.out 0; have hfz11_1 := blk_frozen BK172.out 1) | ((with_reducible refine gate_callee (f := 64) rfl ?_); refine goesL_ (some 15) rfl rfl Tryd.func64 (by kernel_rfl) rfl #[.string a0, .string a1_0] rfl (by (try simp only [List.map_toArray, List.map_cons, List.map_nil]); first | done | rfl | (simp only [List.length_drop, List.length_take]; rfl)) ?_; (with_reducible refine (impl_find.calls k a0 a1_0 t174 t175 t178 t179 t182 _ A4.out).mono ?_); rintro e w12 ⟨v176, v180, rfl, ho0, ho1, hb⟩; refine ⟨_, rfl, ?_⟩; have n0_ := Aside0.mk (Kd.R_lower ho0 (below_size (by repeat (first | (with_reducible first | exact HB.out | apply below_alloc | apply pw_below_drewN | apply below_drew1 | refine below_set ?_ GE172.out | refine below_set ?_ GE173.out) | exact HB.out)))); have n1_ := Aside0.mk (Kd.R_lower ho1 (below_size (by repeat (first | (with_reducible first | exact HB.out | apply below_alloc | apply pw_below_drewN | apply below_drew1 | refine below_set ?_ GE172.out | refine below_set ?_ GE173.out) | exact HB.out)))); have n2_ := Aside0.mk (blk_below (g := gb172) (o := .cells #[.string a1_0, .slice A1_1 l1_1.length c1_1] 83 (0, 0)) (by (with_reducible repeat (first | refine blk_drewN ?_ _ | refine blk_drew ?_ | refine blk_alloc ?_ _)); exact BK172.out) hb); have n3_ := Aside0.mk (blk_below (g := gb173) (o := .cells #[.string a2_0, .slice A2_1 l2_1.length c2_1] 83 (0, 0)) (by (with_reducible repeat (first | refine blk_drewN ?_ _ | refine blk_drew ?_ | refine blk_alloc ?_ _)); exact BK173.out) hb); have n4_ := Aside0.mk (below_step (by repeat (first | (with_reducible first | exact HB.out | apply below_alloc | apply pw_below_drewN | apply below_drew1 | refine below_set ?_ GE172.out | refine below_set ?_ GE173.out) | exact HB.out)) hb); clear BK172; clear BK173; clear HB; have HO177 := n0_; have HO181 := n1_; have BK172 := n2_; have BK173 := n3_; have HB := n4_; clear n0_ n1_ n2_ n3_ n4_; (try clear hb); (try clear hb2); (try clear hk); (try clear hi); (try clear ho0); (try clear ho1)) | ((with_reducible refine gate_dst (N := 7) rfl ?_); refine box_event ?hg (N := 7) ?hd (cs := #[.string (⟨#[]⟩ : ByteArray), .slice none 0 0, .bool false, .slice none 0 0]) (t := 36) ?hr ?_; (case hd => rfl); (case hg => rfl); (case hr => first | (go_simp; done) | (go_simp; rfl)); intro gb183 hg w13 hbox hb; have n0_ := Aside0.mk (Kd.R_below (stR HO177.out) hb); have n1_ := Aside0.mk (Kd.R_below (stR HO181.out) hb); have n2_ := Aside0.mk (blk_below (g := gb172) (o := .cells #[.string a1_0, .slice A1_1 l1_1.length c1_1] 83 (0, 0)) (by (with_reducible repeat (first | refine blk_drewN ?_ _ | refine blk_drew ?_ | refine blk_alloc ?_ _)); exact BK172.out) hb); have n3_ := Aside0.mk (blk_below (g := gb173) (o := .cells #[.string a2_0, .slice A2_1 l2_1.length c2_1] 83 (0, 0)) (by (with_reducible repeat (first | refine blk_drewN ?_ _ | refine blk_drew ?_ | refine blk_alloc ?_ _)); exact BK173.out) hb); have n4_ := Aside0.mk (below_step (by repeat (first | (with_reducible first | exact HB.out | apply below_alloc | apply pw_below_drewN | apply below_drew1 | refine below_set ?_ GE172.out | refine below_set ?_ GE173.out) | exact HB.out)) hb); have n5_ := Aside0.mk (hbox); have n6_ := Aside0.mk ((by rw [hg]; exact (below_size (by repeat (first | (with_reducible first | exact HB.out | apply below_alloc | apply pw_below_drewN | apply below_drew1 | refine below_set ?_ GE172.out | refine below_set ?_ GE173.out) | exact HB.out))) : w.heap.size ≤ gb183)); have n7_ := Aside0.mk ((by rw [hg]; exact (below_size (by repeat (first | (with_reducible first | exact HB.out | apply below_alloc | apply pw_below_drewN | apply below_drew1 | refine below_set ?_ GE172.out | refine below_set ?_ GE173.out) | exact HB.out))) : w.heap.size ≤ gb183)); have n8_ := Aside0.mk ((by rw [hg]; exact Nat.ne_of_lt (blk_lt (g := gb172) (o := .cells #[.string a1_0, .slice A1_1 l1_1.length c1_1] 83 (0, 0)) (by (with_reducible repeat (first | refine blk_drewN ?_ _ | refine blk_drew ?_ | refine blk_alloc ?_ _)); exact BK172.out)) : gb172 ≠ gb183)); have n9_ := Aside0.mk ((by rw [hg]; exact Nat.ne_of_gt (blk_lt (g := gb172) (o := .cells #[.string a1_0, .slice A1_1 l1_1.length c1_1] 83 (0, 0)) (by (with_reducible repeat (first | refine blk_drewN ?_ _ | refine blk_drew ?_ | refine blk_alloc ?_ _)); exact BK172.out)) : gb183 ≠ gb172)); have n10_ := Aside0.mk ((by rw [hg]; exact Nat.ne_of_lt (blk_lt (g := gb173) (o := .cells #[.string a2_0, .slice A2_1 l2_1.length c2_1] 83 (0, 0)) (by (with_reducible repeat (first | refine blk_drewN ?_ _ | refine blk_drew ?_ | refine blk_alloc ?_ _)); exact BK173.out)) : gb173 ≠ gb183)); have n11_ := Aside0.mk ((by rw [hg]; exact Nat.ne_of_gt (blk_lt (g := gb173) (o := .cells #[.string a2_0, .slice A2_1 l2_1.length c2_1] 83 (0, 0)) (by (with_reducible repeat (first | refine blk_drewN ?_ _ | refine blk_drew ?_ | refine blk_alloc ?_ _)); exact BK173.out)) : gb183 ≠ gb173)); clear HO177; clear HO181; clear BK172; clear BK173; clear HB; have HO177 := n0_; have HO181 := n1_; have BK172 := n2_; have BK173 := n3_; have HB := n4_; have BK183 := n5_; have GW183 := n6_; have GE183 := n7_; have NB172_183 := n8_; have NB183_172 := n9_; have NB173_183 := n10_; have NB183_173 := n11_; clear n0_ n1_ n2_ n3_ n4_ n5_ n6_ n7_ n8_ n9_ n10_ n11_; clear hb hbox hg; have hnb14 := NB183_172.out; have hnc14 := NB172_183.out; have hnb15 := NB183_173.out; have hnc15 := NB173_183.out; have hcz16_0 : w13.cell? ⟨gb183, 0, none⟩ = some (.string (⟨#[]⟩ : ByteArray)) := (blk_cell BK183.out 0).trans rfl; have hcz16_1 : w13.cell? ⟨gb183, 1, none⟩ = some (.slice none 0 0) := (blk_cell BK183.out 1).trans rfl; have hcz16_2 : w13.cell? ⟨gb183, 2, none⟩ = some (.bool false) := (blk_cell BK183.out 2).trans rfl; have hcz16_3 : w13.cell? ⟨gb183, 3, none⟩ = some (.slice none 0 0) := (blk_cell BK183.out 3).trans rfl; have hfz16_0 := blk_frozen BK183.out 0; have hfz16_1 := blk_frozen BK183.out 1; have hfz16_2 := blk_frozen BK183.out 2; have hfz16_3 := blk_frozen BK183.out 3; obtain ⟨Ao17, co17, eo17⟩ := Kd.R_slice HO177.out; subst eo17; obtain ⟨Ao18, co18, eo18⟩ := Kd.R_slice HO181.out; subst eo18; have hcz19_0 : w13.cell? ⟨gb173, 0, none⟩ = some (.string a2_0) := (blk_cell BK173.out 0).trans rfl; have hcz19_1 : w13.cell? ⟨gb173, 1, none⟩ = some (.slice A2_1 l2_1.length c2_1) := (blk_cell BK173.out 1).trans rfl; have hfz19_0 := blk_frozen BK173.out 0; have hfz19_1 := blk_frozen BK173.out 1) | ((with_reducible refine gate_callee (f := 64) rfl ?_); refine goesL_ (some 22) rfl rfl Tryd.func64 (by kernel_rfl) rfl #[.string a0, .string a2_0] rfl (by (try simp only [List.map_toArray, List.map_cons, List.map_nil]); first | done | rfl | (simp only [List.length_drop, List.length_take]; rfl)) ?_; (with_reducible refine (impl_find.calls k a0 a2_0 t184 t185 t188 t189 t192 _ A5.out).mono ?_); rintro e w20 ⟨v186, v190, rfl, ho0, ho1, hb⟩; refine ⟨_, rfl, ?_⟩; have n0_ := Aside0.mk (Kd.R_elder' (by (with_reducible repeat (first | apply Kd.R_alloc | apply Kd.R_drewN | apply Kd.R_drew)); exact (Kd.R_mono (Kd.R_far (p := ⟨gb183, 3, none⟩) (Kd.R_far (p := ⟨gb183, 2, none⟩) (Kd.R_far (p := ⟨gb183, 1, none⟩) (Kd.R_far (p := ⟨gb183, 0, none⟩) (Kd.R_types HO177.out BK183.out (by decide)) (fun _ hk => hk.2) (.string t174)) (fun _ hk => hk.2) (.slice Ao17 t175.length co17)) (fun _ hk => hk.2) (.bool t178)) (fun _ hk => hk.2) (.slice Ao18 t179.length co18)) (fun _ h_ => h_.1))) (Kd.R_base ho0) hb); have n1_ := Aside0.mk (Kd.R_elder' (by (with_reducible repeat (first | apply Kd.R_alloc | apply Kd.R_drewN | apply Kd.R_drew)); exact (Kd.R_mono (Kd.R_far (p := ⟨gb183, 3, none⟩) (Kd.R_far (p := ⟨gb183, 2, none⟩) (Kd.R_far (p := ⟨gb183, 1, none⟩) (Kd.R_far (p := ⟨gb183, 0, none⟩) (Kd.R_types HO181.out BK183.out (by decide)) (fun _ hk => hk.2) (.string t174)) (fun _ hk => hk.2) (.slice Ao17 t175.length co17)) (fun _ hk => hk.2) (.bool t178)) (fun _ hk => hk.2) (.slice Ao18 t179.length co18)) (fun _ h_ => h_.1))) (Kd.R_base ho1) hb); have n2_ := Aside0.mk (Kd.R_lower (Kd.R_new' ho0 (Kd.R_lt (by (with_reducible repeat (first | apply Kd.R_alloc | apply Kd.R_drewN | apply Kd.R_drew)); exact (Kd.R_mono (Kd.R_far (p := ⟨gb183, 3, none⟩) (Kd.R_far (p := ⟨gb183, 2, none⟩) (Kd.R_far (p := ⟨gb183, 1, none⟩) (Kd.R_far (p := ⟨gb183, 0, none⟩) (Kd.R_types HO177.out BK183.out (by decide)) (fun _ hk => hk.2) (.string t174)) (fun _ hk => hk.2) (.slice Ao17 t175.length co17)) (fun _ hk => hk.2) (.bool t178)) (fun _ hk => hk.2) (.slice Ao18 t179.length co18)) (fun _ h_ => h_.1))))) (below_size (by repeat (first | (with_reducible first | exact HB.out | apply below_alloc | apply pw_below_drewN | apply below_drew1 | refine below_set ?_ GE172.out | refine below_set ?_ GE173.out | refine below_set ?_ GE183.out) | exact HB.out)))); have n3_ := Aside0.mk (Kd.R_lower (Kd.R_new' ho1 (Kd.R_lt (by (with_reducible repeat (first | apply Kd.R_alloc | apply Kd.R_drewN | apply Kd.R_drew)); exact (Kd.R_mono (Kd.R_far (p := ⟨gb183, 3, none⟩) (Kd.R_far (p := ⟨gb183, 2, none⟩) (Kd.R_far (p := ⟨gb183, 1, none⟩) (Kd.R_far (p := ⟨gb183, 0, none⟩) (Kd.R_types HO181.out BK183.out (by decide)) (fun _ hk => hk.2) (.string t174)) (fun _ hk => hk.2) (.slice Ao17 t175.length co17)) (fun _ hk => hk.2) (.bool t178)) (fun _ hk => hk.2) (.slice Ao18 t179.length co18)) (fun _ h_ => h_.1))))) (below_size (by repeat (first | (with_reducible first | exact HB.out | apply below_alloc | apply pw_below_drewN | apply below_drew1 | refine below_set ?_ GE172.out | refine below_set ?_ GE173.out | refine below_set ?_ GE183.out) | exact HB.out)))); have n4_ := Aside0.mk (blk_below (g := gb172) (o := .cells #[.string a1_0, .slice A1_1 l1_1.length c1_1] 83 (0, 0)) (by (with_reducible repeat (first | refine blk_drewN ?_ _ | refine blk_drew ?_ | refine blk_alloc ?_ _)); refine blk_far ?_ NB172_183.out _; (with_reducible repeat (first | refine blk_drewN ?_ _ | refine blk_drew ?_ | refine blk_alloc ?_ _)); refine blk_far ?_ NB172_183.out _; (with_reducible repeat (first | refine blk_drewN ?_ _ | refine blk_drew ?_ | refine blk_alloc ?_ _)); refine blk_far ?_ NB172_183.out _; (with_reducible repeat (first | refine blk_drewN ?_ _ | refine blk_drew ?_ | refine blk_alloc ?_ _)); refine blk_far ?_ NB172_183.out _; (with_reducible repeat (first | refine blk_drewN ?_ _ | refine blk_drew ?_ | refine blk_alloc ?_ _)); exact BK172.out) hb); have n5_ := Aside0.mk (blk_below (g := gb173) (o := .cells #[.string a2_0, .slice A2_1 l2_1.length c2_1] 83 (0, 0)) (by (with_reducible repeat (first | refine blk_drewN ?_ _ | refine blk_drew ?_ | refine blk_alloc ?_ _)); refine blk_far ?_ NB173_183.out _; (with_reducible repeat (first | refine blk_drewN ?_ _ | refine blk_drew ?_ | refine blk_alloc ?_ _)); refine blk_far ?_ NB173_183.out _; (with_reducible repeat (first | refine blk_drewN ?_ _ | refine blk_drew ?_ | refine blk_alloc ?_ _)); refine blk_far ?_ NB173_183.out _; (with_reducible repeat (first | refine blk_drewN ?_ _ | refine blk_drew ?_ | refine blk_alloc ?_ _)); refine blk_far ?_ NB173_183.out _; (with_reducible repeat (first | refine blk_drewN ?_ _ | refine blk_drew ?_ | refine blk_alloc ?_ _)); exact BK173.out) hb); have n6_ := Aside0.mk (blk_below (g := gb183) (o := .cells #[.string t174, .slice Ao17 t175.length co17, .bool t178, .slice Ao18 t179.length co18] 36 (0, 0)) (by (with_reducible repeat (first | refine blk_drewN ?_ _ | refine blk_drew ?_ | refine blk_alloc ?_ _)); refine blk_put (cs := #[.string t174, .slice Ao17 t175.length co17, .bool t178, .slice none 0 0]) ?_ 3 _ rfl; (with_reducible repeat (first | refine blk_drewN ?_ _ | refine blk_drew ?_ | refine blk_alloc ?_ _)); refine blk_put (cs := #[.string t174, .slice Ao17 t175.length co17, .bool false, .slice none 0 0]) ?_ 2 _ rfl; (with_reducible repeat (first | refine blk_drewN ?_ _ | refine blk_drew ?_ | refine blk_alloc ?_ _)); refine blk_put (cs := #[.string t174, .slice none 0 0, .bool false, .slice none 0 0]) ?_ 1 _ rfl; (with_reducible repeat (first | refine blk_drewN ?_ _ | refine blk_drew ?_ | refine blk_alloc ?_ _)); refine blk_put (cs := #[.string (⟨#[]⟩ : ByteArray), .slice none 0 0, .bool false, .slice none 0 0]) ?_ 0 _ rfl; (with_reducible repeat (first | refine blk_drewN ?_ _ | refine blk_drew ?_ | refine blk_alloc ?_ _)); exact BK183.out) hb); have n7_ := Aside0.mk (below_step (by repeat (first | (with_reducible first | exact HB.out | apply below_alloc | apply pw_below_drewN | apply below_drew1 | refine below_set ?_ GE172.out | refine below_set ?_ GE173.out | refine below_set ?_ GE183.out) | exact HB.out)) hb); clear HO177; clear HO181; clear BK172; clear BK173; clear BK183; clear HB; have HO177 := n0_; have HO181 := n1_; have HO187 := n2_; have HO191 := n3_; have BK172 := n4_; have BK173 := n5_; have BK183 := n6_; have HB := n7_; clear n0_ n1_ n2_ n3_ n4_ n5_ n6_ n7_; (try clear hb); (try clear hb2); (try clear hk); (try clear hi); (try clear ho0); (try clear ho1)) | ((with_reducible refine gate_dst (N := 9) rfl ?_); refine box_event ?hg (N := 9) ?hd (cs := #[.string (⟨#[]⟩ : ByteArray), .slice none 0 0, .bool false, .slice none 0 0]) (t := 36) ?hr ?_; (case hd => rfl); (case hg => rfl); (case hr => first | (go_simp; done) | (go_simp; rfl)); intro gb193 hg w21 hbox hb; have n0_ := Aside0.mk (Kd.R_below (stR HO177.out) hb); have n1_ := Aside0.mk (Kd.R_below (stR HO181.out) hb); have n2_ := Aside0.mk (Kd.R_below (stR HO187.out) hb); have n3_ := Aside0.mk (Kd.R_below (stR HO191.out) hb); have n4_ := Aside0.mk (blk_below (g := gb172) (o := .cells #[.string a1_0, .slice A1_1 l1_1.length c1_1] 83 (0, 0)) (by (with_reducible repeat (first | refine blk_drewN ?_ _ | refine blk_drew ?_ | refine blk_alloc ?_ _)); exact BK172.out) hb); have n5_ := Aside0.mk (blk_below (g := gb173) (o := .cells #[.string a2_0, .slice A2_1 l2_1.length c2_1] 83 (0, 0)) (by (with_reducible repeat (first | refine blk_drewN ?_ _ | refine blk_drew ?_ | refine blk_alloc ?_ _)); exact BK173.out) hb); have n6_ := Aside0.mk (blk_below (g := gb183) (o := .cells #[.string t174, .slice Ao17 t175.length co17, .bool t178, .slice Ao18 t179.length co18] 36 (0, 0)) (by (with_reducible repeat (first | refine blk_drewN ?_ _ | refine blk_drew ?_ | refine blk_alloc ?_ _)); exact BK183.out) hb); have n7_ := Aside0.mk (below_step (by repeat (first | (with_reducible first | exact HB.out | apply below_alloc | apply pw_below_drewN | apply below_drew1 | refine below_set ?_ GE172.out | refine below_set ?_ GE173.out | refine below_set ?_ GE183.out) | exact HB.out)) hb); have n8_ := Aside0.mk (hbox); have n9_ := Aside0.mk ((by rw [hg]; exact (below_size (by repeat (first | (with_reducible first | exact HB.out | apply below_alloc | apply pw_below_drewN | apply below_drew1 | refine below_set ?_ GE172.out | refine below_set ?_ GE173.out | refine below_set ?_ GE183.out) | exact HB.out))) : w.heap.size ≤ gb193)); have n10_ := Aside0.mk ((by rw [hg]; exact (below_size (by repeat (first | (with_reducible first | exact HB.out | apply below_alloc | apply pw_below_drewN | apply below_drew1 | refine below_set ?_ GE172.out | refine below_set ?_ GE173.out | refine below_set ?_ GE183.out) | exact HB.out))) : w.heap.size ≤ gb193)); have n11_ := Aside0.mk ((by rw [hg]; exact Nat.ne_of_lt (blk_lt (g := gb172) (o := .cells #[.string a1_0, .slice A1_1 l1_1.length c1_1] 83 (0, 0)) (by (with_reducible repeat (first | refine blk_drewN ?_ _ | refine blk_drew ?_ | refine blk_alloc ?_ _)); exact BK172.out)) : gb172 ≠ gb193)); have n12_ := Aside0.mk ((by rw [hg]; exact Nat.ne_of_gt (blk_lt (g := gb172) (o := .cells #[.string a1_0, .slice A1_1 l1_1.length c1_1] 83 (0, 0)) (by (with_reducible repeat (first | refine blk_drewN ?_ _ | refine blk_drew ?_ | refine blk_alloc ?_ _)); exact BK172.out)) : gb193 ≠ gb172)); have n13_ := Aside0.mk ((by rw [hg]; exact Nat.ne_of_lt (blk_lt (g := gb173) (o := .cells #[.string a2_0, .slice A2_1 l2_1.length c2_1] 83 (0, 0)) (by (with_reducible repeat (first | refine blk_drewN ?_ _ | refine blk_drew ?_ | refine blk_alloc ?_ _)); exact BK173.out)) : gb173 ≠ gb193)); have n14_ := Aside0.mk ((by rw [hg]; exact Nat.ne_of_gt (blk_lt (g := gb173) (o := .cells #[.string a2_0, .slice A2_1 l2_1.length c2_1] 83 (0, 0)) (by (with_reducible repeat (first | refine blk_drewN ?_ _ | refine blk_drew ?_ | refine blk_alloc ?_ _)); exact BK173.out)) : gb193 ≠ gb173)); have n15_ := Aside0.mk ((by rw [hg]; exact Nat.ne_of_lt (blk_lt (g := gb183) (o := .cells #[.string t174, .slice Ao17 t175.length co17, .bool t178, .slice Ao18 t179.length co18] 36 (0, 0)) (by (with_reducible repeat (first | refine blk_drewN ?_ _ | refine blk_drew ?_ | refine blk_alloc ?_ _)); exact BK183.out)) : gb183 ≠ gb193)); have n16_ := Aside0.mk ((by rw [hg]; exact Nat.ne_of_gt (blk_lt (g := gb183) (o := .cells #[.string t174, .slice Ao17 t175.length co17, .bool t178, .slice Ao18 t179.length co18] 36 (0, 0)) (by (with_reducible repeat (first | refine blk_drewN ?_ _ | refine blk_drew ?_ | refine blk_alloc ?_ _)); exact BK183.out)) : gb193 ≠ gb183)); clear HO177; clear HO181; clear HO187; clear HO191; clear BK172; clear BK173; clear BK183; clear HB; have HO177 := n0_; have HO181 := n1_; have HO187 := n2_; have HO191 := n3_; have BK172 := n4_; have BK173 := n5_; have BK183 := n6_; have HB := n7_; have BK193 := n8_; have GW193 := n9_; have GE193 := n10_; have NB172_193 := n11_; have NB193_172 := n12_; have NB173_193 := n13_; have NB193_173 := n14_; have NB183_193 := n15_; have NB193_183 := n16_; clear n0_ n1_ n2_ n3_ n4_ n5_ n6_ n7_ n8_ n9_ n10_ n11_ n12_ n13_ n14_ n15_ n16_; clear hb hbox hg; have hnb22 := NB193_172.out; have hnc22 := NB172_193.out; have hnb23 := NB193_173.out; have hnc23 := NB173_193.out; have hnb24 := NB193_183.out; have hnc24 := NB183_193.out; have hcz25_0 : w21.cell? ⟨gb193, 0, none⟩ = some (.string (⟨#[]⟩ : ByteArray)) := (blk_cell BK193.out 0).trans rfl; have hcz25_1 : w21.cell? ⟨gb193, 1, none⟩ = some (.slice none 0 0) := (blk_cell BK193.out 1).trans rfl; have hcz25_2 : w21.cell? ⟨gb193, 2, none⟩ = some (.bool false) := (blk_cell BK193.out 2).trans rfl; have hcz25_3 : w21.cell? ⟨gb193, 3, none⟩ = some (.slice none 0 0) := (blk_cell BK193.out 3).trans rfl; have hfz25_0 := blk_frozen BK193.out 0; have hfz25_1 := blk_frozen BK193.out 1; have hfz25_2 := blk_frozen BK193.out 2; have hfz25_3 := blk_frozen BK193.out 3; obtain ⟨Ao26, co26, eo26⟩ := Kd.R_slice HO187.out; subst eo26; obtain ⟨Ao27, co27, eo27⟩ := Kd.R_slice HO191.out; subst eo27; have hcz28_0 : w21.cell? ⟨gb172, 0, none⟩ = some (.string a1_0) := (blk_cell BK172.out 0).trans rfl; have hcz28_1 : w21.cell? ⟨gb172, 1, none⟩ = some (.slice A1_1 l1_1.length c1_1) := (blk_cell BK172.out 1).trans rfl; have hfz28_0 := blk_frozen BK172.out 0; have hfz28_1 := blk_frozen BK172.out 1; have hcz29_0 : w21.cell? ⟨gb173, 0, none⟩ = some (.string a2_0) := (blk_cell BK173.out 0).trans rfl; have hcz29_1 : w21.cell? ⟨gb173, 1, none⟩ = some (.slice A2_1 l2_1.length c2_1) := (blk_cell BK173.out 1).trans rfl; have hfz29_0 := blk_frozen BK173.out 0; have hfz29_1 := blk_frozen BK173.out 1) | ((with_reducible refine gate_callee (f := 139) rfl ?_); refine goesL_ (some 35) rfl rfl Tryd.func139 (by kernel_rfl) rfl #[.slice A1_1 l1_1.length c1_1, .slice A2_1 l2_1.length c2_1] rfl (by (try simp only [List.map_toArray, List.map_cons, List.map_nil]); first | done | rfl | (simp only [List.length_drop, List.length_take]; rfl)) ?_; (with_reducible refine (slices_Compare_string_string.calls k _ _ l1_1 _ _ l2_1 t194 _ ?side1 ?side2 ?side3 ?side4 A7.out).mono ?_); (case side1 => exact Kd.C_below HR1_1.out (by repeat (first | (with_reducible first | exact HB.out | apply below_alloc | apply pw_below_drewN | apply below_drew1 | refine below_set ?_ GE172.out | refine below_set ?_ GE173.out | refine below_set ?_ GE183.out | refine below_set ?_ GE193.out) | exact HB.out))); (case side2 => exact HC1_1.out); (case side3 => exact Kd.C_below HR2_1.out (by repeat (first | (with_reducible first | exact HB.out | apply below_alloc | apply pw_below_drewN | apply below_drew1 | refine below_set ?_ GE172.out | refine below_set ?_ GE173.out | refine below_set ?_ GE183.out | refine below_set ?_ GE193.out) | exact HB.out))); (case side4 => exact HC2_1.out); rintro e w30 ⟨rfl, hb⟩; refine ⟨_, rfl, ?_⟩; have n0_ := Aside0.mk (Kd.R_below (by (with_reducible repeat (first | apply Kd.R_alloc | apply Kd.R_drewN | apply Kd.R_drew)); exact (Kd.R_mono (Kd.R_far (p := ⟨gb193, 3, none⟩) (Kd.R_far (p := ⟨gb193, 2, none⟩) (Kd.R_far (p := ⟨gb193, 1, none⟩) (Kd.R_far (p := ⟨gb193, 0, none⟩) (Kd.R_types HO177.out BK193.out (by decide)) (fun _ hk => hk.2) (.string t184)) (fun _ hk => hk.2) (.slice Ao26 t185.length co26)) (fun _ hk => hk.2) (.bool t188)) (fun _ hk => hk.2) (.slice Ao27 t189.length co27)) (fun _ h_ => h_.1))) hb); have n1_ := Aside0.mk (Kd.R_below (by (with_reducible repeat (first | apply Kd.R_alloc | apply Kd.R_drewN | apply Kd.R_drew)); exact (Kd.R_mono (Kd.R_far (p := ⟨gb193, 3, none⟩) (Kd.R_far (p := ⟨gb193, 2, none⟩) (Kd.R_far (p := ⟨gb193, 1, none⟩) (Kd.R_far (p := ⟨gb193, 0, none⟩) (Kd.R_types HO181.out BK193.out (by decide)) (fun _ hk => hk.2) (.string t184)) (fun _ hk => hk.2) (.slice Ao26 t185.length co26)) (fun _ hk => hk.2) (.bool t188)) (fun _ hk => hk.2) (.slice Ao27 t189.length co27)) (fun _ h_ => h_.1))) hb); have n2_ := Aside0.mk (Kd.R_below (by (with_reducible repeat (first | apply Kd.R_alloc | apply Kd.R_drewN | apply Kd.R_drew)); exact (Kd.R_mono (Kd.R_far (p := ⟨gb193, 3, none⟩) (Kd.R_far (p := ⟨gb193, 2, none⟩) (Kd.R_far (p := ⟨gb193, 1, none⟩) (Kd.R_far (p := ⟨gb193, 0, none⟩) (Kd.R_types HO187.out BK193.out (by decide)) (fun _ hk => hk.2) (.string t184)) (fun _ hk => hk.2) (.slice Ao26 t185.length co26)) (fun _ hk => hk.2) (.bool t188)) (fun _ hk => hk.2) (.slice Ao27 t189.length co27)) (fun _ h_ => h_.1))) hb); have n3_ := Aside0.mk (Kd.R_below (by (with_reducible repeat (first | apply Kd.R_alloc | apply Kd.R_drewN | apply Kd.R_drew)); exact (Kd.R_mono (Kd.R_far (p := ⟨gb193, 3, none⟩) (Kd.R_far (p := ⟨gb193, 2, none⟩) (Kd.R_far (p := ⟨gb193, 1, none⟩) (Kd.R_far (p := ⟨gb193, 0, none⟩) (Kd.R_types HO191.out BK193.out (by decide)) (fun _ hk => hk.2) (.string t184)) (fun _ hk => hk.2) (.slice Ao26 t185.length co26)) (fun _ hk => hk.2) (.bool t188)) (fun _ hk => hk.2) (.slice Ao27 t189.length co27)) (fun _ h_ => h_.1))) hb); have n4_ := Aside0.mk (blk_below (g := gb172) (o := .cells #[.string a1_0, .slice A1_1 l1_1.length c1_1] 83 (0, 0)) (by (with_reducible repeat (first | refine blk_drewN ?_ _ | refine blk_drew ?_ | refine blk_alloc ?_ _)); refine blk_far ?_ NB172_193.out _; (with_reducible repeat (first | refine blk_drewN ?_ _ | refine blk_drew ?_ | refine blk_alloc ?_ _)); refine blk_far ?_ NB172_193.out _; (with_reducible repeat (first | refine blk_drewN ?_ _ | refine blk_drew ?_ | refine blk_alloc ?_ _)); refine blk_far ?_ NB172_193.out _; (with_reducible repeat (first | refine blk_drewN ?_ _ | refine blk_drew ?_ | refine blk_alloc ?_ _)); refine blk_far ?_ NB172_193.out _; (with_reducible repeat (first | refine blk_drewN ?_ _ | refine blk_drew ?_ | refine blk_alloc ?_ _)); exact BK172.out) hb); have n5_ := Aside0.mk (blk_below (g := gb173) (o := .cells #[.string a2_0, .slice A2_1 l2_1.length c2_1] 83 (0, 0)) (by (with_reducible repeat (first | refine blk_drewN ?_ _ | refine blk_drew ?_ | refine blk_alloc ?_ _)); refine blk_far ?_ NB173_193.out _; (with_reducible repeat (first | refine blk_drewN ?_ _ | refine blk_drew ?_ | refine blk_alloc ?_ _)); refine blk_far ?_ NB173_193.out _; (with_reducible repeat (first | refine blk_drewN ?_ _ | refine blk_drew ?_ | refine blk_alloc ?_ _)); refine blk_far ?_ NB173_193.out _; (with_reducible repeat (first | refine blk_drewN ?_ _ | refine blk_drew ?_ | refine blk_alloc ?_ _)); refine blk_far ?_ NB173_193.out _; (with_reducible repeat (first | refine blk_drewN ?_ _ | refine blk_drew ?_ | refine blk_alloc ?_ _)); exact BK173.out) hb); have n6_ := Aside0.mk (blk_below (g := gb183) (o := .cells #[.string t174, .slice Ao17 t175.length co17, .bool t178, .slice Ao18 t179.length co18] 36 (0, 0)) (by (with_reducible repeat (first | refine blk_drewN ?_ _ | refine blk_drew ?_ | refine blk_alloc ?_ _)); refine blk_far ?_ NB183_193.out _; (with_reducible repeat (first | refine blk_drewN ?_ _ | refine blk_drew ?_ | refine blk_alloc ?_ _)); refine blk_far ?_ NB183_193.out _; (with_reducible repeat (first | refine blk_drewN ?_ _ | refine blk_drew ?_ | refine blk_alloc ?_ _)); refine blk_far ?_ NB183_193.out _; (with_reducible repeat (first | refine blk_drewN ?_ _ | refine blk_drew ?_ | refine blk_alloc ?_ _)); refine blk_far ?_ NB183_193.out _; (with_reducible repeat (first | refine blk_drewN ?_ _ | refine blk_drew ?_ | refine blk_alloc ?_ _)); exact BK183.out) hb); have n7_ := Aside0.mk (blk_below (g := gb193) (o := .cells #[.string t184, .slice Ao26 t185.length co26, .bool t188, .slice Ao27 t189.length co27] 36 (0, 0)) (by (with_reducible repeat (first | refine blk_drewN ?_ _ | refine blk_drew ?_ | refine blk_alloc ?_ _)); refine blk_put (cs := #[.string t184, .slice Ao26 t185.length co26, .bool t188, .slice none 0 0]) ?_ 3 _ rfl; (with_reducible repeat (first | refine blk_drewN ?_ _ | refine blk_drew ?_ | refine blk_alloc ?_ _)); refine blk_put (cs := #[.string t184, .slice Ao26 t185.length co26, .bool false, .slice none 0 0]) ?_ 2 _ rfl; (with_reducible repeat (first | refine blk_drewN ?_ _ | refine blk_drew ?_ | refine blk_alloc ?_ _)); refine blk_put (cs := #[.string t184, .slice none 0 0, .bool false, .slice none 0 0]) ?_ 1 _ rfl; (with_reducible repeat (first | refine blk_drewN ?_ _ | refine blk_drew ?_ | refine blk_alloc ?_ _)); refine blk_put (cs := #[.string (⟨#[]⟩ : ByteArray), .slice none 0 0, .bool false, .slice none 0 0]) ?_ 0 _ rfl; (with_reducible repeat (first | refine blk_drewN ?_ _ | refine blk_drew ?_ | refine blk_alloc ?_ _)); exact BK193.out) hb); have n8_ := Aside0.mk (below_step (by repeat (first | (with_reducible first | exact HB.out | apply below_alloc | apply pw_below_drewN | apply below_drew1 | refine below_set ?_ GE172.out | refine below_set ?_ GE173.out | refine below_set ?_ GE183.out | refine below_set ?_ GE193.out) | exact HB.out)) hb); clear HO177; clear HO181; clear HO187; clear HO191; clear BK172; clear BK173; clear BK183; clear BK193; clear HB; have HO177 := n0_; have HO181 := n1_; have HO187 := n2_; have HO191 := n3_; have BK172 := n4_; have BK173 := n5_; have BK183 := n6_; have BK193 := n7_; have HB := n8_; clear n0_ n1_ n2_ n3_ n4_ n5_ n6_ n7_ n8_; (try clear hb); (try clear hb2); (try clear hk); (try clear hi)))
  go_ret
  exact ⟨by first | rfl | (simp [errW_none, errW_some] <;> rfl) | (simp [*, errW_none, errW_some] <;> rfl), by repeat (first | (with_reducible first | exact HB.out | apply below_alloc | apply pw_below_drewN | apply below_drew1 | refine below_set ?_ GE172.out | refine below_set ?_ GE173.out | refine below_set ?_ GE183.out | refine below_set ?_ GE193.out) | exact HB.out)⟩
 ·rw [if_neg c6] at H
  have c6b0 : (t182 == t192) = false := beq_eq_false_iff_ne.mpr c6
  have c6b1 : (t182 != t192) = true := bne_iff_ne.mpr c6
  obtain rfl := Option.some.inj H
  go_enter Tryd.func116, Tryd.ntmps116
  go_wp2_with (first | ((with_reducible refine gate_dst (N := 4) rfl ?_); refine box_event ?hg (N := 4) ?hd (cs := #[.string a1_0, .slice A1_1 l1_1.length c1_1]) (t := 83) ?hr ?_; (case hd => rfl); (case hg => rfl); (case hr => first | (go_simp; done) | (go_simp; rfl)); intro gb172 hg w31 hbox hb; have n0_ := Aside0.mk (below_step (stB HB.out) hb); have n1_ := Aside0.mk (hbox); have n2_ := Aside0.mk ((by rw [hg]; exact (below_size (stB HB.out)) : w.heap.size ≤ gb172)); have n3_ := Aside0.mk ((by rw [hg]; exact (below_size (stB HB.out)) : w.heap.size ≤ gb172)); clear HB; have HB := n0_; have BK172 := n1_; have GW172 := n2_; have GE172 := n3_; clear n0_ n1_ n2_ n3_; clear hb hbox hg) | ((with_reducible refine gate_dst (N := 5) rfl ?_); refine box_event ?hg (N := 5) ?hd (cs := #[.string a2_0, .slice A2_1 l2_1.length c2_1]) (t := 83) ?hr ?_; (case hd => rfl); (case hg => rfl); (case hr => first | (go_simp; done) | (go_simp; rfl)); intro gb173 hg w32 hbox hb; have n0_ := Aside0.mk (blk_below (g := gb172) (o := .cells #[.string a1_0, .slice A1_1 l1_1.length c1_1] 83 (0, 0)) (by (with_reducible repeat (first | refine blk_drewN ?_ _ | refine blk_drew ?_ | refine blk_alloc ?_ _)); exact BK172.out) hb); have n1_ := Aside0.mk (below_step (by repeat (first | (with_reducible first | exact HB.out | apply below_alloc | apply pw_below_drewN | apply below_drew1 | refine below_set ?_ GE172.out) | exact HB.out)) hb); have n2_ := Aside0.mk (hbox); have n3_ := Aside0.mk ((by rw [hg]; exact (below_size (by repeat (first | (with_reducible first | exact HB.out | apply below_alloc | apply pw_below_drewN | apply below_drew1 | refine below_set ?_ GE172.out) | exact HB.out))) : w.heap.size ≤ gb173)); have n4_ := Aside0.mk ((by rw [hg]; exact (below_size (by repeat (first | (with_reducible first | exact HB.out | apply below_alloc | apply pw_below_drewN | apply below_drew1 | refine below_set ?_ GE172.out) | exact HB.out))) : w.heap.size ≤ gb173)); have n5_ := Aside0.mk ((by rw [hg]; exact Nat.ne_of_lt (blk_lt (g := gb172) (o := .cells #[.string a1_0, .slice A1_1 l1_1.length c1_1] 83 (0, 0)) (by (with_reducible repeat (first | refine blk_drewN ?_ _ | refine blk_drew ?_ | refine blk_alloc ?_ _)); exact BK172.out)) : gb172 ≠ gb173)); have n6_ := Aside0.mk ((by rw [hg]; exact Nat.ne_of_gt (blk_lt (g := gb172) (o := .cells #[.string a1_0, .slice A1_1 l1_1.length c1_1] 83 (0, 0)) (by (with_reducible repeat (first | refine blk_drewN ?_ _ | refine blk_drew ?_ | refine blk_alloc ?_ _)); exact BK172.out)) : gb173 ≠ gb172)); clear BK172; clear HB; have BK172 := n0_; have HB := n1_; have BK173 := n2_; have GW173 := n3_; have GE173 := n4_; have NB172_173 := n5_; have NB173_172 := n6_; clear n0_ n1_ n2_ n3_ n4_ n5_ n6_; clear hb hbox hg; have hnb33 := NB172_173.out; have hnc33 := NB173_172.out; have hcz34_0 : w32.cell? ⟨gb172, 0, none⟩ = some (.string a1_0) := (blk_cell BK172.out 0).trans rfl; have hcz34_1 : w32.cell? ⟨gb172, 1, none⟩ = some (.slice A1_1 l1_1.length c1_1) := (blk_cell BK172.out 1).trans rfl; have hfz34_0 := blk_frozen BK172.out 0; have hfz34_1 := blk_frozen BK172.out 1) | ((with_reducible refine gate_callee (f := 64) rfl ?_); refine goesL_ (some 15) rfl rfl Tryd.func64 (by kernel_rfl) rfl #[.string a0, .string a1_0] rfl (by (try simp only [List.map_toArray, List.map_cons, List.map_nil]); first | done | rfl | (simp only [List.length_drop, List.length_take]; rfl)) ?_; (with_reducible refine (impl_find.calls k a0 a1_0 t174 t175 t178 t179 t182 _ A4.out).mono ?_); rintro e w35 ⟨v176, v180, rfl, ho0, ho1, hb⟩; refine ⟨_, rfl, ?_⟩; have n0_ := Aside0.mk (Kd.R_lower ho0 (below_size (by repeat (first | (with_reducible first | exact HB.out | apply below_alloc | apply pw_below_drewN | apply below_drew1 | refine below_set ?_ GE172.out | refine below_set ?_ GE173.out) | exact HB.out)))); have n1_ := Aside0.mk (Kd.R_lower ho1 (below_size (by repeat (first | (with_reducible first | exact HB.out | apply below_alloc | apply pw_below_drewN | apply below_drew1 | refine below_set ?_ GE172.out | refine below_set ?_ GE173.out) | exact HB.out)))); have n2_ := Aside0.mk (blk_below (g := gb172) (o := .cells #[.string a1_0, .slice A1_1 l1_1.length c1_1] 83 (0, 0)) (by (with_reducible repeat (first | refine blk_drewN ?_ _ | refine blk_drew ?_ | refine blk_alloc ?_ _)); exact BK172.out) hb); have n3_ := Aside0.mk (blk_below (g := gb173) (o := .cells #[.string a2_0, .slice A2_1 l2_1.length c2_1] 83 (0, 0)) (by (with_reducible repeat (first | refine blk_drewN ?_ _ | refine blk_drew ?_ | refine blk_alloc ?_ _)); exact BK173.out) hb); have n4_ := Aside0.mk (below_step (by repeat (first | (with_reducible first | exact HB.out | apply below_alloc | apply pw_below_drewN | apply below_drew1 | refine below_set ?_ GE172.out | refine below_set ?_ GE173.out) | exact HB.out)) hb); clear BK172; clear BK173; clear HB; have HO177 := n0_; have HO181 := n1_; have BK172 := n2_; have BK173 := n3_; have HB := n4_; clear n0_ n1_ n2_ n3_ n4_; (try clear hb); (try clear hb2); (try clear hk); (try clear hi); (try clear ho0); (try clear ho1)) | ((with_reducible refine gate_dst (N := 7) rfl ?_); refine box_event ?hg (N := 7) ?hd (cs := #[.string (⟨#[]⟩ : ByteArray), .slice none 0 0, .bool false, .slice none 0 0]) (t := 36) ?hr ?_; (case hd => rfl); (case hg => rfl); (case hr => first | (go_simp; done) | (go_simp; rfl)); intro gb183 hg w36 hbox hb; have n0_ := Aside0.mk (Kd.R_below (stR HO177.out) hb); have n1_ := Aside0.mk (Kd.R_below (stR HO181.out) hb); have n2_ := Aside0.mk (blk_below (g := gb172) (o := .cells #[.string a1_0, .slice A1_1 l1_1.length c1_1] 83 (0, 0)) (by (with_reducible repeat (first | refine blk_drewN ?_ _ | refine blk_drew ?_ | refine blk_alloc ?_ _)); exact BK172.out) hb); have n3_ := Aside0.mk (blk_below (g := gb173) (o := .cells #[.string a2_0, .slice A2_1 l2_1.length c2_1] 83 (0, 0)) (by (with_reducible repeat (first | refine blk_drewN ?_ _ | refine blk_drew ?_ | refine blk_alloc ?_ _)); exact BK173.out) hb); have n4_ := Aside0.mk (below_step (by repeat (first | (with_reducible first | exact HB.out | apply below_alloc | apply pw_below_drewN | apply below_drew1 | refine below_set ?_ GE172.out | refine below_set ?_ GE173.out) | exact HB.out)) hb); have n5_ := Aside0.mk (hbox); have n6_ := Aside0.mk ((by rw [hg]; exact (below_size (by repeat (first | (with_reducible first | exact HB.out | apply below_alloc | apply pw_below_drewN | apply below_drew1 | refine below_set ?_ GE172.out | refine below_set ?_ GE173.out) | exact HB.out))) : w.heap.size ≤ gb183)); have n7_ := Aside0.mk ((by rw [hg]; exact (below_size (by repeat (first | (with_reducible first | exact HB.out | apply below_alloc | apply pw_below_drewN | apply below_drew1 | refine below_set ?_ GE172.out | refine below_set ?_ GE173.out) | exact HB.out))) : w.heap.size ≤ gb183)); have n8_ := Aside0.mk ((by rw [hg]; exact Nat.ne_of_lt (blk_lt (g := gb172) (o := .cells #[.string a1_0, .slice A1_1 l1_1.length c1_1] 83 (0, 0)) (by (with_reducible repeat (first | refine blk_drewN ?_ _ | refine blk_drew ?_ | refine blk_alloc ?_ _)); exact BK172.out)) : gb172 ≠ gb183)); have n9_ := Aside0.mk ((by rw [hg]; exact Nat.ne_of_gt (blk_lt (g := gb172) (o := .cells #[.string a1_0, .slice A1_1 l1_1.length c1_1] 83 (0, 0)) (by (with_reducible repeat (first | refine blk_drewN ?_ _ | refine blk_drew ?_ | refine blk_alloc ?_ _)); exact BK172.out)) : gb183 ≠ gb172)); have n10_ := Aside0.mk ((by rw [hg]; exact Nat.ne_of_lt (blk_lt (g := gb173) (o := .cells #[.string a2_0, .slice A2_1 l2_1.length c2_1] 83 (0, 0)) (by (with_reducible repeat (first | refine blk_drewN ?_ _ | refine blk_drew ?_ | refine blk_alloc ?_ _)); exact BK173.out)) : gb173 ≠ gb183)); have n11_ := Aside0.mk ((by rw [hg]; exact Nat.ne_of_gt (blk_lt (g := gb173) (o := .cells #[.string a2_0, .slice A2_1 l2_1.length c2_1] 83 (0, 0)) (by (with_reducible repeat (first | refine blk_drewN ?_ _ | refine blk_drew ?_ | refine blk_alloc ?_ _)); exact BK173.out)) : gb183 ≠ gb173)); clear HO177; clear HO181; clear BK172; clear BK173; clear HB; have HO177 := n0_; have HO181 := n1_; have BK172 := n2_; have BK173 := n3_; have HB := n4_; have BK183 := n5_; have GW183 := n6_; have GE183 := n7_; have NB172_183 := n8_; have NB183_172 := n9_; have NB173_183 := n10_; have NB183_173 := n11_; clear n0_ n1_ n2_ n3_ n4_ n5_ n6_ n7_ n8_ n9_ n10_ n11_; clear hb hbox hg; have hnb37 := NB183_172.out; have hnc37 := NB172_183.out; have hnb38 := NB183_173.out; have hnc38 := NB173_183.out; have hcz39_0 : w36.cell? ⟨gb183, 0, none⟩ = some (.string (⟨#[]⟩ : ByteArray)) := (blk_cell BK183.out 0).trans rfl; have hcz39_1 : w36.cell? ⟨gb183, 1, none⟩ = some (.slice none 0 0) := (blk_cell BK183.out 1).trans rfl; have hcz39_2 : w36.cell? ⟨gb183, 2, none⟩ = some (.bool false) := (blk_cell BK183.out 2).trans rfl; have hcz39_3 : w36.cell? ⟨gb183, 3, none⟩ = some (.slice none 0 0) := (blk_cell BK183.out 3).trans rfl; have hfz39_0 := blk_frozen BK183.out 0; have hfz39_1 := blk_frozen BK183.out 1; have hfz39_2 := blk_frozen BK183.out 2; have hfz39_3 := blk_frozen BK183.out 3; obtain ⟨Ao40, co40, eo40⟩ := Kd.R_slice HO177.out; subst eo40; obtain ⟨Ao41, co41, eo41⟩ := Kd.R_slice HO181.out; subst eo41; have hcz42_0 : w36.cell? ⟨gb173, 0, none⟩ = some (.string a2_0) := (blk_cell BK173.out 0).trans rfl; have hcz42_1 : w36.cell? ⟨gb173, 1, none⟩ = some (.slice A2_1 l2_1.length c2_1) := (blk_cell BK173.out 1).trans rfl; have hfz42_0 := blk_frozen BK173.out 0; have hfz42_1 := blk_frozen BK173.out 1) | ((with_reducible refine gate_callee (f := 64) rfl ?_); refine goesL_ (some 22) rfl rfl Tryd.func64 (by kernel_rfl) rfl #[.string a0, .string a2_0] rfl (by (try simp only [List.map_toArray, List.map_cons, List.map_nil]); first | done | rfl | (simp only [List.length_drop, List.length_take]; rfl)) ?_; (with_reducible refine (impl_find.calls k a0 a2_0 t184 t185 t188 t189 t192 _ A5.out).mono ?_); rintro e w43 ⟨v186, v190, rfl, ho0, ho1, hb⟩; refine ⟨_, rfl, ?_⟩; have n0_ := Aside0.mk (Kd.R_elder' (by (with_reducible repeat (first | apply Kd.R_alloc | apply Kd.R_drewN | apply Kd.R_drew)); exact (Kd.R_mono (Kd.R_far (p := ⟨gb183, 3, none⟩) (Kd.R_far (p := ⟨gb183, 2, none⟩) (Kd.R_far (p := ⟨gb183, 1, none⟩) (Kd.R_far (p := ⟨gb183, 0, none⟩) (Kd.R_types HO177.out BK183.out (by decide)) (fun _ hk => hk.2) (.string t174)) (fun _ hk => hk.2) (.slice Ao40 t175.length co40)) (fun _ hk => hk.2) (.bool t178)) (fun _ hk => hk.2) (.slice Ao41 t179.length co41)) (fun _ h_ => h_.1))) (Kd.R_base ho0) hb); have n1_ := Aside0.mk (Kd.R_elder' (by (with_reducible repeat (first | apply Kd.R_alloc | apply Kd.R_drewN | apply Kd.R_drew)); exact (Kd.R_mono (Kd.R_far (p := ⟨gb183, 3, none⟩) (Kd.R_far (p := ⟨gb183, 2, none⟩) (Kd.R_far (p := ⟨gb183, 1, none⟩) (Kd.R_far (p := ⟨gb183, 0, none⟩) (Kd.R_types HO181.out BK183.out (by decide)) (fun _ hk => hk.2) (.string t174)) (fun _ hk => hk.2) (.slice Ao40 t175.length co40)) (fun _ hk => hk.2) (.bool t178)) (fun _ hk => hk.2) (.slice Ao41 t179.length co41)) (fun _ h_ => h_.1))) (Kd.R_base ho1) hb); have n2_ := Aside0.mk (Kd.R_lower (Kd.R_new' ho0 (Kd.R_lt (by (with_reducible repeat (first | apply Kd.R_alloc | apply Kd.R_drewN | apply Kd.R_drew)); exact (Kd.R_mono (Kd.R_far (p := ⟨gb183, 3, none⟩) (Kd.R_far (p := ⟨gb183, 2, none⟩) (Kd.R_far (p := ⟨gb183, 1, none⟩) (Kd.R_far (p := ⟨gb183, 0, none⟩) (Kd.R_types HO177.out BK183.out (by decide)) (fun _ hk => hk.2) (.string t174)) (fun _ hk => hk.2) (.slice Ao40 t175.length co40)) (fun _ hk => hk.2) (.bool t178)) (fun _ hk => hk.2) (.slice Ao41 t179.length co41)) (fun _ h_ => h_.1))))) (below_size (by repeat (first | (with_reducible first | exact HB.out | apply below_alloc | apply pw_below_drewN | apply below_drew1 | refine below_set ?_ GE172.out | refine below_set ?_ GE173.out | refine below_set ?_ GE183.out) | exact HB.out)))); have n3_ := Aside0.mk (Kd.R_lower (Kd.R_new' ho1 (Kd.R_lt (by (with_reducible repeat (first | apply Kd.R_alloc | apply Kd.R_drewN | apply Kd.R_drew)); exact (Kd.R_mono (Kd.R_far (p := ⟨gb183, 3, none⟩) (Kd.R_far (p := ⟨gb183, 2, none⟩) (Kd.R_far (p := ⟨gb183, 1, none⟩) (Kd.R_far (p := ⟨gb183, 0, none⟩) (Kd.R_types HO181.out BK183.out (by decide)) (fun _ hk => hk.2) (.string t174)) (fun _ hk => hk.2) (.slice Ao40 t175.length co40)) (fun _ hk => hk.2) (.bool t178)) (fun _ hk => hk.2) (.slice Ao41 t179.length co41)) (fun _ h_ => h_.1))))) (below_size (by repeat (first | (with_reducible first | exact HB.out | apply below_alloc | apply pw_below_drewN | apply below_drew1 | refine below_set ?_ GE172.out | refine below_set ?_ GE173.out | refine below_set ?_ GE183.out) | exact HB.out)))); have n4_ := Aside0.mk (blk_below (g := gb172) (o := .cells #[.string a1_0, .slice A1_1 l1_1.length c1_1] 83 (0, 0)) (by (with_reducible repeat (first | refine blk_drewN ?_ _ | refine blk_drew ?_ | refine blk_alloc ?_ _)); refine blk_far ?_ NB172_183.out _; (with_reducible repeat (first | refine blk_drewN ?_ _ | refine blk_drew ?_ | refine blk_alloc ?_ _)); refine blk_far ?_ NB172_183.out _; (with_reducible repeat (first | refine blk_drewN ?_ _ | refine blk_drew ?_ | refine blk_alloc ?_ _)); refine blk_far ?_ NB172_183.out _; (with_reducible repeat (first | refine blk_drewN ?_ _ | refine blk_drew ?_ | refine blk_alloc ?_ _)); refine blk_far ?_ NB172_183.out _; (with_reducible repeat (first | refine blk_drewN ?_ _ | refine blk_drew ?_ | refine blk_alloc ?_ _)); exact BK172.out) hb); have n5_ := Aside0.mk (blk_below (g := gb173) (o := .cells #[.string a2_0, .slice A2_1 l2_1.length c2_1] 83 (0, 0)) (by (with_reducible repeat (first | refine blk_drewN ?_ _ | refine blk_drew ?_ | refine blk_alloc ?_ _)); refine blk_far ?_ NB173_183.out _; (with_reducible repeat (first | refine blk_drewN ?_ _ | refine blk_drew ?_ | refine blk_alloc ?_ _)); refine blk_far ?_ NB173_183.out _; (with_reducible repeat (first | refine blk_drewN ?_ _ | refine blk_drew ?_ | refine blk_alloc ?_ _)); refine blk_far ?_ NB173_183.out _; (with_reducible repeat (first | refine blk_drewN ?_ _ | refine blk_drew ?_ | refine blk_alloc ?_ _)); refine blk_far ?_ NB173_183.out _; (with_reducible repeat (first | refine blk_drewN ?_ _ | refine blk_drew ?_ | refine blk_alloc ?_ _)); exact BK173.out) hb); have n6_ := Aside0.mk (blk_below (g := gb183) (o := .cells #[.string t174, .slice Ao40 t175.length co40, .bool t178, .slice Ao41 t179.length co41] 36 (0, 0)) (by (with_reducible repeat (first | refine blk_drewN ?_ _ | refine blk_drew ?_ | refine blk_alloc ?_ _)); refine blk_put (cs := #[.string t174, .slice Ao40 t175.length co40, .bool t178, .slice none 0 0]) ?_ 3 _ rfl; (with_reducible repeat (first | refine blk_drewN ?_ _ | refine blk_drew ?_ | refine blk_alloc ?_ _)); refine blk_put (cs := #[.string t174, .slice Ao40 t175.length co40, .bool false, .slice none 0 0]) ?_ 2 _ rfl; (with_reducible repeat (first | refine blk_drewN ?_ _ | refine blk_drew ?_ | refine blk_alloc ?_ _)); refine blk_put (cs := #[.string t174, .slice none 0 0, .bool false, .slice none 0 0]) ?_ 1 _ rfl; (with_reducible repeat (first | refine blk_drewN ?_ _ | refine blk_drew ?_ | refine blk_alloc ?_ _)); refine blk_put (cs := #[.string (⟨#[]⟩ : ByteArray), .slice none 0 0, .bool false, .slice none 0 0]) ?_ 0 _ rfl; (with_reducible repeat (first | refine blk_drewN ?_ _ | refine blk_drew ?_ | refine blk_alloc ?_ _)); exact BK183.out) hb); have n7_ := Aside0.mk (below_step (by repeat (first | (with_reducible first | exact HB.out | apply below_alloc | apply pw_below_drewN | apply below_drew1 | refine below_set ?_ GE172.out | refine below_set ?_ GE173.out | refine below_set ?_ GE183.out) | exact HB.out)) hb); clear HO177; clear HO181; clear BK172; clear BK173; clear BK183; clear HB; have HO177 := n0_; have HO181 := n1_; have HO187 := n2_; have HO191 := n3_; have BK172 := n4_; have BK173 := n5_; have BK183 := n6_; have HB := n7_; clear n0_ n1_ n2_ n3_ n4_ n5_ n6_ n7_; (try clear hb); (try clear hb2); (try clear hk); (try clear hi); (try clear ho0); (try clear ho1)) | ((with_reducible refine gate_dst (N := 9) rfl ?_); refine box_event ?hg (N := 9) ?hd (cs := #[.string (⟨#[]⟩ : ByteArray), .slice none 0 0, .bool false, .slice none 0 0]) (t := 36) ?hr ?_; (case hd => rfl); (case hg => rfl); (case hr => first | (go_simp; done) | (go_simp; rfl)); intro gb193 hg w44 hbox hb; have n0_ := Aside0.mk (Kd.R_below (stR HO177.out) hb); have n1_ := Aside0.mk (Kd.R_below (stR HO181.out) hb); have n2_ := Aside0.mk (Kd.R_below (stR HO187.out) hb); have n3_ := Aside0.mk (Kd.R_below (stR HO191.out) hb); have n4_ := Aside0.mk (blk_below (g := gb172) (o := .cells #[.string a1_0, .slice A1_1 l1_1.length c1_1] 83 (0, 0)) (by (with_reducible repeat (first | refine blk_drewN ?_ _ | refine blk_drew ?_ | refine blk_alloc ?_ _)); exact BK172.out) hb); have n5_ := Aside0.mk (blk_below (g := gb173) (o := .cells #[.string a2_0, .slice A2_1 l2_1.length c2_1] 83 (0, 0)) (by (with_reducible repeat (first | refine blk_drewN ?_ _ | refine blk_drew ?_ | refine blk_alloc ?_ _)); exact BK173.out) hb); have n6_ := Aside0.mk (blk_below (g := gb183) (o := .cells #[.string t174, .slice Ao40 t175.length co40, .bool t178, .slice Ao41 t179.length co41] 36 (0, 0)) (by (with_reducible repeat (first | refine blk_drewN ?_ _ | refine blk_drew ?_ | refine blk_alloc ?_ _)); exact BK183.out) hb); have n7_ := Aside0.mk (below_step (by repeat (first | (with_reducible first | exact HB.out | apply below_alloc | apply pw_below_drewN | apply below_drew1 | refine below_set ?_ GE172.out | refine below_set ?_ GE173.out | refine below_set ?_ GE183.out) | exact HB.out)) hb); have n8_ := Aside0.mk (hbox); have n9_ := Aside0.mk ((by rw [hg]; exact (below_size (by repeat (first | (with_reducible first | exact HB.out | apply below_alloc | apply pw_below_drewN | apply below_drew1 | refine below_set ?_ GE172.out | refine below_set ?_ GE173.out | refine below_set ?_ GE183.out) | exact HB.out))) : w.heap.size ≤ gb193)); have n10_ := Aside0.mk ((by rw [hg]; exact (below_size (by repeat (first | (with_reducible first | exact HB.out | apply below_alloc | apply pw_below_drewN | apply below_drew1 | refine below_set ?_ GE172.out | refine below_set ?_ GE173.out | refine below_set ?_ GE183.out) | exact HB.out))) : w.heap.size ≤ gb193)); have n11_ := Aside0.mk ((by rw [hg]; exact Nat.ne_of_lt (blk_lt (g := gb172) (o := .cells #[.string a1_0, .slice A1_1 l1_1.length c1_1] 83 (0, 0)) (by (with_reducible repeat (first | refine blk_drewN ?_ _ | refine blk_drew ?_ | refine blk_alloc ?_ _)); exact BK172.out)) : gb172 ≠ gb193)); have n12_ := Aside0.mk ((by rw [hg]; exact Nat.ne_of_gt (blk_lt (g := gb172) (o := .cells #[.string a1_0, .slice A1_1 l1_1.length c1_1] 83 (0, 0)) (by (with_reducible repeat (first | refine blk_drewN ?_ _ | refine blk_drew ?_ | refine blk_alloc ?_ _)); exact BK172.out)) : gb193 ≠ gb172)); have n13_ := Aside0.mk ((by rw [hg]; exact Nat.ne_of_lt (blk_lt (g := gb173) (o := .cells #[.string a2_0, .slice A2_1 l2_1.length c2_1] 83 (0, 0)) (by (with_reducible repeat (first | refine blk_drewN ?_ _ | refine blk_drew ?_ | refine blk_alloc ?_ _)); exact BK173.out)) : gb173 ≠ gb193)); have n14_ := Aside0.mk ((by rw [hg]; exact Nat.ne_of_gt (blk_lt (g := gb173) (o := .cells #[.string a2_0, .slice A2_1 l2_1.length c2_1] 83 (0, 0)) (by (with_reducible repeat (first | refine blk_drewN ?_ _ | refine blk_drew ?_ | refine blk_alloc ?_ _)); exact BK173.out)) : gb193 ≠ gb173)); have n15_ := Aside0.mk ((by rw [hg]; exact Nat.ne_of_lt (blk_lt (g := gb183) (o := .cells #[.string t174, .slice Ao40 t175.length co40, .bool t178, .slice Ao41 t179.length co41] 36 (0, 0)) (by (with_reducible repeat (first | refine blk_drewN ?_ _ | refine blk_drew ?_ | refine blk_alloc ?_ _)); exact BK183.out)) : gb183 ≠ gb193)); have n16_ := Aside0.mk ((by rw [hg]; exact Nat.ne_of_gt (blk_lt (g := gb183) (o := .cells #[.string t174, .slice Ao40 t175.length co40, .bool t178, .slice Ao41 t179.length co41] 36 (0, 0)) (by (with_reducible repeat (first | refine blk_drewN ?_ _ | refine blk_drew ?_ | refine blk_alloc ?_ _)); exact BK183.out)) : gb193 ≠ gb183)); clear HO177; clear HO181; clear HO187; clear HO191; clear BK172; clear BK173; clear BK183; clear HB; have HO177 := n0_; have HO181 := n1_; have HO187 := n2_; have HO191 := n3_; have BK172 := n4_; have BK173 := n5_; have BK183 := n6_; have HB := n7_; have BK193 := n8_; have GW193 := n9_; have GE193 := n10_; have NB172_193 := n11_; have NB193_172 := n12_; have NB173_193 := n13_; have NB193_173 := n14_; have NB183_193 := n15_; have NB193_183 := n16_; clear n0_ n1_ n2_ n3_ n4_ n5_ n6_ n7_ n8_ n9_ n10_ n11_ n12_ n13_ n14_ n15_ n16_; clear hb hbox hg; have hnb45 := NB193_172.out; have hnc45 := NB172_193.out; have hnb46 := NB193_173.out; have hnc46 := NB173_193.out; have hnb47 := NB193_183.out; have hnc47 := NB183_193.out; have hcz48_0 : w44.cell? ⟨gb193, 0, none⟩ = some (.string (⟨#[]⟩ : ByteArray)) := (blk_cell BK193.out 0).trans rfl; have hcz48_1 : w44.cell? ⟨gb193, 1, none⟩ = some (.slice none 0 0) := (blk_cell BK193.out 1).trans rfl; have hcz48_2 : w44.cell? ⟨gb193, 2, none⟩ = some (.bool false) := (blk_cell BK193.out 2).trans rfl; have hcz48_3 : w44.cell? ⟨gb193, 3, none⟩ = some (.slice none 0 0) := (blk_cell BK193.out 3).trans rfl; have hfz48_0 := blk_frozen BK193.out 0; have hfz48_1 := blk_frozen BK193.out 1; have hfz48_2 := blk_frozen BK193.out 2; have hfz48_3 := blk_frozen BK193.out 3; obtain ⟨Ao49, co49, eo49⟩ := Kd.R_slice HO187.out; subst eo49; obtain ⟨Ao50, co50, eo50⟩ := Kd.R_slice HO191.out; subst eo50))
  go_ret
  exact ⟨by first | rfl | (simp [errW_none, errW_some] <;> rfl) | (simp [*, errW_none, errW_some] <;> rfl), by repeat (first | (with_reducible first | exact HB.out | apply below_alloc | apply pw_below_drewN | apply below_drew1 | refine below_set ?_ GE172.out | refine below_set ?_ GE173.out | refine below_set ?_ GE183.out | refine below_set ?_ GE193.out) | exact HB.out)⟩
end Go.Proofs.YtmcdnpooclelgaaDoor.PAll
namespace Go.Proofs.YtmcdnpooclelgaaDoor.PAll
open Go.RowKit Go.Proofs.YtmcdnpooclelgaaDoorW.PrintWords
def cmpW : List ByteArray → List ByteArray → Int
 | [], ys => if 0 < ys.length then -1 else 0
 | _ :: _, [] => 1
 | x :: xs, y :: ys => if x = y then cmpW xs ys else cmpB x y
theorem bytesLess_self : ∀ l : List UInt8, Op.bytesLess l l = false
 | [] => rfl
 | x :: xs => by simp [Op.bytesLess, bytesLess_self xs]
theorem cmpB_zero {x y : ByteArray} : cmpB x y = 0 ↔ x = y := by
 unfold cmpB
 constructor
 ·intro h
  split at h
  ·cases h
  ·split at h
   ·rename_i q
    exact toList_iff.1 (by simpa using q)
   ·cases h
 ·rintro rfl
  rw [if_neg (by rw [bytesLess_self]; decide), if_pos (by simp)]
theorem cmpB_lt {x y : ByteArray} : cmpB x y < 0 ↔ ltB x y = true := by
 unfold cmpB ltB
 split
 ·rename_i h; simp [h]
 ·rename_i h
  split <;> simp [h]
theorem cmp_l0 (xs ys : List ByteArray) (hx : xs.length ≤ 1099511627776) (hy : ys.length ≤ 1099511627776) : ∀ (d i : Nat), i + d = xs.length → i ≤ ys.length → Ev (fun k => slices_Compare_string_string.l0 k xs ys xs xs.length i) (cmpW (xs.drop i) (ys.drop i))
 | 0, i, h, hi => by
  refine Ev.unf (fun _ => if (xs.length : Int) < ys.length then some (-1) else some 0) (fun k => by simp only [slices_Compare_string_string.l0]; rw [if_neg (by omega)]) ?_
  rw [List.drop_eq_nil_of_le (show xs.length ≤ i by omega), cmpW, List.length_drop]
  by_cases q : (xs.length : Int) < ys.length
  ·simp only [if_pos q]; rw [if_pos (by omega)]; exact Ev.now _
  ·simp only [if_neg q]; rw [if_neg (by omega)]; exact Ev.now _
 | d + 1, i, h, hi => by
  have h1 : i < xs.length := by omega
  by_cases h2 : i < ys.length
  ·have ih := cmp_l0 xs ys hx hy d (i + 1) (by omega) (by omega)
   refine Ev.unf (fun k => if cmpB xs[i] ys[i] = 0 then slices_Compare_string_string.l0 k xs ys xs xs.length ((i + 1 : Nat) : Int) else some (cmpB xs[i] ys[i])) (fun k => ?_) ?_
   ·simp only [slices_Compare_string_string.l0]
    rw [if_pos (by omega), if_pos (by omega), if_pos (by omega), if_neg (by omega), if_pos (by omega), rdStr h1, rdStr h2, inc (by omega)]
    rfl
   ·rw [List.drop_eq_getElem_cons h1, List.drop_eq_getElem_cons h2, cmpW]
    by_cases q : xs[i] = ys[i]
    ·simp only [cmpB_zero, if_pos q]; exact ih
    ·simp only [cmpB_zero, if_neg q]; exact Ev.now _
  ·refine Ev.unf (fun _ => some 1) (fun k => by
    simp only [slices_Compare_string_string.l0]
    rw [if_pos (by omega), if_pos (by omega), if_pos (by omega), if_pos (by omega)]) ?_
   rw [List.drop_eq_getElem_cons h1, List.drop_eq_nil_of_le (show ys.length ≤ i by omega), cmpW]
   exact Ev.now _
theorem cmpW_lt : ∀ xs ys : List ByteArray, cmpW xs ys < 0 ↔ lessW xs ys = true
 | [], ys => by unfold cmpW lessW; split <;> simp [*]
 | _ :: _, [] => by unfold cmpW lessW; simp
 | x :: xs, y :: ys => by
  unfold cmpW lessW
  by_cases q : x = y
  ·rw [if_pos q, if_pos q]; exact cmpW_lt xs ys
  ·rw [if_neg q, if_neg q]; exact cmpB_lt
def ordL (kind : ByteArray) (a b : S83) : Int := if placeL kind a.f0 = placeL kind b.f0 then cmpW a.f1 b.f1 else placeL kind a.f0 - placeL kind b.f0
theorem findR_place (kind key : ByteArray) : (findR (lookL kind key)).2.2.2.2 = placeL kind key := by
 unfold placeL
 cases lookL kind key with
 | none => rfl
 | some p => rfl
theorem placeL_le (kind key : ByteArray) : -1 ≤ placeL kind key ∧ placeL kind key ≤ 1000 := by
 unfold placeL
 cases h : lookL kind key with
 | none => exact ⟨Int.le_refl _, by decide⟩
 | some p =>
  obtain ⟨r, i⟩ := p
  obtain ⟨_, _, _, h4⟩ := lookFrom_mem key _ _ _ _ h
  have h5 := (List.getElem?_eq_some_iff.1 h4).1
  have h6 := rulesL_len kind
  simp only
  omega
theorem ev_order (kind : ByteArray) (a b : S83) (ha : a.f1.length ≤ 1099511627776) (hb : b.f1.length ≤ 1099511627776) : Ev (fun k => impl_order.f k kind a.f0 a.f1 b.f0 b.f1) (ordL kind a b) := by
 unfold impl_order.f ordL
 refine Ev.bind (ev_find kind a.f0) ?_
 refine Ev.bind (ev_find kind b.f0) ?_
 simp only [findR_place]
 have h1 := placeL_le kind a.f0
 have h2 := placeL_le kind b.f0
 by_cases q : placeL kind a.f0 = placeL kind b.f0
 ·simp only [if_pos q]
  refine Ev.bind ?_ (Ev.now _)
  unfold slices_Compare_string_string.f
  exact cmp_l0 a.f1 b.f1 ha hb a.f1.length 0 (by omega) (by omega)
 ·simp only [if_neg q]
  rw [w64 (by omega) (by omega)]
  exact Ev.now _
theorem ordL_lt (kind : ByteArray) (a b : S83) : decide (0 ≤ ordL kind a b) = !lineLt kind a b := by
 unfold ordL lineLt
 have h := cmpW_lt a.f1 b.f1
 rw [Bool.eq_iff_iff]
 by_cases q : placeL kind a.f0 = placeL kind b.f0
 ·rw [if_pos q]
  simp only [q, Int.lt_irrefl, decide_false, Bool.false_or, decide_true, Bool.true_and, decide_eq_true_eq, Bool.not_eq_true', ← Bool.not_eq_true, ← h]
  omega
 ·rw [if_neg q]
  simp only [q, decide_false, Bool.false_and, Bool.or_false, decide_eq_true_eq, Bool.not_eq_true', decide_eq_false_iff_not]
  omega
theorem many_find (kind key : ByteArray) : (findR (lookL kind key)).2.2.1 = manyL kind key := by
 unfold manyL
 cases lookL kind key with
 | none => rfl
 | some p => rfl
structure BW (w : World) where
 w' : World
 h : Below w.heap.size w w'
instance (w : World) : Nonempty (BW w) := ⟨⟨w, Below.refl _ _⟩⟩
theorem wp_region_below {P : Program} {id : Nat} {Q : Exit → Act → World → Prop} {a : Act} {w : World} {l : List Oper} (hm : P.follows .mixedOrders = true) (hB : Region.lexB .any l.toArray = true)
  (h : wpQuiet P l.toArray (fun w' => ∃ p : BW w, w' = p.w') (fun a' => ∀ w', (∃ p : BW w, w' = p.w') → Q .normal a' w') l a) : (Code.region id l.toArray true).wp P Q a w :=
 wp_region_quiet (C := fun w' => ∃ p : BW w, w' = p.w') hm hB ⟨⟨w.drew, below_drew (Below.refl _ _)⟩, rfl⟩ (by simpa using h)
theorem quiet_off {c : Prop} [Decidable c] {A B : Prop} (h : c → (none : Option Bool) = some true) (b : B) : if c then A else B := by rw [if_neg (fun x => nomatch h x)]; exact b
theorem BW.cell {w : World} {a : Addr} {v : Value} (h : w.cell? a = some v) (p : BW w) : p.w'.cell? a = some v := pw_cell_below p.h h
theorem BW.calls {P : Program} {f : FuncId} {args : Array Value} {w : World} {p : BW w} {v : Value} (h : Calls P f args p.w' fun e w' => e = .returned v ∧ Below p.w'.heap.size p.w' w') : Calls P f args p.w' fun e w'' => e = .returned v ∧ ∃ q : BW w, w'' = q.w' :=
 h.mono fun _ w'' ⟨he, hb⟩ => ⟨he, ⟨w'', p.h.trans (hb.mono p.h.size)⟩, rfl⟩
theorem line_at {w : World} {A : Option Addr} {n : Nat} {ls : List S83} (h : Kd.C k83 w A n ls) (j : Nat) (l : S83) (hj : ls[j]? = some l) : ∃ ad A1 c1, A = some ad ∧ w.cell? (ad.add (j * 2)) = some (.string l.f0) ∧ w.cell? ⟨(ad.add (j * 2)).block, (ad.add (j * 2)).off + 1, none⟩ = some (.slice A1 l.f1.length c1) ∧ l.f1.length ≤ c1 ∧ Kd.string.C w A1 l.f1.length l.f1 := by
 have hjl := (List.getElem?_eq_some_iff.1 hj).1
 obtain ⟨ad, A1, c1, h1, h2, h3, h4, h5⟩ := at_T83 h (j : Int) (by omega) (by have := h.1; omega)
 have hg : rd_T83 ls (j : Int) = l := by unfold rd_T83; rw [List.getD_eq_getElem?_getD, Int.toNat_natCast, hj]; rfl
 rw [hg] at h2 h3 h4 h5
 rw [Int.toNat_natCast] at h2 h3
 exact ⟨ad, A1, c1, h1, h2, h3, h4, h5⟩
end Go.Proofs.YtmcdnpooclelgaaDoor.PAll
namespace Go.Proofs.YtmcdnpooclelgaaDoor.PAll
open Go.RowKit Go.Proofs.YtmcdnpooclelgaaDoorW.PrintWords
open Go.WideMaps Go.Maps
theorem implRules_nil (kind : ByteArray) (w : World) (h : rulesL kind = []) : Calls Tryd.prog 14 #[.string kind] w (fun e w' => e = .returned (.slice none 0 0) ∧ Below w.heap.size w w') := by
 rcases kind_cases kind with rfl | rfl | rfl | ⟨h1, h2, h3, h4⟩
 ·rw [rulesL_team] at h; cases h
 ·rw [rulesL_berth] at h; cases h
 ·rw [rulesL_service] at h; cases h
 ·have n1 : (kind.toList == ([116, 101, 97, 109] : List UInt8)) = false := str_neL kind _ h1
  have n2 : (kind.toList == ([98, 101, 114, 116, 104] : List UInt8)) = false := str_neL kind _ h2
  have n3 : (kind.toList == ([115, 101, 114, 118, 105, 99, 101] : List UInt8)) = false := str_neL kind _ h3
  clear h1 h2 h3 h4 h
  go_enter Tryd.func14, Tryd.ntmps14
  go_wp2
  go_ret
  exact ⟨rfl, Below.refl _ _⟩
theorem implRules_some (kind : ByteArray) (w : World) (h : rulesL kind ≠ []) : Calls Tryd.prog 14 #[.string kind] w (fun e w' => ∃ g n c, e = .returned (.slice (some ⟨g, 0, none⟩) n c) ∧ Below w.heap.size w w') := by
 refine (implRules_any kind w).mono ?_
 rintro e w' ⟨v, F, rfl, ⟨v', vss, Gs, hv, ho, _⟩, hb⟩
 injection hv with hv _
 subst hv
 rcases ownSl ho with ⟨_, hn⟩ | ⟨g, c, rfl⟩
 ·exact absurd (List.length_eq_zero_iff.1 hn) h
 ·exact ⟨g, _, c, rfl, hb⟩
def fitB (ls : List S83) : Prop := ls.length ≤ 1099511627776 ∧ ∀ l ∈ ls, l.f0.size ≤ 1099511627776 ∧ l.f1.length ≤ 1099511627776 ∧ ∀ s ∈ l.f1, s.size ≤ 1099511627776
def blockOkL (kind name : ByteArray) (ls : List S83) : Bool := !(rulesL kind).isEmpty && (nameOk name && linesOkL kind ls)
def CntAt (w : World) (b n : Nat) (D : DataW Unit) (ls : List S83) : Prop := w.ownsMap Tryd.prog 9 (plainElem Tryd.prog 3) b n D ∧ IsMap D ∧ ∀ s : ByteArray, s.size ≤ 1099511627776 → D.atKey (.string s.data.toList) (.lit (.int .i64 0)) = .lit (.int .i64 (cntKey s ls))
theorem dataList_inj {a b : ByteArray} (h : a.data.toList = b.data.toList) : a = b := by
 cases a; cases b
 simp only [Array.toList_inj] at h
 rw [h]
theorem CntAt.put {w w' : World} {b n : Nat} {D : DataW Unit} {ls ls' : List S83} {key : ByteArray} {c : Nat} (h : CntAt w b n D ls) (hc : c = cntKey key ls + 1) (hl : ∀ s, cntKey s ls' = cntKey s ls + if key = s then 1 else 0)
  (ho : w'.ownsMap Tryd.prog 9 (plainElem Tryd.prog 3) b (n + 1) (D.put (.string key.data.toList) (.lit (.int .i64 c)))) : CntAt w' b (n + 1) (D.put (.string key.data.toList) (.lit (.int .i64 c))) ls' := by
 obtain ⟨_, h2, h3⟩ := h
 refine ⟨ho, h2.put _ _, fun s hs => ?_⟩
 by_cases q : key = s
 ·subst q
  rw [atKey_put_same h2 (by trivial), hl, hc, if_pos rfl]
 ·rw [atKey_put_other (by intro e; injection e with e; exact q (dataList_inj e).symm), h3 s hs, hl, if_neg q, Nat.add_zero]
theorem CntAt.below {w w' : World} {b n : Nat} {D : DataW Unit} {ls : List S83} (h : CntAt w b n D ls) (hb : Below w.heap.size w w') : CntAt w' b n D ls := by
 obtain ⟨⟨es, cl, h1, h2, h3, h4⟩, h5⟩ := h
 exact ⟨⟨es, cl, by rw [hb.block _ (blk_lt h1)]; exact h1, h2, h3, h4⟩, h5⟩
theorem CntAt.start (w : World) : CntAt (w.alloc (.map #[] 0)) w.heap.size 0 (.map []) [] := ⟨World.ownsMap_made _ _ _ _, isMap_empty, fun _ _ => rfl⟩
theorem below_grown {N : Nat} {w0 w w' : World} {b : Nat} (h : Below N w0 w) (hg : w.grownBy w' (some b)) (hb : N ≤ b) (hs : N ≤ w0.heap.size) : Below N w0 w' := by
 obtain ⟨h1, h2, h3, h4, h5⟩ := hg
 exact ⟨h1.trans h.os, h2.trans h.tape, h3.trans h.output, Nat.le_trans h.size h4, fun k hk => by rw [h5 k (by have := h.size; omega) (by intro e; injection e with e; omega)]; exact h.block k hk⟩
theorem inc2 {j n : Nat} (h : j < n) (hn : n ≤ 1099511627776) : wrap64 ((j : Int) + 1 + 1) = ((j + 1 + 1 : Nat) : Int) := by rw [w64 (by omega) (by omega)]; rfl
theorem less2 {j n : Nat} (h : j + 1 < n) : n - (((j + 1 + 1 : Nat) : Int)).toNat < n - (((j + 1 : Nat) : Int)).toNat := by rw [Int.toNat_natCast, Int.toNat_natCast]; omega
theorem zeroI (w : World) : (zeroValue 3).run Tryd.prog w = .ok (.int .i64 0) w := by kernel_rfl
theorem isName_c (name : ByteArray) (w : World) (hn : name.size ≤ 1099511627776) : Calls Tryd.prog 109 #[.string name] w fun e w' => e = .returned (.bool (nameOk name)) ∧ Drawn0 w w' := by
 obtain ⟨K, hk⟩ := ev_isName name (by omega)
 exact impl_isName.calls K name _ w (hk K (Nat.le_refl _))
theorem fits_c (kind key : ByteArray) (A : Option Addr) (c : Nat) (ws : List ByteArray) (w : World) (hr : Kd.string.C w A ws.length ws) (hc : ws.length ≤ c) (hw : ∀ s ∈ ws, s.size ≤ 1099511627776) : Calls Tryd.prog 21 #[.string kind, .string key, .slice A ws.length c] w fun e w' => e = .returned (.bool (fitsL kind key ws)) ∧ Below w.heap.size w w' := by
 obtain ⟨K, hk⟩ := ev_implFits kind key ws (fun s hs => by have := hw s hs; omega)
 exact impl_SheetFits.calls K kind key A c ws _ w hr hc (hk K (Nat.le_refl _))
theorem order_c (kind : ByteArray) (A B : Option Addr) (c d : Nat) (a b : S83) (w : World) (ha : Kd.string.C w A a.f1.length a.f1) (hc : a.f1.length ≤ c) (hb : Kd.string.C w B b.f1.length b.f1) (hd : b.f1.length ≤ d) (h1 : a.f1.length ≤ 1099511627776) (h2 : b.f1.length ≤ 1099511627776) :
  Calls Tryd.prog 116 #[.string kind, .agg #[.string a.f0, .slice A a.f1.length c], .agg #[.string b.f0, .slice B b.f1.length d]] w fun e w' => e = .returned (.int .i64 (ordL kind a b)) ∧ Below w.heap.size w w' := by
 obtain ⟨K, hk⟩ := ev_order kind a b h1 h2
 exact impl_order.calls K kind a.f0 A c a.f1 b.f0 B d b.f1 _ w ha hc hb hd (hk K (Nat.le_refl _))
theorem find_c (kind key : ByteArray) (w : World) : Calls Tryd.prog 64 #[.string kind, .string key] w fun e w' => ∃ (r1 : ByteArray) (g1 : Option Addr) (n1 c1 : Nat) (g2 : Option Addr) (n2 c2 : Nat), e = .returned (.tuple #[.agg #[.string r1, .slice g1 n1 c1, .bool (manyL kind key), .slice g2 n2 c2], .int .i64 (placeL kind key)]) ∧ Below w.heap.size w w' := by
 obtain ⟨K, hk⟩ := ev_find kind key
 have h := hk K (Nat.le_refl _)
 have e1 := many_find kind key
 have e2 := findR_place kind key
 generalize findR (lookL kind key) = fr at *
 obtain ⟨f1, f2, f3, f4, f5⟩ := fr
 refine (impl_find.calls K kind key _ _ _ _ _ w h).mono ?_
 rintro e w' ⟨v1, v3, rfl, hR1, hR3, hb⟩
 obtain ⟨g1, c1, rfl⟩ := Kd.R_slice hR1
 obtain ⟨g2, c2, rfl⟩ := Kd.R_slice hR3
 exact ⟨_, g1, _, c1, g2, _, c2, by rw [← e1, ← e2], hb⟩
set_option maxRecDepth 100000 in
set_option maxHeartbeats 4000000 in
theorem blockOk_any (kind name : ByteArray) (A : Option Addr) (c : Nat) (ls : List S83) (w : World) (hr : Kd.C k83 w A ls.length ls) (hn : name.size ≤ 1099511627776) (hf : fitB ls) :
  Calls Tryd.prog 75 #[.agg #[.string kind, .string name, .slice A ls.length c]] w fun e w' => e = .returned (.bool (blockOkL kind name ls)) ∧ Below w.heap.size w w' := by
 have heq := fun (w : World) (a : Option Addr) (n c : Nat) => Go.Lib.run_eql_slice_nil (P := Tryd.prog) w 22 36 a n c 0 0 Tryd.underlying22
 have HR := Aside0.mk hr
 have HF := Aside0.mk hf
 clear hr hf
 by_cases hrl : rulesL kind = []
 ·go_enter Tryd.func75, Tryd.ntmps75
  go_wp2_with fail
  refine (implRules_nil kind _ hrl).mono ?_
  rintro e w1 ⟨rfl, hb1⟩
  go_wp2_with fail
  go_ret
  refine ⟨by rw [blockOkL, hrl]; rfl, ?_⟩
  exact below_step ((Below.refl _ _).alloc (Nat.le_refl _) _) hb1
 ·go_enter Tryd.func75, Tryd.ntmps75
  go_wp2_with fail
  refine (implRules_some kind _ hrl).mono ?_
  rintro e w1 ⟨g1, n1, c1, rfl, hb1⟩
  have B1 : Below w.heap.size w w1 := below_step ((Below.refl _ _).alloc (Nat.le_refl _) _) hb1
  have x10 : w1.cell? ⟨w.heap.size, 0, none⟩ = some (.string kind) := pw_cell_below hb1 (by go_simp)
  have x11 : w1.cell? ⟨w.heap.size, 1, none⟩ = some (.string name) := pw_cell_below hb1 (by go_simp)
  have x12 : w1.cell? ⟨w.heap.size, 2, none⟩ = some (.slice A ls.length c) := pw_cell_below hb1 (by go_simp)
  have hN1 : w.heap.size < w1.heap.size := by have := hb1.size; simp at this; omega
  clear hb1
  go_wp2_with fail
  refine (isName_c name w1 hn).mono ?_
  rintro e w2 ⟨rfl, ⟨nd, rfl⟩⟩
  cases hnm : nameOk name with
  | false =>
   go_wp2_with fail
   go_ret
   exact ⟨by rw [blockOkL, hnm]; simp, pw_below_drewN B1 _⟩
  | true =>
   have HBK : Aside0 (blockOkL kind name ls = linesFrom kind [] ls) := ⟨by rw [blockOkL, hnm, Bool.true_and]; cases h : rulesL kind with | nil => exact absurd h hrl | cons a b => rfl⟩
   clear hnm hrl
   have B2 : Below w.heap.size w (w1.drewN nd) := pw_below_drewN B1 _
   have x20 : (w1.drewN nd).cell? ⟨w.heap.size, 0, none⟩ = some (.string kind) := x10
   have x22 : (w1.drewN nd).cell? ⟨w.heap.size, 2, none⟩ = some (.slice A ls.length c) := x12
   have hN2 : w.heap.size < (w1.drewN nd).heap.size := hN1
   clear x10 x11 x12 hN1 B1
   generalize w1.drewN nd = w0 at *
   have S0 := CntAt.start w0
   have hmm := run_makeMap (P := Tryd.prog) 132 w0
   go_wp2
   go_loopw [22] (fun v wr => ∃ k : Nat, v = .int .i64 k ∧ k ≤ ls.length ∧ Below w0.heap.size w0 wr ∧ Aside0 (∃ D, CntAt wr w0.heap.size k D (ls.take k)) ∧ Aside0 (blockOkL kind name ls = linesFrom kind (ls.take k) (ls.drop k))) (fun v _ => ls.length - (intOf v).toNat)
   case atStart => exact ⟨0, rfl, Nat.zero_le _, (Below.refl _ _).alloc (Nat.le_refl _) _, ⟨_, S0⟩, HBK⟩
   case round =>
    obtain ⟨k, rfl, hk, hB, hD, hf⟩ := hrel
    clear S0 HBK hmm
    by_cases hlt : k < ls.length
    ·obtain ⟨ad, A1, d1, rfl, hx0, hx1, hl1, hC1⟩ := line_at (Kd.C_below (Kd.C_below HR.out B2) hB) k ls[k] (List.getElem?_eq_getElem hlt)
     have hstep := hf.out
     rw [List.drop_eq_getElem_cons hlt, linesFrom] at hstep
     have hW := HF.out.2 _ (List.getElem_mem hlt)
     have htk : ls.take k ++ [ls[k]] = ls.take (k + 1) := by rw [List.take_add_one, List.getElem?_eq_getElem hlt]; rfl
     have hcw := fun key => cntKey_snoc key (ls.take k) ls[k]
     rw [htk] at hstep hcw
     have HL := Aside0.mk (show ls[k]? = some ls[k] from List.getElem?_eq_getElem hlt)
     have HC1 := Aside0.mk hC1
     have L1 := Aside0.mk hl1
     have xr0 := pw_cell_below hB x20
     have xr2 := pw_cell_below hB x22
     have HST := Aside0.mk hstep
     have HCW := Aside0.mk hcw
     clear hf hC1 hl1 hstep htk hcw
     generalize ls[k] = l at *
     have i1 : (k : Int) < (ls.length : Int) := by omega
     go_upto_region 7 with (fail)
     have B6 : Below wr.heap.size wr (wr.alloc (.cells #[.string l.f0, .slice A1 l.f1.length d1] 83)) := (Below.refl _ _).alloc (Nat.le_refl _) _
     have y0 : (wr.alloc (.cells #[.string l.f0, .slice A1 l.f1.length d1] 83)).cell? ⟨wr.heap.size, 0, none⟩ = some (.string l.f0) := by go_simp
     have y1 : (wr.alloc (.cells #[.string l.f0, .slice A1 l.f1.length d1] 83)).cell? ⟨wr.heap.size, 1, none⟩ = some (.slice A1 l.f1.length d1) := by go_simp
     have s6 : wr.heap.size < (wr.alloc (.cells #[.string l.f0, .slice A1 l.f1.length d1] 83)).heap.size := by simp
     generalize wr.alloc (.cells #[.string l.f0, .slice A1 l.f1.length d1] 83) = W6 at *
     have hB06 := hB.trans (B6.mono hB.size)
     have hD6 : Aside0 (∃ D, CntAt W6 w0.heap.size k D (ls.take k)) := by obtain ⟨D, hD⟩ := hD.out; exact ⟨⟨D, hD.below B6⟩⟩
     have q0 := fun p : BW W6 => p.cell (pw_cell_below B6 xr0)
     have q50 := fun p : BW W6 => p.cell y0
     have q51 := fun p : BW W6 => p.cell y1
     have s5 : w0.heap.size < wr.heap.size := by obtain ⟨D, hD⟩ := hD.out; exact hD.1.lt
     clear hD xr0 hx0 hx1
     have FC := fun p : BW W6 => fits_c kind l.f0 A1 d1 l.f1 p.w' (Kd.C_below (Kd.C_below HC1.out B6) p.h) L1.out hW.2.2
     cases hfit : fitsL kind l.f0 l.f1 with
     | false =>
      rw [hfit] at FC
      have HFIT := Aside0.mk hfit
      clear hfit
      refine wp_region_below (by kernel_rfl) (by kernel_rfl) ?_
      repeat ((with_reducible refine wpQuiet_step ?_); (with_reducible intro K hK); go_simp; first | ((with_reducible refine hK _ ?_); clear hK K) | ((with_reducible refine quiet_off (fun h => ?_) ?_); exact h; (with_reducible refine hK _ ?_); clear hK K) | (apply Exists.intro; refine ⟨fun _ => ?_, hK _ ?_⟩; (first | (go_at_call 21; exact BW.calls (FC _))); clear hK K))
      with_reducible refine wpQuiet_nil ?_
      intro wn hw'
      obtain ⟨⟨_, hBn⟩, rfl⟩ := hw'
      go_wp2
      go_ret
      exact ⟨by rw [HST.out, HFIT.out]; rfl, B2.trans ((hB06.trans (hBn.mono hB06.size)).mono B2.size)⟩
     | true =>
      rw [hfit] at FC
      have hstep := HST.out
      rw [hfit, Bool.true_and] at hstep
      clear hfit HST
      by_cases hk0 : k = 0
      ·have hpick : headOk kind (ls.take k) l = true := by subst hk0; exact headOk_nil kind l
       rw [hpick, Bool.true_and] at hstep
       have HST := Aside0.mk hstep
       clear hstep hpick
       have ik : ¬ ((k : Int) > 0) := by omega
       have ik0 : decide ((k : Int) > 0) = false := decide_eq_false ik
       refine wp_region_below (by kernel_rfl) (by kernel_rfl) ?_
       repeat ((with_reducible refine wpQuiet_step ?_); (with_reducible intro K hK); go_simp; first | ((with_reducible refine hK _ ?_); clear hK K) | ((with_reducible refine quiet_off (fun h => ?_) ?_); exact h; (with_reducible refine hK _ ?_); clear hK K) | (apply Exists.intro; refine ⟨fun _ => ?_, hK _ ?_⟩; (first | (go_at_call 21; exact BW.calls (FC _))); clear hK K))
       with_reducible refine wpQuiet_nil ?_
       intro wn hw'
       obtain ⟨⟨_, hBn⟩, rfl⟩ := hw'
       have HK0 := Aside0.mk hk0
       clear hk0 ik ik0
       have CN := hD6.out
       obtain ⟨D, hCN⟩ := CN
       obtain ⟨hown, hIs, hat0⟩ := hCN.below hBn
       have hkey : keyOf Tryd.prog 9 (.string l.f0) = some (.string l.f0.data.toList) := keyOf_string_mk Tryd.underlying9 (by have := hW.1; unfold maxLen; omega)
       obtain ⟨n9, hrun, hat, _⟩ := hown.lookup_int (string_keyed Tryd.underlying9) Tryd.underlying132 Tryd.underlying3 (zeroI _) hkey
       have hn9 : n9 = cntKey l.f0 (ls.take k) := by
        have h9 := hat.symm.trans (hat0 l.f0 hW.1)
        injection h9 with h9
        injection h9
       subst hn9
       clear hat
       have z0 : wn.cell? ⟨w.heap.size, 0, none⟩ = some (.string kind) := q0 ⟨wn, hBn⟩
       have z50 := pw_cell_below hBn y0
       have hk9 : k < maxLen := by have := HF.out.1; unfold maxLen; omega
       go_wp2_with (first
        | (at_mapUpdate; refine wpList_mapUpdate_own _ rfl _ _ _ 132 rfl 9 3 (string_keyed Tryd.underlying9) Tryd.underlying132 _ w0.heap.size k _ rfl hown hk9 _ _ _ rfl rfl hkey _ [] (plainElem_int Tryd.underlying3 (wrap64_wf _)) ?_)
        | go_in)
       intro w9 hown9 hgrow9
       have e9 : wrap64 ((cntKey l.f0 (ls.take k) : Int) + 1) = ((cntKey l.f0 (ls.take k) + 1 : Nat) : Int) := inc (by have := cntKey_le l.f0 (ls.take k); have := HF.out.1; rw [List.length_take] at *; omega)
       rw [e9] at hown9
       have hCN9 := CntAt.put (hCN.below hBn) rfl HCW.out hown9
       have z90 := hgrow9.cell z0 (by intro e; injection e with e; simp only at e; omega)
       have z950 := hgrow9.cell z50 (by intro e; injection e with e; simp only at e; omega)
       have s9 : wr.heap.size < w9.heap.size := by have := hBn.size; have := hgrow9.size; omega
       have B9 := below_grown (hB06.trans (hBn.mono hB06.size)) hgrow9 (Nat.le_refl _) (Nat.le_refl _)
       clear hown9 hgrow9 hown hIs hat0 hrun z0 z50 hCN hBn FC q0 q50 q51 y0 y1 s6 hD6
       go_wp2_with fail
       refine (find_c kind l.f0 w9).mono ?_
       rintro e w10 ⟨r1, g5, n5, c5, g6, n6, c6, rfl, hb10⟩
       go_upto_region 11 with (fail)
       clear z90 hkey hk9 e9 hB06 B6
       have hct := cntKey_le l.f0 (ls.take (k + 1))
       rw [List.length_take] at hct
       have hTM := Aside0.mk (show tooMany kind l.f0 (cntKey l.f0 (ls.take (k + 1))) = ((!manyL kind l.f0 && decide (1 < cntKey l.f0 (ls.take (k + 1)))) || decide (10 < cntKey l.f0 (ls.take (k + 1)))) from rfl)
       generalize hm : manyL kind l.f0 = m at *
       have B11 : Below w9.heap.size w9 (w10.alloc (.cells #[.string r1, .slice g5 n5 c5, .bool m, .slice g6 n6 c6] 36)) := below_alloc hb10 _
       have z11 := pw_cell_below B11 z950
       have hCN11 := hCN9.below B11
       have hkey2 : keyOf Tryd.prog 9 (.string l.f0) = some (.string l.f0.data.toList) := keyOf_string_mk Tryd.underlying9 (by have := hW.1; unfold maxLen; omega)
       obtain ⟨n11, hrun11, hat11, _⟩ := hCN11.1.lookup_int (string_keyed Tryd.underlying9) Tryd.underlying132 Tryd.underlying3 (zeroI _) hkey2
       have hn11 : n11 = cntKey l.f0 (ls.take (k + 1)) := by
        have h9 := hat11.symm.trans (hCN11.2.2 l.f0 hW.1)
        injection h9 with h9
        injection h9
       subst hn11
       have B12 := B9.trans (B11.mono B9.size)
       have HD := Aside0.mk (⟨_, hCN11⟩ : ∃ D, CntAt _ w0.heap.size (k + 1) D (ls.take (k + 1)))
       clear hat11 hCN11 hkey2 hCN9 B11 B9 hb10 z950
       generalize hcn : cntKey l.f0 (ls.take (k + 1)) = n at *
       by_cases h10 : 10 < n
       ·have i10 : ((n : Int) > 10) := by omega
        have i11 : ((n : Int) > 1) := by omega
        have hT : tooMany kind l.f0 n = true := by rw [hTM.out, decide_eq_true h10, Bool.or_true]
        have HF2 := Aside0.mk (show blockOkL kind name ls = false by rw [HST.out, hT]; rfl)
        clear hT h10
        cases m
        all_goals
         go_wp2
         go_ret
         exact ⟨by rw [HF2.out]; rfl, B2.trans (B12.mono B2.size)⟩
       ·have i10 : ¬ ((n : Int) > 10) := by omega
        by_cases h1 : 1 < n
        ·have i11 : ((n : Int) > 1) := by omega
         cases m
         ·have hT : tooMany kind l.f0 n = true := by rw [hTM.out, decide_eq_true h1]; rfl
          have HF2 := Aside0.mk (show blockOkL kind name ls = false by rw [HST.out, hT]; rfl)
          clear hT h10 h1
          go_wp2
          go_ret
          exact ⟨by rw [HF2.out]; rfl, B2.trans (B12.mono B2.size)⟩
         ·have hT : tooMany kind l.f0 n = false := by rw [hTM.out, decide_eq_false h10]; rfl
          have HF2 := Aside0.mk (show blockOkL kind name ls = linesFrom kind (ls.take (k + 1)) (ls.drop (k + 1)) by rw [HST.out, hT]; rfl)
          clear hT h10 h1
          go_wp2
          go_roundw
          case rel => exact ⟨k + 1, by first | go_num | (rw [HK0.out]; rfl), hlt, B12, HD, HF2⟩
          case measure => have := HK0.out; simp [intOf]; omega
        ·have i11 : ¬ ((n : Int) > 1) := by omega
         have hT : tooMany kind l.f0 n = false := by rw [hTM.out, decide_eq_false h10, decide_eq_false h1, Bool.and_false]; rfl
         have HF2 := Aside0.mk (show blockOkL kind name ls = linesFrom kind (ls.take (k + 1)) (ls.drop (k + 1)) by rw [HST.out, hT]; rfl)
         clear hT h10 h1
         cases m
         all_goals
          go_wp2
          go_roundw
          case rel => exact ⟨k + 1, by first | go_num | (rw [HK0.out]; rfl), hlt, B12, HD, HF2⟩
          case measure => have := HK0.out; simp [intOf]; omega
      ·obtain ⟨j, rfl⟩ : ∃ j, k = j + 1 := ⟨k - 1, by omega⟩
       have hjl : j < ls.length := by omega
       obtain ⟨_, Ap, cp, hadp, hp0, hp1, hlp, hCp⟩ := line_at (Kd.C_below (Kd.C_below (Kd.C_below HR.out B2) hB) B6) j ls[j] (List.getElem?_eq_getElem hjl)
       injection hadp with hadp
       subst hadp
       rw [headOk_take kind ls j ls[j] l (List.getElem?_eq_getElem hjl)] at hstep
       have hWp := HF.out.2 _ (List.getElem_mem hjl)
       generalize ls[j] = pl at *
       have OC := fun p : BW W6 => order_c kind Ap A1 cp d1 pl l p.w' (Kd.C_below hCp p.h) hlp (Kd.C_below (Kd.C_below HC1.out B6) p.h) L1.out hWp.2.1 hW.2.1
       have hol := ordL_lt kind pl l
       generalize ordL kind pl l = od at *
       have q2 := fun p : BW W6 => p.cell (pw_cell_below B6 xr2)
       have qp0 := fun p : BW W6 => p.cell hp0
       have qp1 := fun p : BW W6 => p.cell hp1
       have ij : (j : Int) < (ls.length : Int) := by omega
       have ew : IntKind.i64.wrap (j : Int) = (j : Int) := by have hll := HF.out.1; rw [IntKind.wrap_i64]; omega
       have ik : ((j + 1 : Nat) : Int) > 0 := by omega
       clear hp0 hp1 hCp hlp hk0
       cases hlt2 : lineLt kind pl l with
       | false =>
        rw [hlt2, Bool.false_and] at hstep
        rw [hlt2] at hol
        have io : od ≥ 0 := of_decide_eq_true hol
        have HF2 := Aside0.mk hstep
        clear hstep hlt2 hol
        refine wp_region_below (by kernel_rfl) (by kernel_rfl) ?_
        repeat ((with_reducible refine wpQuiet_step ?_); (with_reducible intro K hK); go_simp; first | ((with_reducible refine hK _ ?_); clear hK K) | ((with_reducible refine quiet_off (fun h => ?_) ?_); exact h; (with_reducible refine hK _ ?_); clear hK K) | (apply Exists.intro; refine ⟨fun _ => ?_, hK _ ?_⟩; (first | (go_at_call 21; exact BW.calls (FC _)) | (go_at_call 116; exact BW.calls (OC _))); clear hK K))
        with_reducible refine wpQuiet_nil ?_
        intro wn hw'
        obtain ⟨⟨_, hBn⟩, rfl⟩ := hw'
        go_wp2
        go_ret
        exact ⟨by rw [HF2.out]; rfl, B2.trans ((hB06.trans (hBn.mono hB06.size)).mono B2.size)⟩
       | true =>
        rw [hlt2, Bool.true_and] at hstep
        rw [hlt2] at hol
        have io : ¬ od ≥ 0 := of_decide_eq_false hol
        have hol2 := hol
        have HST := Aside0.mk hstep
        clear hstep hlt2 hol
        refine wp_region_below (by kernel_rfl) (by kernel_rfl) ?_
        repeat ((with_reducible refine wpQuiet_step ?_); (with_reducible intro K hK); go_simp; first | ((with_reducible refine hK _ ?_); clear hK K) | ((with_reducible refine quiet_off (fun h => ?_) ?_); exact h; (with_reducible refine hK _ ?_); clear hK K) | (apply Exists.intro; refine ⟨fun _ => ?_, hK _ ?_⟩; (first | (go_at_call 21; exact BW.calls (FC _)) | (go_at_call 116; exact BW.calls (OC _))); clear hK K))
        with_reducible refine wpQuiet_nil ?_
        intro wn hw'
        obtain ⟨⟨_, hBn⟩, rfl⟩ := hw'
        clear ik io ew ij q2 qp0 qp1 OC hol2
        have CN := hD6.out
        obtain ⟨D, hCN⟩ := CN
        obtain ⟨hown, hIs, hat0⟩ := hCN.below hBn
        have hkey : keyOf Tryd.prog 9 (.string l.f0) = some (.string l.f0.data.toList) := keyOf_string_mk Tryd.underlying9 (by have := hW.1; unfold maxLen; omega)
        obtain ⟨n9, hrun, hat, _⟩ := hown.lookup_int (string_keyed Tryd.underlying9) Tryd.underlying132 Tryd.underlying3 (zeroI _) hkey
        have hn9 : n9 = cntKey l.f0 (ls.take (j + 1)) := by
         have h9 := hat.symm.trans (hat0 l.f0 hW.1)
         injection h9 with h9
         injection h9
        subst hn9
        clear hat
        have z0 : wn.cell? ⟨w.heap.size, 0, none⟩ = some (.string kind) := q0 ⟨wn, hBn⟩
        have z50 := pw_cell_below hBn y0
        have hk9 : j + 1 < maxLen := by have := HF.out.1; unfold maxLen; omega
        go_wp2_with (first
         | (at_mapUpdate; refine wpList_mapUpdate_own _ rfl _ _ _ 132 rfl 9 3 (string_keyed Tryd.underlying9) Tryd.underlying132 _ w0.heap.size (j + 1) _ rfl hown hk9 _ _ _ rfl rfl hkey _ [] (plainElem_int Tryd.underlying3 (wrap64_wf _)) ?_)
         | go_in)
        intro w9 hown9 hgrow9
        have e9 : wrap64 ((cntKey l.f0 (ls.take (j + 1)) : Int) + 1) = ((cntKey l.f0 (ls.take (j + 1)) + 1 : Nat) : Int) := inc (by have := cntKey_le l.f0 (ls.take (j + 1)); have := HF.out.1; rw [List.length_take] at *; omega)
        rw [e9] at hown9
        have hCN9 := CntAt.put (hCN.below hBn) rfl HCW.out hown9
        have z90 := hgrow9.cell z0 (by intro e; injection e with e; simp only at e; omega)
        have z950 := hgrow9.cell z50 (by intro e; injection e with e; simp only at e; omega)
        have s9 : wr.heap.size < w9.heap.size := by have := hBn.size; have := hgrow9.size; omega
        have B9 := below_grown (hB06.trans (hBn.mono hB06.size)) hgrow9 (Nat.le_refl _) (Nat.le_refl _)
        clear hown9 hgrow9 hown hIs hat0 hrun z0 z50 hCN hBn FC q0 q50 q51 y0 y1 s6 hD6
        go_wp2_with fail
        refine (find_c kind l.f0 w9).mono ?_
        rintro e w10 ⟨r1, g5, n5, c5, g6, n6, c6, rfl, hb10⟩
        go_upto_region 11 with (fail)
        clear z90 hkey hk9 e9 hB06 B6
        have hct := cntKey_le l.f0 (ls.take (j + 1 + 1))
        rw [List.length_take] at hct
        have hTM := Aside0.mk (show tooMany kind l.f0 (cntKey l.f0 (ls.take (j + 1 + 1))) = ((!manyL kind l.f0 && decide (1 < cntKey l.f0 (ls.take (j + 1 + 1)))) || decide (10 < cntKey l.f0 (ls.take (j + 1 + 1)))) from rfl)
        generalize hm : manyL kind l.f0 = m at *
        have B11 : Below w9.heap.size w9 (w10.alloc (.cells #[.string r1, .slice g5 n5 c5, .bool m, .slice g6 n6 c6] 36)) := below_alloc hb10 _
        have z11 := pw_cell_below B11 z950
        have hCN11 := hCN9.below B11
        have hkey2 : keyOf Tryd.prog 9 (.string l.f0) = some (.string l.f0.data.toList) := keyOf_string_mk Tryd.underlying9 (by have := hW.1; unfold maxLen; omega)
        obtain ⟨n11, hrun11, hat11, _⟩ := hCN11.1.lookup_int (string_keyed Tryd.underlying9) Tryd.underlying132 Tryd.underlying3 (zeroI _) hkey2
        have hn11 : n11 = cntKey l.f0 (ls.take (j + 1 + 1)) := by
         have h9 := hat11.symm.trans (hCN11.2.2 l.f0 hW.1)
         injection h9 with h9
         injection h9
        subst hn11
        have B12 := B9.trans (B11.mono B9.size)
        have HD := Aside0.mk (⟨_, hCN11⟩ : ∃ D, CntAt _ w0.heap.size (j + 1 + 1) D (ls.take (j + 1 + 1)))
        clear hat11 hCN11 hkey2 hCN9 B11 B9 hb10 z950
        generalize hcn : cntKey l.f0 (ls.take (j + 1 + 1)) = n at *
        by_cases h10 : 10 < n
        ·have i10 : ((n : Int) > 10) := by omega
         have i11 : ((n : Int) > 1) := by omega
         have hT : tooMany kind l.f0 n = true := by rw [hTM.out, decide_eq_true h10, Bool.or_true]
         have HF2 := Aside0.mk (show blockOkL kind name ls = false by rw [HST.out, hT]; rfl)
         clear hT h10
         cases m
         all_goals
          go_wp2
          go_ret
          exact ⟨by rw [HF2.out]; rfl, B2.trans (B12.mono B2.size)⟩
        ·have i10 : ¬ ((n : Int) > 10) := by omega
         by_cases h1 : 1 < n
         ·have i11 : ((n : Int) > 1) := by omega
          cases m
          ·have hT : tooMany kind l.f0 n = true := by rw [hTM.out, decide_eq_true h1]; rfl
           have HF2 := Aside0.mk (show blockOkL kind name ls = false by rw [HST.out, hT]; rfl)
           clear hT h10 h1
           go_wp2
           go_ret
           exact ⟨by rw [HF2.out]; rfl, B2.trans (B12.mono B2.size)⟩
          ·have hT : tooMany kind l.f0 n = false := by rw [hTM.out, decide_eq_false h10]; rfl
           have HF2 := Aside0.mk (show blockOkL kind name ls = linesFrom kind (ls.take (j + 1 + 1)) (ls.drop (j + 1 + 1)) by rw [HST.out, hT]; rfl)
           clear hT h10 h1
           go_wp2
           go_roundw
           case rel => exact ⟨j + 1 + 1, by rw [inc2 hjl HF.out.1], hlt, B12, HD, HF2⟩
           case measure => rw [inc2 hjl HF.out.1]; exact less2 hlt
         ·have i11 : ¬ ((n : Int) > 1) := by omega
          have hT : tooMany kind l.f0 n = false := by rw [hTM.out, decide_eq_false h10, decide_eq_false h1, Bool.and_false]; rfl
          have HF2 := Aside0.mk (show blockOkL kind name ls = linesFrom kind (ls.take (j + 1 + 1)) (ls.drop (j + 1 + 1)) by rw [HST.out, hT]; rfl)
          clear hT h10 h1
          cases m
          all_goals
           go_wp2
           go_roundw
           case rel => exact ⟨j + 1 + 1, by rw [inc2 hjl HF.out.1], hlt, B12, HD, HF2⟩
           case measure => rw [inc2 hjl HF.out.1]; exact less2 hlt
    ·have hkn : k = ls.length := by omega
     subst hkn
     have hf2 := hf.out
     rw [List.drop_eq_nil_of_le (Nat.le_refl _)] at hf2
     go_wp2
     go_ret
     exact ⟨by rw [hf2]; rfl, B2.trans (hB.mono B2.size)⟩
instance (ls : List S83) : Decidable (fitB ls) := by unfold fitB; infer_instance
end Go.Proofs.YtmcdnpooclelgaaDoor.PAll
