/- Texts of this claim, packed: contracts of functions and plain lemmas that the law is proved from. -/
import Derived.ArgAppend
import Derived.Below
import Derived.BigQuiet
import Derived.ChangeArms
import Derived.ChangeSame
import Derived.Deep.AppendLies
import Derived.Deep.CutBlock
import Derived.Deep.DeepCutAuto
import Derived.Deep.Draws
import Derived.Deep.LoopGhost
import Derived.Deep.OwnRows
import Derived.Deep.QuietTactic
import Derived.Deep.RegionHeld3
import Derived.Deep.RegionLaw
import Derived.Deep.Slices
import Derived.Deep.Strs
import Derived.IntWalk
import Derived.KernelRfl
import Derived.Laws.BitsLemmas
import Derived.Laws.BytesArg
import Derived.Laws.IdiomCopy
import Derived.Laws.MakeOwn
import Derived.Laws.OwnMore
import Derived.Laws.Rows
import Derived.Laws.Slices
import Derived.Lib.AppendStr
import Derived.Lib.ConvBytes
import Derived.Lib.Hide
import Derived.Lib.Strings
import Derived.Maps.AppendAt
import Derived.OrdersHeld
import Derived.OwnWalk
import Derived.RowKit
import Derived.RowKit3
import Derived.Tactics
import Derived.Test.YtmcdnpooclelgaaDoorProg
import Derived.WalkKit
import Derived.WideLaws
import Derived.Test.YtmcdnpooclelgaaDoorQRules21
set_option linter.unusedVariables false
set_option linter.unusedSimpArgs false
namespace Go.Proofs.YtmcdnpooclelgaaDoor
open Go.RowKit Go.Proofs.YtmcdnpooclelgaaDoorW.PrintWords
section
variable {P : Program} {ops : Array Oper} {rest : List Oper} {o : Oper} {a : Act} {Q : Exit → Act → World → Prop} {K : Act → World → Prop}
theorem ap_lit {w0 W : World} (base : Nat) (hgd : o.guard = none) (s x : Operand) (t e : TypeId) (z : Value) (size bytes : Nat)
  (ho : o.op = .call { callee := .builtin .append, args := #[s, x], argTypes := #[t, t] })
  (ht : P.underlying t = some (.slice e)) (hinfo : (P.info? e).map (fun i => (i.zero, i.size, i.bytes)) = some (some z, size, bytes)) (hz : z.cells.size = size) (hs0 : 0 < size) (hb0 : 0 < bytes)
  (v : Value) (n m : Nat) (xs ys : List Value) (hs : a.eval s = v) (hx : a.eval x = .slice (some ⟨W.heap.size, 0, none⟩) m m) (hys : ys.length = m * size) (h1 : ∀ u ∈ ys, u.oneCell' = true)
  (HO : W.ownsRow base e size v n xs) (HB : Below base w0 W) (hbase : base ≤ W.heap.size) (hl : (n + m) * bytes ≤ 140737488355328)
  (h : ∀ v1 w1, w1.ownsRow base e size v1 (n + m) (xs ++ ys) → Below base w0 w1 → W.grownBy w1 v.ownBlock → (v1.ownBlock = v.ownBlock ∨ ∃ b, v1.ownBlock = some b ∧ W.heap.size ≤ b) → wpList P ops Q rest (a.put o.dst v1) w1) :
  wpList P ops Q (o :: rest) a (W.alloc (.cells ys.toArray e)) := by
 obtain ⟨i0, hi, hzz⟩ := Option.map_eq_some_iff.1 hinfo
 simp only [Prod.mk.injEq] at hzz
 obtain ⟨hz0, hz1, hz2⟩ := hzz
 have hlen : n + m ≤ 140737488355328 := Nat.le_trans (Nat.le_mul_of_pos_right _ hb0) hl
 refine wpList_append_own_at (W.alloc (.cells ys.toArray e)) hgd s x t ho base e i0 z size bytes ht hi hz0 hz1 hz2 hz hs0 v n xs hs (HO.alloc _) ⟨W.heap.size, 0, none⟩ m m ys hx hys
  (by simpa using World.news_of_block (cs := ys.toArray) (t := e) (fr := (0, 0)) (heap_alloc_new W _)) h1 (by simp only [maxLen]; omega) hl (by simp; omega) ?_
 intro v1 w1 hown hg _ hat
 refine h v1 w1 hown ((HB.alloc hbase _).grown hg (by simp; omega) (own_base HO)) (World.grownBy.trans (World.grownBy_alloc W _ _) hg) ?_
 rcases hat with hat | hat
 ·exact .inl hat
 ·exact .inr ⟨_, hat, by simp⟩
theorem ap_lit_step {w0 W : World} (base : Nat) (hw : Region.wanted o (yielded ops a.tmps) = true) (s x : Operand) (t e : TypeId) (z : Value) (size bytes : Nat)
  (ho : o.op = .call { callee := .builtin .append, args := #[s, x], argTypes := #[t, t] })
  (ht : P.underlying t = some (.slice e)) (hinfo : (P.info? e).map (fun i => (i.zero, i.size, i.bytes)) = some (some z, size, bytes)) (hz : z.cells.size = size) (hs0 : 0 < size) (hb0 : 0 < bytes)
  (v : Value) (n m : Nat) (xs ys : List Value) (hs : a.eval s = v) (hx : a.eval x = .slice (some ⟨W.heap.size, 0, none⟩) m m) (hys : ys.length = m * size) (h1 : ∀ u ∈ ys, u.oneCell' = true)
  (HO : W.ownsRow base e size v n xs) (HB : Below base w0 W) (hbase : base ≤ W.heap.size) (hl : (n + m) * bytes ≤ 140737488355328)
  (h : ∀ v1 w1, w1.ownsRow base e size v1 (n + m) (xs ++ ys) → Below base w0 w1 → W.grownBy w1 v.ownBlock → (v1.ownBlock = v.ownBlock ∨ ∃ b, v1.ownBlock = some b ∧ W.heap.size ≤ b) → K (a.put o.dst v1) w1) :
  if Region.wanted o (yielded ops a.tmps) = true then Oper.wp P o a (W.alloc (.cells ys.toArray e)) K Q else K (a.put o.dst undef) (W.alloc (.cells ys.toArray e)) := by
 obtain ⟨i0, hi, hzz⟩ := Option.map_eq_some_iff.1 hinfo
 simp only [Prod.mk.injEq] at hzz
 obtain ⟨hz0, hz1, hz2⟩ := hzz
 have hlen : n + m ≤ 140737488355328 := Nat.le_trans (Nat.le_mul_of_pos_right _ hb0) hl
 rw [if_pos hw]
 obtain ⟨v1, w1, hr, hown, hg, _, hat⟩ := run_append_own_at (P := P) (W.alloc (.cells ys.toArray e)) base t o.type e i0 z size bytes ht hi hz0 hz1 hz2 hz hs0 v n xs (HO.alloc _) ⟨W.heap.size, 0, none⟩ m m ys hys
  (by simpa using World.news_of_block (cs := ys.toArray) (t := e) (fr := (0, 0)) (heap_alloc_new W (.cells ys.toArray e))) h1 (by simp only [maxLen]; omega) hl (by simp; omega)
 unfold Oper.wp execOp
 simp only [ho, resolve, invoke, builtin, Sem.run_bind, Sem.run_pure, Result.andThen_ok, List.map_toArray, List.map_cons, List.map_nil, hs, hx, hr]
 refine h v1 w1 hown ((HB.alloc hbase _).grown hg (by simp; omega) (own_base HO)) (World.grownBy.trans (World.grownBy_alloc W _ _) hg) ?_
 rcases hat with hat | hat
 ·exact .inl hat
 ·exact .inr ⟨_, hat, by simp⟩
end
def ER {α : Type} (enc : α → Value) (w : World) (base e : Nat) (v : Value) (xs : List α) : Prop := w.ownsRow base e 1 v xs.length (xs.map enc)
section
variable {α : Type} {enc : α → Value} {w : World} {base e : Nat} {v : Value} {xs : List α}
theorem ER.alloc (h : ER enc w base e v xs) (o : Obj) : ER enc (w.alloc o) base e v xs := World.ownsRow.alloc h o
theorem ER.drew (h : ER enc w base e v xs) : ER enc w.drew base e v xs := World.ownsRow.drew h
theorem ER.drewN (h : ER enc w base e v xs) (n : Nat) : ER enc (w.drewN n) base e v xs := own_move h (fun _ _ => rfl)
theorem ER.nil (enc : α → Value) (w : World) (base e : Nat) : ER enc w base e (.slice none 0 0) [] := World.ownsRow_nil w base e 1
theorem ER.lit (enc : α → Value) (w : World) (base e : Nat) (xs : List α) (hb : base ≤ w.heap.size) (hm : xs.length ≤ 9223372036854775807) : ER enc (w.alloc (.cells (xs.map enc).toArray e)) base e (.slice (some ⟨w.heap.size, 0, none⟩) xs.length xs.length) xs := by
 have h := World.ownsRow_lit (base := base) (e := e) (size := 1) w (xs.map enc).toArray xs.length hb (by simpa [maxLen] using hm) (by simp)
 unfold ER; simpa using h
theorem ER.move {w1 : World} (h : ER enc w base e v xs) (hm : ∀ k, v.ownBlock = some k → w1.heap[k]? = w.heap[k]?) : ER enc w1 base e v xs := own_move h hm
theorem ER.below {w1 : World} (h : ER enc w base e v xs) (hb : Below w.heap.size w w1) : ER enc w1 base e v xs := h.move fun k hk => hb.block k (own_lt h k hk)
theorem ER.lower {b : Nat} (h : ER enc w base e v xs) (hb : b ≤ base) : ER enc w b e v xs := own_weaken h hb
theorem ER.far (h : ER enc w base e v xs) {p : Addr} (hp : p.block < base) (u : Value) : ER enc (w.setCell p u) base e v xs := ownsRow_setCell_below h hp u
theorem ER.form (h : ER enc w base e v xs) : ∃ A c, v = .slice A xs.length c ∧ (0 < xs.length → ∃ g, A = some ⟨g, 0, none⟩ ∧ base ≤ g ∧ g < w.heap.size ∧ (∀ j, w.frozen? ⟨g, j, none⟩ = false) ∧ ∀ (j : Nat) (x : α), xs[j]? = some x → w.cell? ⟨g, j, none⟩ = some (enc x)) := by
 have h' := h
 rcases h.2 with ⟨rfl, hn⟩ | ⟨g, cap, cur, rfl, hb, hg, _⟩
 ·exact ⟨none, 0, by rw [hn], fun hp => by omega⟩
 ·refine ⟨_, cap, rfl, fun _ => ⟨g, rfl, hb, (Array.getElem?_eq_some_iff.1 hg).1, fun j => World.ownsRow.frozenAt h' j, fun j x hx => ?_⟩⟩
  have hj := (List.getElem?_eq_some_iff.1 hx).1
  rw [World.ownsRow.cellAt h' j (by omega), List.getElem?_map, hx]; rfl
theorem ER.set {g c : Nat} (h : ER enc w base e (.slice (some ⟨g, 0, none⟩) xs.length c) xs) (j : Nat) (x : α) :
  ER enc (w.setCell ⟨g, j, none⟩ (enc x)) base e (.slice (some ⟨g, 0, none⟩) (xs.set j x).length c) (xs.set j x) ∧ w.grownBy (w.setCell ⟨g, j, none⟩ (enc x)) (some g) := by
 obtain ⟨h1, h2⟩ := World.ownsRow.stored h j (enc x)
 refine ⟨?_, h2⟩
 unfold ER
 rw [List.length_set, List.map_set]
 exact h1
end
section
variable {P : Program} {ops : Array Oper} {rest : List Oper} {o : Oper} {a : Act} {Q : Exit → Act → World → Prop} {K : Act → World → Prop} {α : Type} {enc : α → Value}
theorem ER.app {w0 W : World} {base : Nat} {v : Value} {xs : List α} (h1 : ∀ x, (enc x).oneCell' = true) (z : Value) (bytes : Nat) (ys : List α) (s x : Operand) (t e : TypeId) (HO : ER enc W base e v xs) (HB : Below base w0 W) (hl : xs.length + ys.length ≤ 8796093022208)
  (hgd : o.guard = none)
  (ho : o.op = .call { callee := .builtin .append, args := #[s, x], argTypes := #[t, t] })
  (ht : P.underlying t = some (.slice e)) (hinfo : (P.info? e).map (fun i => (i.zero, i.size, i.bytes)) = some (some z, 1, bytes)) (hz : z.cells.size = 1) (hb0 : 0 < bytes) (hb8 : bytes ≤ 16)
  (hbase : base ≤ W.heap.size) (hs : a.eval s = v) (hx : a.eval x = .slice (some ⟨W.heap.size, 0, none⟩) ys.length ys.length)
  (h : ∀ v1 w1, Aside0 (ER enc w1 base e v1 (xs ++ ys)) → Below base w0 w1 → Aside0 (W.grownBy w1 v.ownBlock) → Aside0 (v1.ownBlock = v.ownBlock ∨ ∃ b, v1.ownBlock = some b ∧ W.heap.size ≤ b) → wpList P ops Q rest (a.put o.dst v1) w1) :
  wpList P ops Q (o :: rest) a (W.alloc (.cells (ys.map enc).toArray e)) := by
 have hm : (xs.length + ys.length) * bytes ≤ 140737488355328 := Nat.le_trans (Nat.mul_le_mul hl hb8) (by omega)
 refine ap_lit base hgd s x t e z 1 bytes ho ht hinfo hz (by omega) hb0 v xs.length ys.length (xs.map enc) (ys.map enc) hs hx (by simp) (fun u hu => by obtain ⟨x, _, rfl⟩ := List.mem_map.1 hu; exact h1 x) HO HB hbase hm ?_
 intro v1 w1 h1 h2 h3 h4
 exact h v1 w1 ⟨by unfold ER; rw [List.map_append, List.length_append]; exact h1⟩ h2 ⟨h3⟩ ⟨h4⟩
theorem ER.app_step {w0 W : World} {base : Nat} {v : Value} {xs : List α} (h1 : ∀ x, (enc x).oneCell' = true) (z : Value) (bytes : Nat) (ys : List α) (s x : Operand) (t e : TypeId) (HO : ER enc W base e v xs) (HB : Below base w0 W) (hl : xs.length + ys.length ≤ 8796093022208)
  (hw : Region.wanted o (yielded ops a.tmps) = true)
  (ho : o.op = .call { callee := .builtin .append, args := #[s, x], argTypes := #[t, t] })
  (ht : P.underlying t = some (.slice e)) (hinfo : (P.info? e).map (fun i => (i.zero, i.size, i.bytes)) = some (some z, 1, bytes)) (hz : z.cells.size = 1) (hb0 : 0 < bytes) (hb8 : bytes ≤ 16)
  (hbase : base ≤ W.heap.size) (hs : a.eval s = v) (hx : a.eval x = .slice (some ⟨W.heap.size, 0, none⟩) ys.length ys.length)
  (h : ∀ v1 w1, Aside0 (ER enc w1 base e v1 (xs ++ ys)) → Below base w0 w1 → Aside0 (W.grownBy w1 v.ownBlock) → Aside0 (v1.ownBlock = v.ownBlock ∨ ∃ b, v1.ownBlock = some b ∧ W.heap.size ≤ b) → K (a.put o.dst v1) w1) :
  if Region.wanted o (yielded ops a.tmps) = true then Oper.wp P o a (W.alloc (.cells (ys.map enc).toArray e)) K Q else K (a.put o.dst undef) (W.alloc (.cells (ys.map enc).toArray e)) := by
 have hm : (xs.length + ys.length) * bytes ≤ 140737488355328 := Nat.le_trans (Nat.mul_le_mul hl hb8) (by omega)
 refine ap_lit_step base hw s x t e z 1 bytes ho ht hinfo hz (by omega) hb0 v xs.length ys.length (xs.map enc) (ys.map enc) hs hx (by simp) (fun u hu => by obtain ⟨x, _, rfl⟩ := List.mem_map.1 hu; exact h1 x) HO HB hbase hm ?_
 intro v1 w1 h1 h2 h3 h4
 exact h v1 w1 ⟨by unfold ER; rw [List.map_append, List.length_append]; exact h1⟩ h2 ⟨h3⟩ ⟨h4⟩
end
def NR (w : World) (base e : Nat) (k : IntKind) (v : Value) (xs : List Int) : Prop := ER (Value.int k) w base e v xs
theorem NR.alloc {w : World} {base e : Nat} {k : IntKind} {v : Value} {xs : List Int} (h : NR w base e k v xs) (o : Obj) : NR (w.alloc o) base e k v xs := ER.alloc h o
theorem NR.drew {w : World} {base e : Nat} {k : IntKind} {v : Value} {xs : List Int} (h : NR w base e k v xs) : NR w.drew base e k v xs := ER.drew h
theorem NR.nil (w : World) (base e : Nat) (k : IntKind) : NR w base e k (.slice none 0 0) [] := ER.nil _ w base e
theorem NR.lit (w : World) (base e : Nat) (k : IntKind) (xs : List Int) (hb : base ≤ w.heap.size) (hm : xs.length ≤ 9223372036854775807) : NR (w.alloc (.cells (nums k xs).toArray e)) base e k (.slice (some ⟨w.heap.size, 0, none⟩) xs.length xs.length) xs := ER.lit (Value.int k) w base e xs hb hm
section
variable {P : Program} {ops : Array Oper} {rest : List Oper} {o : Oper} {a : Act} {Q : Exit → Act → World → Prop} {K : Act → World → Prop}
theorem NR.app {w0 W : World} {base : Nat} {k : IntKind} {v : Value} {xs : List Int} (bytes : Nat) (ys : List Int) (s x : Operand) (t e : TypeId) (HO : NR W base e k v xs) (HB : Below base w0 W) (hl : xs.length + ys.length ≤ 8796093022208)
  (hgd : o.guard = none)
  (ho : o.op = .call { callee := .builtin .append, args := #[s, x], argTypes := #[t, t] })
  (ht : P.underlying t = some (.slice e)) (hinfo : (P.info? e).map (fun i => (i.zero, i.size, i.bytes)) = some (some (.int k 0), 1, bytes)) (hb0 : 0 < bytes) (hb8 : bytes ≤ 16)
  (hbase : base ≤ W.heap.size) (hs : a.eval s = v) (hx : a.eval x = .slice (some ⟨W.heap.size, 0, none⟩) ys.length ys.length)
  (h : ∀ v1 w1, Aside0 (NR w1 base e k v1 (xs ++ ys)) → Below base w0 w1 → Aside0 (W.grownBy w1 v.ownBlock) → Aside0 (v1.ownBlock = v.ownBlock ∨ ∃ b, v1.ownBlock = some b ∧ W.heap.size ≤ b) → wpList P ops Q rest (a.put o.dst v1) w1) :
  wpList P ops Q (o :: rest) a (W.alloc (.cells (nums k ys).toArray e)) :=
 ER.app (enc := Value.int k) (fun _ => rfl) (.int k 0) bytes ys s x t e HO HB hl hgd ho ht hinfo rfl hb0 hb8 hbase hs hx h
theorem NR.app_step {w0 W : World} {base : Nat} {k : IntKind} {v : Value} {xs : List Int} (bytes : Nat) (ys : List Int) (s x : Operand) (t e : TypeId) (HO : NR W base e k v xs) (HB : Below base w0 W) (hl : xs.length + ys.length ≤ 8796093022208)
  (hw : Region.wanted o (yielded ops a.tmps) = true)
  (ho : o.op = .call { callee := .builtin .append, args := #[s, x], argTypes := #[t, t] })
  (ht : P.underlying t = some (.slice e)) (hinfo : (P.info? e).map (fun i => (i.zero, i.size, i.bytes)) = some (some (.int k 0), 1, bytes)) (hb0 : 0 < bytes) (hb8 : bytes ≤ 16)
  (hbase : base ≤ W.heap.size) (hs : a.eval s = v) (hx : a.eval x = .slice (some ⟨W.heap.size, 0, none⟩) ys.length ys.length)
  (h : ∀ v1 w1, Aside0 (NR w1 base e k v1 (xs ++ ys)) → Below base w0 w1 → Aside0 (W.grownBy w1 v.ownBlock) → Aside0 (v1.ownBlock = v.ownBlock ∨ ∃ b, v1.ownBlock = some b ∧ W.heap.size ≤ b) → K (a.put o.dst v1) w1) :
  if Region.wanted o (yielded ops a.tmps) = true then Oper.wp P o a (W.alloc (.cells (nums k ys).toArray e)) K Q else K (a.put o.dst undef) (W.alloc (.cells (nums k ys).toArray e)) :=
 ER.app_step (enc := Value.int k) (fun _ => rfl) (.int k 0) bytes ys s x t e HO HB hl hw ho ht hinfo rfl hb0 hb8 hbase hs hx h
end
structure Upd (bs : List Nat) (w w' : World) : Prop where
 os : w'.os = w.os
 tape : w'.tape = w.tape
 output : w'.output = w.output
 size : w.heap.size ≤ w'.heap.size
 block : ∀ k, k < w.heap.size → k ∉ bs → w'.heap[k]? = w.heap[k]?
theorem Upd.refl (bs : List Nat) (w : World) : Upd bs w w := ⟨rfl, rfl, rfl, Nat.le_refl _, fun _ _ _ => rfl⟩
theorem Upd.trans {bs cs : List Nat} {a b c : World} (h : Upd bs a b) (k : Upd cs b c) (hc : ∀ x ∈ cs, x < a.heap.size → x ∈ bs) : Upd bs a c :=
 ⟨k.os.trans h.os, k.tape.trans h.tape, k.output.trans h.output, Nat.le_trans h.size k.size, fun i hi hn => (k.block i (Nat.lt_of_lt_of_le hi h.size) (fun hm => hn (hc i hm hi))).trans (h.block i hi hn)⟩
theorem Upd.mono {bs cs : List Nat} {a b : World} (h : Upd bs a b) (hc : ∀ x ∈ bs, x < a.heap.size → x ∈ cs) : Upd cs a b :=
 ⟨h.os, h.tape, h.output, h.size, fun i hi hn => h.block i hi (fun hm => hn (hc i hm hi))⟩
theorem Upd.of_below {a b : World} (h : Below a.heap.size a b) (bs : List Nat) : Upd bs a b := ⟨h.os, h.tape, h.output, h.size, fun i hi _ => h.block i hi⟩
theorem Upd.below {bs : List Nat} {a b : World} (h : Upd bs a b) {B : Nat} (hB : B ≤ a.heap.size) (hc : ∀ x ∈ bs, B ≤ x) : Below B a b :=
 ⟨h.os, h.tape, h.output, h.size, fun i hi => h.block i (by omega) (fun hm => by have := hc i hm; omega)⟩
theorem Upd.of_grown {a b : World} {row : Option Nat} (h : a.grownBy b row) : Upd row.toList a b :=
 ⟨h.os, h.tape, h.output, h.size, fun i hi hn => h.block i hi (fun he => hn (by rw [← he]; simp))⟩
theorem Upd.drewN {bs : List Nat} {a b : World} (h : Upd bs a b) (n : Nat) : Upd bs a (b.drewN n) := ⟨h.os, h.tape, h.output, h.size, h.block⟩
theorem Upd.drew {bs : List Nat} {a b : World} (h : Upd bs a b) : Upd bs a b.drew := ⟨h.os, h.tape, h.output, h.size, h.block⟩
theorem Upd.alloc {bs : List Nat} {a b : World} (h : Upd bs a b) (o : Obj) : Upd bs a (b.alloc o) := h.trans (Upd.of_below ((Below.refl _ _).alloc (Nat.le_refl _) o) []) (fun _ hx => by cases hx)
theorem ER.upd {α : Type} {enc : α → Value} {w w1 : World} {base e : Nat} {v : Value} {xs : List α} {bs : List Nat} (h : ER enc w base e v xs) (hu : Upd bs w w1) (hn : ∀ k, v.ownBlock = some k → k ∉ bs) : ER enc w1 base e v xs := h.move fun k hk => hu.block k (own_lt h k hk) (hn k hk)
end Go.Proofs.YtmcdnpooclelgaaDoor
namespace Go.Proofs.YtmcdnpooclelgaaDoor
open Go.RowKit Go.Proofs.YtmcdnpooclelgaaDoorW.PrintWords
def bareP (c : Int) : Bool := decide (33 ≤ c) && decide (c ≤ 126) && (c != 34) && (c != 35) && (c != 92)
def selfP (c : Int) : Bool := decide (32 ≤ c) && decide (c ≤ 126) && (c != 34) && (c != 92)
def from_ (s : ByteArray) (i : Nat) : List Int := (bytesOf s).drop i
def hexP (c : Int) : Int := if 48 ≤ c ∧ c ≤ 57 then c - 48 else if 97 ≤ c ∧ c ≤ 102 then c - 87 else -1
def quotP : List Int → List Int → Int → Option (List Int × Int)
 | [], _, _ => none
 | c :: r, acc, n => if c = 34 then some (acc, n + 1) else if c = 92 then (match r with | a :: b :: r' => if hexP a < 0 ∨ hexP b < 0 then none else quotP r' (acc ++ [16 * hexP a + hexP b]) (n + 3) | _ => none) else if selfP c = true then quotP r (acc ++ [c]) (n + 1) else none
def runP (s : ByteArray) (i : Nat) : Nat := ((from_ s i).takeWhile bareP).length
def wordAt (s : ByteArray) (i : Nat) : ByteArray × Nat :=
 if bt s i = 34 then (match quotP (from_ s (i + 1)) [] 0 with | some (a, n) => (strOfNums a, n.toNat + 1) | none => (⟨#[]⟩, 0))
 else (s.extract i (i + runP s i), runP s i)
def badAt (s : ByteArray) (i : Nat) (acc : List ByteArray) : Bool :=
 decide ((wordAt s i).2 = 0) || decide (200 < (wordAt s i).1.size) || decide (8 ≤ acc.length) || (decide (i + (wordAt s i).2 < s.size) && (bt s (i + (wordAt s i).2 : Nat) != 32) && (bt s (i + (wordAt s i).2 : Nat) != 35))
def wstep (s : ByteArray) (i : Nat) (acc : List ByteArray) : Option (List ByteArray) ⊕ (Nat × List ByteArray) :=
 if s.size ≤ i then .inl (some acc) else if bt s i = 32 then .inr (i + 1, acc) else if bt s i = 35 then .inl (some acc)
 else if badAt s i acc = true then .inl none else .inr (i + (wordAt s i).2, acc ++ [(wordAt s i).1])
inductive WR (s : ByteArray) : Nat → List ByteArray → Option (List ByteArray) → Prop
 | stop {i : Nat} {acc : List ByteArray} {r : Option (List ByteArray)} : wstep s i acc = .inl r → WR s i acc r
 | go {i i' : Nat} {acc acc' : List ByteArray} {r : Option (List ByteArray)} : wstep s i acc = .inr (i', acc') → WR s i' acc' r → WR s i acc r
theorem WR.len {s : ByteArray} {i : Nat} {acc : List ByteArray} {l : List ByteArray} {r : Option (List ByteArray)} (h : WR s i acc r) (hr : r = some l) (ha : acc.length ≤ 8) : l.length ≤ 8 := by
 induction h with
 | stop e =>
  unfold wstep at e
  subst hr
  split at e
  ·injection e with e; injection e with e; subst e; exact ha
  ·split at e
   ·cases e
   ·split at e
    ·injection e with e; injection e with e; subst e; exact ha
    ·split at e
     ·injection e with e; cases e
     ·cases e
 | go e _ ih =>
  refine ih hr ?_
  unfold wstep at e
  split at e
  ·cases e
  ·split at e
   ·injection e with e; injection e with e1 e2; subst e2; exact ha
   ·split at e
    ·cases e
    ·split at e
     ·cases e
     ·rename_i hb
      injection e with e; injection e with e1 e2
      subst e2
      simp only [badAt, Bool.or_eq_true, decide_eq_true_eq, not_or] at hb
      rw [List.length_append]; simp; omega
def Rd {α : Type} (enc : α → Value) (w : World) (A : Option Addr) (xs : List α) : Prop := ∀ (j : Nat) (x : α), xs[j]? = some x → ∃ ad, A = some ad ∧ w.cell? (ad.add j) = some (enc x)
theorem Rd.move {α : Type} {enc : α → Value} {w w1 : World} {A : Option Addr} {xs : List α} (h : Rd enc w A xs) (hb : Below w.heap.size w w1) : Rd enc w1 A xs := fun j x hx => by
 obtain ⟨ad, h1, h2⟩ := h j x hx
 exact ⟨ad, h1, pw_cell_below hb h2⟩
theorem blk_two {w : World} {g : Nat} {t : TypeId} {a b : Value} (h : w.heap[g]? = some (.cells #[a, b] t (0, 0))) : w.cell? ⟨g, 0, none⟩ = some a ∧ w.cell? ⟨g, 1, none⟩ = some b ∧ w.frozen? ⟨g, 0, none⟩ = false ∧ w.frozen? ⟨g, 1, none⟩ = false :=
 ⟨(blk_cell h 0).trans rfl, (blk_cell h 1).trans rfl, blk_frozen h 0, blk_frozen h 1⟩
theorem xor_pos (a b : Int) (ha : 0 ≤ a) (hb : 0 ≤ b) (ha2 : a < 4611686018427387904) (hb2 : b < 4611686018427387904) : 0 ≤ Go.bits .xor .i64 a b ∧ Go.bits .xor .i64 a b < 4611686018427387904 := by
 obtain ⟨m, rfl⟩ := Int.eq_ofNat_of_zero_le ha
 obtain ⟨n, rfl⟩ := Int.eq_ofNat_of_zero_le hb
 have ha' : m % 2 ^ IntKind.i64.bits = m := Nat.mod_eq_of_lt (by simp [IntKind.bits]; omega)
 have hb' : n % 2 ^ IntKind.i64.bits = n := Nat.mod_eq_of_lt (by simp [IntKind.bits]; omega)
 have hx : m ^^^ n < 2 ^ 62 := Nat.xor_lt_two_pow (by omega) (by omega)
 have e : Go.bits .xor .i64 (m : Int) (n : Int) = ((m ^^^ n : Nat) : Int) := by
  simp only [bits, BitVec.ofInt_natCast, BitVec.toNat_xor, BitVec.toNat_ofNat, ha', hb']
  exact IntWalk.i64_in _ (by omega)
 rw [e]; omega
def Rdr (w0 w : World) (g : Nat) (P : Int) : Prop := ∃ (A : Option Addr) (c : Nat) (zs : List Int) (p : Int), w.heap[g]? = some (.cells #[.slice A zs.length c, .int .i64 p] 122 (0, 0)) ∧ Rd (Value.int .u8) w0 A zs ∧ (∀ z ∈ zs, 0 ≤ z ∧ z ≤ 255) ∧ zs.length ≤ 2000 ∧ 0 ≤ p ∧ p ≤ P ∧ w0.heap.size ≤ g ∧ Below w0.heap.size w0 w
def PickPost (w0 w : World) (g : Nat) (P m : Int) (e : Ending) (w' : World) : Prop := ∃ r : Int, e = .returned (.int .i64 r) ∧ 0 ≤ r ∧ (0 < m → r < m) ∧ (m ≤ 0 → r = 0) ∧ Rdr w0 w' g (P + 1) ∧ Upd [g] w w'
theorem Rdr.set {w0 w : World} {g : Nat} {P : Int} {A : Option Addr} {c : Nat} {zs : List Int} {p : Int} (hb : w.heap[g]? = some (.cells #[.slice A zs.length c, .int .i64 p] 122 (0, 0))) (hr : Rd (Value.int .u8) w0 A zs) (hz : ∀ z ∈ zs, 0 ≤ z ∧ z ≤ 255) (hl : zs.length ≤ 2000) (hg : w0.heap.size ≤ g) (hB : Below w0.heap.size w0 w) (p' : Int) (h0 : 0 ≤ p') (h1 : p' ≤ P) (n : Nat) :
  Rdr w0 ((w.setCell ⟨g, 1, none⟩ (.int .i64 p')).drewN n) g P ∧ Upd [g] w ((w.setCell ⟨g, 1, none⟩ (.int .i64 p')).drewN n) := by
 refine ⟨⟨A, c, zs, p', blk_drewN (blk_put hb 1 _ rfl) n, hr, hz, hl, h0, h1, hg, pw_below_drewN (hB.setCell hg _) n⟩, Upd.drewN (a := w) (b := w.setCell ⟨g, 1, none⟩ (.int .i64 p')) ⟨rfl, rfl, rfl, by simp, fun k _ hk => ?_⟩ n⟩
 exact Below.heap_setCell w ⟨g, 1, none⟩ _ k (fun e => hk (by simp [e]))
set_option maxRecDepth 100000 in
set_option maxHeartbeats 1000000 in
theorem pick_any (w0 w : World) (g : Nat) (P m : Int) (h : Rdr w0 w g P) (hP : P ≤ 1099511627776) (hm : m ≤ 1099511627776) :
  Calls Tryd.prog 67 #[.pointer (some ⟨g, 0, none⟩), .int .i64 m] w (PickPost w0 w g P m) := by
 obtain ⟨A, c, zs, p, hb, hr, hz, hl, hp0, hp1, hg, hB⟩ := h
 have HS := fun n => Lib.hid (Rdr.set (P := P + 1) hb hr hz hl hg hB (p + 1) (by omega) (by omega) n)
 obtain ⟨f1, f2, f3, f4⟩ := blk_two hb
 have HB := Aside0.mk hB
 have HR := Aside0.mk hr
 have hr0 := hr
 have HZ := Aside0.mk hz
 clear hb hz hB hr
 by_cases h1 : m < 1
 ·go_enter Tryd.func67, Tryd.ntmps67
  go_wp2
  go_ret
  refine ⟨0, rfl, by omega, fun h => by omega, fun _ => rfl, ?_⟩
  have := (HS 0).out
  exact this
 ·by_cases h2 : zs.length = 0
  ·have e2 : ((zs.length : Int) == 0) = true := by simp [h2]
   clear h2
   go_enter Tryd.func67, Tryd.ntmps67
   go_wp2
   go_ret
   exact ⟨0, rfl, by omega, fun h => by omega, fun _ => rfl, (HS 0).out⟩
  ·have e2 : ((zs.length : Int) == 0) = false := by simp [h2]
   have hpos : 0 < (zs.length : Int) := by omega
   clear h2
   obtain ⟨ad, rfl, -⟩ := HR.out 0 _ (List.getElem?_eq_getElem (by omega))
   have HC : Aside0 (∀ j : Int, 0 ≤ j → j < (zs.length : Int) → ∃ z : Int, 0 ≤ z ∧ z ≤ 255 ∧ ∀ v, (w.setCell ⟨g, 1, none⟩ v).cell? (ad.add j.toNat) = some (.int .u8 z)) := Aside0.mk fun j j0 j1 => by
    obtain ⟨ad', ea, hc⟩ := hr0 j.toNat _ (List.getElem?_eq_getElem (by omega))
    cases ea
    have hzz := HZ.out _ (List.getElem_mem (l := zs) (n := j.toNat) (by omega))
    refine ⟨_, hzz.1, hzz.2, fun v => ?_⟩
    have hlt := block_lt_of_cell hc
    rw [World.cell?_setCell_far w ⟨g, 1, none⟩ (ad.add j.toNat) v (by have : (ad.add j.toNat).block < w0.heap.size := hlt; show g ≠ _; omega)]
    exact pw_cell_below HB.out hc
   by_cases h3 : p < (zs.length : Int)
   ·obtain ⟨z, z0, z1, hc2⟩ := HC.out p hp0 h3
    clear HC HB HR HZ
    go_enter Tryd.func67, Tryd.ntmps67
    go_wp2
    go_ret
    exact ⟨_, rfl, Int.emod_nonneg _ (by omega), fun _ => Int.emod_lt_of_pos _ (by omega), fun h => absurd h (by omega), (HS 0).out⟩
   ·obtain ⟨y, y0, y1, hcy⟩ := HC.out (p % (zs.length : Int)) (Int.emod_nonneg _ (by omega)) (Int.emod_lt_of_pos _ (by omega))
    obtain ⟨z, z0, z1, hcz⟩ := HC.out ((p * 7 + 3) % (zs.length : Int)) (Int.emod_nonneg _ (by omega)) (Int.emod_lt_of_pos _ (by omega))
    have i0 : 0 ≤ p % (zs.length : Int) := Int.emod_nonneg _ (by omega)
    have i1 : p % (zs.length : Int) < zs.length := Int.emod_lt_of_pos _ (by omega)
    have j0 : 0 ≤ (p * 7 + 3) % (zs.length : Int) := Int.emod_nonneg _ (by omega)
    have j1 : (p * 7 + 3) % (zs.length : Int) < zs.length := Int.emod_lt_of_pos _ (by omega)
    have q0 : 0 ≤ p / (zs.length : Int) := Int.ediv_nonneg hp0 (by omega)
    have q1 : p / (zs.length : Int) ≤ p := Int.ediv_le_self _ hp0
    clear HC HB HR HZ
    go_enter Tryd.func67, Tryd.ntmps67
    go_wp2
    go_quiet (fail)
    have x0 : 0 ≤ y * 131 + z * 1117 + p * 29 + p / (zs.length : Int) * 53 := by omega
    have x1 : y * 131 + z * 1117 + p * 29 + p / (zs.length : Int) * 53 < 4611686018427387904 := by omega
    generalize y * 131 + z * 1117 + p * 29 + p / (zs.length : Int) * 53 = x at *
    have ⟨b0, b1⟩ := xor_pos x (x / 64) x0 (by omega) x1 (by omega)
    clear hcy hcz hr0
    go_wp2
    go_ret
    exact ⟨_, rfl, Int.emod_nonneg _ (by omega), fun _ => Int.emod_lt_of_pos _ (by omega), fun h => absurd h (by omega), (HS nq).out⟩
theorem Rdr.upd {w0 w w1 : World} {g : Nat} {P : Int} (h : Rdr w0 w g P) (hu : Upd [] w w1) : Rdr w0 w1 g P := by
 obtain ⟨A, c, zs, p, hb, hr, hz, hl, hp0, hp1, hg, hB⟩ := h
 have hlt : g < w.heap.size := (Array.getElem?_eq_some_iff.1 hb).1
 exact ⟨A, c, zs, p, (hu.block g hlt (by simp)).trans hb, hr, hz, hl, hp0, hp1, hg, hB.trans ((hu.below (Nat.le_refl _) (by simp)).mono hB.size)⟩
set_option maxRecDepth 100000 in
set_option maxHeartbeats 1000000 in
theorem l1Open_any (w : World) (A : Option Addr) (len cap : Nat) (zs : List Int) (hr : Rd (Value.int .u8) w A zs) (hz : ∀ z ∈ zs, 0 ≤ z ∧ z ≤ 255) (hl : zs.length = len) (hc : len ≤ cap) (hc2 : cap ≤ 9223372036854775807) :
  Calls Tryd.prog 66 #[.slice A len cap] w (fun e w' => e = .returned (.pointer (some ⟨w.heap.size, 0, none⟩)) ∧ Rdr w w' w.heap.size 0 ∧ Below w.heap.size w w') := by
 have fin : ∀ (B : Option Addr) (c : Nat) (ys : List Int), Rd (Value.int .u8) w B ys → (∀ z ∈ ys, 0 ≤ z ∧ z ≤ 255) → ys.length ≤ 2000 → Rdr w (w.alloc (.cells #[.slice B ys.length c, .int .i64 0] 122)) w.heap.size 0 ∧ Below w.heap.size w (w.alloc (.cells #[.slice B ys.length c, .int .i64 0] 122)) := fun B c ys h1 h2 h3 =>
  ⟨⟨B, c, ys, 0, blk_new w _, h1, h2, h3, by omega, by omega, Nat.le_refl _, (Below.refl _ _).alloc (Nat.le_refl _) _⟩, (Below.refl _ _).alloc (Nat.le_refl _) _⟩
 by_cases h : 2000 < len
 ·have F := Lib.hid (fin A cap (zs.take 2000) (fun j x hx => hr j x (by rw [List.getElem?_take] at hx; split at hx <;> simp_all)) (fun z hz' => hz z (List.mem_of_mem_take hz')) (by simp; omega))
  have e : (zs.take 2000).length = 2000 := by simp; omega
  rw [e] at F
  clear fin hr hz e
  go_enter Tryd.func66, Tryd.ntmps66
  go_wp2
  go_ret
  exact ⟨rfl, F.out⟩
 ·have F := Lib.hid (fin A cap zs hr hz (by omega))
  rw [hl] at F
  clear fin hr hz
  go_enter Tryd.func66, Tryd.ntmps66
  go_wp2
  go_ret
  exact ⟨rfl, F.out⟩
set_option maxRecDepth 100000 in
set_option maxHeartbeats 1000000 in
theorem l1Many_any (w : World) (s : ByteArray) (n : Nat) (hs : s.size ≤ 4096) (hn : n ≤ 4096) :
  Calls Tryd.prog 111 #[.string s, .int .i64 n] w (fun e w' => ∃ r : ByteArray, e = .returned (.string r) ∧ r.size = s.size * n ∧ w' = w) := by
 have hB : s.size * n ≤ 4096 * 4096 := Nat.mul_le_mul hs hn
 go_enter Tryd.func111, Tryd.ntmps111
 go_wp2
 go_loopw [0, 1, 5] (fun x m o wr => ∃ (y z : ByteArray) (k : Nat), x = .string y ∧ m = .int .i64 k ∧ o = .string z ∧ k ≤ 4096 ∧ Aside0 (z.size + y.size * k = s.size * n) ∧ (y.size ≤ 2 * (4096 * 4096)) ∧ wr = w) (fun _ m _ _ => (intOf m).toNat)
 case atStart => exact ⟨s, .empty, n, rfl, rfl, rfl, hn, ⟨by simp⟩, by omega, rfl⟩
 case round =>
  obtain ⟨y, z, k, rfl, rfl, rfl, hk, hE, hy, rfl⟩ := hrel
  have hE2 := hE.out
  by_cases h0 : k = 0
  ·subst h0
   clear hE
   go_wp2
   go_ret
   exact ⟨_, rfl, by simpa using hE2, rfl⟩
  ·have hk0 : 0 < (k : Int) := by omega
   have hy2 : y.size ≤ 4096 * 4096 := by
    have : y.size * 1 ≤ y.size * k := Nat.mul_le_mul_left _ (by omega)
    omega
   have hz2 : z.size ≤ 4096 * 4096 := by omega
   clear hE2
   by_cases h1 : (k : Int) % 2 = 1
   ·go_wp2
    go_roundw
    case rel => 
     refine ⟨y ++ y, z ++ y, k / 2, rfl, by go_num, rfl, by omega, ⟨?_⟩, by simp; omega, trivial⟩
     rw [← hE.out]
     simp
     have e : k = 2 * (k / 2) + 1 := by omega
     generalize k / 2 = q at *
     subst e
     rw [Nat.mul_add, Nat.add_mul, Nat.mul_one, Nat.mul_comm 2 q, ← Nat.mul_assoc, Nat.mul_comm _ 2, Nat.two_mul]
     omega
    case measure => simp [intOf]; omega
   ·go_wp2
    go_roundw
    case rel => 
     refine ⟨y ++ y, z, k / 2, rfl, by go_num, rfl, by omega, ⟨?_⟩, by simp; omega, trivial⟩
     rw [← hE.out]
     simp
     have e : k = 2 * (k / 2) := by omega
     generalize k / 2 = q at *
     subst e
     rw [Nat.add_mul, Nat.mul_comm 2 q, ← Nat.mul_assoc, Nat.mul_comm _ 2, Nat.two_mul]
    case measure => simp [intOf]; omega
def strOk (N : Nat) : Value → Bool
 | .string b => decide (b.size ≤ N)
 | _ => false
theorem lit_at {N : Nat} {w w3 : World} {vs : Array Value} {t : TypeId} {fr : Nat × Nat} {bs : List Nat} (hU : Upd bs (w.alloc (.cells vs t fr)) w3) (hg : ∀ g ∈ bs, g < w.heap.size) (hall : vs.all (strOk N) = true) (j : Int) (h0 : 0 ≤ j) (h1 : j < vs.size) :
  ∃ x : ByteArray, x.size ≤ N ∧ w3.cell? ⟨w.heap.size, j.toNat, none⟩ = some (.string x) := by
 have hl : j.toNat < vs.size := by omega
 have hx := (Array.all_eq_true.1 hall) j.toNat hl
 have hc : (w.alloc (.cells vs t fr)).cell? ⟨w.heap.size, j.toNat, none⟩ = some vs[j.toNat] := by
  rw [World.cell?_alloc_mark]; exact Array.getElem?_eq_getElem hl
 have hb := hU.block w.heap.size (by simp) (fun h => by have := hg _ h; omega)
 rw [World.cell?_of_block (a := ⟨w.heap.size, j.toNat, none⟩) hb, hc]
 cases hv : vs[j.toNat] with
 | string b => rw [hv] at hx; exact ⟨b, by simpa [strOk] using hx, rfl⟩
 | _ => rw [hv] at hx; simp [strOk] at hx
theorem Rdr.lt {w0 w : World} {g : Nat} {P : Int} (h : Rdr w0 w g P) : g < w.heap.size := by
 obtain ⟨A, c, zs, p, hb, _⟩ := h
 exact (Array.getElem?_eq_some_iff.1 hb).1
theorem l1Many_int (w : World) (s : ByteArray) (n : Int) (hs : s.size ≤ 4096) (h0 : 0 ≤ n) (hn : n ≤ 4096) :
  Calls Tryd.prog 111 #[.string s, .int .i64 n] w (fun e w' => ∃ r : ByteArray, e = .returned (.string r) ∧ r.size = s.size * n.toNat ∧ w' = w) := by
 obtain ⟨m, rfl⟩ := Int.eq_ofNat_of_zero_le h0
 exact l1Many_any w s m hs (by omega)
def TextPost (w0 w : World) (g : Nat) (P : Int) (N : Nat) (e : Ending) (w' : World) : Prop := ∃ s : ByteArray, e = .returned (.string s) ∧ s.size ≤ N ∧ Rdr w0 w' g P ∧ Upd [g] w w'
set_option maxRecDepth 100000 in
set_option maxHeartbeats 1000000 in
theorem l1Text_any (w0 w : World) (g : Nat) (P : Int) (h : Rdr w0 w g P) (hP : P ≤ 1000000) :
  Calls Tryd.prog 136 #[.pointer (some ⟨g, 0, none⟩)] w (TextPost w0 w g (P + 2) 200) := by
 have hlt := h.lt
 go_enter Tryd.func136, Tryd.ntmps136
 go_wp2_with fail
 refine (pick_any w0 w g P 2 h (by omega) (by omega)).mono ?_
 rintro e w1 ⟨a, rfl, a0, a1, -, hR1, hU1⟩
 have a1 := a1 (by omega)
 have H1 := Lib.hid hR1
 have U1 := Lib.hid hU1
 clear hR1 hU1 h
 go_wp2_with fail
 refine (l1Many_int _ _ _ (by decide) (by omega) (by omega)).mono ?_
 rintro e w2 ⟨z, rfl, hz, rfl⟩
 have hz2 : z.size ≤ 200 := by rw [hz]; simp [ByteArray.size]; omega
 clear hz
 go_wp2_with fail
 refine (pick_any w0 _ g (P + 1) 8 (H1.out.upd ((Upd.refl _ _).alloc _)) (by omega) (by omega)).mono ?_
 rintro e w3 ⟨b, rfl, b0, b1, -, hR2, hU2⟩
 have b1 := b1 (by omega)
 obtain ⟨x, hx, hc⟩ := lit_at (N := 200) hU2 (fun k hk => by simp at hk; subst hk; exact Nat.lt_of_lt_of_le hlt U1.out.size) (by simp [strOk, hz2]; decide) b b0 (by simpa using b1)
 have H2 := Lib.hid hR2
 have U2 := Lib.hid hU2
 clear hR2 hU2
 go_wp2_with fail
 go_ret
 exact ⟨_, rfl, hx, by simpa [Int.add_assoc] using H2.out, U1.out.trans (Upd.trans ((Upd.refl _ _).alloc _) U2.out (fun _ h _ => h)) (fun _ h _ => h)⟩
end Go.Proofs.YtmcdnpooclelgaaDoor
namespace Go.Proofs.YtmcdnpooclelgaaDoor.PAll
open Go.RowKit Go.Proofs.YtmcdnpooclelgaaDoorW.PrintWords Go.Proofs.YtmcdnpooclelgaaDoorW.PrintLast Go.Proofs.YtmcdnpooclelgaaDoorW.PrintMore
attribute [local go_sem] max2_int min2_int max_two min_two max_three min_three max_four min_four   -- for this text's walks alone
def errW : Option Int → Value
 | none => .nilIface
 | some c => .iface 0 (.int .i64 c)
theorem errW_none : errW none = .nilIface := rfl
theorem errW_some (c : Int) : errW (some c) = .iface 0 (.int .i64 c) := rfl
theorem info3 : (Tryd.prog.info? 3).map (fun i => (i.zero, i.size, i.bytes)) = some (some (.int .i64 0), 1, 8) := by kernel_rfl
theorem info9 : (Tryd.prog.info? 9).map (fun i => (i.zero, i.size, i.bytes)) = some (some (.string ⟨#[]⟩), 1, 16) := by kernel_rfl
-- the values' own types
structure S36 where
 f0 : ByteArray
 f1 : (List Int)
 f2 : Bool
 f3 : (List ByteArray)
def z36 : S36 := ⟨(⟨#[]⟩ : ByteArray), ([] : List Int), false, ([] : List ByteArray)⟩
def k36 : Kd S36 := Kd.iso (Kd.pair Kd.string (Kd.pair (Kd.slice 3 (Kd.int .i64)) (Kd.pair Kd.bool (Kd.slice 9 Kd.string)))) (fun x : S36 => (x.f0, x.f1, x.f2, x.f3))
theorem k36_open {w : World} {x : S36} {cs : List Value} (h : k36.K w x cs) : ∃ A1 c1 A3 c3, cs = [.string x.f0, .slice A1 x.f1.length c1, .bool x.f2, .slice A3 x.f3.length c3] ∧ x.f1.length ≤ c1 ∧ (Kd.int .i64).C w A1 x.f1.length x.f1 ∧ x.f3.length ≤ c3 ∧ Kd.string.C w A3 x.f3.length x.f3 := by
 obtain ⟨_, _, rfl, rfl, ⟨_, _, rfl, ⟨A1, c1, rfl, l1, g1⟩, ⟨_, _, rfl, rfl, ⟨A3, c3, rfl, l3, g3⟩⟩⟩⟩ := h
 exact ⟨A1, c1, A3, c3, rfl, l1, g1, l3, g3⟩
theorem k36_openM {w : World} {base : Nat} {ok : Nat → Prop} {x : S36} {cs : List Value} (h : k36.M w base ok x cs) : ∃ v1 v3, cs = [.string x.f0, v1, .bool x.f2, v3] ∧ (Kd.int .i64).R 3 w base ok v1 x.f1 ∧ Kd.string.R 9 w base ok v3 x.f3 := by
 obtain ⟨_, _, rfl, rfl, ⟨_, _, rfl, ⟨v1, rfl, g1⟩, ⟨_, _, rfl, rfl, ⟨v3, rfl, g3⟩⟩⟩⟩ := h
 exact ⟨v1, v3, rfl, g1, g3⟩
theorem k36_mkM (w : World) (base : Nat) (ok : Nat → Prop) (x : S36) {v1 : Value} (g1 : (Kd.int .i64).R 3 w base ok v1 x.f1) {v3 : Value} (g3 : Kd.string.R 9 w base ok v3 x.f3) : k36.M w base ok x [.string x.f0, v1, .bool x.f2, v3] := ⟨[.string x.f0], [v1, .bool x.f2, v3], rfl, rfl, ⟨[v1], [.bool x.f2, v3], rfl, ⟨v1, rfl, g1⟩, ⟨[.bool x.f2], [v3], rfl, rfl, ⟨v3, rfl, g3⟩⟩⟩⟩
def rd_T36 (xs : List S36) (i : Int) : S36 := xs.getD i.toNat z36
theorem at_T36 {w : World} {A : Option Addr} {n : Nat} {xs : List S36} (h : Kd.C k36 w A n xs) (i : Int) (h0 : 0 ≤ i) (h1 : i < n) : ∃ ad A1 c1 A3 c3, A = some ad ∧ w.cell? (ad.add (i.toNat * 4)) = some (.string (rd_T36 xs i).f0) ∧ w.cell? ⟨(ad.add (i.toNat * 4)).block, (ad.add (i.toNat * 4)).off + 1, none⟩ = some (.slice A1 (rd_T36 xs i).f1.length c1) ∧ w.cell? ⟨(ad.add (i.toNat * 4)).block, (ad.add (i.toNat * 4)).off + 2, none⟩ = some (.bool (rd_T36 xs i).f2) ∧ w.cell? ⟨(ad.add (i.toNat * 4)).block, (ad.add (i.toNat * 4)).off + 3, none⟩ = some (.slice A3 (rd_T36 xs i).f3.length c3) ∧ (rd_T36 xs i).f1.length ≤ c1 ∧ (Kd.int .i64).C w A1 (rd_T36 xs i).f1.length (rd_T36 xs i).f1 ∧ (rd_T36 xs i).f3.length ≤ c3 ∧ Kd.string.C w A3 (rd_T36 xs i).f3.length (rd_T36 xs i).f3 := by
 obtain ⟨ad, c, e, _, hK, hc0⟩ := Kd.C_get h z36 i h0 h1
 have hc : ∀ j u, c[j]? = some u → w.cell? (ad.add (i.toNat * 4 + j)) = some u := hc0
 obtain ⟨A1, c1, A3, c3, rfl, l1, g1, l3, g3⟩ := k36_open hK
 exact ⟨ad, A1, c1, A3, c3, e, hc 0 _ rfl, by rw [← add_field _ _ 1 (by omega)]; exact hc 1 _ rfl, by rw [← add_field _ _ 2 (by omega)]; exact hc 2 _ rfl, by rw [← add_field _ _ 3 (by omega)]; exact hc 3 _ rfl, l1, g1, l3, g3⟩
structure S155 where
 f0 : ByteArray
 f1 : (List ByteArray)
structure S128 where
 f0 : ByteArray
 f1 : ByteArray
 f2 : (List S155)
structure S83 where
 f0 : ByteArray
 f1 : (List ByteArray)
def k83 : Kd S83 := Kd.iso (Kd.pair Kd.string (Kd.slice 9 Kd.string)) (fun x : S83 => (x.f0, x.f1))
structure S62 where
 f0 : ByteArray
 f1 : ByteArray
 f2 : (List S83)
def k62 : Kd S62 := Kd.iso (Kd.pair Kd.string (Kd.pair Kd.string (Kd.slice 83 k83))) (fun x : S62 => (x.f0, x.f1, x.f2))
structure S47 where
 f0 : (List S62)
def k47 : Kd S47 := Kd.iso (Kd.slice 62 k62) (fun x : S47 => x.f0)
/-! steps of a world, for the squeezed texts -/
def bz_ : Nat → Nat → Array Bool := fun n k => ((List.range n).map fun i => k.testBit i).toArray
class Steps (W W' : World) : Prop where
  below : Below W.heap.size W W'
instance (W : World) : Steps W W := ⟨Below.refl _ _⟩
instance (W W' : World) (o : Obj) [h : Steps W W'] : Steps W (W'.alloc o) := ⟨h.below.trans (((Below.refl _ _).alloc (Nat.le_refl _) o).mono h.below.size)⟩
instance (W W' : World) [h : Steps W W'] : Steps W W'.drew := ⟨below_drew h.below⟩
instance (W W' : World) (n : Nat) [h : Steps W W'] : Steps W (W'.drewN n) := ⟨pw_below_drewN h.below n⟩
theorem stB {w W W' : World} (h : Below w.heap.size w W) [s : Steps W W'] : Below w.heap.size w W' := h.trans (s.below.mono h.size)
theorem stC {α : Type} {d : Kd α} {W W' : World} {A : Option Addr} {n : Nat} {xs : List α} (h : d.C W A n xs) [s : Steps W W'] : d.C W' A n xs := Kd.C_below h s.below
theorem stR {α : Type} {d : Kd α} {e : Nat} {W W' : World} {b : Nat} {ok : Nat → Prop} {v : Value} {xs : List α} (h : d.R e W b ok v xs) [s : Steps W W'] : d.R e W' b ok v xs := Kd.R_below h s.below
end Go.Proofs.YtmcdnpooclelgaaDoor.PAll
namespace Go.Proofs.YtmcdnpooclelgaaDoor.PAll
open Go.ChangeShapes Go.WideShapes Go.Deep
open Go.RowKit Go.Proofs.YtmcdnpooclelgaaDoorW.PrintWords
def BS (ss : List ByteArray) : Prop := ∀ s ∈ ss, s.size ≤ 9223372036854775807
def BL (x : S155) : Prop := x.f0.size ≤ 9223372036854775807 ∧ BS x.f1
def BLs (xs : List S155) : Prop := ∀ x ∈ xs, BL x
def BB (x : S128) : Prop := x.f0.size ≤ 9223372036854775807 ∧ x.f1.size ≤ 9223372036854775807 ∧ BLs x.f2
end Go.Proofs.YtmcdnpooclelgaaDoor.PAll
namespace Go.Proofs.YtmcdnpooclelgaaDoor
open Go.RowKit Go.Proofs.YtmcdnpooclelgaaDoorW.PrintWords
theorem Rdr.mono {w0 w : World} {g : Nat} {P Q : Int} (h : Rdr w0 w g P) (hPQ : P ≤ Q) : Rdr w0 w g Q := by
 obtain ⟨A, c, zs, p, hb, hr, hz, hl, hp0, hp1, hg, hB⟩ := h
 exact ⟨A, c, zs, p, hb, hr, hz, hl, hp0, by omega, hg, hB⟩
theorem Rdr.below {w0 w : World} {g : Nat} {P : Int} (h : Rdr w0 w g P) : Below w0.heap.size w0 w := by
 obtain ⟨A, c, zs, p, hb, hr, hz, hl, hp0, hp1, hg, hB⟩ := h
 exact hB
set_option maxRecDepth 100000 in
set_option maxHeartbeats 2000000 in
theorem l2Word_any (w0 w : World) (g : Nat) (P t : Int) (h : Rdr w0 w g P) (hP : P ≤ 1000000) :
  Calls Tryd.prog 110 #[.pointer (some ⟨g, 0, none⟩), .int .i64 t] w (TextPost w0 w g (P + 2) 200) := by
 have hlt := h.lt
 by_cases h1 : t = 1
 ·subst h1
  go_enter Tryd.func110, Tryd.ntmps110
  go_wp2_with fail
  refine (pick_any w0 _ g P 6 (h.upd ((Upd.refl _ _).alloc _)) (by omega) (by omega)).mono ?_
  rintro e w3 ⟨b, rfl, b0, b1, -, hR2, hU2⟩
  have b1 := b1 (by omega)
  obtain ⟨x, hx, hc⟩ := lit_at (N := 200) hU2 (fun k hk => by simp at hk; subst hk; exact hlt) (by simp [strOk]; decide) b b0 (by simpa using b1)
  have H2 := Lib.hid (hR2.mono (Q := P + 2) (by omega))
  have U2 := Lib.hid (Upd.trans ((Upd.refl [g] w).alloc _) hU2 (fun _ h _ => h))
  clear hR2 hU2 h
  go_wp2_with fail
  go_ret
  exact ⟨_, rfl, hx, H2.out, U2.out⟩
 by_cases h2 : t = 2
 ·subst h2
  go_enter Tryd.func110, Tryd.ntmps110
  go_wp2_with fail
  refine (pick_any w0 _ g P 5 (h.upd ((Upd.refl _ _).alloc _)) (by omega) (by omega)).mono ?_
  rintro e w3 ⟨b, rfl, b0, b1, -, hR2, hU2⟩
  have b1 := b1 (by omega)
  obtain ⟨x, hx, hc⟩ := lit_at (N := 200) hU2 (fun k hk => by simp at hk; subst hk; exact hlt) (by simp [strOk]; decide) b b0 (by simpa using b1)
  have H2 := Lib.hid (hR2.mono (Q := P + 2) (by omega))
  have U2 := Lib.hid (Upd.trans ((Upd.refl [g] w).alloc _) hU2 (fun _ h _ => h))
  clear hR2 hU2 h
  go_wp2_with fail
  go_ret
  exact ⟨_, rfl, hx, H2.out, U2.out⟩
 by_cases h3 : t = 3
 ·subst h3
  go_enter Tryd.func110, Tryd.ntmps110
  go_wp2_with fail
  refine (pick_any w0 _ g P 4 (h.upd ((Upd.refl _ _).alloc _)) (by omega) (by omega)).mono ?_
  rintro e w3 ⟨b, rfl, b0, b1, -, hR2, hU2⟩
  have b1 := b1 (by omega)
  obtain ⟨x, hx, hc⟩ := lit_at (N := 200) hU2 (fun k hk => by simp at hk; subst hk; exact hlt) (by simp [strOk]; decide) b b0 (by simpa using b1)
  have H2 := Lib.hid (hR2.mono (Q := P + 2) (by omega))
  have U2 := Lib.hid (Upd.trans ((Upd.refl [g] w).alloc _) hU2 (fun _ h _ => h))
  clear hR2 hU2 h
  go_wp2_with fail
  go_ret
  exact ⟨_, rfl, hx, H2.out, U2.out⟩
 by_cases h5 : t = 5
 ·subst h5
  go_enter Tryd.func110, Tryd.ntmps110
  go_wp2_with fail
  refine (pick_any w0 _ g P 2 (h.upd ((Upd.refl _ _).alloc _)) (by omega) (by omega)).mono ?_
  rintro e w3 ⟨b, rfl, b0, b1, -, hR2, hU2⟩
  have b1 := b1 (by omega)
  obtain ⟨x, hx, hc⟩ := lit_at (N := 200) hU2 (fun k hk => by simp at hk; subst hk; exact hlt) (by simp [strOk]; decide) b b0 (by simpa using b1)
  have H2 := Lib.hid (hR2.mono (Q := P + 2) (by omega))
  have U2 := Lib.hid (Upd.trans ((Upd.refl [g] w).alloc _) hU2 (fun _ h _ => h))
  clear hR2 hU2 h
  go_wp2_with fail
  go_ret
  exact ⟨_, rfl, hx, H2.out, U2.out⟩
 by_cases h6 : t = 6
 ·subst h6
  go_enter Tryd.func110, Tryd.ntmps110
  go_wp2_with fail
  refine (pick_any w0 _ g P 3 (h.upd ((Upd.refl _ _).alloc _)) (by omega) (by omega)).mono ?_
  rintro e w3 ⟨b, rfl, b0, b1, -, hR2, hU2⟩
  have b1 := b1 (by omega)
  obtain ⟨x, hx, hc⟩ := lit_at (N := 200) hU2 (fun k hk => by simp at hk; subst hk; exact hlt) (by simp [strOk]; decide) b b0 (by simpa using b1)
  have H2 := Lib.hid (hR2.mono (Q := P + 2) (by omega))
  have U2 := Lib.hid (Upd.trans ((Upd.refl [g] w).alloc _) hU2 (fun _ h _ => h))
  clear hR2 hU2 h
  go_wp2_with fail
  go_ret
  exact ⟨_, rfl, hx, H2.out, U2.out⟩
 go_enter Tryd.func110, Tryd.ntmps110
 go_wp2_with fail
 refine (l1Text_any w0 w g P h hP).mono ?_
 rintro e w3 ⟨s, rfl, hs, hR2, hU2⟩
 have H2 := Lib.hid hR2
 have U2 := Lib.hid hU2
 clear hR2 hU2 h
 go_wp2_with fail
 go_ret
 exact ⟨_, rfl, hs, H2.out, U2.out⟩
set_option maxRecDepth 100000 in
set_option maxHeartbeats 1000000 in
theorem l2Odd_any (w0 w : World) (g : Nat) (P : Int) (h : Rdr w0 w g P) (hP : P ≤ 1000000) :
  Calls Tryd.prog 69 #[.pointer (some ⟨g, 0, none⟩)] w (TextPost w0 w g (P + 2) 300) := by
 have hlt := h.lt
 go_enter Tryd.func69, Tryd.ntmps69
 go_wp2_with fail
 refine (pick_any w0 w g P 2 h (by omega) (by omega)).mono ?_
 rintro e w1 ⟨a, rfl, a0, a1, -, hR1, hU1⟩
 have a1 := a1 (by omega)
 have H1 := Lib.hid hR1
 have U1 := Lib.hid hU1
 clear hR1 hU1 h
 go_wp2_with fail
 refine (l1Many_int _ _ _ (by decide) (by omega) (by omega)).mono ?_
 rintro e w2 ⟨z, rfl, hz, rfl⟩
 have hz2 : z.size ≤ 300 := by rw [hz]; simp [ByteArray.size]; omega
 clear hz
 go_wp2_with fail
 refine (l1Many_int _ _ _ (by decide) (by omega) (by omega)).mono ?_
 rintro e w3 ⟨y, rfl, hy, rfl⟩
 have hy2 : y.size ≤ 300 := by rw [hy]; decide
 clear hy
 go_wp2_with fail
 refine (pick_any w0 _ g (P + 1) 12 (H1.out.upd ((Upd.refl _ _).alloc _)) (by omega) (by omega)).mono ?_
 rintro e w4 ⟨b, rfl, b0, b1, -, hR2, hU2⟩
 have b1 := b1 (by omega)
 obtain ⟨x, hx, hc⟩ := lit_at (N := 300) hU2 (fun k hk => by simp at hk; subst hk; exact Nat.lt_of_lt_of_le hlt U1.out.size) (by simp [strOk, hz2, hy2]; decide) b b0 (by simpa using b1)
 have H2 := Lib.hid hR2
 have U2 := Lib.hid hU2
 clear hR2 hU2
 go_wp2_with fail
 go_ret
 exact ⟨_, rfl, hx, by simpa [Int.add_assoc] using H2.out, U1.out.trans (Upd.trans ((Upd.refl _ _).alloc _) U2.out (fun _ h _ => h)) (fun _ h _ => h)⟩
set_option maxRecDepth 100000 in
set_option maxHeartbeats 1000000 in
theorem drawRules_any (w : World) (A : Option Addr) (len cap : Nat) (zs : List Int) (hr : Rd (Value.int .u8) w A zs) (hz : ∀ z ∈ zs, 0 ≤ z ∧ z ≤ 255) (hl : zs.length = len) (hc : len ≤ cap) (hc2 : cap ≤ 9223372036854775807) :
  Calls Tryd.prog 23 #[.slice A len cap] w (fun e w' => ∃ s : ByteArray, e = .returned (.string s) ∧ Below w.heap.size w w') := by
 have RA := Aside0.mk (fun w' (hb : Below w.heap.size w w') => l1Open_any w' A len cap zs (fun j x hx => by obtain ⟨ad, h1, h2⟩ := hr j x hx; exact ⟨ad, h1, pw_cell_below hb h2⟩) hz hl hc hc2)
 clear hr hz hl hc hc2
 go_enter Tryd.func23, Tryd.ntmps23
 go_wp2_with fail
 refine (RA.out _ ((Below.refl _ _).alloc (Nat.le_refl _) _)).mono ?_
 rintro e w1 ⟨rfl, hR, hb1⟩
 clear hb1
 rw [World.size_alloc] at hR
 go_wp2_with fail
 refine (pick_any _ w1 _ 0 6 hR (by omega) (by omega)).mono ?_
 rintro e w2 ⟨b, rfl, b0, b1, -, hR2, hU2⟩
 have b1 := b1 (by omega)
 obtain ⟨x, hx, hc⟩ := lit_at (N := 200) (Upd.of_below hR2.below []) (fun k hk => by cases hk) (by simp [strOk]; decide) b b0 (by simpa using b1)
 have H2 := Lib.hid hR2.below
 clear hR hR2 hU2
 go_wp2_with fail
 go_ret
 exact ⟨_, rfl, (Below.alloc (Below.refl _ _) (Nat.le_refl _) _).trans (H2.out.mono (by simp))⟩
structure Sh (α : Type) where
 d : Kd α
 ow : World → Nat → List Value → α → List Nat → Prop
 om : ∀ {w b vs x F}, ow w b vs x F → d.M w b (fun k => k ∈ F) x vs
 oframe : ∀ {w w' b vs x F}, ow w b vs x F → (∀ g ∈ F, w'.heap[g]? = w.heap[g]?) → ow w' b vs x F
 oin : ∀ {w b vs x F}, ow w b vs x F → ∀ g ∈ F, b ≤ g ∧ g < w.heap.size
 olow : ∀ {w b b' vs x F}, ow w b vs x F → b' ≤ b → ow w b' vs x F
 oraise : ∀ {w b b' vs x F}, ow w b vs x F → (∀ g ∈ F, b' ≤ g) → ow w b' vs x F
 ond : ∀ {w b vs x F}, ow w b vs x F → F.Nodup
abbrev Sh.k {α : Type} (S : Sh α) : Nat := S.d.sz
theorem Sh.ord {α : Type} (S : Sh α) {w : World} {b : Nat} {vs : List Value} {x : α} {F : List Nat} (h : S.ow w b vs x F) : S.d.K w x vs := S.d.K_of_M (S.om h)
theorem Sh.olen {α : Type} (S : Sh α) {w : World} {b : Nat} {vs : List Value} {x : α} {F : List Nat} (h : S.ow w b vs x F) : vs.length = S.k := S.d.K_len (S.ord h)
theorem Sh.obelow {α : Type} (S : Sh α) {w w' : World} {b : Nat} {vs : List Value} {x : α} {F : List Nat} (h : S.ow w b vs x F) (hb : Below w.heap.size w w') : S.ow w' b vs x F := S.oframe h fun g hg => hb.block g (S.oin h g hg).2
def Sh.one {α : Type} (enc : α → Value) (h1 : ∀ x, (enc x).oneCell' = true) : Sh α where
 d := Kd.scalar enc h1
 ow _ _ vs x F := vs = [enc x] ∧ F = []
 om h := h.1
 oframe h _ := h
 oin h g hg := by rw [h.2] at hg; cases hg
 olow h _ := h
 oraise h _ := h
 ond h := by rw [h.2]; exact List.nodup_nil
def Sh.pair {α β : Type} (A : Sh α) (B : Sh β) : Sh (α × β) where
 d := Kd.pair A.d B.d
 ow w b vs x F := ∃ u v G H, vs = u ++ v ∧ F = G ++ H ∧ A.ow w b u x.1 G ∧ B.ow w b v x.2 H ∧ ∀ g ∈ G, g ∉ H
 om h := by
  obtain ⟨u, v, G, H, rfl, rfl, h1, h2, _⟩ := h
  exact ⟨u, v, rfl, A.d.M_mono (fun k hk => List.mem_append_left _ hk) (A.om h1), B.d.M_mono (fun k hk => List.mem_append_right _ hk) (B.om h2)⟩
 oframe h hf := by
  obtain ⟨u, v, G, H, rfl, rfl, h1, h2, h3⟩ := h
  exact ⟨u, v, G, H, rfl, rfl, A.oframe h1 fun g hg => hf g (List.mem_append_left _ hg), B.oframe h2 fun g hg => hf g (List.mem_append_right _ hg), h3⟩
 oin h g hg := by
  obtain ⟨u, v, G, H, rfl, rfl, h1, h2, h3⟩ := h
  rcases List.mem_append.1 hg with hg | hg
  ·exact A.oin h1 g hg
  ·exact B.oin h2 g hg
 olow h hb := by
  obtain ⟨u, v, G, H, rfl, rfl, h1, h2, h3⟩ := h
  exact ⟨u, v, G, H, rfl, rfl, A.olow h1 hb, B.olow h2 hb, h3⟩
 oraise h hb := by
  obtain ⟨u, v, G, H, rfl, rfl, h1, h2, h3⟩ := h
  exact ⟨u, v, G, H, rfl, rfl, A.oraise h1 fun g hg => hb g (List.mem_append_left _ hg), B.oraise h2 fun g hg => hb g (List.mem_append_right _ hg), h3⟩
 ond h := by
  obtain ⟨u, v, G, H, rfl, rfl, h1, h2, h3⟩ := h
  exact List.nodup_append.2 ⟨A.ond h1, B.ond h2, fun a ha b hb e => h3 a ha (e ▸ hb)⟩
def Sh.iso {α β : Type} (A : Sh α) (f : β → α) : Sh β where
 d := Kd.iso A.d f
 ow w b vs x F := A.ow w b vs (f x) F
 om h := A.om h
 oframe h := A.oframe h
 oin h := A.oin h
 olow h := A.olow h
 oraise h := A.oraise h
 ond h := A.ond h
def Els {α : Type} (A : Sh α) (w : World) (b : Nat) : List (List Value) → List α → List Nat → Prop
 | [], [], F => F = []
 | vs :: vss, x :: xs, F => ∃ G H, F = G ++ H ∧ A.ow w b vs x G ∧ Els A w b vss xs H ∧ ∀ g ∈ G, g ∉ H
 | [], _ :: _, _ => False
 | _ :: _, [], _ => False
section
variable {α : Type} {A : Sh α} {w w' : World} {b b' : Nat} {vss : List (List Value)} {xs : List α} {F : List Nat}
theorem Els.mono (P : ∀ {vs x G}, A.ow w b vs x G → (∀ g ∈ G, g ∈ F) → A.ow w' b' vs x G) (h : Els A w b vss xs F) : Els A w' b' vss xs F := by
 suffices ∀ (vss : List (List Value)) (xs : List α) (F' : List Nat), (∀ g ∈ F', g ∈ F) → Els A w b vss xs F' → Els A w' b' vss xs F' from this vss xs F (fun _ h => h) h
 intro vss
 induction vss with
 | nil => intro xs F' _ h; cases xs <;> exact h
 | cons vs vss ih =>
  intro xs F' hF h
  cases xs with
  | nil => exact h
  | cons x xs =>
   obtain ⟨G, H, rfl, h1, h2, h3⟩ := h
   exact ⟨G, H, rfl, P h1 fun g hg => hF g (List.mem_append_left _ hg), ih xs H (fun g hg => hF g (List.mem_append_right _ hg)) h2, h3⟩
theorem Els.frame (h : Els A w b vss xs F) (hf : ∀ g ∈ F, w'.heap[g]? = w.heap[g]?) : Els A w' b vss xs F := h.mono fun ho hg => A.oframe ho fun g hgg => hf g (hg g hgg)
theorem Els.low (h : Els A w b vss xs F) (hb : b' ≤ b) : Els A w b' vss xs F := h.mono fun ho _ => A.olow ho hb
theorem Els.raise (h : Els A w b vss xs F) (hb : ∀ g ∈ F, b' ≤ g) : Els A w b' vss xs F := h.mono fun ho hg => A.oraise ho fun g hgg => hb g (hg g hgg)
theorem Els.mem : ∀ (vss : List (List Value)) (xs : List α) (F : List Nat), Els A w b vss xs F → (∀ g ∈ F, b ≤ g ∧ g < w.heap.size) ∧ F.Nodup ∧ vss.length = xs.length ∧ vss.flatten.length = xs.length * A.k
 | [], [], F, h => by
  have h : F = [] := h
  subst h
  exact ⟨by simp, List.nodup_nil, rfl, by simp⟩
 | vs :: vss, x :: xs, F, h => by
  obtain ⟨G, H, rfl, h1, h2, h3⟩ := h
  obtain ⟨i1, i2, i3, i4⟩ := Els.mem vss xs H h2
  refine ⟨fun g hg => ?_, List.nodup_append.2 ⟨A.ond h1, i2, fun a ha b hb e => h3 a ha (e ▸ hb)⟩, by simp [i3], ?_⟩
  ·rcases List.mem_append.1 hg with hg | hg
   ·exact A.oin h1 g hg
   ·exact i1 g hg
  ·rw [List.flatten_cons, List.length_append, i4, A.olen h1, List.length_cons, Nat.add_mul, Nat.one_mul, Nat.add_comm]
theorem Els.below (h : Els A w b vss xs F) (hb : Below w.heap.size w w') : Els A w' b vss xs F := h.frame fun g hg => hb.block g ((Els.mem _ _ _ h).1 g hg).2
theorem Els.nil : Els A w b [] [] [] := rfl
theorem Els.append : ∀ (vss : List (List Value)) (xs : List α) (F : List Nat) {vss' : List (List Value)} {xs' : List α} {F' : List Nat}, Els A w b vss xs F → Els A w b vss' xs' F' → (∀ g ∈ F, g ∉ F') → Els A w b (vss ++ vss') (xs ++ xs') (F ++ F')
 | [], [], F, vss', xs', F', h, h', _ => by
  have h : F = [] := h
  subst h
  exact h'
 | vs :: vss, x :: xs, F, vss', xs', F', h, h', hd => by
  obtain ⟨G, H, rfl, h1, h2, h3⟩ := h
  refine ⟨G, H ++ F', by simp, h1, Els.append vss xs H h2 h' (fun g hg => hd g (List.mem_append_right _ hg)), fun g hg hh => ?_⟩
  rcases List.mem_append.1 hh with hh | hh
  ·exact h3 g hg hh
  ·exact hd g (List.mem_append_left _ hg) hh
theorem Els.snoc {vs : List Value} {x : α} {G : List Nat} (h : Els A w b vss xs F) (hb : Below w.heap.size w w') (hx : A.ow w' w.heap.size vs x G) (hw : b ≤ w.heap.size) : Els A w' b (vss ++ [vs]) (xs ++ [x]) (F ++ G) :=
 Els.append vss xs F (h.below hb) ⟨G, [], by simp, A.olow hx hw, rfl, by simp⟩ (fun g hg hg' => by
  have h1 := ((Els.mem _ _ _ h).1 g hg).2
  have h2 := (A.oin hx g hg').1
  omega)
theorem Els.at : ∀ (vss : List (List Value)) (xs : List α) (F : List Nat), Els A w b vss xs F → ∀ (j : Nat) (x : α), xs[j]? = some x → ∃ us G, vss[j]? = some us ∧ A.ow w b us x G ∧ (∀ g ∈ G, g ∈ F) ∧
  ∀ (w' : World) (us' : List Value) (x' : α), A.ow w' b us' x' G → (∀ g ∈ F, g ∉ G → w'.heap[g]? = w.heap[g]?) → Els A w' b (vss.set j us') (xs.set j x') F
 | [], [], F, _, j, x, hj => by simp at hj
 | vs :: vss, y :: xs, F, h, j, x, hj => by
  obtain ⟨G, H, rfl, h1, h2, h3⟩ := h
  cases j with
  | zero =>
   simp only [List.getElem?_cons_zero, Option.some.injEq] at hj
   subst hj
   refine ⟨vs, G, rfl, h1, fun g hg => List.mem_append_left _ hg, fun w' us' x' ho hf => ?_⟩
   exact ⟨G, H, rfl, ho, h2.frame fun g hg => hf g (List.mem_append_right _ hg) (fun hg' => h3 g hg' hg), h3⟩
  | succ j =>
   rw [List.getElem?_cons_succ] at hj
   obtain ⟨us, G', e1, e2, e3, e4⟩ := Els.at vss xs H h2 j x hj
   refine ⟨us, G', by simpa using e1, e2, fun g hg => List.mem_append_right _ (e3 g hg), fun w' us' x' ho hf => ?_⟩
   refine ⟨G, H, rfl, A.oframe h1 fun g hg => hf g (List.mem_append_left _ hg) (fun hg' => h3 g hg (e3 g hg')), e4 w' us' x' ho fun g hg hn => hf g (List.mem_append_right _ hg) hn, h3⟩
end
theorem flat_at {k : Nat} : ∀ (vss : List (List Value)) (j : Nat) (us : List Value), (∀ vs ∈ vss, vs.length = k) → vss[j]? = some us → ∀ i, i < k → vss.flatten[j * k + i]? = us[i]?
 | [], j, us, _, h, _, _ => by simp at h
 | vs :: vss, 0, us, hl, h, i, hi => by
  simp only [List.getElem?_cons_zero, Option.some.injEq] at h
  subst h
  have := hl vs (by simp)
  rw [List.flatten_cons, Nat.zero_mul, Nat.zero_add, List.getElem?_append_left (by omega)]
 | vs :: vss, j + 1, us, hl, h, i, hi => by
  rw [List.getElem?_cons_succ] at h
  have h0 := hl vs (by simp)
  have e : (j + 1) * k + i = vs.length + (j * k + i) := by rw [Nat.add_mul, h0]; omega
  rw [List.flatten_cons, e, List.getElem?_append_right (by omega), Nat.add_sub_cancel_left]
  exact flat_at vss j us (fun v hv => hl v (by simp [hv])) h i hi
theorem flat_set {k : Nat} : ∀ (vss : List (List Value)) (j : Nat) (us : List Value), (∀ vs ∈ vss, vs.length = k) → vss[j]? = some us → ∀ (i : Nat) (u : Value), i < k → (vss.set j (us.set i u)).flatten = vss.flatten.set (j * k + i) u
 | [], j, us, _, h, _, _, _ => by simp at h
 | vs :: vss, 0, us, hl, h, i, u, hi => by
  simp only [List.getElem?_cons_zero, Option.some.injEq] at h
  subst h
  have := hl vs (by simp)
  rw [List.set_cons_zero, List.flatten_cons, List.flatten_cons, Nat.zero_mul, Nat.zero_add, List.set_append_left _ _ (by omega)]
 | vs :: vss, j + 1, us, hl, h, i, u, hi => by
  rw [List.getElem?_cons_succ] at h
  have h0 := hl vs (by simp)
  have e : (j + 1) * k + i = vs.length + (j * k + i) := by rw [Nat.add_mul, h0]; omega
  rw [List.set_cons_succ, List.flatten_cons, List.flatten_cons, e, List.set_append_right _ _ (by omega), Nat.add_sub_cancel_left, flat_set vss j us (fun v hv => hl v (by simp [hv])) h i u hi]
theorem Els.lens {α : Type} {A : Sh α} {w : World} {b : Nat} : ∀ (vss : List (List Value)) (xs : List α) (F : List Nat), Els A w b vss xs F → ∀ vs ∈ vss, vs.length = A.k
 | [], [], _, _ => by simp
 | vs :: vss, x :: xs, F, h => by
  obtain ⟨G, H, rfl, h1, h2, h3⟩ := h
  intro v hv
  rcases List.mem_cons.1 hv with rfl | hv
  ·exact A.olen h1
  ·exact Els.lens vss xs H h2 v hv
theorem ownSl {w : World} {b e k n : Nat} {v : Value} {cs : List Value} (h : w.ownsRow b e k v n cs) : (v = .slice none 0 0 ∧ n = 0) ∨ ∃ g c, v = .slice (some ⟨g, 0, none⟩) n c := by
 rcases h.2 with h' | ⟨g, cap, cur, h', _⟩
 ·exact .inl h'
 ·exact .inr ⟨g, cap, h'⟩
theorem own_raise {w : World} {b b' e k n : Nat} {v : Value} {cs : List Value} (h : w.ownsRow b e k v n cs) (hb : ∀ g ∈ v.ownBlock.toList, b' ≤ g) : w.ownsRow b' e k v n cs := by
 refine ⟨h.1, ?_⟩
 rcases h.2 with h' | ⟨g, cap, cur, rfl, h1, h2⟩
 ·exact .inl h'
 ·exact .inr ⟨g, cap, cur, rfl, hb g (by simp [Value.ownBlock]), h2⟩
theorem flat_take {k : Nat} (vss : List (List Value)) (j : Nat) (us : List Value) (hl : ∀ vs ∈ vss, vs.length = k) (h : vss[j]? = some us) : (vss.flatten.drop (j * k)).take k = us := by
 have hu : us.length = k := hl us (List.mem_of_getElem? h)
 apply List.ext_getElem?
 intro i
 by_cases hi : i < k
 ·rw [List.getElem?_take_of_lt hi, List.getElem?_drop, flat_at vss j us hl h i hi]
 ·rw [List.getElem?_eq_none (by simp; omega), List.getElem?_eq_none (by omega)]
def Sh.row {α : Type} (A : Sh α) (e : TypeId) : Sh (List α) where
 d := Kd.slice e A.d
 ow w b vs xs F := ∃ v vss Gs, vs = [v] ∧ w.ownsRow b e A.k v xs.length vss.flatten ∧ Els A w b vss xs Gs ∧ F = v.ownBlock.toList ++ Gs ∧ ∀ g ∈ v.ownBlock.toList, g ∉ Gs
 om h := by
  obtain ⟨v, vss, Gs, rfl, h1, h2, rfl, h3⟩ := h
  refine ⟨v, rfl, fun k hk => List.mem_append_left _ (by simp [hk]), vss.flatten, h1, (Els.mem _ _ _ h2).2.2.2, fun j p hj => ?_⟩
  obtain ⟨us, G, e1, e2, e3, e4⟩ := Els.at _ _ _ h2 j p hj
  rw [flat_take vss j us (Els.lens _ _ _ h2) e1]
  exact A.d.M_mono (fun k hk => ⟨List.mem_append_right _ (e3 k hk), fun he => h3 k (by rw [← he]; simp) (e3 k hk)⟩) (A.om e2)
 oframe h hf := by
  obtain ⟨v, vss, Gs, rfl, h1, h2, rfl, h3⟩ := h
  exact ⟨v, vss, Gs, rfl, own_move h1 (fun k hk => hf k (List.mem_append_left _ (by simp [hk]))), h2.frame (fun g hg => hf g (List.mem_append_right _ hg)), rfl, h3⟩
 oin h g hg := by
  obtain ⟨v, vss, Gs, rfl, h1, h2, rfl, h3⟩ := h
  rcases List.mem_append.1 hg with hg | hg
  ·have hg : v.ownBlock = some g := by simpa using hg
   exact ⟨own_base h1 g hg, own_lt h1 g hg⟩
  ·exact (Els.mem _ _ _ h2).1 g hg
 olow h hb := by
  obtain ⟨v, vss, Gs, rfl, h1, h2, rfl, h3⟩ := h
  exact ⟨v, vss, Gs, rfl, own_weaken h1 hb, h2.low hb, rfl, h3⟩
 oraise h hb := by
  obtain ⟨v, vss, Gs, rfl, h1, h2, rfl, h3⟩ := h
  exact ⟨v, vss, Gs, rfl, own_raise h1 (fun g hg => hb g (List.mem_append_left _ hg)), h2.raise (fun g hg => hb g (List.mem_append_right _ hg)), rfl, h3⟩
 ond h := by
  obtain ⟨v, vss, Gs, rfl, h1, h2, rfl, h3⟩ := h
  refine List.nodup_append.2 ⟨?_, (Els.mem _ _ _ h2).2.1, fun a ha b hb e => h3 a ha (e ▸ hb)⟩
  cases v.ownBlock <;> simp
theorem Sh.row_nil {α : Type} (A : Sh α) (e : TypeId) (w : World) (b : Nat) : (Sh.row A e).ow w b [.slice none 0 0] [] [] := ⟨_, [], [], rfl, World.ownsRow_nil w b e A.k, rfl, rfl, by simp⟩
theorem Sh.row_lit {α : Type} {A : Sh α} {e : TypeId} {w : World} {b : Nat} {vss : List (List Value)} {xs : List α} {F : List Nat} (h : Els A w b vss xs F) (hb : b ≤ w.heap.size) (hm : xs.length ≤ 9223372036854775807) :
  (Sh.row A e).ow (w.alloc (.cells vss.flatten.toArray e)) b [.slice (some ⟨w.heap.size, 0, none⟩) xs.length xs.length] xs (w.heap.size :: F) := by
 obtain ⟨i1, i2, i3, i4⟩ := Els.mem _ _ _ h
 refine ⟨_, vss, F, rfl, ?_, h.below ((Below.refl _ _).alloc (Nat.le_refl _) _), rfl, fun g hg hg' => ?_⟩
 ·have := World.ownsRow_lit (base := b) (e := e) (size := A.k) w vss.flatten.toArray xs.length hb (by simpa [maxLen] using hm) (by simpa using i4)
  simpa using this
 ·simp [Value.ownBlock] at hg
  have := (i1 g hg').2
  omega
theorem Sh.row_lit' {α : Type} {A : Sh α} {e : TypeId} {w : World} {b : Nat} {vss : List (List Value)} {xs : List α} {F : List Nat} {cs : Array Value} {g n m : Nat} (h : Els A w b vss xs F) (hb : b ≤ w.heap.size) (hm : xs.length ≤ 9223372036854775807) (hc : cs = vss.flatten.toArray) (hg : g = w.heap.size) (hn : n = xs.length) (hmm : m = xs.length) :
  (Sh.row A e).ow (w.alloc (.cells cs e)) b [.slice (some ⟨g, 0, none⟩) n m] xs (w.heap.size :: F) := by
 subst hc hg hn hmm
 exact Sh.row_lit h hb hm
theorem bytes_inj {a b : ByteArray} (h : a.toList = b.toList) : a = b := by
 have h1 : a.data.toList = b.data.toList := by simpa only [Go.Lib.toList_data] using h
 cases a; cases b; congr 1; exact Array.toList_inj.1 h1
theorem str_neL (a : ByteArray) (l : List UInt8) (h : a ≠ ⟨l.toArray⟩) : (a.toList == l) = false := by
 rw [beq_eq_false_iff_ne]
 exact fun e => h (bytes_inj (e.trans (by rw [Go.Lib.toList_data])))
theorem retB {a b : Bool} (h : a = b) : Ending.returned (.bool a) = .returned (.bool b) := by rw [h]
theorem Sh.row_R {α : Type} {A : Sh α} {e : TypeId} {w : World} {b : Nat} {v : Value} {xs : List α} {F : List Nat} (h : (Sh.row A e).ow w b [v] xs F) : A.d.R e w b (fun _ => True) v xs := by
 obtain ⟨v', hv, hR⟩ := (Sh.row A e).om h
 injection hv with hv _
 subst hv
 exact Kd.R_mono hR (fun _ _ => trivial)
theorem Els.ones {α : Type} (enc : α → Value) (h1 : ∀ x, (enc x).oneCell' = true) (w : World) (b : Nat) (xs : List α) : Els (.one enc h1) w b (xs.map fun x => [enc x]) xs [] := by
 induction xs with
 | nil => exact rfl
 | cons x xs ih => exact ⟨[], [], rfl, ⟨rfl, rfl⟩, ih, by simp⟩
theorem ones_flat {α : Type} (enc : α → Value) (xs : List α) : (xs.map fun x => [enc x]).flatten = xs.map enc := by
 induction xs with
 | nil => rfl
 | cons x xs ih => simp [ih]
theorem ones_lit {α : Type} (enc : α → Value) (h1 : ∀ x, (enc x).oneCell' = true) (e : TypeId) (w : World) (b : Nat) (xs : List α) (hb : b ≤ w.heap.size) (hm : xs.length ≤ 9223372036854775807) :
  (Sh.row (.one enc h1) e).ow (w.alloc (.cells (xs.map enc).toArray e)) b [.slice (some ⟨w.heap.size, 0, none⟩) xs.length xs.length] xs [w.heap.size] := by
 have h := Sh.row_lit (e := e) (Els.ones enc h1 w b xs) hb hm
 rw [ones_flat] at h
 exact h
abbrev strS : Sh ByteArray := .one .string (fun _ => rfl)
abbrev boolS : Sh Bool := .one .bool (fun _ => rfl)
abbrev intS : Sh Int := .one (.int .i64) (fun _ => rfl)
theorem upd_cell (w : World) (g j : Nat) (u : Value) : Upd [g] w (w.setCell ⟨g, j, none⟩ u) := ⟨rfl, rfl, rfl, Nat.le_of_eq (by simp), fun k _ hn => Below.heap_setCell w ⟨g, j, none⟩ u k (fun e => hn (by simp [e]))⟩
def RowAt {α : Type} (A : Sh α) (e : TypeId) (w : World) (b : Nat) (v : Value) (xs : List α) (F : List Nat) (j g c : Nat) (us : List Value) (x : α) (G : List Nat) : Prop :=
 ∃ (vss : List (List Value)) (Gs : List Nat), v = .slice (some ⟨g, 0, none⟩) xs.length c ∧ w.ownsRow b e A.k v xs.length vss.flatten ∧ F = g :: Gs ∧ g ∉ Gs ∧ vss[j]? = some us ∧ xs[j]? = some x ∧ A.ow w b us x G ∧ (∀ y ∈ G, y ∈ Gs) ∧ (∀ vs ∈ vss, vs.length = A.k) ∧ (∀ y ∈ Gs, b ≤ y ∧ y < w.heap.size) ∧
  (∀ (w' : World) (us' : List Value) (x' : α), A.ow w' b us' x' G → (∀ y ∈ Gs, y ∉ G → w'.heap[y]? = w.heap[y]?) → Els A w' b (vss.set j us') (xs.set j x') Gs)
theorem set_same {α : Type} {l : List α} {j : Nat} {x : α} (h : l[j]? = some x) : l.set j x = l := by
 apply List.ext_getElem?
 intro i
 by_cases hi : j = i
 ·subst hi; rw [List.getElem?_set_self (List.getElem?_eq_some_iff.1 h).1, h]
 ·rw [List.getElem?_set_ne hi]
section
variable {α : Type} {A : Sh α} {e : TypeId} {w w' : World} {b : Nat} {v : Value} {xs : List α} {F : List Nat} {j g c : Nat} {us : List Value} {x x' : α} {G : List Nat}
theorem RowAt.of (h : (Sh.row A e).ow w b [v] xs F) (hj : xs[j]? = some x) : ∃ g c us G, RowAt A e w b v xs F j g c us x G := by
 obtain ⟨v', vss, Gs, hv, h1, h2, rfl, h3⟩ := h
 injection hv with hv _
 subst hv
 have hjl := (List.getElem?_eq_some_iff.1 hj).1
 rcases ownSl h1 with ⟨rfl, hn⟩ | ⟨g, c, rfl⟩
 ·omega
 ·obtain ⟨us, G, e1, e2, e3, e4⟩ := Els.at _ _ _ h2 j x hj
  exact ⟨g, c, us, G, vss, Gs, rfl, h1, rfl, h3 g (by simp [Value.ownBlock]), e1, hj, e2, e3, Els.lens _ _ _ h2, (Els.mem _ _ _ h2).1, e4⟩
theorem RowAt.row (h : RowAt A e w b v xs F j g c us x G) : (Sh.row A e).ow w b [v] xs F := by
 obtain ⟨vss, Gs, rfl, h1, rfl, h2, h3, h4, h5, h6, h7, h8, h9⟩ := h
 have := h9 w us x h5 (fun _ _ _ => rfl)
 rw [set_same h3, set_same h4] at this
 exact ⟨_, vss, Gs, rfl, h1, this, rfl, fun y hy => by simp [Value.ownBlock] at hy; subst hy; exact h2⟩
theorem RowAt.ow (h : RowAt A e w b v xs F j g c us x G) : A.ow w b us x G := by
 obtain ⟨vss, Gs, _, _, _, _, _, _, h5, _⟩ := h
 exact h5
theorem RowAt.away (h : RowAt A e w b v xs F j g c us x G) : g ∉ G ∧ g ∈ F ∧ ∀ y ∈ G, y ∈ F := by
 obtain ⟨vss, Gs, _, _, rfl, h2, _, _, _, h6, _⟩ := h
 exact ⟨fun hg => h2 (h6 g hg), List.mem_cons_self, fun y hy => List.mem_cons_of_mem _ (h6 y hy)⟩
theorem RowAt.lt (h : RowAt A e w b v xs F j g c us x G) : b ≤ g ∧ g < w.heap.size := by
 obtain ⟨vss, Gs, rfl, h1, _⟩ := h
 exact ⟨own_base h1 g rfl, own_lt h1 g rfl⟩
theorem RowAt.cell (h : RowAt A e w b v xs F j g c us x G) (i : Nat) (hi : i < A.k) : w.cell? ⟨g, j * A.k + i, none⟩ = us[i]? := by
 obtain ⟨vss, Gs, rfl, h1, _, _, h3, h4, _, _, h7, _⟩ := h
 have hjl := (List.getElem?_eq_some_iff.1 h4).1
 have hb : j * A.k + i < xs.length * A.k := by
  have : (j + 1) * A.k ≤ xs.length * A.k := Nat.mul_le_mul_right _ hjl
  rw [Nat.add_mul] at this
  omega
 rw [World.ownsRow.cellAt h1 (j * A.k + i) hb, flat_at vss j us h7 h3 i hi]
theorem RowAt.below (h : RowAt A e w b v xs F j g c us x G) (hb : Below w.heap.size w w') : RowAt A e w' b v xs F j g c us x G := by
 obtain ⟨vss, Gs, h0, h1, h2, h3, h4, h5, h6, h7, h8, h9, h10⟩ := h
 exact ⟨vss, Gs, h0, own_move h1 (fun k hk => hb.block k (own_lt h1 k hk)), h2, h3, h4, h5, A.obelow h6 hb, h7, h8, fun y hy => ⟨(h9 y hy).1, Nat.lt_of_lt_of_le (h9 y hy).2 hb.size⟩,
  fun w2 us' x' ho hf => h10 w2 us' x' ho fun y hy hn => (hf y hy hn).trans (hb.block y (h9 y hy).2)⟩
theorem RowAt.set (h : RowAt A e w b v xs F j g c us x G) (i : Nat) (u : Value) (hi : i < A.k) (ho : A.ow w b (us.set i u) x' G) : RowAt A e (w.setCell ⟨g, j * A.k + i, none⟩ u) b v (xs.set j x') F j g c (us.set i u) x' G := by
 obtain ⟨vss, Gs, rfl, h1, rfl, h3, h4, h5, h6, h7, h8, h9, h10⟩ := h
 have hfar : ∀ y, y ≠ g → (w.setCell ⟨g, j * A.k + i, none⟩ u).heap[y]? = w.heap[y]? := fun y hy => Below.heap_setCell w ⟨g, j * A.k + i, none⟩ u y hy
 refine ⟨vss.set j (us.set i u), Gs, by rw [List.length_set], ?_, rfl, h3, by rw [List.getElem?_set_self (List.getElem?_eq_some_iff.1 h4).1], by rw [List.getElem?_set_self (List.getElem?_eq_some_iff.1 h5).1], A.oframe ho (fun y hy => hfar y (fun e => h3 (h7 g (e ▸ hy)))), h7, ?_, fun y hy => ⟨(h9 y hy).1, by simpa using (h9 y hy).2⟩, fun w2 us' x2 ho2 hf => ?_⟩
 ·rw [List.length_set, flat_set vss j us h8 h4 i u hi]
  exact (World.ownsRow.stored h1 (j * A.k + i) u).1
 ·intro vs hvs
  rcases List.mem_or_eq_of_mem_set hvs with hvs | rfl
  ·exact h8 vs hvs
  ·rw [List.length_set]; exact h8 us (List.mem_of_getElem? h4)
 ·rw [List.set_set, List.set_set]
  exact h10 w2 us' x2 ho2 fun y hy hn => (hf y hy hn).trans (hfar y (fun e => h3 (e ▸ hy)))
end
theorem Els.split {α : Type} {A : Sh α} {w : World} {b : Nat} : ∀ (vss : List (List Value)) (xs : List α) (F : List Nat), Els A w b vss xs F → ∀ (j : Nat) (x : α), xs[j]? = some x → ∃ us F1 G F2, F = F1 ++ (G ++ F2) ∧ Els A w b (vss.take j) (xs.take j) F1 ∧ A.ow w b us x G ∧ Els A w b (vss.drop (j + 1)) (xs.drop (j + 1)) F2 ∧ vss = vss.take j ++ us :: vss.drop (j + 1)
 | [], [], F, h, j, x, hj => by simp at hj
 | vs :: vss, y :: xs, F, h, j, x, hj => by
  obtain ⟨G, H, rfl, h1, h2, h3⟩ := h
  cases j with
  | zero =>
   simp only [List.getElem?_cons_zero, Option.some.injEq] at hj
   subst hj
   exact ⟨vs, [], G, H, rfl, rfl, h1, h2, rfl⟩
  | succ j =>
   rw [List.getElem?_cons_succ] at hj
   obtain ⟨us, F1, G', F2, rfl, e1, e2, e3, e4⟩ := Els.split vss xs H h2 j x hj
   refine ⟨us, G ++ F1, G', F2, by simp, ?_, e2, e3, ?_⟩
   ·exact ⟨G, F1, rfl, h1, e1, fun g hg hg' => h3 g hg (List.mem_append_left _ hg')⟩
   ·rw [List.take_succ_cons, List.drop_succ_cons, List.cons_append, ← e4]
theorem Els.nodup {α : Type} {A : Sh α} {w : World} {b : Nat} {vss : List (List Value)} {xs : List α} {F : List Nat} (h : Els A w b vss xs F) : F.Nodup := (Els.mem _ _ _ h).2.1
theorem Els.lenv {α : Type} {A : Sh α} {w : World} {b : Nat} {vss : List (List Value)} {xs : List α} {F : List Nat} (h : Els A w b vss xs F) : vss.length = xs.length := (Els.mem _ _ _ h).2.2.1
def Foc {α : Type} (A : Sh α) (e : TypeId) (w : World) (b : Nat) (v : Value) (xs1 : List α) (x : α) (xs2 : List α) (g c : Nat) (us : List Value) (F1 G F2 : List Nat) : Prop :=
 ∃ (vs1 vs2 : List (List Value)), v = .slice (some ⟨g, 0, none⟩) (xs1 ++ x :: xs2).length c ∧ w.ownsRow b e A.k v (xs1 ++ x :: xs2).length (vs1 ++ us :: vs2).flatten ∧ Els A w b vs1 xs1 F1 ∧ A.ow w b us x G ∧ Els A w b vs2 xs2 F2 ∧ (g :: (F1 ++ (G ++ F2))).Nodup
section
variable {α : Type} {A : Sh α} {e : TypeId} {w w' : World} {b : Nat} {v : Value} {xs xs1 xs2 : List α} {F F1 F2 : List Nat} {j g c : Nat} {us : List Value} {x x' : α} {G G' : List Nat}
theorem Foc.of (h : (Sh.row A e).ow w b [v] xs F) (hj : xs[j]? = some x) : ∃ g c us F1 G F2, F = g :: (F1 ++ (G ++ F2)) ∧ Foc A e w b v (xs.take j) x (xs.drop (j + 1)) g c us F1 G F2 := by
 have hnd := (Sh.row A e).ond h
 obtain ⟨v', vss, Gs, hv, h1, h2, rfl, h3⟩ := h
 injection hv with hv _
 subst hv
 have hjl := (List.getElem?_eq_some_iff.1 hj).1
 have hx : xs = xs.take j ++ x :: xs.drop (j + 1) := by
  have : xs.drop j = x :: xs.drop (j + 1) := by rw [List.drop_eq_getElem_cons hjl]; congr 1; exact (List.getElem?_eq_some_iff.1 hj).2
  rw [← this, List.take_append_drop]
 rcases ownSl h1 with ⟨rfl, hn⟩ | ⟨g, c, rfl⟩
 ·omega
 ·obtain ⟨us, F1, G, F2, rfl, e1, e2, e3, e4⟩ := Els.split _ _ _ h2 j x hj
  refine ⟨g, c, us, F1, G, F2, by simp [Value.ownBlock], vss.take j, vss.drop (j + 1), by rw [← hx], ?_, e1, e2, e3, by simpa [Value.ownBlock] using hnd⟩
  rw [← hx, ← e4]
  exact h1
theorem Foc.row (h : Foc A e w b v xs1 x xs2 g c us F1 G F2) : (Sh.row A e).ow w b [v] (xs1 ++ x :: xs2) (g :: (F1 ++ (G ++ F2))) := by
 obtain ⟨vs1, vs2, rfl, h1, h2, h3, h4, h5⟩ := h
 have hn := List.nodup_cons.1 h5
 have hn2 := List.nodup_append.1 hn.2
 have hn3 := List.nodup_append.1 hn2.2.1
 refine ⟨_, vs1 ++ us :: vs2, F1 ++ (G ++ F2), rfl, h1, ?_, by simp [Value.ownBlock], fun y hy => by simp [Value.ownBlock] at hy; subst hy; exact hn.1⟩
 exact Els.append _ _ _ h2 ⟨G, F2, rfl, h3, h4, fun y hy hy' => hn3.2.2 y hy y hy' rfl⟩ (fun y hy hy' => hn2.2.2 y hy y hy' rfl)
theorem Foc.ow (h : Foc A e w b v xs1 x xs2 g c us F1 G F2) : A.ow w b us x G := by
 obtain ⟨vs1, vs2, _, _, _, h3, _⟩ := h
 exact h3
theorem Foc.nodup (h : Foc A e w b v xs1 x xs2 g c us F1 G F2) : (g :: (F1 ++ (G ++ F2))).Nodup := by
 obtain ⟨vs1, vs2, _, _, _, _, _, h5⟩ := h
 exact h5
theorem Foc.lt (h : Foc A e w b v xs1 x xs2 g c us F1 G F2) : b ≤ g ∧ g < w.heap.size := by
 obtain ⟨vs1, vs2, rfl, h1, _⟩ := h
 exact ⟨own_base h1 g rfl, own_lt h1 g rfl⟩
theorem Foc.in (h : Foc A e w b v xs1 x xs2 g c us F1 G F2) : ∀ y ∈ g :: (F1 ++ (G ++ F2)), b ≤ y ∧ y < w.heap.size := fun y hy => (Sh.row A e).oin h.row y hy
theorem Foc.cell (h : Foc A e w b v xs1 x xs2 g c us F1 G F2) (i : Nat) (hi : i < A.k) : w.cell? ⟨g, xs1.length * A.k + i, none⟩ = us[i]? := by
 obtain ⟨vs1, vs2, rfl, h1, h2, h3, h4, _⟩ := h
 have hl1 := h2.lenv
 have hv : (vs1 ++ us :: vs2)[xs1.length]? = some us := by rw [List.getElem?_append_right (by omega), hl1, Nat.sub_self]; rfl
 have hls : ∀ vs ∈ vs1 ++ us :: vs2, vs.length = A.k := by
  intro vs hvs
  rcases List.mem_append.1 hvs with hvs | hvs
  ·exact Els.lens _ _ _ h2 vs hvs
  ·rcases List.mem_cons.1 hvs with rfl | hvs
   ·exact A.olen h3
   ·exact Els.lens _ _ _ h4 vs hvs
 have hb : xs1.length * A.k + i < (xs1 ++ x :: xs2).length * A.k := by
  have : (xs1.length + 1) * A.k ≤ (xs1 ++ x :: xs2).length * A.k := Nat.mul_le_mul_right _ (by simp)
  rw [Nat.add_mul] at this
  omega
 rw [World.ownsRow.cellAt h1 (xs1.length * A.k + i) hb, flat_at _ xs1.length us hls hv i hi]
theorem Foc.below (h : Foc A e w b v xs1 x xs2 g c us F1 G F2) (hb : Below w.heap.size w w') : Foc A e w' b v xs1 x xs2 g c us F1 G F2 := by
 obtain ⟨vs1, vs2, h0, h1, h2, h3, h4, h5⟩ := h
 exact ⟨vs1, vs2, h0, own_move h1 (fun k hk => hb.block k (own_lt h1 k hk)), h2.below hb, A.obelow h3 hb, h4.below hb, h5⟩
theorem Foc.set (h : Foc A e w b v xs1 x xs2 g c us F1 G F2) (i : Nat) (u : Value) (hi : i < A.k) (ho : A.ow w b (us.set i u) x' G') (hn : (g :: (F1 ++ (G' ++ F2))).Nodup) : Foc A e (w.setCell ⟨g, xs1.length * A.k + i, none⟩ u) b v xs1 x' xs2 g c (us.set i u) F1 G' F2 := by
 obtain ⟨vs1, vs2, rfl, h1, h2, h3, h4, _⟩ := h
 have hfar : ∀ y, y ≠ g → (w.setCell ⟨g, xs1.length * A.k + i, none⟩ u).heap[y]? = w.heap[y]? := fun y hy => Below.heap_setCell w ⟨g, xs1.length * A.k + i, none⟩ u y hy
 have hng := (List.nodup_cons.1 hn).1
 have hl1 := h2.lenv
 have hv : (vs1 ++ us :: vs2)[xs1.length]? = some us := by rw [List.getElem?_append_right (by omega), hl1, Nat.sub_self]; rfl
 have hls : ∀ vs ∈ vs1 ++ us :: vs2, vs.length = A.k := by
  intro vs hvs
  rcases List.mem_append.1 hvs with hvs | hvs
  ·exact Els.lens _ _ _ h2 vs hvs
  ·rcases List.mem_cons.1 hvs with rfl | hvs
   ·exact A.olen h3
   ·exact Els.lens _ _ _ h4 vs hvs
 have hset : vs1 ++ (us.set i u) :: vs2 = (vs1 ++ us :: vs2).set xs1.length (us.set i u) := by rw [List.set_append_right _ _ (by omega), hl1, Nat.sub_self, List.set_cons_zero]
 have hlen : (xs1 ++ x' :: xs2).length = (xs1 ++ x :: xs2).length := by simp
 refine ⟨vs1, vs2, by rw [hlen], ?_, h2.frame fun y hy => hfar y (fun e => hng (e ▸ List.mem_append_left _ hy)), A.oframe ho fun y hy => hfar y (fun e => hng (e ▸ List.mem_append_right _ (List.mem_append_left _ hy))), h4.frame fun y hy => hfar y (fun e => hng (e ▸ List.mem_append_right _ (List.mem_append_right _ hy))), hn⟩
 rw [hlen, hset, flat_set _ xs1.length us hls hv i u hi]
 exact (World.ownsRow.stored h1 (xs1.length * A.k + i) u).1
end
structure Part (α : Type) where
 us : List Value
 x : α
 G : List Nat
def Parts {α : Type} (A : Sh α) (w : World) (b : Nat) (T : List (Part α)) : Prop := (∀ t ∈ T, A.ow w b t.us t.x t.G) ∧ (T.flatMap Part.G).Nodup
theorem Els.parts {α : Type} {A : Sh α} {w : World} {b : Nat} : ∀ (vss : List (List Value)) (xs : List α) (F : List Nat), Els A w b vss xs F → ∃ T : List (Part α), vss = T.map Part.us ∧ xs = T.map Part.x ∧ F = T.flatMap Part.G ∧ Parts A w b T
 | [], [], F, h => by
  have h : F = [] := h
  subst h
  exact ⟨[], rfl, rfl, rfl, by simp, by simp⟩
 | vs :: vss, x :: xs, F, h => by
  have hnd := h.nodup
  obtain ⟨G, H, rfl, h1, h2, h3⟩ := h
  obtain ⟨T, rfl, rfl, rfl, h4, _⟩ := Els.parts vss xs H h2
  refine ⟨⟨vs, x, G⟩ :: T, rfl, rfl, rfl, fun t ht => ?_, hnd⟩
  rcases List.mem_cons.1 ht with rfl | ht
  ·exact h1
  ·exact h4 t ht
theorem own_at {W : World} {b e k n : Nat} {v v1 : Value} {cs : List Value} (hr : W.ownsRow b e k v n cs) (hb : b ≤ W.heap.size) (hat : v1.ownBlock = v.ownBlock ∨ ∃ k, v1.ownBlock = some k ∧ W.heap.size ≤ k) (g : Nat) (hg : v1.ownBlock = some g) : b ≤ g := by
 rcases hat with hat | ⟨k, hat, hk⟩
 ·exact own_base hr g (by rw [← hat, hg])
 ·rw [hg] at hat
  injection hat with hat
  omega
section
variable {P : Program} {ops : Array Oper} {rest : List Oper} {o : Oper} {a : Act} {Q : Exit → Act → World → Prop} {K : Act → World → Prop} {α : Type} {A : Sh α}
theorem row_grown {e : TypeId} {W w1 : World} {b : Nat} {v v1 : Value} {xs : List α} {F G : List Nat} {us : List Value} {x : α} {vss : List (List Value)} {Gs : List Nat}
  (h2 : Els A W b vss xs Gs) (hF : F = v.ownBlock.toList ++ Gs) (h3 : ∀ g ∈ v.ownBlock.toList, g ∉ Gs) (hx : A.ow W b us x G) (hd : ∀ g ∈ G, g ∉ F)
  (hown : w1.ownsRow b e A.k v1 (xs.length + 1) (vss.flatten ++ us)) (hg : W.grownBy w1 v.ownBlock) (hat : v1.ownBlock = v.ownBlock ∨ ∃ k, v1.ownBlock = some k ∧ W.heap.size ≤ k) :
  ∃ F1, (Sh.row A e).ow w1 b [v1] (xs ++ [x]) F1 ∧ (∀ g ∈ F1, g ∈ F ∨ g ∈ G ∨ W.heap.size ≤ g) ∧ (∀ g ∈ F, g ∉ F1 → v.ownBlock = some g) := by
 subst hF
 have hk : ∀ y, y ∈ Gs ∨ y ∈ G → w1.heap[y]? = W.heap[y]? := by
  intro y hy
  refine hg.block y ?_ ?_
  ·rcases hy with hy | hy
   ·exact ((Els.mem _ _ _ h2).1 y hy).2
   ·exact (A.oin hx y hy).2
  ·intro he
   rcases hy with hy | hy
   ·exact h3 y (by rw [← he]; simp) hy
   ·exact hd y hy (List.mem_append_left _ (by rw [← he]; simp))
 have hE : Els A w1 b (vss ++ [us]) (xs ++ [x]) (Gs ++ G) :=
  Els.append _ _ _ (h2.frame fun y hy => hk y (.inl hy)) ⟨G, [], by simp, A.oframe hx fun y hy => hk y (.inr hy), rfl, by simp⟩ (fun y hy hy' => hd y hy' (List.mem_append_right _ hy))
 refine ⟨v1.ownBlock.toList ++ (Gs ++ G), ⟨v1, vss ++ [us], Gs ++ G, rfl, by simpa using hown, hE, rfl, fun y hy hy' => ?_⟩, fun y hy => ?_, fun y hy hn => ?_⟩
 ·have hy : v1.ownBlock = some y := by simpa using hy
  rcases hat with hat | ⟨k, hat, hk'⟩
  ·have hv : v.ownBlock = some y := by rw [← hat, hy]
   rcases List.mem_append.1 hy' with hy' | hy'
   ·exact h3 y (by rw [hv]; simp) hy'
   ·exact hd y hy' (List.mem_append_left _ (by rw [hv]; simp))
  ·rw [hy] at hat
   injection hat with hat
   subst hat
   rcases List.mem_append.1 hy' with hy' | hy'
   ·have := ((Els.mem _ _ _ h2).1 y hy').2; omega
   ·have := (A.oin hx y hy').2; omega
 ·rcases List.mem_append.1 hy with hy | hy
  ·have hy : v1.ownBlock = some y := by simpa using hy
   rcases hat with hat | ⟨k, hat, hk'⟩
   ·exact .inl (List.mem_append_left _ (by rw [← hat, hy]; simp))
   ·rw [hy] at hat
    injection hat with hat
    subst hat
    exact .inr (.inr hk')
  ·rcases List.mem_append.1 hy with hy | hy
   ·exact .inl (List.mem_append_right _ hy)
   ·exact .inr (.inl hy)
 ·rcases List.mem_append.1 hy with hy | hy
  ·simpa using hy
  ·exact absurd (List.mem_append_right _ (List.mem_append_left _ hy)) hn
theorem Sh.app {w0 W : World} {base b : Nat} {e : TypeId} {v : Value} {xs : List α} {F G : List Nat} {us : List Value} {x : α} (z : Value) (bytes : Nat) (s y : Operand) (t : TypeId)
  (HO : (Sh.row A e).ow W b [v] xs F) (hx : A.ow W b us x G) (hd : ∀ g ∈ G, g ∉ F) (HB : Below base w0 W) (hbb : base ≤ b) (hl : (xs.length + 1) * bytes ≤ 140737488355328)
  (hgd : o.guard = none)
  (ho : o.op = .call { callee := .builtin .append, args := #[s, y], argTypes := #[t, t] })
  (ht : P.underlying t = some (.slice e)) (hinfo : (P.info? e).map (fun i => (i.zero, i.size, i.bytes)) = some (some z, A.k, bytes)) (hz : z.cells.size = A.k) (hk0 : 0 < A.k) (hb0 : 0 < bytes)
  (hbase : b ≤ W.heap.size) (hs : a.eval s = v) (hy : a.eval y = .slice (some ⟨W.heap.size, 0, none⟩) 1 1) (h1 : ∀ u ∈ us, u.oneCell' = true)
  (h : ∀ v1 w1 F1, Aside0 ((Sh.row A e).ow w1 b [v1] (xs ++ [x]) F1) → Aside0 (Below base w0 w1) → Aside0 (∀ g ∈ F1, g ∈ F ∨ g ∈ G ∨ W.heap.size ≤ g) → Aside0 (W.grownBy w1 v.ownBlock) → wpList P ops Q rest (a.put o.dst v1) w1) :
  wpList P ops Q (o :: rest) a (W.alloc (.cells us.toArray e)) := by
 obtain ⟨v', vss, Gs, hv, hr, h2, hF, h3⟩ := HO
 injection hv with hv _
 subst hv
 refine ap_lit (w0 := w0) base hgd s y t e z A.k bytes ho ht hinfo hz hk0 hb0 v xs.length 1 vss.flatten us hs hy (by rw [A.olen hx, Nat.one_mul]) h1 (own_weaken hr hbb) HB (by omega) hl ?_
 intro v1 w1 q1 q2 q3 q4
 obtain ⟨F1, r1, r2, _⟩ := row_grown h2 hF h3 hx hd (own_raise q1 fun g hg => own_at hr hbase q4 g (by simpa using hg)) q3 q4
 exact h v1 w1 F1 ⟨r1⟩ ⟨q2⟩ ⟨r2⟩ ⟨q3⟩
theorem Sh.app_step {w0 W : World} {base b : Nat} {e : TypeId} {v : Value} {xs : List α} {F G : List Nat} {us : List Value} {x : α} (z : Value) (bytes : Nat) (s y : Operand) (t : TypeId)
  (HO : (Sh.row A e).ow W b [v] xs F) (hx : A.ow W b us x G) (hd : ∀ g ∈ G, g ∉ F) (HB : Below base w0 W) (hbb : base ≤ b) (hl : (xs.length + 1) * bytes ≤ 140737488355328)
  (hw : Region.wanted o (yielded ops a.tmps) = true)
  (ho : o.op = .call { callee := .builtin .append, args := #[s, y], argTypes := #[t, t] })
  (ht : P.underlying t = some (.slice e)) (hinfo : (P.info? e).map (fun i => (i.zero, i.size, i.bytes)) = some (some z, A.k, bytes)) (hz : z.cells.size = A.k) (hk0 : 0 < A.k) (hb0 : 0 < bytes)
  (hbase : b ≤ W.heap.size) (hs : a.eval s = v) (hy : a.eval y = .slice (some ⟨W.heap.size, 0, none⟩) 1 1) (h1 : ∀ u ∈ us, u.oneCell' = true)
  (h : ∀ v1 w1 F1, Aside0 ((Sh.row A e).ow w1 b [v1] (xs ++ [x]) F1) → Aside0 (Below base w0 w1) → Aside0 (∀ g ∈ F1, g ∈ F ∨ g ∈ G ∨ W.heap.size ≤ g) → Aside0 (W.grownBy w1 v.ownBlock) → K (a.put o.dst v1) w1) :
  if Region.wanted o (yielded ops a.tmps) = true then Oper.wp P o a (W.alloc (.cells us.toArray e)) K Q else K (a.put o.dst undef) (W.alloc (.cells us.toArray e)) := by
 obtain ⟨v', vss, Gs, hv, hr, h2, hF, h3⟩ := HO
 injection hv with hv _
 subst hv
 refine ap_lit_step (w0 := w0) base hw s y t e z A.k bytes ho ht hinfo hz hk0 hb0 v xs.length 1 vss.flatten us hs hy (by rw [A.olen hx, Nat.one_mul]) h1 (own_weaken hr hbb) HB (by omega) hl ?_
 intro v1 w1 q1 q2 q3 q4
 obtain ⟨F1, r1, r2, _⟩ := row_grown h2 hF h3 hx hd (own_raise q1 fun g hg => own_at hr hbase q4 g (by simpa using hg)) q3 q4
 exact h v1 w1 F1 ⟨r1⟩ ⟨q2⟩ ⟨r2⟩ ⟨q3⟩
end
end Go.Proofs.YtmcdnpooclelgaaDoor
namespace Go.Proofs.YtmcdnpooclelgaaDoor
open Go.RowKit Go.Proofs.YtmcdnpooclelgaaDoorW.PrintWords
section
variable {P : Program} {ops : Array Oper} {rest : List Oper} {o : Oper} {a : Act} {Q : Exit → Act → World → Prop} {K : Act → World → Prop}
theorem ap_run {W : World} (base : Nat) (ty t e : TypeId) (z : Value) (size bytes : Nat)
  (ht : P.underlying t = some (.slice e)) (hinfo : (P.info? e).map (fun i => (i.zero, i.size, i.bytes)) = some (some z, size, bytes)) (hz : z.cells.size = size) (hs0 : 0 < size) (hb0 : 0 < bytes)
  (v : Value) (n : Nat) (xs : List Value) (A : Option Addr) (m c : Nat) (news : List Value) (hA : A = none → m = 0) (hn : news.length = m * size) (hnews : ∀ ad, A = some ad → ∀ j u, news[j]? = some u → W.cell? (ad.add j) = some u) (h1 : ∀ u ∈ news, u.oneCell' = true)
  (HO : W.ownsRow base e size v n xs) (hbase : base ≤ W.heap.size) (hl : (n + m) * bytes ≤ 140737488355328) :
  ∃ v1 w1, (Builtin.append_ #[t, t] ty #[v, .slice A m c]).run P W = .ok v1 w1 ∧ w1.ownsRow base e size v1 (n + m) (xs ++ news) ∧ W.grownBy w1 v.ownBlock ∧ (v1.ownBlock = v.ownBlock ∨ ∃ b, v1.ownBlock = some b ∧ W.heap.size ≤ b) := by
 obtain ⟨i0, hi, hzz⟩ := Option.map_eq_some_iff.1 hinfo
 simp only [Prod.mk.injEq] at hzz
 obtain ⟨hz0, hz1, hz2⟩ := hzz
 have hlen : n + m ≤ 140737488355328 := Nat.le_trans (Nat.le_mul_of_pos_right _ hb0) hl
 rcases A with _ | ad
 ·have h0 := hA rfl
  subst h0
  have hnn : news = [] := List.eq_nil_of_length_eq_zero (by omega)
  subst hnn
  refine ⟨v, W, ?_, by simpa using HO, World.grownBy.refl W _, .inl rfl⟩
  rcases HO.2 with ⟨rfl, hn⟩ | ⟨g, cap, cur, rfl, _, _, hnc, _⟩
  ·simp [Builtin.append_, run_underlying ht, sizeOf, typeInfo, hi, Builtin.lenOf, Builtin.firstCells]
  ·simp [Builtin.append_, run_underlying ht, sizeOf, typeInfo, hi, Builtin.lenOf, Builtin.firstCells, hnc, storeCells]
 ·obtain ⟨v1, w1, hr, hown, hg, _, hat⟩ := run_append_own_at (P := P) W base t ty e i0 z size bytes ht hi hz0 hz1 hz2 hz hs0 v n xs HO ad m c news hn (hnews ad rfl) h1 (by simp only [maxLen]; omega) hl hbase
  refine ⟨v1, w1, hr, hown, hg, ?_⟩
  rcases hat with hat | hat
  ·exact .inl hat
  ·exact .inr ⟨_, hat, Nat.le_refl _⟩
theorem ap_src {w0 W : World} (base : Nat) (hgd : o.guard = none) (s x : Operand) (t e : TypeId) (z : Value) (size bytes : Nat)
  (ho : o.op = .call { callee := .builtin .append, args := #[s, x], argTypes := #[t, t] })
  (ht : P.underlying t = some (.slice e)) (hinfo : (P.info? e).map (fun i => (i.zero, i.size, i.bytes)) = some (some z, size, bytes)) (hz : z.cells.size = size) (hs0 : 0 < size) (hb0 : 0 < bytes)
  (v : Value) (n : Nat) (xs : List Value) (A : Option Addr) (m c : Nat) (news : List Value) (hs : a.eval s = v) (hx : a.eval x = .slice A m c) (hA : A = none → m = 0) (hn : news.length = m * size) (hnews : ∀ ad, A = some ad → ∀ j u, news[j]? = some u → W.cell? (ad.add j) = some u) (h1 : ∀ u ∈ news, u.oneCell' = true)
  (HO : W.ownsRow base e size v n xs) (HB : Below base w0 W) (hbase : base ≤ W.heap.size) (hl : (n + m) * bytes ≤ 140737488355328)
  (h : ∀ v1 w1, w1.ownsRow base e size v1 (n + m) (xs ++ news) → Below base w0 w1 → W.grownBy w1 v.ownBlock → (v1.ownBlock = v.ownBlock ∨ ∃ b, v1.ownBlock = some b ∧ W.heap.size ≤ b) → wpList P ops Q rest (a.put o.dst v1) w1) :
  wpList P ops Q (o :: rest) a W := by
 obtain ⟨v1, w1, hr, hown, hg, hat⟩ := ap_run (P := P) base o.type t e z size bytes ht hinfo hz hs0 hb0 v n xs A m c news hA hn hnews h1 HO hbase hl
 refine wpList_plain hgd fun K hK => ?_
 unfold Oper.wp execOp
 simp only [ho, resolve, invoke, builtin, Sem.run_bind, Sem.run_pure, Result.andThen_ok, List.map_toArray, List.map_cons, List.map_nil, hs, hx, hr]
 exact hK _ _ (h v1 w1 hown (HB.grown hg hbase (own_base HO)) hg hat)
end
theorem strs_src {w : World} {A : Option Addr} {n : Nat} {ss : List ByteArray} (h : Kd.C Kd.string w A n ss) : n = ss.length ∧ (A = none → n = 0) ∧ (ss.map Value.string).length = n * 1 ∧ (∀ ad, A = some ad → ∀ j u, (ss.map Value.string)[j]? = some u → w.cell? (ad.add j) = some u) ∧ ∀ u ∈ ss.map Value.string, u.oneCell' = true := by
 have hn : ss.length = n := h.1
 refine ⟨hn.symm, fun hA => ?_, by simp [hn], fun ad hA j u hj => ?_, fun u hu => by obtain ⟨s, _, rfl⟩ := List.mem_map.1 hu; rfl⟩
 ·rcases Nat.eq_zero_or_pos n with h0 | h0
  ·exact h0
  ·obtain ⟨ad, h', _⟩ := Kd.at_string h 0 (Int.le_refl _) (by omega)
   rw [hA] at h'; cases h'
 ·have hjl : j < ss.length := by have := (List.getElem?_eq_some_iff.1 hj).1; simpa using this
  obtain ⟨ad', h', hc⟩ := Kd.at_string h (j : Int) (by omega) (by omega)
  rw [hA] at h'
  injection h' with h'
  subst h'
  rw [Int.toNat_natCast] at hc
  rw [hc]
  rw [List.getElem?_map, List.getElem?_eq_getElem hjl] at hj
  unfold rdOf
  rw [Int.toNat_natCast, List.getD_eq_getElem?_getD, List.getElem?_eq_getElem hjl]
  exact hj
end Go.Proofs.YtmcdnpooclelgaaDoor
namespace Go.Proofs.YtmcdnpooclelgaaDoor.PAll
open Go.RowKit Go.Proofs.YtmcdnpooclelgaaDoorW.PrintWords
def rules_team : List S36 := [⟨⟨#[99, 111, 112, 105, 101, 115]⟩, [1], false, [⟨#[49, 48, 48]⟩]⟩, ⟨⟨#[114, 111, 111, 109]⟩, [1], false, [⟨#[49, 48, 48, 48]⟩]⟩]
def rules_berth : List S36 := [⟨⟨#[122, 111, 110, 101]⟩, [3], false, [⟨#[122]⟩]⟩, ⟨⟨#[114, 111, 111, 109]⟩, [1], false, [⟨#[49, 48, 48]⟩]⟩, ⟨⟨#[104, 111, 108, 100]⟩, [1], false, [⟨#[49, 48, 48]⟩]⟩, ⟨⟨#[109, 97, 114, 107]⟩, [3], true, []⟩]
def rules_service : List S36 := [⟨⟨#[116, 101, 97, 109]⟩, [3], false, [⟨#[99, 111, 114, 101]⟩]⟩, ⟨⟨#[105, 109, 97, 103, 101]⟩, [1], false, [⟨#[49]⟩]⟩, ⟨⟨#[119, 97, 110, 116]⟩, [1], false, [⟨#[49]⟩]⟩, ⟨⟨#[100, 111, 119, 110]⟩, [1], false, [⟨#[49]⟩]⟩, ⟨⟨#[111, 118, 101, 114]⟩, [1], false, [⟨#[48]⟩]⟩, ⟨⟨#[110, 101, 101, 100, 115]⟩, [1, 1], false, [⟨#[49]⟩, ⟨#[49]⟩]⟩, ⟨⟨#[119, 104, 101, 114, 101]⟩, [4], false, [⟨#[]⟩]⟩, ⟨⟨#[108, 105, 107, 101]⟩, [4, 2], true, []⟩, ⟨⟨#[97, 112, 97, 114, 116]⟩, [6], false, [⟨#[110, 111, 110, 101]⟩]⟩, ⟨⟨#[118, 111, 108, 117, 109, 101]⟩, [5], false, [⟨#[110, 111]⟩]⟩, ⟨⟨#[102, 111, 108, 108, 111, 119]⟩, [1, 1, 1], false, [⟨#[48]⟩, ⟨#[48]⟩, ⟨#[48]⟩]⟩, ⟨⟨#[112, 97, 99, 101]⟩, [1, 1, 1], false, [⟨#[48]⟩, ⟨#[48]⟩, ⟨#[48]⟩]⟩]
def rulesL (kind : ByteArray) : List S36 := if kind = ⟨#[116, 101, 97, 109]⟩ then rules_team else if kind = ⟨#[98, 101, 114, 116, 104]⟩ then rules_berth else if kind = ⟨#[115, 101, 114, 118, 105, 99, 101]⟩ then rules_service else []
theorem kind_cases (kind : ByteArray) : kind = ⟨#[116, 101, 97, 109]⟩ ∨ kind = ⟨#[98, 101, 114, 116, 104]⟩ ∨ kind = ⟨#[115, 101, 114, 118, 105, 99, 101]⟩ ∨ (kind ≠ ⟨#[116, 101, 97, 109]⟩ ∧ kind ≠ ⟨#[98, 101, 114, 116, 104]⟩ ∧ kind ≠ ⟨#[115, 101, 114, 118, 105, 99, 101]⟩ ∧ rulesL kind = []) := by
 by_cases h1 : kind = ⟨#[116, 101, 97, 109]⟩
 ·exact .inl h1
 by_cases h2 : kind = ⟨#[98, 101, 114, 116, 104]⟩
 ·exact .inr (.inl h2)
 by_cases h3 : kind = ⟨#[115, 101, 114, 118, 105, 99, 101]⟩
 ·exact .inr (.inr (.inl h3))
 exact .inr (.inr (.inr ⟨h1, h2, h3, by unfold rulesL; rw [if_neg h1, if_neg h2, if_neg h3]⟩))
theorem rulesL_team : rulesL ⟨#[116, 101, 97, 109]⟩ = rules_team := by unfold rulesL; rfl
theorem rulesL_berth : rulesL ⟨#[98, 101, 114, 116, 104]⟩ = rules_berth := by unfold rulesL; simp [ByteArray.mk.injEq]
theorem rulesL_service : rulesL ⟨#[115, 101, 114, 118, 105, 99, 101]⟩ = rules_service := by unfold rulesL; simp [ByteArray.mk.injEq]
end Go.Proofs.YtmcdnpooclelgaaDoor.PAll
namespace Go.Proofs.YtmcdnpooclelgaaDoor.PAll
open Go.RowKit Go.Proofs.YtmcdnpooclelgaaDoorW.PrintWords Go.Proofs.YtmcdnpooclelgaaDoorW.PrintLast Go.Proofs.YtmcdnpooclelgaaDoorW.PrintMore
attribute [local go_sem] max2_int min2_int max_two min_two max_three min_three max_four min_four   -- for this text's walks alone
def spec_l1In.f (a0 : Int) (a1 : Int) (a2 : Int) : Option (Bool) := if a0 ≥ a1 then (some (decide (a0 ≤ a2))) else (some false)
set_option maxHeartbeats 8000000 in
set_option maxRecDepth 100000 in
theorem spec_l1In.calls (a0 : Int) (a1 : Int) (a2 : Int) (r : Bool) (w : World) (h : spec_l1In.f a0 a1 a2 = some r) :
  Calls Tryd.prog 113 #[.int .i64 a0, .int .i64 a1, .int .i64 a2] w fun e w' => e = .returned (.bool r) ∧ Drawn0 w w' := by
 have H : (if a0 ≥ a1 then (some (decide (a0 ≤ a2))) else (some false)) = some r := h
 clear h
 by_cases c4 : a0 ≥ a1
 ·rw [if_pos c4] at H
  have c4b0 : decide (a1 ≤ a0) = true := decide_eq_true c4
  clear c4
  obtain rfl := Option.some.inj H
  go_enter Tryd.func113, Tryd.ntmps113
  go_wp2
  go_ret
  exact ⟨by first | rfl | (simp; done) | (simp [*]; done), by repeat (first | exact Drawn0.refl _ | apply Drawn0.step)⟩
 ·rw [if_neg c4] at H
  have c4b0 : decide (a1 ≤ a0) = false := decide_eq_false c4
  clear c4
  obtain rfl := Option.some.inj H
  go_enter Tryd.func113, Tryd.ntmps113
  go_wp2
  go_ret
  exact ⟨by first | rfl | (simp; done) | (simp [*]; done), by repeat (first | exact Drawn0.refl _ | apply Drawn0.step)⟩
def spec_l2NameOk.l0 : Nat → ByteArray → Int → Option (Bool)
 | 0, _, _ => none
 | k + 1, x0, x3 => if x3 < (x0.size : Int) then (if 0 ≤ x3 then (if (bt x0 x3) ≥ 97 then (if (bt x0 x3) ≤ 122 then (spec_l2NameOk.l0 k x0 (wrap64 (x3 + 1))) else (if (bt x0 x3) ≥ 48 then (if (bt x0 x3) ≤ 57 then (spec_l2NameOk.l0 k x0 (wrap64 (x3 + 1))) else (if ((bt x0 x3) = 45) then (spec_l2NameOk.l0 k x0 (wrap64 (x3 + 1))) else (some false))) else (if ((bt x0 x3) = 45) then (spec_l2NameOk.l0 k x0 (wrap64 (x3 + 1))) else (some false)))) else (if (bt x0 x3) ≥ 48 then (if (bt x0 x3) ≤ 57 then (spec_l2NameOk.l0 k x0 (wrap64 (x3 + 1))) else (if ((bt x0 x3) = 45) then (spec_l2NameOk.l0 k x0 (wrap64 (x3 + 1))) else (some false))) else (if ((bt x0 x3) = 45) then (spec_l2NameOk.l0 k x0 (wrap64 (x3 + 1))) else (some false)))) else (none)) else (some true)
def spec_l2NameOk.f (k : Nat) (a0 : ByteArray) : Option (Bool) := (spec_l1In.f (a0.size : Int) 1 20).bind fun t101 => (if t101 = true then (spec_l2NameOk.l0 k a0 0) else (some false))
set_option maxHeartbeats 8000000 in
set_option maxRecDepth 100000 in
theorem spec_l2NameOk.calls (k : Nat) (a0 : ByteArray) (r : Bool) (w : World) (h : spec_l2NameOk.f k a0 = some r) :
  Calls Tryd.prog 71 #[.string a0] w fun e w' => e = .returned (.bool r) ∧ Drawn0 w w' := by
 have H : ((spec_l1In.f (a0.size : Int) 1 20).bind fun t101 => (if t101 = true then (spec_l2NameOk.l0 k a0 0) else (some false))) = some r := h
 clear h
 replace H := Option.bind_eq_some_iff.mp H
 obtain ⟨t101, A20, H⟩ := H
 replace H : (if t101 = true then (spec_l2NameOk.l0 k a0 0) else (some false)) = some r := H
 have A2 := Aside0.mk A20
 clear A20
 by_cases c3 : t101 = true
 ·subst c3
  have H1 : (spec_l2NameOk.l0 k a0 0) = some r := by rw [if_pos rfl] at H; exact H
  clear H
  have H := H1
  clear H1
  have H' := Aside0.mk H
  clear H
  go_enter Tryd.func71, Tryd.ntmps71
  go_wp2_with (first | ((with_reducible refine gate_callee (f := 113) rfl ?_); refine goesL_ (some 7) rfl rfl Tryd.func113 (by kernel_rfl) rfl #[.int .i64 (a0.size : Int), .int .i64 1, .int .i64 20] rfl (by (try simp only [List.map_toArray, List.map_cons, List.map_nil]); first | done | rfl | (simp only [List.length_drop, List.length_take]; rfl)) ?_; (with_reducible refine (spec_l1In.calls (a0.size : Int) 1 20 true _ A2.out).mono ?_); rintro e w' ⟨rfl, ⟨nd, rfl⟩⟩; refine ⟨_, rfl, ?_⟩))
  go_loopg [3] k (fun kq v3 w' => ∃ (x3_1 : Int), v3 = .int .i64 x3_1 ∧ Aside0 (spec_l2NameOk.l0 kq a0 x3_1 = some r) ∧ Aside0 (kq ≤ k) ∧ Drawn0 w w')
  case atStart => exact ⟨(0), (by first | rfl | (simp; done) | (simp [*]; done)), H', ⟨Nat.le_refl _⟩, by repeat (first | exact Drawn0.refl _ | apply Drawn0.step)⟩
  case round =>
   clear H'
   try clear c1
   try clear p2
   try clear c3
   obtain ⟨x3_1, rfl, HA, HK1, ⟨m1, rfl⟩⟩ := hrel
   cases gk with
   | zero => exact absurd HA.out (by simp [spec_l2NameOk.l0])
   | succ k1 =>
    have H := HA.out
    clear HA
    simp only [spec_l2NameOk.l0] at H
    by_cases c4 : x3_1 < (a0.size : Int)
    ·rw [if_pos c4] at H
     have c4b0 : decide (x3_1 < (a0.size : Int)) = true := decide_eq_true c4
     clear c4
     by_cases c5 : 0 ≤ x3_1
     ·rw [if_pos c5] at H
      have c5b0 : decide (0 ≤ x3_1) = true := decide_eq_true c5
      clear c5
      by_cases c7 : (bt a0 x3_1) ≥ 97
      ·rw [if_pos c7] at H
       have c7b0 : decide (97 ≤ (bt a0 x3_1)) = true := decide_eq_true c7
       clear c7
       by_cases c8 : (bt a0 x3_1) ≤ 122
       ·rw [if_pos c8] at H
        have c8b0 : decide ((bt a0 x3_1) ≤ 122) = true := decide_eq_true c8
        clear c8
        have H' := Aside0.mk H
        clear H
        have p6 : 0 ≤ (x3_1 : Int) := of_decide_eq_true (by first | (with_reducible assumption) | assumption)
        have q6 : x3_1 < (a0.size : Int) := of_decide_eq_true (by first | (with_reducible assumption) | assumption)
        have hx6 := bt_at a0 x3_1
        replace p6 := eq_true p6
        replace q6 := eq_true q6
        go_wp2
        go_roundg k1
        case measure => have := HK1.out; omega
        case rel => exact ⟨(wrap64 (x3_1 + 1)), (by first | rfl | (simp; done) | (simp [*]; done)), H', ⟨by have := HK1.out; omega⟩, by repeat (first | exact Drawn0.refl _ | apply Drawn0.step)⟩
       ·rw [if_neg c8] at H
        have c8b0 : decide ((bt a0 x3_1) ≤ 122) = false := decide_eq_false c8
        clear c8
        by_cases c9 : (bt a0 x3_1) ≥ 48
        ·rw [if_pos c9] at H
         have c9b0 : decide (48 ≤ (bt a0 x3_1)) = true := decide_eq_true c9
         clear c9
         by_cases c10 : (bt a0 x3_1) ≤ 57
         ·rw [if_pos c10] at H
          have c10b0 : decide ((bt a0 x3_1) ≤ 57) = true := decide_eq_true c10
          clear c10
          have H' := Aside0.mk H
          clear H
          have p6 : 0 ≤ (x3_1 : Int) := of_decide_eq_true (by first | (with_reducible assumption) | assumption)
          have q6 : x3_1 < (a0.size : Int) := of_decide_eq_true (by first | (with_reducible assumption) | assumption)
          have hx6 := bt_at a0 x3_1
          replace p6 := eq_true p6
          replace q6 := eq_true q6
          go_wp2
          go_roundg k1
          case measure => have := HK1.out; omega
          case rel => exact ⟨(wrap64 (x3_1 + 1)), (by first | rfl | (simp; done) | (simp [*]; done)), H', ⟨by have := HK1.out; omega⟩, by repeat (first | exact Drawn0.refl _ | apply Drawn0.step)⟩
         ·rw [if_neg c10] at H
          have c10b0 : decide ((bt a0 x3_1) ≤ 57) = false := decide_eq_false c10
          clear c10
          by_cases c11 : ((bt a0 x3_1) = 45)
          ·rw [if_pos c11] at H
           have c11b0 : ((bt a0 x3_1) == 45) = true := beq_iff_eq.mpr c11
           have c11b1 : ((bt a0 x3_1) != 45) = false := bne_eq_false_iff_eq.mpr c11
           clear c11
           have H' := Aside0.mk H
           clear H
           have p6 : 0 ≤ (x3_1 : Int) := of_decide_eq_true (by first | (with_reducible assumption) | assumption)
           have q6 : x3_1 < (a0.size : Int) := of_decide_eq_true (by first | (with_reducible assumption) | assumption)
           have hx6 := bt_at a0 x3_1
           replace p6 := eq_true p6
           replace q6 := eq_true q6
           go_wp2
           go_roundg k1
           case measure => have := HK1.out; omega
           case rel => exact ⟨(wrap64 (x3_1 + 1)), (by first | rfl | (simp; done) | (simp [*]; done)), H', ⟨by have := HK1.out; omega⟩, by repeat (first | exact Drawn0.refl _ | apply Drawn0.step)⟩
          ·rw [if_neg c11] at H
           have c11b0 : ((bt a0 x3_1) == 45) = false := beq_eq_false_iff_ne.mpr c11
           have c11b1 : ((bt a0 x3_1) != 45) = true := bne_iff_ne.mpr c11
           obtain rfl := Option.some.inj H
           have p6 : 0 ≤ (x3_1 : Int) := of_decide_eq_true (by first | (with_reducible assumption) | assumption)
           have q6 : x3_1 < (a0.size : Int) := of_decide_eq_true (by first | (with_reducible assumption) | assumption)
           have hx6 := bt_at a0 x3_1
           replace p6 := eq_true p6
           replace q6 := eq_true q6
           go_wp2
           go_ret
           exact ⟨by first | rfl | (simp; done) | (simp [*]; done), by repeat (first | exact Drawn0.refl _ | apply Drawn0.step)⟩
        ·rw [if_neg c9] at H
         have c9b0 : decide (48 ≤ (bt a0 x3_1)) = false := decide_eq_false c9
         clear c9
         by_cases c12 : ((bt a0 x3_1) = 45)
         ·rw [if_pos c12] at H
          have c12b0 : ((bt a0 x3_1) == 45) = true := beq_iff_eq.mpr c12
          have c12b1 : ((bt a0 x3_1) != 45) = false := bne_eq_false_iff_eq.mpr c12
          clear c12
          have H' := Aside0.mk H
          clear H
          have p6 : 0 ≤ (x3_1 : Int) := of_decide_eq_true (by first | (with_reducible assumption) | assumption)
          have q6 : x3_1 < (a0.size : Int) := of_decide_eq_true (by first | (with_reducible assumption) | assumption)
          have hx6 := bt_at a0 x3_1
          replace p6 := eq_true p6
          replace q6 := eq_true q6
          go_wp2
          go_roundg k1
          case measure => have := HK1.out; omega
          case rel => exact ⟨(wrap64 (x3_1 + 1)), (by first | rfl | (simp; done) | (simp [*]; done)), H', ⟨by have := HK1.out; omega⟩, by repeat (first | exact Drawn0.refl _ | apply Drawn0.step)⟩
         ·rw [if_neg c12] at H
          have c12b0 : ((bt a0 x3_1) == 45) = false := beq_eq_false_iff_ne.mpr c12
          have c12b1 : ((bt a0 x3_1) != 45) = true := bne_iff_ne.mpr c12
          obtain rfl := Option.some.inj H
          have p6 : 0 ≤ (x3_1 : Int) := of_decide_eq_true (by first | (with_reducible assumption) | assumption)
          have q6 : x3_1 < (a0.size : Int) := of_decide_eq_true (by first | (with_reducible assumption) | assumption)
          have hx6 := bt_at a0 x3_1
          replace p6 := eq_true p6
          replace q6 := eq_true q6
          go_wp2
          go_ret
          exact ⟨by first | rfl | (simp; done) | (simp [*]; done), by repeat (first | exact Drawn0.refl _ | apply Drawn0.step)⟩
      ·rw [if_neg c7] at H
       have c7b0 : decide (97 ≤ (bt a0 x3_1)) = false := decide_eq_false c7
       clear c7
       by_cases c13 : (bt a0 x3_1) ≥ 48
       ·rw [if_pos c13] at H
        have c13b0 : decide (48 ≤ (bt a0 x3_1)) = true := decide_eq_true c13
        clear c13
        by_cases c14 : (bt a0 x3_1) ≤ 57
        ·rw [if_pos c14] at H
         have c14b0 : decide ((bt a0 x3_1) ≤ 57) = true := decide_eq_true c14
         clear c14
         have H' := Aside0.mk H
         clear H
         have p6 : 0 ≤ (x3_1 : Int) := of_decide_eq_true (by first | (with_reducible assumption) | assumption)
         have q6 : x3_1 < (a0.size : Int) := of_decide_eq_true (by first | (with_reducible assumption) | assumption)
         have hx6 := bt_at a0 x3_1
         replace p6 := eq_true p6
         replace q6 := eq_true q6
         go_wp2
         go_roundg k1
         case measure => have := HK1.out; omega
         case rel => exact ⟨(wrap64 (x3_1 + 1)), (by first | rfl | (simp; done) | (simp [*]; done)), H', ⟨by have := HK1.out; omega⟩, by repeat (first | exact Drawn0.refl _ | apply Drawn0.step)⟩
        ·rw [if_neg c14] at H
         have c14b0 : decide ((bt a0 x3_1) ≤ 57) = false := decide_eq_false c14
         clear c14
         by_cases c15 : ((bt a0 x3_1) = 45)
         ·rw [if_pos c15] at H
          have c15b0 : ((bt a0 x3_1) == 45) = true := beq_iff_eq.mpr c15
          have c15b1 : ((bt a0 x3_1) != 45) = false := bne_eq_false_iff_eq.mpr c15
          clear c15
          have H' := Aside0.mk H
          clear H
          have p6 : 0 ≤ (x3_1 : Int) := of_decide_eq_true (by first | (with_reducible assumption) | assumption)
          have q6 : x3_1 < (a0.size : Int) := of_decide_eq_true (by first | (with_reducible assumption) | assumption)
          have hx6 := bt_at a0 x3_1
          replace p6 := eq_true p6
          replace q6 := eq_true q6
          go_wp2
          go_roundg k1
          case measure => have := HK1.out; omega
          case rel => exact ⟨(wrap64 (x3_1 + 1)), (by first | rfl | (simp; done) | (simp [*]; done)), H', ⟨by have := HK1.out; omega⟩, by repeat (first | exact Drawn0.refl _ | apply Drawn0.step)⟩
         ·rw [if_neg c15] at H
          have c15b0 : ((bt a0 x3_1) == 45) = false := beq_eq_false_iff_ne.mpr c15
          have c15b1 : ((bt a0 x3_1) != 45) = true := bne_iff_ne.mpr c15
          obtain rfl := Option.some.inj H
          have p6 : 0 ≤ (x3_1 : Int) := of_decide_eq_true (by first | (with_reducible assumption) | assumption)
          have q6 : x3_1 < (a0.size : Int) := of_decide_eq_true (by first | (with_reducible assumption) | assumption)
          have hx6 := bt_at a0 x3_1
          replace p6 := eq_true p6
          replace q6 := eq_true q6
          go_wp2
          go_ret
          exact ⟨by first | rfl | (simp; done) | (simp [*]; done), by repeat (first | exact Drawn0.refl _ | apply Drawn0.step)⟩
       ·rw [if_neg c13] at H
        have c13b0 : decide (48 ≤ (bt a0 x3_1)) = false := decide_eq_false c13
        clear c13
        by_cases c16 : ((bt a0 x3_1) = 45)
        ·rw [if_pos c16] at H
         have c16b0 : ((bt a0 x3_1) == 45) = true := beq_iff_eq.mpr c16
         have c16b1 : ((bt a0 x3_1) != 45) = false := bne_eq_false_iff_eq.mpr c16
         clear c16
         have H' := Aside0.mk H
         clear H
         have p6 : 0 ≤ (x3_1 : Int) := of_decide_eq_true (by first | (with_reducible assumption) | assumption)
         have q6 : x3_1 < (a0.size : Int) := of_decide_eq_true (by first | (with_reducible assumption) | assumption)
         have hx6 := bt_at a0 x3_1
         replace p6 := eq_true p6
         replace q6 := eq_true q6
         go_wp2
         go_roundg k1
         case measure => have := HK1.out; omega
         case rel => exact ⟨(wrap64 (x3_1 + 1)), (by first | rfl | (simp; done) | (simp [*]; done)), H', ⟨by have := HK1.out; omega⟩, by repeat (first | exact Drawn0.refl _ | apply Drawn0.step)⟩
        ·rw [if_neg c16] at H
         have c16b0 : ((bt a0 x3_1) == 45) = false := beq_eq_false_iff_ne.mpr c16
         have c16b1 : ((bt a0 x3_1) != 45) = true := bne_iff_ne.mpr c16
         obtain rfl := Option.some.inj H
         have p6 : 0 ≤ (x3_1 : Int) := of_decide_eq_true (by first | (with_reducible assumption) | assumption)
         have q6 : x3_1 < (a0.size : Int) := of_decide_eq_true (by first | (with_reducible assumption) | assumption)
         have hx6 := bt_at a0 x3_1
         replace p6 := eq_true p6
         replace q6 := eq_true q6
         go_wp2
         go_ret
         exact ⟨by first | rfl | (simp; done) | (simp [*]; done), by repeat (first | exact Drawn0.refl _ | apply Drawn0.step)⟩
     ·rw [if_neg c5] at H
      exact absurd H (by simp)
    ·rw [if_neg c4] at H
     have c4b0 : decide (x3_1 < (a0.size : Int)) = false := decide_eq_false c4
     clear c4
     obtain rfl := Option.some.inj H
     go_wp2
     go_ret
     exact ⟨by first | rfl | (simp; done) | (simp [*]; done), by repeat (first | exact Drawn0.refl _ | apply Drawn0.step)⟩
 ·replace c3 := Bool.eq_false_iff.mpr c3
  subst c3
  have H1 : (some false) = some r := by rw [if_neg (show ¬ (false = true) by decide)] at H; exact H
  clear H
  have H := H1
  clear H1
  obtain rfl := Option.some.inj H
  go_enter Tryd.func71, Tryd.ntmps71
  go_wp2_with (first | ((with_reducible refine gate_callee (f := 113) rfl ?_); refine goesL_ (some 7) rfl rfl Tryd.func113 (by kernel_rfl) rfl #[.int .i64 (a0.size : Int), .int .i64 1, .int .i64 20] rfl (by (try simp only [List.map_toArray, List.map_cons, List.map_nil]); first | done | rfl | (simp only [List.length_drop, List.length_take]; rfl)) ?_; (with_reducible refine (spec_l1In.calls (a0.size : Int) 1 20 false _ A2.out).mono ?_); rintro e w' ⟨rfl, ⟨nd, rfl⟩⟩; refine ⟨_, rfl, ?_⟩))
  go_ret
  exact ⟨by first | rfl | (simp; done) | (simp [*]; done), by repeat (first | exact Drawn0.refl _ | apply Drawn0.step)⟩
def spec_l2Dec.f : Nat → Int → Option (ByteArray)
 | 0, _ => none
 | k + 1, a0 => if a0 < 0 then ((spec_l2Dec.f k (wrap64 (-a0))).bind fun t102 => (if 1 + t102.size ≤ 9223372036854775807 then (some ((⟨#[45]⟩ : ByteArray) ++ t102)) else (none))) else (if a0 < 10 then (some (strOfNums (([(wrap64 (48 + a0)) % 256] : List Int)))) else ((spec_l2Dec.f k (wrap64 (Int.tdiv a0 10))).bind fun t106 => ((some (([(wrap64 (48 + (Int.tmod a0 10))) % 256] : List Int) : List Int)).bind fun y107 => (if t106.size + (strOfNums y107).size ≤ 9223372036854775807 then (some (t106 ++ (strOfNums y107))) else (none)))))
def spec_l2Dec.T5 : Bool × List (List Nat × List Nat) := (true, [([], []), ([0], [0]), ([1], [1]), ([], []), ([3], [3]), ([4], [4]), ([5], [5]), ([6], [6]), ([7], [7]), ([2, 8], [2, 8]), ([9, 2, 0, 1, 2, 3, 4, 5, 6, 7, 8, 9], [9])])
def spec_l2Dec.B5 : List Nat := [0, 1, 3, 0, 8, 24, 56, 120, 248, 511, 1023]
theorem spec_l2Dec.tab5 : rtab .any (opsOf Tryd.f134 5) = spec_l2Dec.T5 := by kernel_rfl
theorem spec_l2Dec.bits5 : waitsOk spec_l2Dec.T5.2 spec_l2Dec.B5 = true := by kernel_rfl
set_option maxHeartbeats 8000000 in
set_option maxRecDepth 100000 in
theorem spec_l2Dec.calls (k : Nat) : ∀ (a0 : Int) (r : ByteArray) (w : World) (h : spec_l2Dec.f k a0 = some r),
  Calls Tryd.prog 134 #[.int .i64 a0] w fun e w' => e = .returned (.string r) ∧ Below w.heap.size w w' := by
 induction k using Nat.strongRecOn with
 | _ k ih =>
 intro a0 r w h
 cases k with
 | zero => exact absurd h (by simp [spec_l2Dec.f])
 | succ k =>
 simp only [spec_l2Dec.f] at h
 have HB := Aside0.mk (Below.refl w.heap.size w)
 have H : (if a0 < 0 then ((spec_l2Dec.f k (wrap64 (-a0))).bind fun t102 => (if 1 + t102.size ≤ 9223372036854775807 then (some ((⟨#[45]⟩ : ByteArray) ++ t102)) else (none))) else (if a0 < 10 then (some (strOfNums (([(wrap64 (48 + a0)) % 256] : List Int)))) else ((spec_l2Dec.f k (wrap64 (Int.tdiv a0 10))).bind fun t106 => ((some (([(wrap64 (48 + (Int.tmod a0 10))) % 256] : List Int) : List Int)).bind fun y107 => (if t106.size + (strOfNums y107).size ≤ 9223372036854775807 then (some (t106 ++ (strOfNums y107))) else (none)))))) = some r := h
 clear h
 by_cases c2 : a0 < 0
 ·rw [if_pos c2] at H
  have c2b0 : decide (a0 < 0) = true := decide_eq_true c2
  clear c2
  replace H := Option.bind_eq_some_iff.mp H
  obtain ⟨t102, A30, H⟩ := H
  replace H : (if 1 + t102.size ≤ 9223372036854775807 then (some ((⟨#[45]⟩ : ByteArray) ++ t102)) else (none)) = some r := H
  have A3 := Aside0.mk A30
  clear A30
  by_cases c4 : 1 + t102.size ≤ 9223372036854775807
  ·rw [if_pos c4] at H
   have c4b0 := eq_true c4
   have c4b1 : decide (1 + t102.size ≤ 9223372036854775807) = true := decide_eq_true c4
   try have c4b2 : (9223372036854775807 < 1 + t102.size) = False := eq_false (Nat.not_lt.2 c4)
   obtain rfl := Option.some.inj H
   go_enter Tryd.func134, Tryd.ntmps134
   go_wp2_with (first | ((with_reducible refine gate_callee (f := 134) rfl ?_); refine goesL_ (some 7) rfl rfl Tryd.func134 (by kernel_rfl) rfl #[.int .i64 (wrap64 (-a0))] rfl (by (try simp only [List.map_toArray, List.map_cons, List.map_nil]); first | done | rfl | (simp only [List.length_drop, List.length_take]; rfl)) ?_; (with_reducible refine (ih k (by omega) (wrap64 (-a0)) t102 _ A3.out).mono ?_); rintro e w5 ⟨rfl, hb⟩; refine ⟨_, rfl, ?_⟩; have n0_ := Aside0.mk (below_step (stB HB.out) hb); clear HB; have HB := n0_; clear n0_; (try clear hb); (try clear hb2); (try clear hk); (try clear hi)))
   go_ret
   exact ⟨by first | rfl | (simp [errW_none, errW_some] <;> rfl) | (simp [*, errW_none, errW_some] <;> rfl), by repeat (first | (with_reducible first | exact HB.out | apply below_alloc | apply pw_below_drewN | apply below_drew1) | exact HB.out)⟩
  ·rw [if_neg c4] at H
   exact absurd H (by simp)
 ·rw [if_neg c2] at H
  have c2b0 : decide (a0 < 0) = false := decide_eq_false c2
  clear c2
  by_cases c6 : a0 < 10
  ·rw [if_pos c6] at H
   have c6b0 : decide (a0 < 10) = true := decide_eq_true c6
   clear c6
   obtain ⟨y103, hy103⟩ : ∃ y_ : List Int, y_ = (([(wrap64 (48 + a0)) % 256] : List Int)) := ⟨_, rfl⟩
   replace H : (some (strOfNums y103)) = some r := by first | (rw [hy103]; with_reducible exact H) | (have H2_ := (Option.bind_some _ _).symm.trans H; rw [hy103]; with_reducible exact H2_) | (have H2_ := (Option.bind_some _ _).symm.trans H; with_reducible exact H2_) | with_reducible exact H | (rw [hy103]; exact H) | exact H
   have Ny103 := Aside0.mk hy103
   clear hy103
   obtain rfl := Option.some.inj H
   go_enter Tryd.func134, Tryd.ntmps134
   go_wp2_with (first | ((with_reducible refine gate_dst (N := 14) rfl ?_); refine Kd.R_lit (Kd.int .u8) _ 5 ?hg (N := 14) ?hd (xs := ([(wrap64 (48 + a0)) % 256] : List Int)) (inner := [.int .u8 ((wrap64 (48 + a0)) % 256)]) (ok := fun _ => True) (okp := fun _ => True) ?hr ?hp (fun _ hk => hk) trivial (Below.refl _ _) (Nat.le_refl _) (by simp) ?_; (case hd => rfl); (case hg => rfl); (case hr => first | (go_simp; done) | (go_simp; rfl)); (case hp => exact (Reps.one (show Kd.M (Kd.int .u8) _ _ _ ((wrap64 (48 + a0)) % 256) [.int .u8 ((wrap64 (48 + a0)) % 256)] from rfl) (Reps.none _ _))); intro v104 w7 ho8 hb hg_ hnew_; clear hg_ hnew_; (first | rw [← Ny103.out] at ho8 | (simp only [Int.reduceToNat] at ho8; rw [← Ny103.out] at ho8)); have n0_ := Aside0.mk (Kd.R_lower ho8 (below_size (stB HB.out))); have n1_ := Aside0.mk (below_step (stB HB.out) hb); clear HB; have HO105 := n0_; have HB := n1_; clear n0_ n1_; clear hb ho8; have hcv9 := own_string (P := Tryd.prog) Tryd.underlying32 Tryd.underlying5 Tryd.underlying9 (Kd.own_of_R HO105.out)))
   go_ret
   exact ⟨by first | rfl | (simp [errW_none, errW_some] <;> rfl) | (simp [*, errW_none, errW_some] <;> rfl), by repeat (first | (with_reducible first | exact HB.out | apply below_alloc | apply pw_below_drewN | apply below_drew1) | exact HB.out)⟩
  ·rw [if_neg c6] at H
   have c6b0 : decide (a0 < 10) = false := decide_eq_false c6
   clear c6
   replace H := Option.bind_eq_some_iff.mp H
   obtain ⟨t106, A100, H⟩ := H
   replace H : ((some (([(wrap64 (48 + (Int.tmod a0 10))) % 256] : List Int) : List Int)).bind fun y107 => (if t106.size + (strOfNums y107).size ≤ 9223372036854775807 then (some (t106 ++ (strOfNums y107))) else (none))) = some r := H
   have A10 := Aside0.mk A100
   clear A100
   obtain ⟨y107, hy107⟩ : ∃ y_ : List Int, y_ = (([(wrap64 (48 + (Int.tmod a0 10))) % 256] : List Int)) := ⟨_, rfl⟩
   replace H : (if t106.size + (strOfNums y107).size ≤ 9223372036854775807 then (some (t106 ++ (strOfNums y107))) else (none)) = some r := by first | (rw [hy107]; with_reducible exact H) | (have H2_ := (Option.bind_some _ _).symm.trans H; rw [hy107]; with_reducible exact H2_) | (have H2_ := (Option.bind_some _ _).symm.trans H; with_reducible exact H2_) | with_reducible exact H | (rw [hy107]; exact H) | exact H
   have Ny107 := Aside0.mk hy107
   clear hy107
   by_cases c11 : t106.size + (strOfNums y107).size ≤ 9223372036854775807
   ·rw [if_pos c11] at H
    have c11b0 := eq_true c11
    have c11b1 : decide (t106.size + (strOfNums y107).size ≤ 9223372036854775807) = true := decide_eq_true c11
    try have c11b2 : (9223372036854775807 < t106.size + (strOfNums y107).size) = False := eq_false (Nat.not_lt.2 c11)
    obtain rfl := Option.some.inj H
    go_enter Tryd.func134, Tryd.ntmps134
    try go_wp2
    have n0_ := Aside0.mk (below_drew1 HB.out)
    clear HB
    have HB := n0_
    clear n0_
    refine start_ (n := 11) (S := fun w' => True) (ds := []) (bz_ 11 0) (by kernel_rfl) rfl rfl trivial (fun hHeld => ?_); refine with_tabW spec_l2Dec.tab5 spec_l2Dec.bits5 (fun HT_ HW_ => ?_)
    generalize w.drew = w12 at HB hHeld ⊢
    refine pure_ (i := 0) (N := some 16) (v := ?_) (a' := ?_) (bz_ 11 1) rfl rfl (any_of HT_.out (by kernel_rfl)) (fun _ _ _ h => h) (Or.inl ⟨by rfl, ?_⟩) ?_ ?_
    rotate_left
    ·intro w'
     go_simp
     with_reducible rfl
    rotate_left
    ·simp only [Act.put, List.setIfInBounds_toArray, List.set_cons_zero, List.set_cons_succ, i64_w, i32_w]
     rfl
    refine pure_ (i := 1) (N := some 17) (v := ?_) (a' := ?_) (bz_ 11 3) rfl rfl (any_of HT_.out (by kernel_rfl)) (fun _ _ _ h => h) (Or.inl ⟨by rfl, ?_⟩) ?_ ?_
    rotate_left
    ·intro w'
     go_simp
     with_reducible rfl
    rotate_left
    ·simp only [Act.put, List.setIfInBounds_toArray, List.set_cons_zero, List.set_cons_succ, i64_w, i32_w]
     rfl
    refine pure_ (i := 3) (N := some 19) (v := ?_) (a' := ?_) (bz_ 11 11) rfl rfl (any_of HT_.out (by kernel_rfl)) (fun _ _ _ h => h) (Or.inl ⟨by rfl, ?_⟩) ?_ ?_
    rotate_left
    ·intro w'
     go_simp
     with_reducible rfl
    rotate_left
    ·simp only [Act.put, List.setIfInBounds_toArray, List.set_cons_zero, List.set_cons_succ, i64_w, i32_w]
     rfl
    refine pure_ (i := 4) (N := some 20) (v := ?_) (a' := ?_) (bz_ 11 27) rfl rfl (any_of HT_.out (by kernel_rfl)) (fun _ _ _ h => h) (Or.inl ⟨by rfl, ?_⟩) ?_ ?_
    rotate_left
    ·intro w'
     go_simp
     with_reducible rfl
    rotate_left
    ·simp only [Act.put, List.setIfInBounds_toArray, List.set_cons_zero, List.set_cons_succ, i64_w, i32_w]
     rfl
    refine pure_ (i := 5) (N := some 21) (v := ?_) (a' := ?_) (bz_ 11 59) rfl rfl (any_of HT_.out (by kernel_rfl)) (fun _ _ _ h => h) (Or.inl ⟨by rfl, ?_⟩) ?_ ?_
    rotate_left
    ·intro w'
     go_simp
     with_reducible rfl
    rotate_left
    ·simp only [Act.put, List.setIfInBounds_toArray, List.set_cons_zero, List.set_cons_succ, i64_w, i32_w]
     rfl
    refine pure_ (i := 6) (N := some 22) (v := ?_) (a' := ?_) (bz_ 11 123) rfl rfl (any_of HT_.out (by kernel_rfl)) (fun _ _ _ h => h) (Or.inl ⟨by rfl, ?_⟩) ?_ ?_
    rotate_left
    ·intro w'
     go_simp
     with_reducible rfl
    rotate_left
    ·simp only [Act.put, List.setIfInBounds_toArray, List.set_cons_zero, List.set_cons_succ, i64_w, i32_w]
     rfl
    refine join_ (σ := Value) 2 (bz_ 11 511) (fun s_ => [(18, .string t106), (23, s_), (24, .string (strOfNums y107))]) (fun s_ w' => (Kd.R (Kd.int .u8) 5 w' w.heap.size (fun _ => True) s_ y107) ∧ (Below w.heap.size w w')) ?_ ?_
    rotate_left
    ·intro hCont
     refine two_ (i := 2) (j := 7) (Ni := some 18) (Nj := some 23) (bz_ 11 127) (bz_ 11 251) rfl rfl rfl rfl (two_of HT_.out (by kernel_rfl)) (by decide) (by decide) (fun K hK => ?_) (fun K hK => ?_)
     ·skip
      refine goes_ Tryd.func134 (by kernel_rfl) rfl #[.int .i64 (wrap64 (Int.tdiv a0 10))] (by rfl) rfl rfl (by (try simp only [List.map_toArray, List.map_cons, List.map_nil]); first | done | rfl | (simp only [List.length_drop, List.length_take]; rfl)) ?_
      with_reducible refine (ih k (by omega) (wrap64 (Int.tdiv a0 10)) t106 _ A10.out).mono ?_
      rintro e w13 ⟨rfl, hb⟩
      refine ⟨_, rfl, ?_⟩
      have n0_ := Aside0.mk (below_step (stB HB.out) hb)
      clear HB
      have HB := n0_
      clear n0_
      (try clear hb)
      (try clear hb2)
      (try clear hk)
      (try clear hi)
      refine hK.out _ _ trivial (fun hHeld => ?_)
      clear hK K
      refine norm_ (a' := ?_) ?_ ?_
      rotate_left
      ·show Act.put _ (some 18) _ = _
       simp only [Act.put, List.setIfInBounds_toArray, List.set_cons_zero, List.set_cons_succ, i64_w, i32_w]
       rfl
      refine one_ (i := 7) (N := some 23) (bz_ 11 255) rfl rfl (one_of HT_.out (by kernel_rfl)) (by decide) (fun K hK => ?_)
      refine Kd.R_lit_step (Kd.int .u8) _ 5 ?hg (N := 23) ?hd (xs := ([(wrap64 (48 + (Int.tmod a0 10))) % 256] : List Int)) (inner := [.int .u8 ((wrap64 (48 + (Int.tmod a0 10))) % 256)]) (ok := fun _ => True) (okp := fun _ => True) ?hr ?hp (fun _ hk => hk) trivial (Below.refl _ _) (Nat.le_refl _) (by simp) ?_; (case hd => rfl); (case hg => rfl); (case hr => first | (go_simp; done) | (go_simp; rfl)); (case hp => exact (Reps.one (show Kd.M (Kd.int .u8) _ _ _ ((wrap64 (48 + (Int.tmod a0 10))) % 256) [.int .u8 ((wrap64 (48 + (Int.tmod a0 10))) % 256)] from rfl) (Reps.none _ _)))
      intro v108 w14 ho15 hb hg_ hnew_
      clear hg_ hnew_
      (first | rw [← Ny107.out] at ho15 | (simp only [Int.reduceToNat] at ho15; rw [← Ny107.out] at ho15))
      have n0_ := Aside0.mk (Kd.R_lower ho15 (below_size (stB HB.out)))
      have n1_ := Aside0.mk (below_step (stB HB.out) hb)
      clear HB
      have HO109 := n0_
      have HB := n1_
      clear n0_ n1_
      clear hb ho15
      refine hK.out _ _ trivial (fun hHeld => ?_)
      clear hK K
      refine norm_ (a' := ?_) ?_ ?_
      rotate_left
      ·show Act.put _ (some 23) _ = _
       simp only [Act.put, List.setIfInBounds_toArray, List.set_cons_zero, List.set_cons_succ, i64_w, i32_w]
       rfl
      refine one_ (i := 8) (N := some 24) (bz_ 11 511) rfl rfl (one_of HT_.out (by kernel_rfl)) (by decide) (fun K hK => ?_)
      have hcv16 := own_string (P := Tryd.prog) Tryd.underlying32 Tryd.underlying5 Tryd.underlying9 (Kd.own_of_R HO109.out)
      refine value_ (w1 := ?_) (v := ?_) (by rfl) rfl ?_ ?_
      rotate_left 2
      ·go_simp
       constructor
       ·rfl
       ·rfl
      clear hcv16
      refine hK.out _ _ trivial (fun hHeld => ?_)
      clear hK K
      refine norm_ (a' := ?_) ?_ ?_
      rotate_left
      ·show Act.put _ (some 24) _ = _
       simp only [Act.put, List.setIfInBounds_toArray, List.set_cons_zero, List.set_cons_succ, i64_w, i32_w]
       rfl
      exact norm_ (by simp only [putAll, Act.put, List.setIfInBounds_toArray, List.set_cons_zero, List.set_cons_succ]) (hCont (v108) _ ⟨(stR HO109.out), (stB HB.out)⟩)
     ·skip
      refine Kd.R_lit_step (Kd.int .u8) _ 5 ?hg (N := 23) ?hd (xs := ([(wrap64 (48 + (Int.tmod a0 10))) % 256] : List Int)) (inner := [.int .u8 ((wrap64 (48 + (Int.tmod a0 10))) % 256)]) (ok := fun _ => True) (okp := fun _ => True) ?hr ?hp (fun _ hk => hk) trivial (Below.refl _ _) (Nat.le_refl _) (by simp) ?_; (case hd => rfl); (case hg => rfl); (case hr => first | (go_simp; done) | (go_simp; rfl)); (case hp => exact (Reps.one (show Kd.M (Kd.int .u8) _ _ _ ((wrap64 (48 + (Int.tmod a0 10))) % 256) [.int .u8 ((wrap64 (48 + (Int.tmod a0 10))) % 256)] from rfl) (Reps.none _ _)))
      intro v108 w13 ho14 hb hg_ hnew_
      clear hg_ hnew_
      (first | rw [← Ny107.out] at ho14 | (simp only [Int.reduceToNat] at ho14; rw [← Ny107.out] at ho14))
      have n0_ := Aside0.mk (Kd.R_lower ho14 (below_size (stB HB.out)))
      have n1_ := Aside0.mk (below_step (stB HB.out) hb)
      clear HB
      have HO109 := n0_
      have HB := n1_
      clear n0_ n1_
      clear hb ho14
      refine hK.out _ _ trivial (fun hHeld => ?_)
      clear hK K
      refine norm_ (a' := ?_) ?_ ?_
      rotate_left
      ·show Act.put _ (some 23) _ = _
       simp only [Act.put, List.setIfInBounds_toArray, List.set_cons_zero, List.set_cons_succ, i64_w, i32_w]
       rfl
      refine two_ (i := 2) (j := 8) (Ni := some 18) (Nj := some 24) (bz_ 11 255) (bz_ 11 507) rfl rfl rfl rfl (two_of HT_.out (by kernel_rfl)) (by decide) (by decide) (fun K hK => ?_) (fun K hK => ?_)
      ·skip
       refine goes_ Tryd.func134 (by kernel_rfl) rfl #[.int .i64 (wrap64 (Int.tdiv a0 10))] (by rfl) rfl rfl (by (try simp only [List.map_toArray, List.map_cons, List.map_nil]); first | done | rfl | (simp only [List.length_drop, List.length_take]; rfl)) ?_
       with_reducible refine (ih k (by omega) (wrap64 (Int.tdiv a0 10)) t106 _ A10.out).mono ?_
       rintro e w15 ⟨rfl, hb⟩
       refine ⟨_, rfl, ?_⟩
       have n0_ := Aside0.mk (Kd.R_below (stR HO109.out) hb)
       have n1_ := Aside0.mk (below_step (stB HB.out) hb)
       clear HO109
       clear HB
       have HO109 := n0_
       have HB := n1_
       clear n0_ n1_
       (try clear hb)
       (try clear hb2)
       (try clear hk)
       (try clear hi)
       refine hK.out _ _ trivial (fun hHeld => ?_)
       clear hK K
       refine norm_ (a' := ?_) ?_ ?_
       rotate_left
       ·show Act.put _ (some 18) _ = _
        simp only [Act.put, List.setIfInBounds_toArray, List.set_cons_zero, List.set_cons_succ, i64_w, i32_w]
        rfl
       refine one_ (i := 8) (N := some 24) (bz_ 11 511) rfl rfl (one_of HT_.out (by kernel_rfl)) (by decide) (fun K hK => ?_)
       have hcv16 := own_string (P := Tryd.prog) Tryd.underlying32 Tryd.underlying5 Tryd.underlying9 (Kd.own_of_R HO109.out)
       refine value_ (w1 := ?_) (v := ?_) (by rfl) rfl ?_ ?_
       rotate_left 2
       ·go_simp
        constructor
        ·rfl
        ·rfl
       clear hcv16
       refine hK.out _ _ trivial (fun hHeld => ?_)
       clear hK K
       refine norm_ (a' := ?_) ?_ ?_
       rotate_left
       ·show Act.put _ (some 24) _ = _
        simp only [Act.put, List.setIfInBounds_toArray, List.set_cons_zero, List.set_cons_succ, i64_w, i32_w]
        rfl
       exact norm_ (by simp only [putAll, Act.put, List.setIfInBounds_toArray, List.set_cons_zero, List.set_cons_succ]) (hCont (v108) _ ⟨(stR HO109.out), (stB HB.out)⟩)
      ·skip
       have hcv15 := own_string (P := Tryd.prog) Tryd.underlying32 Tryd.underlying5 Tryd.underlying9 (Kd.own_of_R HO109.out)
       refine value_ (w1 := ?_) (v := ?_) (by rfl) rfl ?_ ?_
       rotate_left 2
       ·go_simp
        constructor
        ·rfl
        ·rfl
       clear hcv15
       refine hK.out _ _ trivial (fun hHeld => ?_)
       clear hK K
       refine norm_ (a' := ?_) ?_ ?_
       rotate_left
       ·show Act.put _ (some 24) _ = _
        simp only [Act.put, List.setIfInBounds_toArray, List.set_cons_zero, List.set_cons_succ, i64_w, i32_w]
        rfl
       refine one_ (i := 2) (N := some 18) (bz_ 11 511) rfl rfl (one_of HT_.out (by kernel_rfl)) (by decide) (fun K hK => ?_)
       refine goes_ Tryd.func134 (by kernel_rfl) rfl #[.int .i64 (wrap64 (Int.tdiv a0 10))] (by rfl) rfl rfl (by (try simp only [List.map_toArray, List.map_cons, List.map_nil]); first | done | rfl | (simp only [List.length_drop, List.length_take]; rfl)) ?_
       with_reducible refine (ih k (by omega) (wrap64 (Int.tdiv a0 10)) t106 _ A10.out).mono ?_
       rintro e w16 ⟨rfl, hb⟩
       refine ⟨_, rfl, ?_⟩
       have n0_ := Aside0.mk (Kd.R_below (stR HO109.out) hb)
       have n1_ := Aside0.mk (below_step (stB HB.out) hb)
       clear HO109
       clear HB
       have HO109 := n0_
       have HB := n1_
       clear n0_ n1_
       (try clear hb)
       (try clear hb2)
       (try clear hk)
       (try clear hi)
       refine hK.out _ _ trivial (fun hHeld => ?_)
       clear hK K
       refine norm_ (a' := ?_) ?_ ?_
       rotate_left
       ·show Act.put _ (some 18) _ = _
        simp only [Act.put, List.setIfInBounds_toArray, List.set_cons_zero, List.set_cons_succ, i64_w, i32_w]
        rfl
       exact norm_ (by simp only [putAll, Act.put, List.setIfInBounds_toArray, List.set_cons_zero, List.set_cons_succ]) (hCont (v108) _ ⟨(stR HO109.out), (stB HB.out)⟩)
    rintro v108 w17 ⟨h0_, h1_⟩
    have n0_ : Aside0 (Kd.R (Kd.int .u8) 5 w17 w.heap.size (fun _ => True) v108 y107) := ⟨h0_⟩
    have n1_ : Aside0 (Below w.heap.size w w17) := ⟨h1_⟩
    clear HB
    clear h0_ h1_
    have HO109 := n0_
    have HB := n1_
    clear n0_ n1_
    have hHeld := trivial
    refine norm_ (a' := ?_) ?_ ?_
    rotate_left
    ·simp only [putAll, Act.put, List.setIfInBounds_toArray, List.set_cons_zero, List.set_cons_succ]
     rfl
    refine pure_ (i := 9) (N := some 25) (v := ?_) (a' := ?_) (bz_ 11 1023) rfl rfl (any_of HT_.out (by kernel_rfl)) (fun _ _ _ h => h) (Or.inl ⟨by rfl, ?_⟩) ?_ ?_
    rotate_left
    ·intro w'
     go_simp
     with_reducible rfl
    rotate_left
    ·simp only [Act.put, List.setIfInBounds_toArray, List.set_cons_zero, List.set_cons_succ, i64_w, i32_w]
     rfl
    refine pure_ (i := 10) (N := some 2) (v := ?_) (a' := ?_) (bz_ 11 2047) rfl rfl (any_of HT_.out (by kernel_rfl)) (fun _ _ _ h => h) (Or.inl ⟨by rfl, ?_⟩) ?_ ?_
    rotate_left
    ·intro w'
     go_simp
     with_reducible rfl
    rotate_left
    ·simp only [Act.put, List.setIfInBounds_toArray, List.set_cons_zero, List.set_cons_succ, i64_w, i32_w]
     rfl
    refine done_ (done_of HT_.out (by kernel_rfl)) ?_
    try go_wp2
    go_ret
    exact ⟨by first | rfl | (simp [errW_none, errW_some] <;> rfl) | (simp [*, errW_none, errW_some] <;> rfl), by repeat (first | (with_reducible first | exact HB.out | apply below_alloc | apply pw_below_drewN | apply below_drew1) | exact HB.out)⟩
   ·rw [if_neg c11] at H
    exact absurd H (by simp)
def spec_l2NumberOk.l0 : Nat → ByteArray → Int → Int → Option (Bool)
 | 0, _, _, _ => none
 | k + 1, x0, x3, x4 => if x4 < (x0.size : Int) then (if 0 ≤ x4 then (if (bt x0 x4) < 48 then (some false) else (if (bt x0 x4) > 57 then (some false) else (spec_l2NumberOk.l0 k x0 (wrap64 ((wrap64 (x3 * 10)) + (((bt x0 x4) - 48) % 256))) (wrap64 (x4 + 1))))) else (none)) else ((spec_l2Dec.f k x3).bind fun t111 => (if t111.toList = x0.toList then (some (decide (x3 ≤ 1000000))) else (some false)))
def spec_l2NumberOk.f (k : Nat) (a0 : ByteArray) : Option (Bool) := (spec_l1In.f (a0.size : Int) 1 7).bind fun t110 => (if t110 = true then (spec_l2NumberOk.l0 k a0 0 0) else (some false))
set_option maxHeartbeats 8000000 in
set_option maxRecDepth 100000 in
theorem spec_l2NumberOk.calls (k : Nat) (a0 : ByteArray) (r : Bool) (w : World) (h : spec_l2NumberOk.f k a0 = some r) :
  Calls Tryd.prog 106 #[.string a0] w fun e w' => e = .returned (.bool r) ∧ Below w.heap.size w w' := by
 have HB := Aside0.mk (Below.refl w.heap.size w)
 have H : ((spec_l1In.f (a0.size : Int) 1 7).bind fun t110 => (if t110 = true then (spec_l2NumberOk.l0 k a0 0 0) else (some false))) = some r := h
 clear h
 replace H := Option.bind_eq_some_iff.mp H
 obtain ⟨t110, A20, H⟩ := H
 replace H : (if t110 = true then (spec_l2NumberOk.l0 k a0 0 0) else (some false)) = some r := H
 have A2 := Aside0.mk A20
 clear A20
 by_cases c3 : t110 = true
 ·subst c3
  have H1 : (spec_l2NumberOk.l0 k a0 0 0) = some r := by rw [if_pos rfl] at H; exact H
  clear H
  have H := H1
  clear H1
  have H' := Aside0.mk H
  clear H
  go_enter Tryd.func106, Tryd.ntmps106
  go_wp2_with (first | ((with_reducible refine gate_callee (f := 113) rfl ?_); refine goesL_ (some 7) rfl rfl Tryd.func113 (by kernel_rfl) rfl #[.int .i64 (a0.size : Int), .int .i64 1, .int .i64 7] rfl (by (try simp only [List.map_toArray, List.map_cons, List.map_nil]); first | done | rfl | (simp only [List.length_drop, List.length_take]; rfl)) ?_; (with_reducible refine (spec_l1In.calls (a0.size : Int) 1 7 true _ A2.out).mono ?_); rintro e w' ⟨rfl, ⟨nd, rfl⟩⟩; refine ⟨_, rfl, ?_⟩))
  go_loopg [3, 4] k (fun kq v3 v4 w' => ∃ (x3_1 : Int) (x4_1 : Int), v3 = .int .i64 x3_1 ∧ v4 = .int .i64 x4_1 ∧ Aside0 (spec_l2NumberOk.l0 kq a0 x3_1 x4_1 = some r) ∧ Aside0 (kq ≤ k) ∧ Aside0 (Below w.heap.size w w'))
  case atStart => exact ⟨(0), (0), (by first | rfl | (simp; done) | (simp [*]; done)), (by first | rfl | (simp; done) | (simp [*]; done)), H', ⟨Nat.le_refl _⟩, ⟨by repeat (first | (with_reducible first | exact HB.out | apply below_alloc | apply pw_below_drewN | apply below_drew1) | exact HB.out)⟩⟩
  case round =>
   clear H'
   try clear c1
   try clear p2
   try clear c3
   obtain ⟨x3_1, x4_1, rfl, rfl, HA, HK1, HB⟩ := hrel
   cases gk with
   | zero => exact absurd HA.out (by simp [spec_l2NumberOk.l0])
   | succ k1 =>
    have H := HA.out
    clear HA
    simp only [spec_l2NumberOk.l0] at H
    by_cases c4 : x4_1 < (a0.size : Int)
    ·rw [if_pos c4] at H
     have c4b0 : decide (x4_1 < (a0.size : Int)) = true := decide_eq_true c4
     clear c4
     by_cases c5 : 0 ≤ x4_1
     ·rw [if_pos c5] at H
      have c5b0 : decide (0 ≤ x4_1) = true := decide_eq_true c5
      clear c5
      by_cases c7 : (bt a0 x4_1) < 48
      ·rw [if_pos c7] at H
       have c7b0 : decide ((bt a0 x4_1) < 48) = true := decide_eq_true c7
       clear c7
       obtain rfl := Option.some.inj H
       have p6 : 0 ≤ (x4_1 : Int) := of_decide_eq_true (by first | (with_reducible assumption) | assumption)
       have q6 : x4_1 < (a0.size : Int) := of_decide_eq_true (by first | (with_reducible assumption) | assumption)
       have hx6 := bt_at a0 x4_1
       replace p6 := eq_true p6
       replace q6 := eq_true q6
       go_wp2
       go_ret
       exact ⟨by first | rfl | (simp [errW_none, errW_some] <;> rfl) | (simp [*, errW_none, errW_some] <;> rfl), by repeat (first | (with_reducible first | exact HB.out | apply below_alloc | apply pw_below_drewN | apply below_drew1) | exact HB.out)⟩
      ·rw [if_neg c7] at H
       have c7b0 : decide ((bt a0 x4_1) < 48) = false := decide_eq_false c7
       clear c7
       by_cases c9 : (bt a0 x4_1) > 57
       ·rw [if_pos c9] at H
        have c9b0 : decide (57 < (bt a0 x4_1)) = true := decide_eq_true c9
        clear c9
        obtain rfl := Option.some.inj H
        have p6 : 0 ≤ (x4_1 : Int) := of_decide_eq_true (by first | (with_reducible assumption) | assumption)
        have q6 : x4_1 < (a0.size : Int) := of_decide_eq_true (by first | (with_reducible assumption) | assumption)
        have hx6 := bt_at a0 x4_1
        replace p6 := eq_true p6
        replace q6 := eq_true q6
        have p8 : 0 ≤ (x4_1 : Int) := of_decide_eq_true (by first | (with_reducible assumption) | assumption)
        have q8 : x4_1 < (a0.size : Int) := of_decide_eq_true (by first | (with_reducible assumption) | assumption)
        have hx8 := bt_at a0 x4_1
        replace p8 := eq_true p8
        replace q8 := eq_true q8
        go_wp2
        go_ret
        exact ⟨by first | rfl | (simp [errW_none, errW_some] <;> rfl) | (simp [*, errW_none, errW_some] <;> rfl), by repeat (first | (with_reducible first | exact HB.out | apply below_alloc | apply pw_below_drewN | apply below_drew1) | exact HB.out)⟩
       ·rw [if_neg c9] at H
        have c9b0 : decide (57 < (bt a0 x4_1)) = false := decide_eq_false c9
        clear c9
        have H' := Aside0.mk H
        clear H
        have p6 : 0 ≤ (x4_1 : Int) := of_decide_eq_true (by first | (with_reducible assumption) | assumption)
        have q6 : x4_1 < (a0.size : Int) := of_decide_eq_true (by first | (with_reducible assumption) | assumption)
        have hx6 := bt_at a0 x4_1
        replace p6 := eq_true p6
        replace q6 := eq_true q6
        have p8 : 0 ≤ (x4_1 : Int) := of_decide_eq_true (by first | (with_reducible assumption) | assumption)
        have q8 : x4_1 < (a0.size : Int) := of_decide_eq_true (by first | (with_reducible assumption) | assumption)
        have hx8 := bt_at a0 x4_1
        replace p8 := eq_true p8
        replace q8 := eq_true q8
        have p10 : 0 ≤ (x4_1 : Int) := of_decide_eq_true (by first | (with_reducible assumption) | assumption)
        have q10 : x4_1 < (a0.size : Int) := of_decide_eq_true (by first | (with_reducible assumption) | assumption)
        have hx10 := bt_at a0 x4_1
        replace p10 := eq_true p10
        replace q10 := eq_true q10
        go_wp2
        go_roundg k1
        case measure => have := HK1.out; omega
        case rel => exact ⟨(wrap64 ((wrap64 (x3_1 * 10)) + (((bt a0 x4_1) - 48) % 256))), (wrap64 (x4_1 + 1)), (by first | rfl | (simp; done) | (simp [*]; done)), (by first | rfl | (simp; done) | (simp [*]; done)), H', ⟨by have := HK1.out; omega⟩, ⟨by repeat (first | (with_reducible first | exact HB.out | apply below_alloc | apply pw_below_drewN | apply below_drew1) | exact HB.out)⟩⟩
     ·rw [if_neg c5] at H
      exact absurd H (by simp)
    ·rw [if_neg c4] at H
     have c4b0 : decide (x4_1 < (a0.size : Int)) = false := decide_eq_false c4
     clear c4
     replace H := Option.bind_eq_some_iff.mp H
     obtain ⟨t111, A110, H⟩ := H
     replace H : (if t111.toList = a0.toList then (some (decide (x3_1 ≤ 1000000))) else (some false)) = some r := H
     have A11 := Aside0.mk A110
     clear A110
     by_cases c12 : t111.toList = a0.toList
     ·rw [if_pos c12] at H
      have c12b0 : (t111.toList == a0.toList) = true := beq_iff_eq.mpr c12
      have c12b1 : (t111.toList != a0.toList) = false := bne_eq_false_iff_eq.mpr c12
      clear c12
      obtain rfl := Option.some.inj H
      go_wp2_with (first | ((with_reducible refine gate_callee (f := 134) rfl ?_); refine goesL_ (some 34) rfl rfl Tryd.func134 (by kernel_rfl) rfl #[.int .i64 x3_1] rfl (by (try simp only [List.map_toArray, List.map_cons, List.map_nil]); first | done | rfl | (simp only [List.length_drop, List.length_take]; rfl)) ?_; (with_reducible refine (spec_l2Dec.calls k1 x3_1 t111 _ A11.out).mono ?_); rintro e w13 ⟨rfl, hb⟩; refine ⟨_, rfl, ?_⟩; have n0_ := Aside0.mk (below_step (stB HB.out) hb); clear HB; have HB := n0_; clear n0_; (try clear hb); (try clear hb2); (try clear hk); (try clear hi)))
      go_ret
      exact ⟨by first | rfl | (simp [errW_none, errW_some] <;> rfl) | (simp [*, errW_none, errW_some] <;> rfl), by repeat (first | (with_reducible first | exact HB.out | apply below_alloc | apply pw_below_drewN | apply below_drew1) | exact HB.out)⟩
     ·rw [if_neg c12] at H
      have c12b0 : (t111.toList == a0.toList) = false := beq_eq_false_iff_ne.mpr c12
      have c12b1 : (t111.toList != a0.toList) = true := bne_iff_ne.mpr c12
      obtain rfl := Option.some.inj H
      go_wp2_with (first | ((with_reducible refine gate_callee (f := 134) rfl ?_); refine goesL_ (some 34) rfl rfl Tryd.func134 (by kernel_rfl) rfl #[.int .i64 x3_1] rfl (by (try simp only [List.map_toArray, List.map_cons, List.map_nil]); first | done | rfl | (simp only [List.length_drop, List.length_take]; rfl)) ?_; (with_reducible refine (spec_l2Dec.calls k1 x3_1 t111 _ A11.out).mono ?_); rintro e w14 ⟨rfl, hb⟩; refine ⟨_, rfl, ?_⟩; have n0_ := Aside0.mk (below_step (stB HB.out) hb); clear HB; have HB := n0_; clear n0_; (try clear hb); (try clear hb2); (try clear hk); (try clear hi)))
      go_ret
      exact ⟨by first | rfl | (simp [errW_none, errW_some] <;> rfl) | (simp [*, errW_none, errW_some] <;> rfl), by repeat (first | (with_reducible first | exact HB.out | apply below_alloc | apply pw_below_drewN | apply below_drew1) | exact HB.out)⟩
 ·replace c3 := Bool.eq_false_iff.mpr c3
  subst c3
  have H1 : (some false) = some r := by rw [if_neg (show ¬ (false = true) by decide)] at H; exact H
  clear H
  have H := H1
  clear H1
  obtain rfl := Option.some.inj H
  go_enter Tryd.func106, Tryd.ntmps106
  go_wp2_with (first | ((with_reducible refine gate_callee (f := 113) rfl ?_); refine goesL_ (some 7) rfl rfl Tryd.func113 (by kernel_rfl) rfl #[.int .i64 (a0.size : Int), .int .i64 1, .int .i64 7] rfl (by (try simp only [List.map_toArray, List.map_cons, List.map_nil]); first | done | rfl | (simp only [List.length_drop, List.length_take]; rfl)) ?_; (with_reducible refine (spec_l1In.calls (a0.size : Int) 1 7 false _ A2.out).mono ?_); rintro e w' ⟨rfl, ⟨nd, rfl⟩⟩; refine ⟨_, rfl, ?_⟩))
  go_ret
  exact ⟨by first | rfl | (simp [errW_none, errW_some] <;> rfl) | (simp [*, errW_none, errW_some] <;> rfl), by repeat (first | (with_reducible first | exact HB.out | apply below_alloc | apply pw_below_drewN | apply below_drew1) | exact HB.out)⟩
def spec_l2Fits.f (k : Nat) (a0 : Int) (a1 : ByteArray) : Option (Bool) := if a0 = 1 then ((spec_l2NumberOk.f k a1).bind fun t112 => (some t112)) else (if a0 = 2 then ((spec_l2NumberOk.f k a1).bind fun t113 => (if t113 = true then (some true) else (if (a1.size : Int) > 1 then (if 0 < (a1.size : Int) then (if (bt a1 0) = 45 then (if 1 ≤ (a1.size : Int) then (if (a1.extract 1 a1.size).toList = ([48] : List UInt8) then (some false) else ((spec_l2NumberOk.f k (a1.extract 1 a1.size)).bind fun t114 => (some t114))) else (none)) else (some false)) else (none)) else (some false)))) else (if a0 = 3 then ((spec_l2NameOk.f k a1).bind fun t115 => (some t115)) else (if a0 = 5 then (if a1.toList = ([121, 101, 115] : List UInt8) then (some true) else (some (a1.toList == ([110, 111] : List UInt8)))) else (if a0 = 6 then (if a1.toList = ([110, 111, 110, 101] : List UInt8) then (some true) else (if a1.toList = ([98, 101, 114, 116, 104] : List UInt8) then (some true) else (some (a1.toList == ([122, 111, 110, 101] : List UInt8))))) else (some (decide ((a1.size : Int) ≤ 200)))))))
set_option maxHeartbeats 8000000 in
set_option maxRecDepth 100000 in
theorem spec_l2Fits.calls (k : Nat) (a0 : Int) (a1 : ByteArray) (r : Bool) (w : World) (h : spec_l2Fits.f k a0 a1 = some r) :
  Calls Tryd.prog 63 #[.int .i64 a0, .string a1] w fun e w' => e = .returned (.bool r) ∧ Below w.heap.size w w' := by
 have HB := Aside0.mk (Below.refl w.heap.size w)
 have H : (if a0 = 1 then ((spec_l2NumberOk.f k a1).bind fun t112 => (some t112)) else (if a0 = 2 then ((spec_l2NumberOk.f k a1).bind fun t113 => (if t113 = true then (some true) else (if (a1.size : Int) > 1 then (if 0 < (a1.size : Int) then (if (bt a1 0) = 45 then (if 1 ≤ (a1.size : Int) then (if (a1.extract 1 a1.size).toList = ([48] : List UInt8) then (some false) else ((spec_l2NumberOk.f k (a1.extract 1 a1.size)).bind fun t114 => (some t114))) else (none)) else (some false)) else (none)) else (some false)))) else (if a0 = 3 then ((spec_l2NameOk.f k a1).bind fun t115 => (some t115)) else (if a0 = 5 then (if a1.toList = ([121, 101, 115] : List UInt8) then (some true) else (some (a1.toList == ([110, 111] : List UInt8)))) else (if a0 = 6 then (if a1.toList = ([110, 111, 110, 101] : List UInt8) then (some true) else (if a1.toList = ([98, 101, 114, 116, 104] : List UInt8) then (some true) else (some (a1.toList == ([122, 111, 110, 101] : List UInt8))))) else (some (decide ((a1.size : Int) ≤ 200)))))))) = some r := h
 clear h
 by_cases c3 : a0 = 1
 ·rw [if_pos c3] at H
  have c3b0 : (a0 == 1) = true := beq_iff_eq.mpr c3
  have c3b1 : (a0 != 1) = false := bne_eq_false_iff_eq.mpr c3
  clear c3
  replace H := Option.bind_eq_some_iff.mp H
  obtain ⟨t112, A40, H⟩ := H
  replace H : (some t112) = some r := H
  have A4 := Aside0.mk A40
  clear A40
  obtain rfl := Option.some.inj H
  go_enter Tryd.func63, Tryd.ntmps63
  go_wp2_with (first | ((with_reducible refine gate_callee (f := 106) rfl ?_); refine goesL_ (some 9) rfl rfl Tryd.func106 (by kernel_rfl) rfl #[.string a1] rfl (by (try simp only [List.map_toArray, List.map_cons, List.map_nil]); first | done | rfl | (simp only [List.length_drop, List.length_take]; rfl)) ?_; (with_reducible refine (spec_l2NumberOk.calls k a1 t112 _ A4.out).mono ?_); rintro e w5 ⟨rfl, hb⟩; refine ⟨_, rfl, ?_⟩; have n0_ := Aside0.mk (below_step (stB HB.out) hb); clear HB; have HB := n0_; clear n0_; (try clear hb); (try clear hb2); (try clear hk); (try clear hi)))
  go_ret
  exact ⟨by first | rfl | (simp [errW_none, errW_some] <;> rfl) | (simp [*, errW_none, errW_some] <;> rfl), by repeat (first | (with_reducible first | exact HB.out | apply below_alloc | apply pw_below_drewN | apply below_drew1) | exact HB.out)⟩
 ·rw [if_neg c3] at H
  have c3b0 : (a0 == 1) = false := beq_eq_false_iff_ne.mpr c3
  have c3b1 : (a0 != 1) = true := bne_iff_ne.mpr c3
  by_cases c6 : a0 = 2
  ·rw [if_pos c6] at H
   have c6b0 : (a0 == 2) = true := beq_iff_eq.mpr c6
   have c6b1 : (a0 != 2) = false := bne_eq_false_iff_eq.mpr c6
   clear c6
   replace H := Option.bind_eq_some_iff.mp H
   obtain ⟨t113, A70, H⟩ := H
   replace H : (if t113 = true then (some true) else (if (a1.size : Int) > 1 then (if 0 < (a1.size : Int) then (if (bt a1 0) = 45 then (if 1 ≤ (a1.size : Int) then (if (a1.extract 1 a1.size).toList = ([48] : List UInt8) then (some false) else ((spec_l2NumberOk.f k (a1.extract 1 a1.size)).bind fun t114 => (some t114))) else (none)) else (some false)) else (none)) else (some false))) = some r := H
   have A7 := Aside0.mk A70
   clear A70
   by_cases c8 : t113 = true
   ·subst c8
    have H1 : (some true) = some r := by rw [if_pos rfl] at H; exact H
    clear H
    have H := H1
    clear H1
    obtain rfl := Option.some.inj H
    go_enter Tryd.func63, Tryd.ntmps63
    go_wp2_with (first | ((with_reducible refine gate_callee (f := 106) rfl ?_); refine goesL_ (some 13) rfl rfl Tryd.func106 (by kernel_rfl) rfl #[.string a1] rfl (by (try simp only [List.map_toArray, List.map_cons, List.map_nil]); first | done | rfl | (simp only [List.length_drop, List.length_take]; rfl)) ?_; (with_reducible refine (spec_l2NumberOk.calls k a1 true _ A7.out).mono ?_); rintro e w9 ⟨rfl, hb⟩; refine ⟨_, rfl, ?_⟩; have n0_ := Aside0.mk (below_step (stB HB.out) hb); clear HB; have HB := n0_; clear n0_; (try clear hb); (try clear hb2); (try clear hk); (try clear hi)))
    go_ret
    exact ⟨by first | rfl | (simp [errW_none, errW_some] <;> rfl) | (simp [*, errW_none, errW_some] <;> rfl), by repeat (first | (with_reducible first | exact HB.out | apply below_alloc | apply pw_below_drewN | apply below_drew1) | exact HB.out)⟩
   ·replace c8 := Bool.eq_false_iff.mpr c8
    subst c8
    have H1 : (if (a1.size : Int) > 1 then (if 0 < (a1.size : Int) then (if (bt a1 0) = 45 then (if 1 ≤ (a1.size : Int) then (if (a1.extract 1 a1.size).toList = ([48] : List UInt8) then (some false) else ((spec_l2NumberOk.f k (a1.extract 1 a1.size)).bind fun t114 => (some t114))) else (none)) else (some false)) else (none)) else (some false)) = some r := by rw [if_neg (show ¬ (false = true) by decide)] at H; exact H
    clear H
    have H := H1
    clear H1
    by_cases c10 : (a1.size : Int) > 1
    ·rw [if_pos c10] at H
     have c10b0 : decide (1 < (a1.size : Int)) = true := decide_eq_true c10
     have c10b1 : decide (1 < a1.size) = true := decide_eq_true (by omega)
     clear c10
     by_cases c11 : 0 < (a1.size : Int)
     ·rw [if_pos c11] at H
      have c11b0 : decide (0 < (a1.size : Int)) = true := decide_eq_true c11
      have c11b1 : decide (0 < a1.size) = true := decide_eq_true (by omega)
      clear c11
      by_cases c13 : (bt a1 0) = 45
      ·rw [if_pos c13] at H
       have c13b0 : ((bt a1 0) == 45) = true := beq_iff_eq.mpr c13
       have c13b1 : ((bt a1 0) != 45) = false := bne_eq_false_iff_eq.mpr c13
       clear c13
       by_cases c14 : 1 ≤ (a1.size : Int)
       ·rw [if_pos c14] at H
        have c14b0 := eq_true c14
        have c14b1 : decide (1 ≤ (a1.size : Int)) = true := decide_eq_true c14
        clear c14
        by_cases c15 : (a1.extract 1 a1.size).toList = ([48] : List UInt8)
        ·rw [if_pos c15] at H
         have c15b0 : ((a1.extract 1 a1.size).toList == ([48] : List UInt8)) = true := beq_iff_eq.mpr c15
         have c15b1 : ((a1.extract 1 a1.size).toList != ([48] : List UInt8)) = false := bne_eq_false_iff_eq.mpr c15
         clear c15
         obtain rfl := Option.some.inj H
         go_enter Tryd.func63, Tryd.ntmps63
         go_wp2_with (first | ((with_reducible refine gate_callee (f := 106) rfl ?_); refine goesL_ (some 13) rfl rfl Tryd.func106 (by kernel_rfl) rfl #[.string a1] rfl (by (try simp only [List.map_toArray, List.map_cons, List.map_nil]); first | done | rfl | (simp only [List.length_drop, List.length_take]; rfl)) ?_; (with_reducible refine (spec_l2NumberOk.calls k a1 false _ A7.out).mono ?_); rintro e w16 ⟨rfl, hb⟩; refine ⟨_, rfl, ?_⟩; have n0_ := Aside0.mk (below_step (stB HB.out) hb); clear HB; have HB := n0_; clear n0_; (try clear hb); (try clear hb2); (try clear hk); (try clear hi); have p12 : 0 ≤ (0 : Int) := (by omega); have q12 : 0 < a1.size := (by have : (0 : Int) < (a1.size : Int) := of_decide_eq_true (by first | (with_reducible assumption) | assumption); omega); have hx12 : ∀ h : 0 < a1.size, ((a1[0]'h).toNat : Int) = bt a1 0 := bt_at a1 0; clear p12; have qi12 : (0 < (a1.size : Int)) = True := eq_true (of_decide_eq_true (by first | (with_reducible assumption) | assumption)); replace q12 := eq_true q12))
         go_ret
         exact ⟨by first | rfl | (simp [errW_none, errW_some] <;> rfl) | (simp [*, errW_none, errW_some] <;> rfl), by repeat (first | (with_reducible first | exact HB.out | apply below_alloc | apply pw_below_drewN | apply below_drew1) | exact HB.out)⟩
        ·rw [if_neg c15] at H
         have c15b0 : ((a1.extract 1 a1.size).toList == ([48] : List UInt8)) = false := beq_eq_false_iff_ne.mpr c15
         have c15b1 : ((a1.extract 1 a1.size).toList != ([48] : List UInt8)) = true := bne_iff_ne.mpr c15
         have c17b0 := eq_true (of_decide_eq_true (by first | (with_reducible assumption) | assumption) : 1 ≤ (a1.size : Int))
         replace H := Option.bind_eq_some_iff.mp H
         obtain ⟨t114, A180, H⟩ := H
         replace H : (some t114) = some r := H
         have A18 := Aside0.mk A180
         clear A180
         obtain rfl := Option.some.inj H
         go_enter Tryd.func63, Tryd.ntmps63
         go_wp2_with (first | ((with_reducible refine gate_callee (f := 106) rfl ?_); refine goesL_ (some 13) rfl rfl Tryd.func106 (by kernel_rfl) rfl #[.string a1] rfl (by (try simp only [List.map_toArray, List.map_cons, List.map_nil]); first | done | rfl | (simp only [List.length_drop, List.length_take]; rfl)) ?_; (with_reducible refine (spec_l2NumberOk.calls k a1 false _ A7.out).mono ?_); rintro e w19 ⟨rfl, hb⟩; refine ⟨_, rfl, ?_⟩; have n0_ := Aside0.mk (below_step (stB HB.out) hb); clear HB; have HB := n0_; clear n0_; (try clear hb); (try clear hb2); (try clear hk); (try clear hi); have p12 : 0 ≤ (0 : Int) := (by omega); have q12 : 0 < a1.size := (by have : (0 : Int) < (a1.size : Int) := of_decide_eq_true (by first | (with_reducible assumption) | assumption); omega); have hx12 : ∀ h : 0 < a1.size, ((a1[0]'h).toNat : Int) = bt a1 0 := bt_at a1 0; clear p12; have qi12 : (0 < (a1.size : Int)) = True := eq_true (of_decide_eq_true (by first | (with_reducible assumption) | assumption)); replace q12 := eq_true q12) | (go_at_call 106; (with_reducible refine (spec_l2NumberOk.calls k (a1.extract 1 a1.size) t114 _ A18.out).mono ?_); rintro e w20 ⟨rfl, hb⟩; have n0_ := Aside0.mk (below_step (stB HB.out) hb); clear HB; have HB := n0_; clear n0_; (try clear hb); (try clear hb2); (try clear hk); (try clear hi)))
         go_ret
         exact ⟨by first | rfl | (simp [errW_none, errW_some] <;> rfl) | (simp [*, errW_none, errW_some] <;> rfl), by repeat (first | (with_reducible first | exact HB.out | apply below_alloc | apply pw_below_drewN | apply below_drew1) | exact HB.out)⟩
       ·rw [if_neg c14] at H
        exact absurd H (by simp)
      ·rw [if_neg c13] at H
       have c13b0 : ((bt a1 0) == 45) = false := beq_eq_false_iff_ne.mpr c13
       have c13b1 : ((bt a1 0) != 45) = true := bne_iff_ne.mpr c13
       obtain rfl := Option.some.inj H
       go_enter Tryd.func63, Tryd.ntmps63
       go_wp2_with (first | ((with_reducible refine gate_callee (f := 106) rfl ?_); refine goesL_ (some 13) rfl rfl Tryd.func106 (by kernel_rfl) rfl #[.string a1] rfl (by (try simp only [List.map_toArray, List.map_cons, List.map_nil]); first | done | rfl | (simp only [List.length_drop, List.length_take]; rfl)) ?_; (with_reducible refine (spec_l2NumberOk.calls k a1 false _ A7.out).mono ?_); rintro e w21 ⟨rfl, hb⟩; refine ⟨_, rfl, ?_⟩; have n0_ := Aside0.mk (below_step (stB HB.out) hb); clear HB; have HB := n0_; clear n0_; (try clear hb); (try clear hb2); (try clear hk); (try clear hi); have p12 : 0 ≤ (0 : Int) := (by omega); have q12 : 0 < a1.size := (by have : (0 : Int) < (a1.size : Int) := of_decide_eq_true (by first | (with_reducible assumption) | assumption); omega); have hx12 : ∀ h : 0 < a1.size, ((a1[0]'h).toNat : Int) = bt a1 0 := bt_at a1 0; clear p12; have qi12 : (0 < (a1.size : Int)) = True := eq_true (of_decide_eq_true (by first | (with_reducible assumption) | assumption)); replace q12 := eq_true q12))
       go_ret
       exact ⟨by first | rfl | (simp [errW_none, errW_some] <;> rfl) | (simp [*, errW_none, errW_some] <;> rfl), by repeat (first | (with_reducible first | exact HB.out | apply below_alloc | apply pw_below_drewN | apply below_drew1) | exact HB.out)⟩
     ·rw [if_neg c11] at H
      exact absurd H (by simp)
    ·rw [if_neg c10] at H
     have c10b0 : decide (1 < (a1.size : Int)) = false := decide_eq_false c10
     have c10b1 : decide (1 < a1.size) = false := decide_eq_false (by omega)
     clear c10
     obtain rfl := Option.some.inj H
     go_enter Tryd.func63, Tryd.ntmps63
     go_wp2_with (first | ((with_reducible refine gate_callee (f := 106) rfl ?_); refine goesL_ (some 13) rfl rfl Tryd.func106 (by kernel_rfl) rfl #[.string a1] rfl (by (try simp only [List.map_toArray, List.map_cons, List.map_nil]); first | done | rfl | (simp only [List.length_drop, List.length_take]; rfl)) ?_; (with_reducible refine (spec_l2NumberOk.calls k a1 false _ A7.out).mono ?_); rintro e w22 ⟨rfl, hb⟩; refine ⟨_, rfl, ?_⟩; have n0_ := Aside0.mk (below_step (stB HB.out) hb); clear HB; have HB := n0_; clear n0_; (try clear hb); (try clear hb2); (try clear hk); (try clear hi)))
     go_ret
     exact ⟨by first | rfl | (simp [errW_none, errW_some] <;> rfl) | (simp [*, errW_none, errW_some] <;> rfl), by repeat (first | (with_reducible first | exact HB.out | apply below_alloc | apply pw_below_drewN | apply below_drew1) | exact HB.out)⟩
  ·rw [if_neg c6] at H
   have c6b0 : (a0 == 2) = false := beq_eq_false_iff_ne.mpr c6
   have c6b1 : (a0 != 2) = true := bne_iff_ne.mpr c6
   by_cases c23 : a0 = 3
   ·rw [if_pos c23] at H
    have c23b0 : (a0 == 3) = true := beq_iff_eq.mpr c23
    have c23b1 : (a0 != 3) = false := bne_eq_false_iff_eq.mpr c23
    clear c23
    replace H := Option.bind_eq_some_iff.mp H
    obtain ⟨t115, A240, H⟩ := H
    replace H : (some t115) = some r := H
    have A24 := Aside0.mk A240
    clear A240
    obtain rfl := Option.some.inj H
    go_enter Tryd.func63, Tryd.ntmps63
    go_wp2_with (first | ((with_reducible refine gate_callee (f := 71) rfl ?_); refine goesL_ (some 37) rfl rfl Tryd.func71 (by kernel_rfl) rfl #[.string a1] rfl (by (try simp only [List.map_toArray, List.map_cons, List.map_nil]); first | done | rfl | (simp only [List.length_drop, List.length_take]; rfl)) ?_; (with_reducible refine (spec_l2NameOk.calls k a1 t115 _ A24.out).mono ?_); rintro e w' ⟨rfl, ⟨nd, rfl⟩⟩; refine ⟨_, rfl, ?_⟩))
    go_ret
    exact ⟨by first | rfl | (simp [errW_none, errW_some] <;> rfl) | (simp [*, errW_none, errW_some] <;> rfl), by repeat (first | (with_reducible first | exact HB.out | apply below_alloc | apply pw_below_drewN | apply below_drew1) | exact HB.out)⟩
   ·rw [if_neg c23] at H
    have c23b0 : (a0 == 3) = false := beq_eq_false_iff_ne.mpr c23
    have c23b1 : (a0 != 3) = true := bne_iff_ne.mpr c23
    by_cases c25 : a0 = 5
    ·rw [if_pos c25] at H
     have c25b0 : (a0 == 5) = true := beq_iff_eq.mpr c25
     have c25b1 : (a0 != 5) = false := bne_eq_false_iff_eq.mpr c25
     clear c25
     by_cases c26 : a1.toList = ([121, 101, 115] : List UInt8)
     ·rw [if_pos c26] at H
      have c26b0 : (a1.toList == ([121, 101, 115] : List UInt8)) = true := beq_iff_eq.mpr c26
      have c26b1 : (a1.toList != ([121, 101, 115] : List UInt8)) = false := bne_eq_false_iff_eq.mpr c26
      clear c26
      obtain rfl := Option.some.inj H
      go_enter Tryd.func63, Tryd.ntmps63
      go_wp2
      go_ret
      exact ⟨by first | rfl | (simp [errW_none, errW_some] <;> rfl) | (simp [*, errW_none, errW_some] <;> rfl), by repeat (first | (with_reducible first | exact HB.out | apply below_alloc | apply pw_below_drewN | apply below_drew1) | exact HB.out)⟩
     ·rw [if_neg c26] at H
      have c26b0 : (a1.toList == ([121, 101, 115] : List UInt8)) = false := beq_eq_false_iff_ne.mpr c26
      have c26b1 : (a1.toList != ([121, 101, 115] : List UInt8)) = true := bne_iff_ne.mpr c26
      obtain rfl := Option.some.inj H
      go_enter Tryd.func63, Tryd.ntmps63
      go_wp2
      go_ret
      exact ⟨by first | rfl | (simp [errW_none, errW_some] <;> rfl) | (simp [*, errW_none, errW_some] <;> rfl), by repeat (first | (with_reducible first | exact HB.out | apply below_alloc | apply pw_below_drewN | apply below_drew1) | exact HB.out)⟩
    ·rw [if_neg c25] at H
     have c25b0 : (a0 == 5) = false := beq_eq_false_iff_ne.mpr c25
     have c25b1 : (a0 != 5) = true := bne_iff_ne.mpr c25
     by_cases c27 : a0 = 6
     ·rw [if_pos c27] at H
      have c27b0 : (a0 == 6) = true := beq_iff_eq.mpr c27
      have c27b1 : (a0 != 6) = false := bne_eq_false_iff_eq.mpr c27
      clear c27
      by_cases c28 : a1.toList = ([110, 111, 110, 101] : List UInt8)
      ·rw [if_pos c28] at H
       have c28b0 : (a1.toList == ([110, 111, 110, 101] : List UInt8)) = true := beq_iff_eq.mpr c28
       have c28b1 : (a1.toList != ([110, 111, 110, 101] : List UInt8)) = false := bne_eq_false_iff_eq.mpr c28
       clear c28
       obtain rfl := Option.some.inj H
       go_enter Tryd.func63, Tryd.ntmps63
       go_wp2
       go_ret
       exact ⟨by first | rfl | (simp [errW_none, errW_some] <;> rfl) | (simp [*, errW_none, errW_some] <;> rfl), by repeat (first | (with_reducible first | exact HB.out | apply below_alloc | apply pw_below_drewN | apply below_drew1) | exact HB.out)⟩
      ·rw [if_neg c28] at H
       have c28b0 : (a1.toList == ([110, 111, 110, 101] : List UInt8)) = false := beq_eq_false_iff_ne.mpr c28
       have c28b1 : (a1.toList != ([110, 111, 110, 101] : List UInt8)) = true := bne_iff_ne.mpr c28
       by_cases c29 : a1.toList = ([98, 101, 114, 116, 104] : List UInt8)
       ·rw [if_pos c29] at H
        have c29b0 : (a1.toList == ([98, 101, 114, 116, 104] : List UInt8)) = true := beq_iff_eq.mpr c29
        have c29b1 : (a1.toList != ([98, 101, 114, 116, 104] : List UInt8)) = false := bne_eq_false_iff_eq.mpr c29
        clear c29
        obtain rfl := Option.some.inj H
        go_enter Tryd.func63, Tryd.ntmps63
        go_wp2
        go_ret
        exact ⟨by first | rfl | (simp [errW_none, errW_some] <;> rfl) | (simp [*, errW_none, errW_some] <;> rfl), by repeat (first | (with_reducible first | exact HB.out | apply below_alloc | apply pw_below_drewN | apply below_drew1) | exact HB.out)⟩
       ·rw [if_neg c29] at H
        have c29b0 : (a1.toList == ([98, 101, 114, 116, 104] : List UInt8)) = false := beq_eq_false_iff_ne.mpr c29
        have c29b1 : (a1.toList != ([98, 101, 114, 116, 104] : List UInt8)) = true := bne_iff_ne.mpr c29
        obtain rfl := Option.some.inj H
        go_enter Tryd.func63, Tryd.ntmps63
        go_wp2
        go_ret
        exact ⟨by first | rfl | (simp [errW_none, errW_some] <;> rfl) | (simp [*, errW_none, errW_some] <;> rfl), by repeat (first | (with_reducible first | exact HB.out | apply below_alloc | apply pw_below_drewN | apply below_drew1) | exact HB.out)⟩
     ·rw [if_neg c27] at H
      have c27b0 : (a0 == 6) = false := beq_eq_false_iff_ne.mpr c27
      have c27b1 : (a0 != 6) = true := bne_iff_ne.mpr c27
      obtain rfl := Option.some.inj H
      go_enter Tryd.func63, Tryd.ntmps63
      go_wp2
      go_ret
      exact ⟨by first | rfl | (simp [errW_none, errW_some] <;> rfl) | (simp [*, errW_none, errW_some] <;> rfl), by repeat (first | (with_reducible first | exact HB.out | apply below_alloc | apply pw_below_drewN | apply below_drew1) | exact HB.out)⟩
mutual
def impl_isNumber.j0 : Nat → ByteArray → Bool → Option (Bool)
 | 0, _, _ => none
 | k + 1, x0, x21 => if x21 = true then (some false) else (impl_isNumber.l0 k x0 0 (x0.size : Int) 0)
def impl_isNumber.l0 : Nat → ByteArray → Int → Int → Int → Option (Bool)
 | 0, _, _, _, _ => none
 | k + 1, x0, x3, x23, x24 => if x24 < x23 then (if 0 ≤ x24 then (if x24 < (x0.size : Int) then (if (bt x0 x24) < 48 then (some false) else (if (bt x0 x24) > 57 then (some false) else (impl_isNumber.l0 k x0 (wrap64 ((wrap64 (10 * x3)) + (((bt x0 x24) - 48) % 256))) x23 (wrap64 (x24 + 1))))) else (none)) else (none)) else (some (decide (x3 ≤ 1000000)))
end
def impl_isNumber.f (k : Nat) (a0 : ByteArray) : Option (Bool) := if a0.toList = ([] : List UInt8) then (impl_isNumber.j0 k a0 true) else (if (a0.size : Int) > 7 then (impl_isNumber.j0 k a0 true) else (if (a0.size : Int) > 1 then (if 0 < (a0.size : Int) then (impl_isNumber.j0 k a0 ((bt a0 0) == 48)) else (none)) else (impl_isNumber.j0 k a0 false)))
set_option maxHeartbeats 8000000 in
set_option maxRecDepth 100000 in
theorem impl_isNumber.calls (k : Nat) (a0 : ByteArray) (r : Bool) (w : World) (h : impl_isNumber.f k a0 = some r) :
  Calls Tryd.prog 107 #[.string a0] w fun e w' => e = .returned (.bool r) ∧ Drawn0 w w' := by
 have H : (if a0.toList = ([] : List UInt8) then (impl_isNumber.j0 k a0 true) else (if (a0.size : Int) > 7 then (impl_isNumber.j0 k a0 true) else (if (a0.size : Int) > 1 then (if 0 < (a0.size : Int) then (impl_isNumber.j0 k a0 ((bt a0 0) == 48)) else (none)) else (impl_isNumber.j0 k a0 false)))) = some r := h
 clear h
 have HC2 := Aside0.mk H
 clear H
 go_enter Tryd.func107, Tryd.ntmps107
 go_upto_region 1 with (fail)
 go_cut [21] (fun v21 wc => ∃ (kq : Nat) (x21_1 : Bool), v21 = .bool x21_1 ∧ Aside0 (impl_isNumber.j0 kq a0 x21_1 = some r) ∧ Aside0 (kq ≤ k) ∧ Drawn0 w wc)
 case first =>
  have H := HC2.out
  clear HC2
  by_cases c3 : a0.toList = ([] : List UInt8)
  ·rw [if_pos c3] at H
   have c3b0 : (a0.toList == ([] : List UInt8)) = true := beq_iff_eq.mpr c3
   have c3b1 : (a0.toList != ([] : List UInt8)) = false := bne_eq_false_iff_eq.mpr c3
   clear c3
   (first | rw [c3b0] | (simp only [i64_w, i32_w]; rw [c3b0]) | skip)
   have H' := Aside0.mk H
   clear H
   go_wp2
   go_meet
   case rel => exact ⟨_, (true), (by first | rfl | (simp; done) | (simp [*]; done)), H', ⟨by first | omega | exact Nat.le_refl _⟩, by repeat (first | exact Drawn0.refl _ | apply Drawn0.step)⟩
  ·rw [if_neg c3] at H
   have c3b0 : (a0.toList == ([] : List UInt8)) = false := beq_eq_false_iff_ne.mpr c3
   have c3b1 : (a0.toList != ([] : List UInt8)) = true := bne_iff_ne.mpr c3
   (first | rw [c3b0] | (simp only [i64_w, i32_w]; rw [c3b0]) | skip)
   by_cases c4 : (a0.size : Int) > 7
   ·rw [if_pos c4] at H
    have c4b0 : decide (7 < (a0.size : Int)) = true := decide_eq_true c4
    have c4b1 : decide (7 < a0.size) = true := decide_eq_true (by omega)
    clear c4
    have H' := Aside0.mk H
    clear H
    go_wp2
    go_meet
    case rel => exact ⟨_, (true), (by first | rfl | (simp; done) | (simp [*]; done)), H', ⟨by first | omega | exact Nat.le_refl _⟩, by repeat (first | exact Drawn0.refl _ | apply Drawn0.step)⟩
   ·rw [if_neg c4] at H
    have c4b0 : decide (7 < (a0.size : Int)) = false := decide_eq_false c4
    have c4b1 : decide (7 < a0.size) = false := decide_eq_false (by omega)
    clear c4
    by_cases c5 : (a0.size : Int) > 1
    ·rw [if_pos c5] at H
     have c5b0 : decide (1 < (a0.size : Int)) = true := decide_eq_true c5
     have c5b1 : decide (1 < a0.size) = true := decide_eq_true (by omega)
     clear c5
     by_cases c6 : 0 < (a0.size : Int)
     ·rw [if_pos c6] at H
      have c6b0 : decide (0 < (a0.size : Int)) = true := decide_eq_true c6
      have c6b1 : decide (0 < a0.size) = true := decide_eq_true (by omega)
      clear c6
      have H' := Aside0.mk H
      clear H
      have p7 : 0 ≤ (0 : Int) := (by omega)
      have q7 : 0 < a0.size := (by have : (0 : Int) < (a0.size : Int) := of_decide_eq_true (by first | (with_reducible assumption) | assumption); omega)
      have hx7 : ∀ h : 0 < a0.size, ((a0[0]'h).toNat : Int) = bt a0 0 := bt_at a0 0
      clear p7
      have qi7 : (0 < (a0.size : Int)) = True := eq_true (of_decide_eq_true (by first | (with_reducible assumption) | assumption))
      replace q7 := eq_true q7
      go_wp2
      go_meet
      case rel => exact ⟨_, (((bt a0 0) == 48)), (by first | rfl | (simp; done) | (simp [*]; done)), H', ⟨by first | omega | exact Nat.le_refl _⟩, by repeat (first | exact Drawn0.refl _ | apply Drawn0.step)⟩
     ·rw [if_neg c6] at H
      exact absurd H (by simp)
    ·rw [if_neg c5] at H
     have c5b0 : decide (1 < (a0.size : Int)) = false := decide_eq_false c5
     have c5b1 : decide (1 < a0.size) = false := decide_eq_false (by omega)
     clear c5
     have H' := Aside0.mk H
     clear H
     go_wp2
     go_meet
     case rel => exact ⟨_, (false), (by first | rfl | (simp; done) | (simp [*]; done)), H', ⟨by first | omega | exact Nat.le_refl _⟩, by repeat (first | exact Drawn0.refl _ | apply Drawn0.step)⟩
 case rest =>
  clear HC2
  try clear c1
  try clear p2
  try clear c3
  try clear c3b0
  try clear c3b1
  try clear c4
  try clear c4b0
  try clear c4b1
  try clear c5
  try clear c5b0
  try clear c5b1
  try clear c6
  try clear c6b0
  try clear c6b1
  try clear p7
  try clear q7
  try clear hx7
  try clear qi7
  try clear p7
  try clear q7
  obtain ⟨kq, x21_1, rfl, HA, HJ1, ⟨mc1, rfl⟩⟩ := hcut
  cases kq with
  | zero => exact absurd HA.out (by simp [impl_isNumber.j0])
  | succ kj1 =>
   have H := HA.out
   clear HA
   simp only [impl_isNumber.j0] at H
   by_cases c8 : x21_1 = true
   ·subst c8
    have H1 : (some false) = some r := by rw [if_pos rfl] at H; exact H
    clear H
    have H := H1
    clear H1
    obtain rfl := Option.some.inj H
    go_wp2
    go_ret
    exact ⟨by first | rfl | (simp; done) | (simp [*]; done), by repeat (first | exact Drawn0.refl _ | apply Drawn0.step)⟩
   ·replace c8 := Bool.eq_false_iff.mpr c8
    subst c8
    have H1 : (impl_isNumber.l0 kj1 a0 0 (a0.size : Int) 0) = some r := by rw [if_neg (show ¬ (false = true) by decide)] at H; exact H
    clear H
    have H := H1
    clear H1
    have H' := Aside0.mk H
    clear H
    go_wp2
    go_loopg [3, 24] kj1 (fun kq v3 v24 w' => ∃ (x3_2 : Int) (x24_2 : Int), v3 = .int .i64 x3_2 ∧ v24 = .int .i64 x24_2 ∧ Aside0 (impl_isNumber.l0 kq a0 x3_2 (a0.size : Int) x24_2 = some r) ∧ Aside0 (kq ≤ kj1) ∧ Drawn0 w w')
    case atStart => exact ⟨(0), (0), (by first | rfl | (simp; done) | (simp [*]; done)), (by first | rfl | (simp; done) | (simp [*]; done)), H', ⟨Nat.le_refl _⟩, by repeat (first | exact Drawn0.refl _ | apply Drawn0.step)⟩
    case round =>
     clear H'
     try clear c1
     try clear p2
     try clear c3
     try clear c3b0
     try clear c3b1
     try clear c4
     try clear c4b0
     try clear c4b1
     try clear c5
     try clear c5b0
     try clear c5b1
     try clear c6
     try clear c6b0
     try clear c6b1
     try clear p7
     try clear q7
     try clear hx7
     try clear qi7
     try clear c8
     try clear p2
     try clear p7
     try clear q7
     obtain ⟨x3_2, x24_2, rfl, rfl, HA, HK2, ⟨m2, rfl⟩⟩ := hrel
     cases gk with
     | zero => exact absurd HA.out (by simp [impl_isNumber.l0])
     | succ k2 =>
      have H := HA.out
      clear HA
      simp only [impl_isNumber.l0] at H
      by_cases c9 : x24_2 < (a0.size : Int)
      ·rw [if_pos c9] at H
       have c9b0 : decide (x24_2 < (a0.size : Int)) = true := decide_eq_true c9
       clear c9
       by_cases c10 : 0 ≤ x24_2
       ·rw [if_pos c10] at H
        have c10b0 : decide (0 ≤ x24_2) = true := decide_eq_true c10
        clear c10
        by_cases c11 : x24_2 < (a0.size : Int)
        ·rw [if_pos c11] at H
         have c11b0 : decide (x24_2 < (a0.size : Int)) = true := decide_eq_true c11
         clear c11
         by_cases c13 : (bt a0 x24_2) < 48
         ·rw [if_pos c13] at H
          have c13b0 : decide ((bt a0 x24_2) < 48) = true := decide_eq_true c13
          clear c13
          obtain rfl := Option.some.inj H
          have p12 : 0 ≤ (x24_2 : Int) := of_decide_eq_true (by first | (with_reducible assumption) | assumption)
          have q12 : x24_2 < (a0.size : Int) := of_decide_eq_true (by first | (with_reducible assumption) | assumption)
          have hx12 := bt_at a0 x24_2
          replace p12 := eq_true p12
          replace q12 := eq_true q12
          go_wp2
          go_ret
          exact ⟨by first | rfl | (simp; done) | (simp [*]; done), by repeat (first | exact Drawn0.refl _ | apply Drawn0.step)⟩
         ·rw [if_neg c13] at H
          have c13b0 : decide ((bt a0 x24_2) < 48) = false := decide_eq_false c13
          clear c13
          by_cases c15 : (bt a0 x24_2) > 57
          ·rw [if_pos c15] at H
           have c15b0 : decide (57 < (bt a0 x24_2)) = true := decide_eq_true c15
           clear c15
           obtain rfl := Option.some.inj H
           have p12 : 0 ≤ (x24_2 : Int) := of_decide_eq_true (by first | (with_reducible assumption) | assumption)
           have q12 : x24_2 < (a0.size : Int) := of_decide_eq_true (by first | (with_reducible assumption) | assumption)
           have hx12 := bt_at a0 x24_2
           replace p12 := eq_true p12
           replace q12 := eq_true q12
           have p14 : 0 ≤ (x24_2 : Int) := of_decide_eq_true (by first | (with_reducible assumption) | assumption)
           have q14 : x24_2 < (a0.size : Int) := of_decide_eq_true (by first | (with_reducible assumption) | assumption)
           have hx14 := bt_at a0 x24_2
           replace p14 := eq_true p14
           replace q14 := eq_true q14
           go_wp2
           go_ret
           exact ⟨by first | rfl | (simp; done) | (simp [*]; done), by repeat (first | exact Drawn0.refl _ | apply Drawn0.step)⟩
          ·rw [if_neg c15] at H
           have c15b0 : decide (57 < (bt a0 x24_2)) = false := decide_eq_false c15
           clear c15
           have H' := Aside0.mk H
           clear H
           have p12 : 0 ≤ (x24_2 : Int) := of_decide_eq_true (by first | (with_reducible assumption) | assumption)
           have q12 : x24_2 < (a0.size : Int) := of_decide_eq_true (by first | (with_reducible assumption) | assumption)
           have hx12 := bt_at a0 x24_2
           replace p12 := eq_true p12
           replace q12 := eq_true q12
           have p14 : 0 ≤ (x24_2 : Int) := of_decide_eq_true (by first | (with_reducible assumption) | assumption)
           have q14 : x24_2 < (a0.size : Int) := of_decide_eq_true (by first | (with_reducible assumption) | assumption)
           have hx14 := bt_at a0 x24_2
           replace p14 := eq_true p14
           replace q14 := eq_true q14
           have p16 : 0 ≤ (x24_2 : Int) := of_decide_eq_true (by first | (with_reducible assumption) | assumption)
           have q16 : x24_2 < (a0.size : Int) := of_decide_eq_true (by first | (with_reducible assumption) | assumption)
           have hx16 := bt_at a0 x24_2
           replace p16 := eq_true p16
           replace q16 := eq_true q16
           go_wp2
           go_roundg k2
           case measure => have := HJ1.out; have := HK2.out; omega
           case rel => exact ⟨(wrap64 ((wrap64 (10 * x3_2)) + (((bt a0 x24_2) - 48) % 256))), (wrap64 (x24_2 + 1)), (by first | rfl | (simp; done) | (simp [*]; done)), (by first | rfl | (simp; done) | (simp [*]; done)), H', ⟨by have := HJ1.out; have := HK2.out; omega⟩, by repeat (first | exact Drawn0.refl _ | apply Drawn0.step)⟩
        ·rw [if_neg c11] at H
         exact absurd H (by simp)
       ·rw [if_neg c10] at H
        exact absurd H (by simp)
      ·rw [if_neg c9] at H
       have c9b0 : decide (x24_2 < (a0.size : Int)) = false := decide_eq_false c9
       clear c9
       obtain rfl := Option.some.inj H
       go_wp2
       go_ret
       exact ⟨by first | rfl | (simp; done) | (simp [*]; done), by repeat (first | exact Drawn0.refl _ | apply Drawn0.step)⟩
def stringslite_HasPrefix.f (a0 : ByteArray) (a1 : ByteArray) : Option (Bool) := if (a0.size : Int) ≥ (a1.size : Int) then (if 0 ≤ (a1.size : Int) then (if (a1.size : Int) ≤ (a0.size : Int) then (some ((a0.extract 0 ((a1.size : Int) : Int).toNat).toList == a1.toList)) else (none)) else (none)) else (some false)
set_option maxHeartbeats 8000000 in
set_option maxRecDepth 100000 in
theorem stringslite_HasPrefix.calls (a0 : ByteArray) (a1 : ByteArray) (r : Bool) (w : World) (h : stringslite_HasPrefix.f a0 a1 = some r) :
  Calls Tryd.prog 150 #[.string a0, .string a1] w fun e w' => e = .returned (.bool r) ∧ Drawn0 w w' := by
 have H : (if (a0.size : Int) ≥ (a1.size : Int) then (if 0 ≤ (a1.size : Int) then (if (a1.size : Int) ≤ (a0.size : Int) then (some ((a0.extract 0 ((a1.size : Int) : Int).toNat).toList == a1.toList)) else (none)) else (none)) else (some false)) = some r := h
 clear h
 by_cases c3 : (a0.size : Int) ≥ (a1.size : Int)
 ·rw [if_pos c3] at H
  have c3b0 : decide ((a1.size : Int) ≤ (a0.size : Int)) = true := decide_eq_true c3
  have c3b1 : decide (a1.size ≤ a0.size) = true := decide_eq_true (Int.ofNat_le.mp c3)
  clear c3
  by_cases c4 : 0 ≤ (a1.size : Int)
  ·rw [if_pos c4] at H
   have c4b0 := eq_true c4
   have c4b1 : decide (0 ≤ (a1.size : Int)) = true := decide_eq_true c4
   clear c4
   by_cases c5 : (a1.size : Int) ≤ (a0.size : Int)
   ·rw [if_pos c5] at H
    have c5b0 := eq_true c5
    have c5b1 : decide ((a1.size : Int) ≤ (a0.size : Int)) = true := decide_eq_true c5
    clear c5
    obtain rfl := Option.some.inj H
    go_enter Tryd.func150, Tryd.ntmps150
    go_wp2
    go_ret
    exact ⟨by first | rfl | (simp; done) | (simp [*]; done), by repeat (first | exact Drawn0.refl _ | apply Drawn0.step)⟩
   ·rw [if_neg c5] at H
    exact absurd H (by simp)
  ·rw [if_neg c4] at H
   exact absurd H (by simp)
 ·rw [if_neg c3] at H
  have c3b0 : decide ((a1.size : Int) ≤ (a0.size : Int)) = false := decide_eq_false c3
  have c3b1 : decide (a1.size ≤ a0.size) = false := decide_eq_false (fun h => c3 (Int.ofNat_le.mpr h))
  clear c3
  obtain rfl := Option.some.inj H
  go_enter Tryd.func150, Tryd.ntmps150
  go_wp2
  go_ret
  exact ⟨by first | rfl | (simp; done) | (simp [*]; done), by repeat (first | exact Drawn0.refl _ | apply Drawn0.step)⟩
def stringslite_CutPrefix.f (a0 : ByteArray) (a1 : ByteArray) : Option (ByteArray × Bool) := (stringslite_HasPrefix.f a0 a1).bind fun t238 => (if t238 = true then (if 0 ≤ (a1.size : Int) then (if (a1.size : Int) ≤ (a0.size : Int) then (some (a0.extract ((a1.size : Int) : Int).toNat a0.size, true)) else (none)) else (none)) else (some (a0, false)))
set_option maxHeartbeats 8000000 in
set_option maxRecDepth 100000 in
theorem stringslite_CutPrefix.calls (a0 : ByteArray) (a1 : ByteArray) (r1 : ByteArray) (r2 : Bool) (w : World) (h : stringslite_CutPrefix.f a0 a1 = some (r1, r2)) :
  Calls Tryd.prog 135 #[.string a0, .string a1] w fun e w' => e = .returned (.tuple #[.string r1, .bool r2]) ∧ Drawn0 w w' := by
 have H : ((stringslite_HasPrefix.f a0 a1).bind fun t238 => (if t238 = true then (if 0 ≤ (a1.size : Int) then (if (a1.size : Int) ≤ (a0.size : Int) then (some (a0.extract ((a1.size : Int) : Int).toNat a0.size, true)) else (none)) else (none)) else (some (a0, false)))) = some (r1, r2) := h
 clear h
 replace H := Option.bind_eq_some_iff.mp H
 obtain ⟨t238, A30, H⟩ := H
 replace H : (if t238 = true then (if 0 ≤ (a1.size : Int) then (if (a1.size : Int) ≤ (a0.size : Int) then (some (a0.extract ((a1.size : Int) : Int).toNat a0.size, true)) else (none)) else (none)) else (some (a0, false))) = some (r1, r2) := H
 have A3 := Aside0.mk A30
 clear A30
 by_cases c4 : t238 = true
 ·subst c4
  have H1 : (if 0 ≤ (a1.size : Int) then (if (a1.size : Int) ≤ (a0.size : Int) then (some (a0.extract ((a1.size : Int) : Int).toNat a0.size, true)) else (none)) else (none)) = some (r1, r2) := by rw [if_pos rfl] at H; exact H
  clear H
  have H := H1
  clear H1
  by_cases c5 : 0 ≤ (a1.size : Int)
  ·rw [if_pos c5] at H
   have c5b0 := eq_true c5
   have c5b1 : decide (0 ≤ (a1.size : Int)) = true := decide_eq_true c5
   clear c5
   by_cases c6 : (a1.size : Int) ≤ (a0.size : Int)
   ·rw [if_pos c6] at H
    have c6b0 := eq_true c6
    have c6b1 : decide ((a1.size : Int) ≤ (a0.size : Int)) = true := decide_eq_true c6
    clear c6
    simp only [Option.some.injEq, Prod.mk.injEq] at H
    obtain ⟨rfl, rfl⟩ := H
    go_enter Tryd.func135, Tryd.ntmps135
    go_wp2_with (first | ((with_reducible refine gate_callee (f := 150) rfl ?_); refine goesL_ (some 8) rfl rfl Tryd.func150 (by kernel_rfl) rfl #[.string a0, .string a1] rfl (by (try simp only [List.map_toArray, List.map_cons, List.map_nil]); first | done | rfl | (simp only [List.length_drop, List.length_take]; rfl)) ?_; (with_reducible refine (stringslite_HasPrefix.calls a0 a1 true _ A3.out).mono ?_); rintro e w' ⟨rfl, ⟨nd, rfl⟩⟩; refine ⟨_, rfl, ?_⟩))
    go_ret2
    exact ⟨by first | rfl | (simp; done) | (simp [*]; done), by repeat (first | exact Drawn0.refl _ | apply Drawn0.step)⟩
   ·rw [if_neg c6] at H
    exact absurd H (by simp)
  ·rw [if_neg c5] at H
   exact absurd H (by simp)
 ·replace c4 := Bool.eq_false_iff.mpr c4
  subst c4
  have H1 : (some (a0, false)) = some (r1, r2) := by rw [if_neg (show ¬ (false = true) by decide)] at H; exact H
  clear H
  have H := H1
  clear H1
  simp only [Option.some.injEq, Prod.mk.injEq] at H
  obtain ⟨rfl, rfl⟩ := H
  go_enter Tryd.func135, Tryd.ntmps135
  go_wp2_with (first | ((with_reducible refine gate_callee (f := 150) rfl ?_); refine goesL_ (some 8) rfl rfl Tryd.func150 (by kernel_rfl) rfl #[.string a0, .string a1] rfl (by (try simp only [List.map_toArray, List.map_cons, List.map_nil]); first | done | rfl | (simp only [List.length_drop, List.length_take]; rfl)) ?_; (with_reducible refine (stringslite_HasPrefix.calls a0 a1 false _ A3.out).mono ?_); rintro e w' ⟨rfl, ⟨nd, rfl⟩⟩; refine ⟨_, rfl, ?_⟩))
  go_ret2
  exact ⟨by first | rfl | (simp; done) | (simp [*]; done), by repeat (first | exact Drawn0.refl _ | apply Drawn0.step)⟩
def strings_CutPrefix.f (a0 : ByteArray) (a1 : ByteArray) : Option (ByteArray × Bool) := (stringslite_CutPrefix.f a0 a1).bind fun bt239 => (some (bt239.1, bt239.2))
set_option maxHeartbeats 8000000 in
set_option maxRecDepth 100000 in
theorem strings_CutPrefix.calls (a0 : ByteArray) (a1 : ByteArray) (r1 : ByteArray) (r2 : Bool) (w : World) (h : strings_CutPrefix.f a0 a1 = some (r1, r2)) :
  Calls Tryd.prog 108 #[.string a0, .string a1] w fun e w' => e = .returned (.tuple #[.string r1, .bool r2]) ∧ Drawn0 w w' := by
 have H : ((stringslite_CutPrefix.f a0 a1).bind fun bt239 => (some (bt239.1, bt239.2))) = some (r1, r2) := h
 clear h
 replace H := Option.bind_eq_some_iff.mp H
 obtain ⟨⟨t239, t240⟩, A30, H⟩ := H
 replace H : (some (t239, t240)) = some (r1, r2) := H
 have A3 := Aside0.mk A30
 clear A30
 simp only [Option.some.injEq, Prod.mk.injEq] at H
 obtain ⟨rfl, rfl⟩ := H
 go_enter Tryd.func108, Tryd.ntmps108
 go_wp2_with (first | ((with_reducible refine gate_callee (f := 135) rfl ?_); refine goesL_ (some 8) rfl rfl Tryd.func135 (by kernel_rfl) rfl #[.string a0, .string a1] rfl (by (try simp only [List.map_toArray, List.map_cons, List.map_nil]); first | done | rfl | (simp only [List.length_drop, List.length_take]; rfl)) ?_; (with_reducible refine (stringslite_CutPrefix.calls a0 a1 t239 t240 _ A3.out).mono ?_); rintro e w' ⟨rfl, ⟨nd, rfl⟩⟩; refine ⟨_, rfl, ?_⟩))
 go_ret2
 exact ⟨by first | rfl | (simp; done) | (simp [*]; done), by repeat (first | exact Drawn0.refl _ | apply Drawn0.step)⟩
def impl_isName.l0 : Nat → ByteArray → Int → Int → Option (Bool)
 | 0, _, _, _ => none
 | k + 1, x0, x6, x7 => if x7 < x6 then (if 0 ≤ x7 then (if x7 < (x0.size : Int) then (if (bt x0 x7) ≥ 97 then (if (bt x0 x7) ≤ 122 then (impl_isName.l0 k x0 x6 (wrap64 (x7 + 1))) else (if (bt x0 x7) ≥ 48 then (if (bt x0 x7) ≤ 57 then (impl_isName.l0 k x0 x6 (wrap64 (x7 + 1))) else (if ((bt x0 x7) = 45) then (impl_isName.l0 k x0 x6 (wrap64 (x7 + 1))) else (some false))) else (if ((bt x0 x7) = 45) then (impl_isName.l0 k x0 x6 (wrap64 (x7 + 1))) else (some false)))) else (if (bt x0 x7) ≥ 48 then (if (bt x0 x7) ≤ 57 then (impl_isName.l0 k x0 x6 (wrap64 (x7 + 1))) else (if ((bt x0 x7) = 45) then (impl_isName.l0 k x0 x6 (wrap64 (x7 + 1))) else (some false))) else (if ((bt x0 x7) = 45) then (impl_isName.l0 k x0 x6 (wrap64 (x7 + 1))) else (some false)))) else (none)) else (none)) else (if x0.toList = ([] : List UInt8) then (some false) else (some (decide ((x0.size : Int) ≤ 20))))
def impl_isName.f (k : Nat) (a0 : ByteArray) : Option (Bool) := impl_isName.l0 k a0 (a0.size : Int) 0
set_option maxHeartbeats 8000000 in
set_option maxRecDepth 100000 in
theorem impl_isName.calls (k : Nat) (a0 : ByteArray) (r : Bool) (w : World) (h : impl_isName.f k a0 = some r) :
  Calls Tryd.prog 109 #[.string a0] w fun e w' => e = .returned (.bool r) ∧ Drawn0 w w' := by
 have H : (impl_isName.l0 k a0 (a0.size : Int) 0) = some r := h
 clear h
 have H' := Aside0.mk H
 clear H
 go_enter Tryd.func109, Tryd.ntmps109
 go_wp2
 go_loopg [7] k (fun kq v7 w' => ∃ (x7_1 : Int), v7 = .int .i64 x7_1 ∧ Aside0 (impl_isName.l0 kq a0 (a0.size : Int) x7_1 = some r) ∧ Aside0 (kq ≤ k) ∧ Drawn0 w w')
 case atStart => exact ⟨(0), (by first | rfl | (simp; done) | (simp [*]; done)), H', ⟨Nat.le_refl _⟩, by repeat (first | exact Drawn0.refl _ | apply Drawn0.step)⟩
 case round =>
  clear H'
  try clear c1
  obtain ⟨x7_1, rfl, HA, HK1, ⟨m1, rfl⟩⟩ := hrel
  cases gk with
  | zero => exact absurd HA.out (by simp [impl_isName.l0])
  | succ k1 =>
   have H := HA.out
   clear HA
   simp only [impl_isName.l0] at H
   by_cases c2 : x7_1 < (a0.size : Int)
   ·rw [if_pos c2] at H
    have c2b0 : decide (x7_1 < (a0.size : Int)) = true := decide_eq_true c2
    clear c2
    by_cases c3 : 0 ≤ x7_1
    ·rw [if_pos c3] at H
     have c3b0 : decide (0 ≤ x7_1) = true := decide_eq_true c3
     clear c3
     by_cases c4 : x7_1 < (a0.size : Int)
     ·rw [if_pos c4] at H
      have c4b0 : decide (x7_1 < (a0.size : Int)) = true := decide_eq_true c4
      clear c4
      by_cases c6 : (bt a0 x7_1) ≥ 97
      ·rw [if_pos c6] at H
       have c6b0 : decide (97 ≤ (bt a0 x7_1)) = true := decide_eq_true c6
       clear c6
       by_cases c7 : (bt a0 x7_1) ≤ 122
       ·rw [if_pos c7] at H
        have c7b0 : decide ((bt a0 x7_1) ≤ 122) = true := decide_eq_true c7
        clear c7
        have H' := Aside0.mk H
        clear H
        have p5 : 0 ≤ (x7_1 : Int) := of_decide_eq_true (by first | (with_reducible assumption) | assumption)
        have q5 : x7_1 < (a0.size : Int) := of_decide_eq_true (by first | (with_reducible assumption) | assumption)
        have hx5 := bt_at a0 x7_1
        replace p5 := eq_true p5
        replace q5 := eq_true q5
        go_wp2
        go_roundg k1
        case measure => have := HK1.out; omega
        case rel => exact ⟨(wrap64 (x7_1 + 1)), (by first | rfl | (simp; done) | (simp [*]; done)), H', ⟨by have := HK1.out; omega⟩, by repeat (first | exact Drawn0.refl _ | apply Drawn0.step)⟩
       ·rw [if_neg c7] at H
        have c7b0 : decide ((bt a0 x7_1) ≤ 122) = false := decide_eq_false c7
        clear c7
        by_cases c8 : (bt a0 x7_1) ≥ 48
        ·rw [if_pos c8] at H
         have c8b0 : decide (48 ≤ (bt a0 x7_1)) = true := decide_eq_true c8
         clear c8
         by_cases c9 : (bt a0 x7_1) ≤ 57
         ·rw [if_pos c9] at H
          have c9b0 : decide ((bt a0 x7_1) ≤ 57) = true := decide_eq_true c9
          clear c9
          have H' := Aside0.mk H
          clear H
          have p5 : 0 ≤ (x7_1 : Int) := of_decide_eq_true (by first | (with_reducible assumption) | assumption)
          have q5 : x7_1 < (a0.size : Int) := of_decide_eq_true (by first | (with_reducible assumption) | assumption)
          have hx5 := bt_at a0 x7_1
          replace p5 := eq_true p5
          replace q5 := eq_true q5
          go_wp2
          go_roundg k1
          case measure => have := HK1.out; omega
          case rel => exact ⟨(wrap64 (x7_1 + 1)), (by first | rfl | (simp; done) | (simp [*]; done)), H', ⟨by have := HK1.out; omega⟩, by repeat (first | exact Drawn0.refl _ | apply Drawn0.step)⟩
         ·rw [if_neg c9] at H
          have c9b0 : decide ((bt a0 x7_1) ≤ 57) = false := decide_eq_false c9
          clear c9
          by_cases c10 : ((bt a0 x7_1) = 45)
          ·rw [if_pos c10] at H
           have c10b0 : ((bt a0 x7_1) == 45) = true := beq_iff_eq.mpr c10
           have c10b1 : ((bt a0 x7_1) != 45) = false := bne_eq_false_iff_eq.mpr c10
           clear c10
           have H' := Aside0.mk H
           clear H
           have p5 : 0 ≤ (x7_1 : Int) := of_decide_eq_true (by first | (with_reducible assumption) | assumption)
           have q5 : x7_1 < (a0.size : Int) := of_decide_eq_true (by first | (with_reducible assumption) | assumption)
           have hx5 := bt_at a0 x7_1
           replace p5 := eq_true p5
           replace q5 := eq_true q5
           go_wp2
           go_roundg k1
           case measure => have := HK1.out; omega
           case rel => exact ⟨(wrap64 (x7_1 + 1)), (by first | rfl | (simp; done) | (simp [*]; done)), H', ⟨by have := HK1.out; omega⟩, by repeat (first | exact Drawn0.refl _ | apply Drawn0.step)⟩
          ·rw [if_neg c10] at H
           have c10b0 : ((bt a0 x7_1) == 45) = false := beq_eq_false_iff_ne.mpr c10
           have c10b1 : ((bt a0 x7_1) != 45) = true := bne_iff_ne.mpr c10
           obtain rfl := Option.some.inj H
           have p5 : 0 ≤ (x7_1 : Int) := of_decide_eq_true (by first | (with_reducible assumption) | assumption)
           have q5 : x7_1 < (a0.size : Int) := of_decide_eq_true (by first | (with_reducible assumption) | assumption)
           have hx5 := bt_at a0 x7_1
           replace p5 := eq_true p5
           replace q5 := eq_true q5
           go_wp2
           go_ret
           exact ⟨by first | rfl | (simp; done) | (simp [*]; done), by repeat (first | exact Drawn0.refl _ | apply Drawn0.step)⟩
        ·rw [if_neg c8] at H
         have c8b0 : decide (48 ≤ (bt a0 x7_1)) = false := decide_eq_false c8
         clear c8
         by_cases c11 : ((bt a0 x7_1) = 45)
         ·rw [if_pos c11] at H
          have c11b0 : ((bt a0 x7_1) == 45) = true := beq_iff_eq.mpr c11
          have c11b1 : ((bt a0 x7_1) != 45) = false := bne_eq_false_iff_eq.mpr c11
          clear c11
          have H' := Aside0.mk H
          clear H
          have p5 : 0 ≤ (x7_1 : Int) := of_decide_eq_true (by first | (with_reducible assumption) | assumption)
          have q5 : x7_1 < (a0.size : Int) := of_decide_eq_true (by first | (with_reducible assumption) | assumption)
          have hx5 := bt_at a0 x7_1
          replace p5 := eq_true p5
          replace q5 := eq_true q5
          go_wp2
          go_roundg k1
          case measure => have := HK1.out; omega
          case rel => exact ⟨(wrap64 (x7_1 + 1)), (by first | rfl | (simp; done) | (simp [*]; done)), H', ⟨by have := HK1.out; omega⟩, by repeat (first | exact Drawn0.refl _ | apply Drawn0.step)⟩
         ·rw [if_neg c11] at H
          have c11b0 : ((bt a0 x7_1) == 45) = false := beq_eq_false_iff_ne.mpr c11
          have c11b1 : ((bt a0 x7_1) != 45) = true := bne_iff_ne.mpr c11
          obtain rfl := Option.some.inj H
          have p5 : 0 ≤ (x7_1 : Int) := of_decide_eq_true (by first | (with_reducible assumption) | assumption)
          have q5 : x7_1 < (a0.size : Int) := of_decide_eq_true (by first | (with_reducible assumption) | assumption)
          have hx5 := bt_at a0 x7_1
          replace p5 := eq_true p5
          replace q5 := eq_true q5
          go_wp2
          go_ret
          exact ⟨by first | rfl | (simp; done) | (simp [*]; done), by repeat (first | exact Drawn0.refl _ | apply Drawn0.step)⟩
      ·rw [if_neg c6] at H
       have c6b0 : decide (97 ≤ (bt a0 x7_1)) = false := decide_eq_false c6
       clear c6
       by_cases c12 : (bt a0 x7_1) ≥ 48
       ·rw [if_pos c12] at H
        have c12b0 : decide (48 ≤ (bt a0 x7_1)) = true := decide_eq_true c12
        clear c12
        by_cases c13 : (bt a0 x7_1) ≤ 57
        ·rw [if_pos c13] at H
         have c13b0 : decide ((bt a0 x7_1) ≤ 57) = true := decide_eq_true c13
         clear c13
         have H' := Aside0.mk H
         clear H
         have p5 : 0 ≤ (x7_1 : Int) := of_decide_eq_true (by first | (with_reducible assumption) | assumption)
         have q5 : x7_1 < (a0.size : Int) := of_decide_eq_true (by first | (with_reducible assumption) | assumption)
         have hx5 := bt_at a0 x7_1
         replace p5 := eq_true p5
         replace q5 := eq_true q5
         go_wp2
         go_roundg k1
         case measure => have := HK1.out; omega
         case rel => exact ⟨(wrap64 (x7_1 + 1)), (by first | rfl | (simp; done) | (simp [*]; done)), H', ⟨by have := HK1.out; omega⟩, by repeat (first | exact Drawn0.refl _ | apply Drawn0.step)⟩
        ·rw [if_neg c13] at H
         have c13b0 : decide ((bt a0 x7_1) ≤ 57) = false := decide_eq_false c13
         clear c13
         by_cases c14 : ((bt a0 x7_1) = 45)
         ·rw [if_pos c14] at H
          have c14b0 : ((bt a0 x7_1) == 45) = true := beq_iff_eq.mpr c14
          have c14b1 : ((bt a0 x7_1) != 45) = false := bne_eq_false_iff_eq.mpr c14
          clear c14
          have H' := Aside0.mk H
          clear H
          have p5 : 0 ≤ (x7_1 : Int) := of_decide_eq_true (by first | (with_reducible assumption) | assumption)
          have q5 : x7_1 < (a0.size : Int) := of_decide_eq_true (by first | (with_reducible assumption) | assumption)
          have hx5 := bt_at a0 x7_1
          replace p5 := eq_true p5
          replace q5 := eq_true q5
          go_wp2
          go_roundg k1
          case measure => have := HK1.out; omega
          case rel => exact ⟨(wrap64 (x7_1 + 1)), (by first | rfl | (simp; done) | (simp [*]; done)), H', ⟨by have := HK1.out; omega⟩, by repeat (first | exact Drawn0.refl _ | apply Drawn0.step)⟩
         ·rw [if_neg c14] at H
          have c14b0 : ((bt a0 x7_1) == 45) = false := beq_eq_false_iff_ne.mpr c14
          have c14b1 : ((bt a0 x7_1) != 45) = true := bne_iff_ne.mpr c14
          obtain rfl := Option.some.inj H
          have p5 : 0 ≤ (x7_1 : Int) := of_decide_eq_true (by first | (with_reducible assumption) | assumption)
          have q5 : x7_1 < (a0.size : Int) := of_decide_eq_true (by first | (with_reducible assumption) | assumption)
          have hx5 := bt_at a0 x7_1
          replace p5 := eq_true p5
          replace q5 := eq_true q5
          go_wp2
          go_ret
          exact ⟨by first | rfl | (simp; done) | (simp [*]; done), by repeat (first | exact Drawn0.refl _ | apply Drawn0.step)⟩
       ·rw [if_neg c12] at H
        have c12b0 : decide (48 ≤ (bt a0 x7_1)) = false := decide_eq_false c12
        clear c12
        by_cases c15 : ((bt a0 x7_1) = 45)
        ·rw [if_pos c15] at H
         have c15b0 : ((bt a0 x7_1) == 45) = true := beq_iff_eq.mpr c15
         have c15b1 : ((bt a0 x7_1) != 45) = false := bne_eq_false_iff_eq.mpr c15
         clear c15
         have H' := Aside0.mk H
         clear H
         have p5 : 0 ≤ (x7_1 : Int) := of_decide_eq_true (by first | (with_reducible assumption) | assumption)
         have q5 : x7_1 < (a0.size : Int) := of_decide_eq_true (by first | (with_reducible assumption) | assumption)
         have hx5 := bt_at a0 x7_1
         replace p5 := eq_true p5
         replace q5 := eq_true q5
         go_wp2
         go_roundg k1
         case measure => have := HK1.out; omega
         case rel => exact ⟨(wrap64 (x7_1 + 1)), (by first | rfl | (simp; done) | (simp [*]; done)), H', ⟨by have := HK1.out; omega⟩, by repeat (first | exact Drawn0.refl _ | apply Drawn0.step)⟩
        ·rw [if_neg c15] at H
         have c15b0 : ((bt a0 x7_1) == 45) = false := beq_eq_false_iff_ne.mpr c15
         have c15b1 : ((bt a0 x7_1) != 45) = true := bne_iff_ne.mpr c15
         obtain rfl := Option.some.inj H
         have p5 : 0 ≤ (x7_1 : Int) := of_decide_eq_true (by first | (with_reducible assumption) | assumption)
         have q5 : x7_1 < (a0.size : Int) := of_decide_eq_true (by first | (with_reducible assumption) | assumption)
         have hx5 := bt_at a0 x7_1
         replace p5 := eq_true p5
         replace q5 := eq_true q5
         go_wp2
         go_ret
         exact ⟨by first | rfl | (simp; done) | (simp [*]; done), by repeat (first | exact Drawn0.refl _ | apply Drawn0.step)⟩
     ·rw [if_neg c4] at H
      exact absurd H (by simp)
    ·rw [if_neg c3] at H
     exact absurd H (by simp)
   ·rw [if_neg c2] at H
    have c2b0 : decide (x7_1 < (a0.size : Int)) = false := decide_eq_false c2
    clear c2
    by_cases c16 : a0.toList = ([] : List UInt8)
    ·rw [if_pos c16] at H
     have c16b0 : (a0.toList == ([] : List UInt8)) = true := beq_iff_eq.mpr c16
     have c16b1 : (a0.toList != ([] : List UInt8)) = false := bne_eq_false_iff_eq.mpr c16
     clear c16
     obtain rfl := Option.some.inj H
     go_wp2
     go_ret
     exact ⟨by first | rfl | (simp; done) | (simp [*]; done), by repeat (first | exact Drawn0.refl _ | apply Drawn0.step)⟩
    ·rw [if_neg c16] at H
     have c16b0 : (a0.toList == ([] : List UInt8)) = false := beq_eq_false_iff_ne.mpr c16
     have c16b1 : (a0.toList != ([] : List UInt8)) = true := bne_iff_ne.mpr c16
     obtain rfl := Option.some.inj H
     go_wp2
     go_ret
     exact ⟨by first | rfl | (simp; done) | (simp [*]; done), by repeat (first | exact Drawn0.refl _ | apply Drawn0.step)⟩
def impl_isType.f (k : Nat) (a0 : Int) (a1 : ByteArray) : Option (Bool) := if a0 = 1 then ((impl_isNumber.f k a1).bind fun t241 => (some t241)) else (if a0 = 2 then ((strings_CutPrefix.f a1 (⟨#[45]⟩ : ByteArray)).bind fun bt242 => ((impl_isNumber.f k bt242.1).bind fun t244 => (if t244 = true then (if bt242.2 = true then (some (!(bt242.1.toList == ([48] : List UInt8)))) else (some (!false))) else (some false)))) else (if a0 = 3 then ((impl_isName.f k a1).bind fun t245 => (some t245)) else (if a0 = 4 then (some (decide ((a1.size : Int) ≤ 200))) else (if a0 = 5 then (if a1.toList = ([121, 101, 115] : List UInt8) then (some true) else (some (a1.toList == ([110, 111] : List UInt8)))) else (if a1.toList = ([110, 111, 110, 101] : List UInt8) then (some true) else (if a1.toList = ([98, 101, 114, 116, 104] : List UInt8) then (some true) else (some (a1.toList == ([122, 111, 110, 101] : List UInt8)))))))))
set_option maxHeartbeats 8000000 in
set_option maxRecDepth 100000 in
theorem impl_isType.calls (k : Nat) (a0 : Int) (a1 : ByteArray) (r : Bool) (w : World) (h : impl_isType.f k a0 a1 = some r) :
  Calls Tryd.prog 65 #[.int .i64 a0, .string a1] w fun e w' => e = .returned (.bool r) ∧ Drawn0 w w' := by
 have H : (if a0 = 1 then ((impl_isNumber.f k a1).bind fun t241 => (some t241)) else (if a0 = 2 then ((strings_CutPrefix.f a1 (⟨#[45]⟩ : ByteArray)).bind fun bt242 => ((impl_isNumber.f k bt242.1).bind fun t244 => (if t244 = true then (if bt242.2 = true then (some (!(bt242.1.toList == ([48] : List UInt8)))) else (some (!false))) else (some false)))) else (if a0 = 3 then ((impl_isName.f k a1).bind fun t245 => (some t245)) else (if a0 = 4 then (some (decide ((a1.size : Int) ≤ 200))) else (if a0 = 5 then (if a1.toList = ([121, 101, 115] : List UInt8) then (some true) else (some (a1.toList == ([110, 111] : List UInt8)))) else (if a1.toList = ([110, 111, 110, 101] : List UInt8) then (some true) else (if a1.toList = ([98, 101, 114, 116, 104] : List UInt8) then (some true) else (some (a1.toList == ([122, 111, 110, 101] : List UInt8)))))))))) = some r := h
 clear h
 by_cases c3 : a0 = 1
 ·rw [if_pos c3] at H
  have c3b0 : (a0 == 1) = true := beq_iff_eq.mpr c3
  have c3b1 : (a0 != 1) = false := bne_eq_false_iff_eq.mpr c3
  clear c3
  replace H := Option.bind_eq_some_iff.mp H
  obtain ⟨t241, A40, H⟩ := H
  replace H : (some t241) = some r := H
  have A4 := Aside0.mk A40
  clear A40
  obtain rfl := Option.some.inj H
  go_enter Tryd.func65, Tryd.ntmps65
  go_wp2_with (first | ((with_reducible refine gate_callee (f := 107) rfl ?_); refine goesL_ (some 11) rfl rfl Tryd.func107 (by kernel_rfl) rfl #[.string a1] rfl (by (try simp only [List.map_toArray, List.map_cons, List.map_nil]); first | done | rfl | (simp only [List.length_drop, List.length_take]; rfl)) ?_; (with_reducible refine (impl_isNumber.calls k a1 t241 _ A4.out).mono ?_); rintro e w' ⟨rfl, ⟨nd, rfl⟩⟩; refine ⟨_, rfl, ?_⟩))
  go_ret
  exact ⟨by first | rfl | (simp; done) | (simp [*]; done), by repeat (first | exact Drawn0.refl _ | apply Drawn0.step)⟩
 ·rw [if_neg c3] at H
  have c3b0 : (a0 == 1) = false := beq_eq_false_iff_ne.mpr c3
  have c3b1 : (a0 != 1) = true := bne_iff_ne.mpr c3
  by_cases c5 : a0 = 2
  ·rw [if_pos c5] at H
   have c5b0 : (a0 == 2) = true := beq_iff_eq.mpr c5
   have c5b1 : (a0 != 2) = false := bne_eq_false_iff_eq.mpr c5
   clear c5
   replace H := Option.bind_eq_some_iff.mp H
   obtain ⟨⟨t242, t243⟩, A60, H⟩ := H
   replace H : ((impl_isNumber.f k t242).bind fun t244 => (if t244 = true then (if t243 = true then (some (!(t242.toList == ([48] : List UInt8)))) else (some (!false))) else (some false))) = some r := H
   have A6 := Aside0.mk A60
   clear A60
   replace H := Option.bind_eq_some_iff.mp H
   obtain ⟨t244, A70, H⟩ := H
   replace H : (if t244 = true then (if t243 = true then (some (!(t242.toList == ([48] : List UInt8)))) else (some (!false))) else (some false)) = some r := H
   have A7 := Aside0.mk A70
   clear A70
   by_cases c8 : t244 = true
   ·subst c8
    have H1 : (if t243 = true then (some (!(t242.toList == ([48] : List UInt8)))) else (some (!false))) = some r := by rw [if_pos rfl] at H; exact H
    clear H
    have H := H1
    clear H1
    by_cases c9 : t243 = true
    ·subst c9
     have H1 : (some (!(t242.toList == ([48] : List UInt8)))) = some r := by rw [if_pos rfl] at H; exact H
     clear H
     have H := H1
     clear H1
     obtain rfl := Option.some.inj H
     go_enter Tryd.func65, Tryd.ntmps65
     go_wp2_with (first | ((with_reducible refine gate_callee (f := 108) rfl ?_); refine goesL_ (some 16) rfl rfl Tryd.func108 (by kernel_rfl) rfl #[.string a1, .string (⟨#[45]⟩ : ByteArray)] rfl (by (try simp only [List.map_toArray, List.map_cons, List.map_nil]); first | done | rfl | (simp only [List.length_drop, List.length_take]; rfl)) ?_; (with_reducible refine (strings_CutPrefix.calls a1 (⟨#[45]⟩ : ByteArray) t242 true _ A6.out).mono ?_); rintro e w' ⟨rfl, ⟨nd, rfl⟩⟩; refine ⟨_, rfl, ?_⟩) | ((with_reducible refine gate_callee (f := 107) rfl ?_); refine goesL_ (some 20) rfl rfl Tryd.func107 (by kernel_rfl) rfl #[.string t242] rfl (by (try simp only [List.map_toArray, List.map_cons, List.map_nil]); first | done | rfl | (simp only [List.length_drop, List.length_take]; rfl)) ?_; (with_reducible refine (impl_isNumber.calls k t242 true _ A7.out).mono ?_); rintro e w' ⟨rfl, ⟨nd, rfl⟩⟩; refine ⟨_, rfl, ?_⟩))
     go_ret
     exact ⟨by first | rfl | (simp; done) | (simp [*]; done), by repeat (first | exact Drawn0.refl _ | apply Drawn0.step)⟩
    ·replace c9 := Bool.eq_false_iff.mpr c9
     subst c9
     have H1 : (some (!false)) = some r := by rw [if_neg (show ¬ (false = true) by decide)] at H; exact H
     clear H
     have H := H1
     clear H1
     obtain rfl := Option.some.inj H
     go_enter Tryd.func65, Tryd.ntmps65
     go_wp2_with (first | ((with_reducible refine gate_callee (f := 108) rfl ?_); refine goesL_ (some 16) rfl rfl Tryd.func108 (by kernel_rfl) rfl #[.string a1, .string (⟨#[45]⟩ : ByteArray)] rfl (by (try simp only [List.map_toArray, List.map_cons, List.map_nil]); first | done | rfl | (simp only [List.length_drop, List.length_take]; rfl)) ?_; (with_reducible refine (strings_CutPrefix.calls a1 (⟨#[45]⟩ : ByteArray) t242 false _ A6.out).mono ?_); rintro e w' ⟨rfl, ⟨nd, rfl⟩⟩; refine ⟨_, rfl, ?_⟩) | ((with_reducible refine gate_callee (f := 107) rfl ?_); refine goesL_ (some 20) rfl rfl Tryd.func107 (by kernel_rfl) rfl #[.string t242] rfl (by (try simp only [List.map_toArray, List.map_cons, List.map_nil]); first | done | rfl | (simp only [List.length_drop, List.length_take]; rfl)) ?_; (with_reducible refine (impl_isNumber.calls k t242 true _ A7.out).mono ?_); rintro e w' ⟨rfl, ⟨nd, rfl⟩⟩; refine ⟨_, rfl, ?_⟩))
     go_ret
     exact ⟨by first | rfl | (simp; done) | (simp [*]; done), by repeat (first | exact Drawn0.refl _ | apply Drawn0.step)⟩
   ·replace c8 := Bool.eq_false_iff.mpr c8
    subst c8
    have H1 : (some false) = some r := by rw [if_neg (show ¬ (false = true) by decide)] at H; exact H
    clear H
    have H := H1
    clear H1
    obtain rfl := Option.some.inj H
    go_enter Tryd.func65, Tryd.ntmps65
    go_wp2_with (first | ((with_reducible refine gate_callee (f := 108) rfl ?_); refine goesL_ (some 16) rfl rfl Tryd.func108 (by kernel_rfl) rfl #[.string a1, .string (⟨#[45]⟩ : ByteArray)] rfl (by (try simp only [List.map_toArray, List.map_cons, List.map_nil]); first | done | rfl | (simp only [List.length_drop, List.length_take]; rfl)) ?_; (with_reducible refine (strings_CutPrefix.calls a1 (⟨#[45]⟩ : ByteArray) t242 t243 _ A6.out).mono ?_); rintro e w' ⟨rfl, ⟨nd, rfl⟩⟩; refine ⟨_, rfl, ?_⟩) | ((with_reducible refine gate_callee (f := 107) rfl ?_); refine goesL_ (some 20) rfl rfl Tryd.func107 (by kernel_rfl) rfl #[.string t242] rfl (by (try simp only [List.map_toArray, List.map_cons, List.map_nil]); first | done | rfl | (simp only [List.length_drop, List.length_take]; rfl)) ?_; (with_reducible refine (impl_isNumber.calls k t242 false _ A7.out).mono ?_); rintro e w' ⟨rfl, ⟨nd, rfl⟩⟩; refine ⟨_, rfl, ?_⟩))
    go_ret
    exact ⟨by first | rfl | (simp; done) | (simp [*]; done), by repeat (first | exact Drawn0.refl _ | apply Drawn0.step)⟩
  ·rw [if_neg c5] at H
   have c5b0 : (a0 == 2) = false := beq_eq_false_iff_ne.mpr c5
   have c5b1 : (a0 != 2) = true := bne_iff_ne.mpr c5
   by_cases c10 : a0 = 3
   ·rw [if_pos c10] at H
    have c10b0 : (a0 == 3) = true := beq_iff_eq.mpr c10
    have c10b1 : (a0 != 3) = false := bne_eq_false_iff_eq.mpr c10
    clear c10
    replace H := Option.bind_eq_some_iff.mp H
    obtain ⟨t245, A110, H⟩ := H
    replace H : (some t245) = some r := H
    have A11 := Aside0.mk A110
    clear A110
    obtain rfl := Option.some.inj H
    go_enter Tryd.func65, Tryd.ntmps65
    go_wp2_with (first | ((with_reducible refine gate_callee (f := 109) rfl ?_); refine goesL_ (some 32) rfl rfl Tryd.func109 (by kernel_rfl) rfl #[.string a1] rfl (by (try simp only [List.map_toArray, List.map_cons, List.map_nil]); first | done | rfl | (simp only [List.length_drop, List.length_take]; rfl)) ?_; (with_reducible refine (impl_isName.calls k a1 t245 _ A11.out).mono ?_); rintro e w' ⟨rfl, ⟨nd, rfl⟩⟩; refine ⟨_, rfl, ?_⟩))
    go_ret
    exact ⟨by first | rfl | (simp; done) | (simp [*]; done), by repeat (first | exact Drawn0.refl _ | apply Drawn0.step)⟩
   ·rw [if_neg c10] at H
    have c10b0 : (a0 == 3) = false := beq_eq_false_iff_ne.mpr c10
    have c10b1 : (a0 != 3) = true := bne_iff_ne.mpr c10
    by_cases c12 : a0 = 4
    ·rw [if_pos c12] at H
     have c12b0 : (a0 == 4) = true := beq_iff_eq.mpr c12
     have c12b1 : (a0 != 4) = false := bne_eq_false_iff_eq.mpr c12
     clear c12
     obtain rfl := Option.some.inj H
     go_enter Tryd.func65, Tryd.ntmps65
     go_wp2
     go_ret
     exact ⟨by first | rfl | (simp; done) | (simp [*]; done), by repeat (first | exact Drawn0.refl _ | apply Drawn0.step)⟩
    ·rw [if_neg c12] at H
     have c12b0 : (a0 == 4) = false := beq_eq_false_iff_ne.mpr c12
     have c12b1 : (a0 != 4) = true := bne_iff_ne.mpr c12
     by_cases c13 : a0 = 5
     ·rw [if_pos c13] at H
      have c13b0 : (a0 == 5) = true := beq_iff_eq.mpr c13
      have c13b1 : (a0 != 5) = false := bne_eq_false_iff_eq.mpr c13
      clear c13
      by_cases c14 : a1.toList = ([121, 101, 115] : List UInt8)
      ·rw [if_pos c14] at H
       have c14b0 : (a1.toList == ([121, 101, 115] : List UInt8)) = true := beq_iff_eq.mpr c14
       have c14b1 : (a1.toList != ([121, 101, 115] : List UInt8)) = false := bne_eq_false_iff_eq.mpr c14
       clear c14
       obtain rfl := Option.some.inj H
       go_enter Tryd.func65, Tryd.ntmps65
       go_wp2
       go_ret
       exact ⟨by first | rfl | (simp; done) | (simp [*]; done), by repeat (first | exact Drawn0.refl _ | apply Drawn0.step)⟩
      ·rw [if_neg c14] at H
       have c14b0 : (a1.toList == ([121, 101, 115] : List UInt8)) = false := beq_eq_false_iff_ne.mpr c14
       have c14b1 : (a1.toList != ([121, 101, 115] : List UInt8)) = true := bne_iff_ne.mpr c14
       obtain rfl := Option.some.inj H
       go_enter Tryd.func65, Tryd.ntmps65
       go_wp2
       go_ret
       exact ⟨by first | rfl | (simp; done) | (simp [*]; done), by repeat (first | exact Drawn0.refl _ | apply Drawn0.step)⟩
     ·rw [if_neg c13] at H
      have c13b0 : (a0 == 5) = false := beq_eq_false_iff_ne.mpr c13
      have c13b1 : (a0 != 5) = true := bne_iff_ne.mpr c13
      by_cases c15 : a1.toList = ([110, 111, 110, 101] : List UInt8)
      ·rw [if_pos c15] at H
       have c15b0 : (a1.toList == ([110, 111, 110, 101] : List UInt8)) = true := beq_iff_eq.mpr c15
       have c15b1 : (a1.toList != ([110, 111, 110, 101] : List UInt8)) = false := bne_eq_false_iff_eq.mpr c15
       clear c15
       obtain rfl := Option.some.inj H
       go_enter Tryd.func65, Tryd.ntmps65
       go_wp2
       go_ret
       exact ⟨by first | rfl | (simp; done) | (simp [*]; done), by repeat (first | exact Drawn0.refl _ | apply Drawn0.step)⟩
      ·rw [if_neg c15] at H
       have c15b0 : (a1.toList == ([110, 111, 110, 101] : List UInt8)) = false := beq_eq_false_iff_ne.mpr c15
       have c15b1 : (a1.toList != ([110, 111, 110, 101] : List UInt8)) = true := bne_iff_ne.mpr c15
       by_cases c16 : a1.toList = ([98, 101, 114, 116, 104] : List UInt8)
       ·rw [if_pos c16] at H
        have c16b0 : (a1.toList == ([98, 101, 114, 116, 104] : List UInt8)) = true := beq_iff_eq.mpr c16
        have c16b1 : (a1.toList != ([98, 101, 114, 116, 104] : List UInt8)) = false := bne_eq_false_iff_eq.mpr c16
        clear c16
        obtain rfl := Option.some.inj H
        go_enter Tryd.func65, Tryd.ntmps65
        go_wp2
        go_ret
        exact ⟨by first | rfl | (simp; done) | (simp [*]; done), by repeat (first | exact Drawn0.refl _ | apply Drawn0.step)⟩
       ·rw [if_neg c16] at H
        have c16b0 : (a1.toList == ([98, 101, 114, 116, 104] : List UInt8)) = false := beq_eq_false_iff_ne.mpr c16
        have c16b1 : (a1.toList != ([98, 101, 114, 116, 104] : List UInt8)) = true := bne_iff_ne.mpr c16
        obtain rfl := Option.some.inj H
        go_enter Tryd.func65, Tryd.ntmps65
        go_wp2
        go_ret
        exact ⟨by first | rfl | (simp; done) | (simp [*]; done), by repeat (first | exact Drawn0.refl _ | apply Drawn0.step)⟩
end Go.Proofs.YtmcdnpooclelgaaDoor.PAll
namespace Go.Proofs.YtmcdnpooclelgaaDoor.PAll
open Go.RowKit Go.Proofs.YtmcdnpooclelgaaDoorW.PrintWords
theorem Ev.unf {α : Type} {g : Nat → Option α} {r : α} (f : Nat → Option α) (h : ∀ k, g (k + 1) = f k) (e : Ev f r) : Ev g r := Ev.step h e
theorem w64 {i : Int} (h0 : -9223372036854775808 ≤ i) (h1 : i ≤ 9223372036854775807) : wrap64 i = i := by unfold wrap64; omega
def allFrom (p : Int → Bool) (s : ByteArray) : Nat → Nat → Bool
 | _, 0 => true
 | i, d + 1 => p (bt s i) && allFrom p s (i + 1) d
def nameB (c : Int) : Bool := decide ((97 ≤ c ∧ c ≤ 122) ∨ (48 ≤ c ∧ c ≤ 57) ∨ c = 45)
def nameOk (s : ByteArray) : Bool := decide (1 ≤ s.size) && (decide (s.size ≤ 20) && allFrom nameB s 0 s.size)
theorem l2Name_l0 (s : ByteArray) (hs : s.size ≤ 4611686018427387904) : ∀ (d i : Nat), i + d = s.size → Ev (fun k => spec_l2NameOk.l0 k s i) (allFrom nameB s i d)
 | 0, i, h => Ev.unf (fun _ => some true) (fun k => by simp only [spec_l2NameOk.l0]; rw [if_neg (by omega)]) (Ev.now _)
 | d + 1, i, h => by
  have ih := l2Name_l0 s hs d (i + 1) (by omega)
  have e : wrap64 ((i : Int) + 1) = ((i + 1 : Nat) : Int) := by rw [w64 (by omega) (by omega)]; rfl
  refine Ev.unf (fun k => if nameB (bt s i) = true then spec_l2NameOk.l0 k s ((i + 1 : Nat) : Int) else some false) (fun k => ?_) ?_
  ·simp only [spec_l2NameOk.l0]
   rw [if_pos (by omega), if_pos (by omega), e]
   unfold nameB
   generalize bt s i = c
   simp only [decide_eq_true_eq]
   repeat' split
   all_goals first | rfl | omega
  ·simp only [allFrom]
   cases nameB (bt s i)
   ·simp only [Bool.false_and, Bool.false_eq_true, if_false]; exact Ev.now _
   ·simp only [Bool.true_and, if_true]; exact ih
theorem ev_l2NameOk (s : ByteArray) : Ev (fun k => spec_l2NameOk.f k s) (nameOk s) := by
 unfold spec_l2NameOk.f spec_l1In.f nameOk
 by_cases h1 : 1 ≤ s.size
 ·by_cases h2 : s.size ≤ 20
  ·rw [if_pos (by omega)]
   simp only [Option.bind_some, show ((s.size : Int) ≤ 20) = True from eq_true (by omega), decide_true, if_true, h1, h2, Bool.true_and]
   exact l2Name_l0 s (by omega) s.size 0 (by omega)
  ·rw [if_pos (by omega)]
   simp only [Option.bind_some, show ((s.size : Int) ≤ 20) = False from eq_false (by omega), decide_false, Bool.false_eq_true, if_false, h1, h2, Bool.true_and, Bool.false_and, decide_true]
   exact Ev.now _
 ·rw [if_neg (by omega)]
  simp only [Option.bind_some, Bool.false_eq_true, if_false, h1, decide_false, Bool.false_and]
  exact Ev.now _
theorem size_nil {s : ByteArray} : s.toList = [] ↔ s.size = 0 := by
 rw [Go.Lib.toList_data]
 constructor
 ·intro e; simp [ByteArray.size, ← Array.length_toList, e]
 ·intro e; exact List.eq_nil_of_length_eq_zero (by rw [Array.length_toList]; exact e)
theorem isName_l0 (s : ByteArray) (hs : s.size ≤ 4611686018427387904) : ∀ (d i : Nat), i + d = s.size → Ev (fun k => impl_isName.l0 k s s.size i) (allFrom nameB s i d && (decide (1 ≤ s.size) && decide (s.size ≤ 20)))
 | 0, i, h => Ev.unf (fun _ => some (decide (1 ≤ s.size) && decide (s.size ≤ 20))) (fun k => by
   simp only [impl_isName.l0]; rw [if_neg (by omega)]
   by_cases e : s.toList = []
   ·have : s.size = 0 := size_nil.1 e
    rw [if_pos e]; simp [this]
   ·have : 1 ≤ s.size := by
     have : s.size ≠ 0 := fun z => e (size_nil.2 z)
     omega
    rw [if_neg e]; simp only [this, decide_true, Bool.true_and]
    congr 1; rw [Bool.eq_iff_iff]; simp; omega) (by simp only [allFrom, Bool.true_and]; exact Ev.now _)
 | d + 1, i, h => by
  have ih := isName_l0 s hs d (i + 1) (by omega)
  have e : wrap64 ((i : Int) + 1) = ((i + 1 : Nat) : Int) := by rw [w64 (by omega) (by omega)]; rfl
  refine Ev.unf (fun k => if nameB (bt s i) = true then impl_isName.l0 k s s.size ((i + 1 : Nat) : Int) else some false) (fun k => ?_) ?_
  ·simp only [impl_isName.l0]
   rw [if_pos (by omega), if_pos (by omega), if_pos (by omega), e]
   unfold nameB
   generalize bt s i = c
   simp only [decide_eq_true_eq]
   repeat' split
   all_goals first | rfl | omega
  ·simp only [allFrom]
   cases nameB (bt s i)
   ·simp only [Bool.false_and, Bool.false_eq_true, if_false]; exact Ev.now _
   ·simp only [Bool.true_and, if_true]; exact ih
theorem ev_isName (s : ByteArray) (hs : s.size ≤ 4611686018427387904) : Ev (fun k => impl_isName.f k s) (nameOk s) := by
 have h := isName_l0 s hs s.size 0 (by omega)
 have e : nameOk s = (allFrom nameB s 0 s.size && (decide (1 ≤ s.size) && decide (s.size ≤ 20))) := by unfold nameOk; cases allFrom nameB s 0 s.size <;> simp
 rw [e]
 exact h
def digsV (s : ByteArray) : Nat → Nat → Nat → Option Nat
 | _, 0, n => some n
 | i, d + 1, n => if 48 ≤ bt s i ∧ bt s i ≤ 57 then digsV s (i + 1) d (n * 10 + (bt s i - 48).toNat) else none
def numOk (s : ByteArray) : Bool := decide (1 ≤ s.size) && (decide (s.size ≤ 7) && (!(decide (1 < s.size) && decide (bt s 0 = 48)) && match digsV s 0 s.size 0 with | some n => decide (n ≤ 1000000) | none => false))
theorem digsV_le (s : ByteArray) : ∀ (d i n m N : Nat), digsV s i d n = some N → n < 10 ^ m → N < 10 ^ (m + d)
 | 0, _, n, m, N, h, hn => by simp only [digsV, Option.some.injEq] at h; subst h; exact hn
 | d + 1, i, n, m, N, h, hn => by
  simp only [digsV] at h
  split at h
  ·rename_i hb
   have := digsV_le s d (i + 1) _ (m + 1) N h (by rw [Nat.pow_succ]; omega)
   rwa [show m + 1 + d = m + (d + 1) by omega] at this
  ·cases h
theorem isNumber_l0 (s : ByteArray) (hs : s.size ≤ 7) : ∀ (d i n : Nat), i + d = s.size → n < 10 ^ i → Ev (fun k => impl_isNumber.l0 k s n s.size i) (match digsV s i d n with | some n => decide (n ≤ 1000000) | none => false)
 | 0, i, n, h, hn => Ev.unf (fun _ => some (decide (n ≤ 1000000))) (fun k => by simp only [impl_isNumber.l0]; rw [if_neg (by omega)]; congr 1; rw [Bool.eq_iff_iff]; simp; omega) (by simp only [digsV]; exact Ev.now _)
 | d + 1, i, n, h, hn => by
  have hi : 10 ^ i ≤ 10 ^ 6 := Nat.pow_le_pow_right (by omega) (by omega)
  obtain ⟨c, hc⟩ : ∃ c, bt s i = c := ⟨_, rfl⟩
  have hr := bt_range s i
  have e : wrap64 ((i : Int) + 1) = ((i + 1 : Nat) : Int) := by rw [w64 (by omega) (by omega)]; rfl
  rw [hc] at hr
  by_cases hb : 48 ≤ c ∧ c ≤ 57
  ·have ih := isNumber_l0 s hs d (i + 1) (n * 10 + (c - 48).toNat) (by omega) (by rw [Nat.pow_succ]; omega)
   have e2 : wrap64 ((wrap64 (10 * (n : Int))) + ((c - 48) % 256)) = ((n * 10 + (c - 48).toNat : Nat) : Int) := by
    rw [w64 (i := 10 * (n : Int)) (by omega) (by omega), w64 (by omega) (by omega)]; omega
   refine Ev.unf (fun k => impl_isNumber.l0 k s ((n * 10 + (c - 48).toNat : Nat) : Int) s.size ((i + 1 : Nat) : Int)) (fun k => ?_) ?_
   ·simp only [impl_isNumber.l0]
    rw [if_pos (by omega), if_pos (by omega), if_pos (by omega), hc, if_neg (by omega), if_neg (by omega), e, e2]
   ·simp only [digsV, hc, if_pos hb]; exact ih
  ·refine Ev.unf (fun _ => some false) (fun k => ?_) (by simp only [digsV, hc, if_neg hb]; exact Ev.now _)
   simp only [impl_isNumber.l0]
   rw [if_pos (by omega), if_pos (by omega), if_pos (by omega), hc]
   by_cases h1 : c < 48
   ·rw [if_pos h1]
   ·rw [if_neg h1, if_pos (by omega)]
theorem ev_isNumber (s : ByteArray) : Ev (fun k => impl_isNumber.f k s) (numOk s) := by
 have jt : Ev (fun k => impl_isNumber.j0 k s true) false := Ev.unf (fun _ => some false) (fun k => by simp only [impl_isNumber.j0, if_true]) (Ev.now _)
 unfold impl_isNumber.f numOk
 by_cases h1 : 1 ≤ s.size
 ·have n1 : ¬ s.toList = [] := fun e => by have := size_nil.1 e; omega
  simp only [if_neg n1, h1, decide_true, Bool.true_and]
  by_cases h2 : s.size ≤ 7
  ·have jf : Ev (fun k => impl_isNumber.j0 k s false) (match digsV s 0 s.size 0 with | some n => decide (n ≤ 1000000) | none => false) :=
    Ev.unf (fun k => impl_isNumber.l0 k s ((0 : Nat) : Int) s.size ((0 : Nat) : Int)) (fun k => by simp only [impl_isNumber.j0, Bool.false_eq_true, if_false]; rfl) (isNumber_l0 s h2 s.size 0 0 (by omega) (by simp))
   simp only [if_neg (show ¬ (s.size : Int) > 7 by omega), h2, decide_true, Bool.true_and]
   by_cases h3 : 1 < s.size
   ·simp only [if_pos (show (s.size : Int) > 1 by omega), if_pos (show (0 : Int) < s.size by omega), h3, decide_true, Bool.true_and]
    by_cases h4 : bt s 0 = 48
    ·simp only [h4, beq_self_eq_true, decide_true, Bool.not_true, Bool.false_and]; exact jt
    ·simp only [beq_eq_false_iff_ne.2 h4, h4, decide_false, Bool.not_false, Bool.true_and]; exact jf
   ·simp only [if_neg (show ¬ (s.size : Int) > 1 by omega), h3, decide_false, Bool.false_and, Bool.not_false, Bool.true_and]; exact jf
  ·simp only [if_pos (show (s.size : Int) > 7 by omega), h2, decide_false, Bool.false_and]; exact jt
 ·have n1 : s.toList = [] := size_nil.2 (by omega)
  simp only [if_pos n1, h1, decide_false, Bool.false_and]; exact jt
def decP (n : Nat) : ByteArray := if n < 10 then strOfNums [(48 + n : Nat)] else decP (n / 10) ++ strOfNums [(48 + n % 10 : Nat)]
termination_by n
decreasing_by omega
theorem str1_size (c : Int) : (strOfNums [c]).size = 1 := by simp [strOfNums, ByteArray.size]
theorem decP_size : ∀ (m n : Nat), n < 10 ^ (m + 1) → 1 ≤ (decP n).size ∧ (decP n).size ≤ m + 1
 | 0, n, h => by
  rw [decP, if_pos (by omega), str1_size]; omega
 | m + 1, n, h => by
  rw [decP]
  split
  ·rw [str1_size]; omega
  ·have := decP_size m (n / 10) (by rw [Nat.pow_succ] at h; omega)
   rw [ByteArray.size_append, str1_size]; omega
theorem ev_l2Dec : ∀ (m n : Nat), n < 10 ^ (m + 1) → m ≤ 8 → Ev (fun k => spec_l2Dec.f k n) (decP n)
 | m, n, h, hm => by
  have hp : 10 ^ (m + 1) ≤ 10 ^ 9 := Nat.pow_le_pow_right (by omega) (by omega)
  by_cases h9 : n < 10
  ·refine Ev.unf (fun _ => some (decP n)) (fun k => ?_) (Ev.now _)
   simp only [spec_l2Dec.f]
   rw [if_neg (by omega), if_pos (by omega), decP, if_pos h9, w64 (by omega) (by omega), show (48 + (n : Int)) % 256 = ((48 + n : Nat) : Int) by omega]
  ·cases m with
   | zero => omega
   | succ m =>
    have ih := ev_l2Dec m (n / 10) (by rw [Nat.pow_succ] at h; omega) (by omega)
    have hsz := decP_size m (n / 10) (by rw [Nat.pow_succ] at h; omega)
    have e1 : wrap64 (Int.tdiv (n : Int) 10) = ((n / 10 : Nat) : Int) := by
     rw [Int.tdiv_eq_ediv_of_nonneg (by omega), w64 (by omega) (by omega)]; omega
    have e2 : (wrap64 (48 + Int.tmod (n : Int) 10)) % 256 = ((48 + n % 10 : Nat) : Int) := by
     rw [Int.tmod_eq_emod_of_nonneg (by omega), w64 (by omega) (by omega)]; omega
    refine Ev.unf (fun k => (spec_l2Dec.f k ((n / 10 : Nat) : Int)).bind fun t => if t.size + (strOfNums [((48 + n % 10 : Nat) : Int)]).size ≤ 9223372036854775807 then some (t ++ strOfNums [((48 + n % 10 : Nat) : Int)]) else none) (fun k => ?_) ?_
    ·simp only [spec_l2Dec.f]
     rw [if_neg (by omega), if_neg (by omega), e1, e2]
     rfl
    ·refine Ev.bind ih ?_
     rw [if_pos (by rw [str1_size]; omega)]
     rw [decP.eq_def n, if_neg h9]
     exact Ev.now _
theorem bt_app_left (a b : ByteArray) (j : Nat) (h : j < a.size) : bt (a ++ b) j = bt a j := by
 unfold bt
 rw [dif_pos (by rw [ByteArray.size_append]; simp; omega), dif_pos (by simpa using h)]
 simp only [Int.toNat_natCast]
 rw [ByteArray.getElem_append_left h]
theorem bt_app_right (a b : ByteArray) (j : Nat) (h : j < b.size) : bt (a ++ b) ((a.size + j : Nat) : Int) = bt b j := by
 unfold bt
 rw [dif_pos (by rw [ByteArray.size_append]; simp; omega), dif_pos (by simpa using h)]
 simp only [Int.toNat_natCast]
 rw [ByteArray.getElem_append_right (by omega)]
 simp
theorem bt_one (c : Nat) (h : c < 256) : bt (strOfNums [(c : Int)]) 0 = c := by
 have e : (strOfNums [(c : Int)]) = ⟨#[UInt8.ofNat c]⟩ := rfl
 rw [e]
 unfold bt
 rw [dif_pos (show Int.toNat 0 < (⟨#[UInt8.ofNat c]⟩ : ByteArray).size from Nat.zero_lt_one)]
 show (((UInt8.ofNat c).toNat : Nat) : Int) = c
 have := UInt8.toNat_ofNat' (n := c)
 rw [this]
 omega
theorem ba_ext {a b : ByteArray} (h1 : a.size = b.size) (h2 : ∀ j : Nat, j < a.size → bt a j = bt b j) : a = b := by
 have hd : a.data = b.data := by
  apply Array.ext h1
  intro i hi hi2
  have := h2 i hi
  unfold bt at this
  rw [dif_pos (show (i : Int).toNat < a.size from hi), dif_pos (show (i : Int).toNat < b.size from hi2)] at this
  simp only [Int.toNat_natCast, ByteArray.getElem_eq_getElem_data] at this
  exact UInt8.toNat_inj.1 (by exact_mod_cast this)
 cases a; cases b; congr 1
theorem digsV_snoc (s : ByteArray) : ∀ (d i n : Nat), digsV s i (d + 1) n = (digsV s i d n).bind fun m => if 48 ≤ bt s ((i + d : Nat) : Int) ∧ bt s ((i + d : Nat) : Int) ≤ 57 then some (m * 10 + (bt s ((i + d : Nat) : Int) - 48).toNat) else none
 | 0, i, n => by simp only [digsV, Nat.add_zero, Option.bind_some]
 | d + 1, i, n => by
  show (if 48 ≤ bt s i ∧ bt s i ≤ 57 then digsV s (i + 1) (d + 1) (n * 10 + (bt s i - 48).toNat) else none) = Option.bind (if 48 ≤ bt s i ∧ bt s i ≤ 57 then digsV s (i + 1) d (n * 10 + (bt s i - 48).toNat) else none) _
  split
  ·rw [digsV_snoc s d (i + 1), show i + 1 + d = i + (d + 1) by omega]
  ·rfl
theorem dec_digs (s : ByteArray) : ∀ (i v : Nat), i + 1 ≤ s.size → digsV s 0 (i + 1) 0 = some v → (i = 0 ∨ bt s 0 ≠ 48) → (decP v).size = i + 1 ∧ (∀ j : Nat, j < i + 1 → bt (decP v) j = bt s j) ∧ (bt s 0 ≠ 48 → 1 ≤ v)
  | 0, v, hi, h, _ => by
    have hr := bt_range s 0
    simp only [digsV, Int.natCast_zero] at h
    generalize hc : bt s ((0 : Nat) : Int) = c at h
    have hc' : bt s 0 = c := hc
    split at h
    · rename_i hb
      injection h with h
      have hv : v = (c - 48).toNat := by omega
      have hv2 : v < 10 := by omega
      rw [decP, if_pos hv2]
      refine ⟨str1_size _, fun j hj => ?_, fun _ => by omega⟩
      obtain rfl : j = 0 := by omega
      rw [hc]
      have := bt_one (48 + v) (by omega)
      rw [show ((0 : Nat) : Int) = 0 from rfl, this]
      omega
    · cases h
  | i + 1, v, hi, h, hz => by
    have hz : bt s 0 ≠ 48 := by rcases hz with h' | h'; · omega
                                · exact h'
    rw [digsV_snoc, Option.bind_eq_some_iff] at h
    obtain ⟨m, hm, h⟩ := h
    rw [Nat.zero_add] at h
    obtain ⟨h1, h2, h3⟩ := dec_digs s i m (by omega) hm (.inr hz)
    have h3 := h3 hz
    generalize hc : bt s ((i + 1 : Nat) : Int) = c at h
    split at h
    · rename_i hb
      injection h with h
      have e1 : v / 10 = m := by omega
      have e2 : 48 + v % 10 = c.toNat := by omega
      rw [decP, if_neg (by omega), e1, e2]
      refine ⟨by rw [ByteArray.size_append, h1, str1_size], fun j hj => ?_, fun _ => by omega⟩
      by_cases hj2 : j < i + 1
      · rw [bt_app_left _ _ _ (by omega)]; exact h2 j hj2
      · obtain rfl : j = i + 1 := by omega
        have := bt_app_right (decP m) (strOfNums [(c.toNat : Int)]) 0 (by rw [str1_size]; omega)
        rw [h1, Nat.add_zero] at this
        rw [this, show ((0 : Nat) : Int) = 0 from rfl, bt_one _ (by omega), hc]
        omega
    · cases h
theorem dec_eq (s : ByteArray) (v : Nat) (h1 : 1 ≤ s.size) (h : digsV s 0 s.size 0 = some v) : decP v = s ↔ ¬ (1 < s.size ∧ bt s 0 = 48) := by
  obtain ⟨n, hn⟩ : ∃ n, s.size = n + 1 := ⟨s.size - 1, by omega⟩
  constructor
  · rintro rfl ⟨h2, h3⟩
    obtain ⟨m, rfl⟩ : ∃ m, n = m + 1 := ⟨n - 1, by omega⟩
    rw [hn] at h
    rw [digsV] at h
    split at h
    · rw [show ((0 : Nat) : Int) = 0 from rfl, h3] at h
      have := digsV_le _ _ _ _ 0 _ h (by simp)
      have := (decP_size m v (by simpa using this)).2
      omega
    · cases h
  · intro hz
    rw [hn] at h
    obtain ⟨q1, q2, _⟩ := dec_digs s n v (by omega) h (by by_cases e : n = 0; · exact .inl e
                                                          · exact .inr fun e2 => hz ⟨by omega, e2⟩)
    exact ba_ext (by omega) (fun j hj => q2 j (by omega))
theorem l2Num_l0 (s : ByteArray) (hs : s.size ≤ 7) (hs1 : 1 ≤ s.size) : ∀ (d i n : Nat), i + d = s.size → n < 10 ^ i → digsV s 0 s.size 0 = digsV s i d n → Ev (fun k => spec_l2NumberOk.l0 k s n i) (!(decide (1 < s.size) && decide (bt s 0 = 48)) && match digsV s i d n with | some n => decide (n ≤ 1000000) | none => false)
 | 0, i, n, h, hn, hq => by
  have hi : 10 ^ i ≤ 10 ^ 7 := Nat.pow_le_pow_right (by omega) (by omega)
  have hd := ev_l2Dec 7 n (by omega) (by omega)
  refine Ev.unf (fun k => (spec_l2Dec.f k n).bind fun t => if t.toList = s.toList then some (decide ((n : Int) ≤ 1000000)) else some false) (fun k => by simp only [spec_l2NumberOk.l0]; rw [if_neg (by omega)]) ?_
  refine Ev.bind hd ?_
  have e := dec_eq s n hs1 (hq.trans rfl)
  have e2 : (decP n).toList = s.toList ↔ ¬ (1 < s.size ∧ bt s 0 = 48) := by rw [← e]; exact ⟨fun h => bytes_inj h, fun h => by rw [h]⟩
  by_cases hc : 1 < s.size ∧ bt s 0 = 48
  ·rw [if_neg (fun h => (e2.1 h) hc)]
   simp only [hc.1, hc.2, decide_true, Bool.and_self, Bool.not_true, Bool.false_and]
   exact Ev.now _
  ·rw [if_pos (e2.2 hc)]
   have : (decide (1 < s.size) && decide (bt s 0 = 48)) = false := by rw [Bool.eq_false_iff]; intro h; simp at h; exact hc h
   rw [this]
   simp only [digsV, Bool.not_false, Bool.true_and]
   rw [show decide ((n : Int) ≤ 1000000) = decide (n ≤ 1000000) by rw [Bool.eq_iff_iff]; simp; omega]
   exact Ev.now _
 | d + 1, i, n, h, hn, hq => by
  have hi : 10 ^ i ≤ 10 ^ 6 := Nat.pow_le_pow_right (by omega) (by omega)
  obtain ⟨c, hc⟩ : ∃ c, bt s i = c := ⟨_, rfl⟩
  have hr := bt_range s i
  have e : wrap64 ((i : Int) + 1) = ((i + 1 : Nat) : Int) := by rw [w64 (by omega) (by omega)]; rfl
  rw [hc] at hr
  by_cases hb : 48 ≤ c ∧ c ≤ 57
  ·have ih := l2Num_l0 s hs hs1 d (i + 1) (n * 10 + (c - 48).toNat) (by omega) (by rw [Nat.pow_succ]; omega) (by rw [hq]; simp only [digsV, hc, if_pos hb])
   have e2 : wrap64 ((wrap64 ((n : Int) * 10)) + ((c - 48) % 256)) = ((n * 10 + (c - 48).toNat : Nat) : Int) := by
    rw [w64 (i := (n : Int) * 10) (by omega) (by omega), w64 (by omega) (by omega)]; omega
   refine Ev.unf (fun k => spec_l2NumberOk.l0 k s ((n * 10 + (c - 48).toNat : Nat) : Int) ((i + 1 : Nat) : Int)) (fun k => ?_) ?_
   ·simp only [spec_l2NumberOk.l0]
    rw [if_pos (by omega), if_pos (by omega), hc, if_neg (by omega), if_neg (by omega), e, e2]
   ·simp only [digsV, hc, if_pos hb]; exact ih
  ·refine Ev.unf (fun _ => some false) (fun k => ?_) (by simp only [digsV, hc, if_neg hb, Bool.and_false]; exact Ev.now _)
   simp only [spec_l2NumberOk.l0]
   rw [if_pos (by omega), if_pos (by omega), hc]
   by_cases h1 : c < 48
   ·rw [if_pos h1]
   ·rw [if_neg h1, if_pos (by omega)]
theorem ev_l2NumberOk (s : ByteArray) : Ev (fun k => spec_l2NumberOk.f k s) (numOk s) := by
 unfold spec_l2NumberOk.f spec_l1In.f numOk
 by_cases h1 : 1 ≤ s.size
 ·by_cases h2 : s.size ≤ 7
  ·rw [if_pos (by omega)]
   simp only [Option.bind_some, show ((s.size : Int) ≤ 7) = True from eq_true (by omega), decide_true, if_true, h1, h2, Bool.true_and]
   exact l2Num_l0 s h2 h1 s.size 0 0 (by omega) (by simp) rfl
  ·rw [if_pos (by omega)]
   simp only [Option.bind_some, show ((s.size : Int) ≤ 7) = False from eq_false (by omega), decide_false, Bool.false_eq_true, if_false, h1, h2, Bool.true_and, Bool.false_and, decide_true]
   exact Ev.now _
 ·rw [if_neg (by omega)]
  simp only [Option.bind_some, Bool.false_eq_true, if_false, h1, decide_false, Bool.false_and]
  exact Ev.now _
def tailP (s : ByteArray) : ByteArray := s.extract 1 s.size
def fitsP (t : Int) (s : ByteArray) : Bool :=
 if t = 1 then numOk s else if t = 2 then numOk s || (decide (1 < s.size) && (decide (bt s 0 = 45) && (!((tailP s).toList == ([48] : List UInt8)) && numOk (tailP s)))) else if t = 3 then nameOk s
 else if t = 4 then decide (s.size ≤ 200) else if t = 5 then (s.toList == ([121, 101, 115] : List UInt8)) || (s.toList == ([110, 111] : List UInt8))
 else (s.toList == ([110, 111, 110, 101] : List UInt8)) || ((s.toList == ([98, 101, 114, 116, 104] : List UInt8)) || (s.toList == ([122, 111, 110, 101] : List UInt8)))
theorem ev_l2Fits (t : Int) (s : ByteArray) (h1 : 1 ≤ t) (h6 : t ≤ 6) : Ev (fun k => spec_l2Fits.f k t s) (fitsP t s) := by
 unfold spec_l2Fits.f fitsP
 by_cases t1 : t = 1
 ·simp only [if_pos t1]; exact Ev.bind (ev_l2NumberOk s) (Ev.now _)
 simp only [if_neg t1]
 by_cases t2 : t = 2
 ·simp only [if_pos t2]
  refine Ev.bind (ev_l2NumberOk s) ?_
  cases hn : numOk s
  ·simp only [Bool.false_eq_true, if_false, Bool.false_or]
   by_cases z : 1 < s.size
   ·simp only [if_pos (show (s.size : Int) > 1 by omega), if_pos (show (0 : Int) < s.size by omega), z, decide_true, Bool.true_and]
    by_cases m : bt s 0 = 45
    ·simp only [if_pos m, m, decide_true, Bool.true_and, if_pos (show (1 : Int) ≤ s.size by omega)]
     change Ev (fun k => if (tailP s).toList = ([48] : List UInt8) then some false else (spec_l2NumberOk.f k (tailP s)).bind fun t211 => some t211) _
     by_cases q : (tailP s).toList = ([48] : List UInt8)
     ·simp only [if_pos q, q, beq_self_eq_true, Bool.not_true, Bool.false_and]; exact Ev.now _
     ·simp only [if_neg q, beq_eq_false_iff_ne.2 q, Bool.not_false, Bool.true_and]; exact Ev.bind (ev_l2NumberOk _) (Ev.now _)
    ·simp only [if_neg m, m, decide_false, Bool.false_and]; exact Ev.now _
   ·simp only [if_neg (show ¬ (s.size : Int) > 1 by omega), z, decide_false, Bool.false_and]; exact Ev.now _
  ·simp only [if_true, Bool.true_or]; exact Ev.now _
 simp only [if_neg t2]
 by_cases t3 : t = 3
 ·simp only [if_pos t3]; exact Ev.bind (ev_l2NameOk s) (Ev.now _)
 simp only [if_neg t3]
 by_cases t5 : t = 5
 ·simp only [if_pos t5, if_neg (show ¬ t = 4 by omega)]
  by_cases q : s.toList = ([121, 101, 115] : List UInt8)
  ·simp only [if_pos q, q, beq_self_eq_true, Bool.true_or]; exact Ev.now _
  ·simp only [if_neg q, beq_eq_false_iff_ne.2 q, Bool.false_or]; exact Ev.now _
 simp only [if_neg t5]
 by_cases t6 : t = 6
 ·simp only [if_pos t6, if_neg (show ¬ t = 4 by omega)]
  by_cases q : s.toList = ([110, 111, 110, 101] : List UInt8)
  ·simp only [if_pos q, q, beq_self_eq_true, Bool.true_or]; exact Ev.now _
  ·simp only [if_neg q, beq_eq_false_iff_ne.2 q, Bool.false_or]
   by_cases q : s.toList = ([98, 101, 114, 116, 104] : List UInt8)
   ·simp only [if_pos q, q, beq_self_eq_true, Bool.true_or]; exact Ev.now _
   ·simp only [if_neg q, beq_eq_false_iff_ne.2 q, Bool.false_or]; exact Ev.now _
 ·simp only [if_neg t6, if_pos (show t = 4 by omega)]
  rw [show decide ((s.size : Int) ≤ 200) = decide (s.size ≤ 200) by rw [Bool.eq_iff_iff]; simp; omega]
  exact Ev.now _
end Go.Proofs.YtmcdnpooclelgaaDoor.PAll
namespace Go.Proofs.YtmcdnpooclelgaaDoor.PAll
open Go.RowKit Go.Proofs.YtmcdnpooclelgaaDoorW.PrintWords Go.Proofs.YtmcdnpooclelgaaDoorW.PrintLast Go.Proofs.YtmcdnpooclelgaaDoorW.PrintMore
attribute [local go_sem] max2_int min2_int max_two min_two max_three min_three max_four min_four   -- for this text's walks alone
def spec_l2One.l0 : Nat → ByteArray → Int → Int → ByteArray → List Int → Bool → List ByteArray → Option (ByteArray × List Int × Bool × List ByteArray)
 | 0, _, _, _, _, _, _, _ => none
 | k + 1, x1, x8, x9, x150000, x150001, x150002, x150003 => if x9 ≤ (x1.size : Int) then (if x9 = (x1.size : Int) then (if 0 ≤ x8 then (if x8 ≤ x9 then (if x150003.length < 8796093022208 then (spec_l2One.l0 k x1 (wrap64 (x9 + 1)) (wrap64 (x9 + 1)) x150000 x150001 x150002 (x150003 ++ [x1.extract (x8 : Int).toNat (x9 : Int).toNat])) else (none)) else (none)) else (none)) else (if 0 ≤ x9 then (if x9 < (x1.size : Int) then (if (bt x1 x9) = 32 then (if 0 ≤ x8 then (if x8 ≤ x9 then (if x150003.length < 8796093022208 then (spec_l2One.l0 k x1 (wrap64 (x9 + 1)) (wrap64 (x9 + 1)) x150000 x150001 x150002 (x150003 ++ [x1.extract (x8 : Int).toNat (x9 : Int).toNat])) else (none)) else (none)) else (none)) else (spec_l2One.l0 k x1 x8 (wrap64 (x9 + 1)) x150000 x150001 x150002 x150003)) else (none)) else (none))) else (some (x150000, x150001, x150002, x150003))
def spec_l2One.f (k : Nat) (a0 : ByteArray) (a1 : ByteArray) (l2 : List Int) : Option (ByteArray × List Int × Bool × List ByteArray) := (some (([] : List Int) : List Int)).bind fun y143 => (if y143.length + l2.length < 17592186044416 then (spec_l2One.l0 k a1 0 0 a0 (y143 ++ l2) false ([] : List ByteArray)) else (none))
def spec_l2One.T7 : Bool × List (List Nat × List Nat) := (true, [([], []), ([0], [0]), ([], []), ([], []), ([], []), ([2, 3, 4], [2, 3, 4]), ([5], [5]), ([1, 6], [1, 6]), ([0, 1, 2, 3, 4, 5, 6, 7], []), ([8, 7, 7, 0, 1, 2, 3, 4, 5, 6, 7], [7, 8])])
def spec_l2One.B7 : List Nat := [0, 1, 0, 0, 0, 28, 60, 127, 255, 511]
theorem spec_l2One.tab7 : rtab .any (opsOf Tryd.f53 7) = spec_l2One.T7 := by kernel_rfl
theorem spec_l2One.bits7 : waitsOk spec_l2One.T7.2 spec_l2One.B7 = true := by kernel_rfl
set_option maxHeartbeats 8000000 in
set_option maxRecDepth 100000 in
theorem spec_l2One.calls (k : Nat) (a0 : ByteArray) (a1 : ByteArray) (A2 : Option Addr) (c2 : Nat) (l2 : List Int) (r1 : ByteArray) (r2 : List Int) (r3 : Bool) (r4 : List ByteArray) (w : World) (hr2 : Kd.C (Kd.int .i64) w A2 l2.length l2) (hc2 : l2.length ≤ c2) (h : spec_l2One.f k a0 a1 l2 = some (r1, r2, r3, r4)) :
  Calls Tryd.prog 53 #[.string a0, .string a1, .slice A2 l2.length c2] w fun e w' => ∃ v1_ v3_ : Value, e = .returned (.agg #[.string r1, v1_, .bool r3, v3_]) ∧ Kd.R (Kd.int .i64) 3 w' w.heap.size (fun _ => True) v1_ r2 ∧ Kd.R Kd.string 9 w' w.heap.size (fun _ => True) v3_ r4 ∧ Below w.heap.size w w' := by
 have hu36 := Tryd.underlying36
 have HR2 := Aside0.mk hr2
 have HC2 := Aside0.mk hc2
 clear hr2 hc2
 have HB := Aside0.mk (Below.refl w.heap.size w)
 have H : ((some (([] : List Int) : List Int)).bind fun y143 => (if y143.length + l2.length < 17592186044416 then (spec_l2One.l0 k a1 0 0 a0 (y143 ++ l2) false ([] : List ByteArray)) else (none))) = some (r1, r2, r3, r4) := h
 clear h
 obtain ⟨y143, hy143⟩ : ∃ y_ : List Int, y_ = (([] : List Int)) := ⟨_, rfl⟩
 replace H : (if y143.length + l2.length < 17592186044416 then (spec_l2One.l0 k a1 0 0 a0 (y143 ++ l2) false ([] : List ByteArray)) else (none)) = some (r1, r2, r3, r4) := by first | (rw [hy143]; with_reducible exact H) | (have H2_ := (Option.bind_some _ _).symm.trans H; rw [hy143]; with_reducible exact H2_) | (have H2_ := (Option.bind_some _ _).symm.trans H; with_reducible exact H2_) | with_reducible exact H | (rw [hy143]; exact H) | exact H
 have Ny143 := Aside0.mk hy143
 clear hy143
 by_cases c4 : y143.length + l2.length < 17592186044416
 ·rw [if_pos c4] at H
  have LMc4 := Aside0.mk c4
  clear c4
  obtain ⟨y146, hy146⟩ : ∃ y_ : List Int, y_ = (y143 ++ l2) := ⟨_, rfl⟩
  replace H : (spec_l2One.l0 k a1 0 0 a0 y146 false ([] : List ByteArray)) = some (r1, r2, r3, r4) := by first | (rw [hy146]; with_reducible exact H) | (have H2_ := (Option.bind_some _ _).symm.trans H; rw [hy146]; with_reducible exact H2_) | (have H2_ := (Option.bind_some _ _).symm.trans H; with_reducible exact H2_) | with_reducible exact H | (rw [hy146]; exact H) | exact H
  have Ny146 := Aside0.mk hy146
  clear hy146
  have H' := Aside0.mk H
  clear H
  go_enter Tryd.func53, Tryd.ntmps53
  go_wp2_with (first | ((with_reducible refine gate_dst (N := 6) rfl ?_); refine box_event ?hg (N := 6) ?hd (cs := #[.string (⟨#[]⟩ : ByteArray), .slice none 0 0, .bool false, .slice none 0 0]) (t := 36) ?hr ?_; (case hd => rfl); (case hg => rfl); (case hr => first | (go_simp; done) | (go_simp; rfl)); intro gb142 hg w5 hbox hb; have n0_ := Aside0.mk (below_step (stB HB.out) hb); have n1_ := Aside0.mk (hbox); have n2_ := Aside0.mk ((by rw [hg]; exact (below_size (stB HB.out)) : w.heap.size ≤ gb142)); have n3_ := Aside0.mk ((by rw [hg]; exact (below_size (stB HB.out)) : w.heap.size ≤ gb142)); clear HB; have HB := n0_; have BK142 := n1_; have GW142 := n2_; have GE142 := n3_; clear n0_ n1_ n2_ n3_; clear hb hbox hg) | ((with_reducible refine gate_dst (N := 11) rfl ?_); refine Kd.R_lit (Kd.int .i64) _ 3 ?hg (N := 11) ?hd (xs := ([] : List Int)) (inner := []) (ok := fun _ => True) (okp := fun _ => True) ?hr ?hp (fun _ hk => hk) trivial (Below.refl _ _) (Nat.le_refl _) (by simp) ?_; (case hd => rfl); (case hg => rfl); (case hr => first | (go_simp; done) | (go_simp; rfl)); (case hp => exact (Reps.none _ _)); intro v144 w6 ho7 hb hg_ hnew_; clear hg_ hnew_; (first | rw [← Ny143.out] at ho7 | (simp only [Int.reduceToNat] at ho7; rw [← Ny143.out] at ho7)); have n0_ := Aside0.mk (Kd.R_lower ho7 (below_size (by repeat (first | (with_reducible first | exact HB.out | apply below_alloc | apply pw_below_drewN | apply below_drew1 | refine below_set ?_ GE142.out) | exact HB.out)))); have n1_ := Aside0.mk (blk_below (g := gb142) (o := .cells #[.string (⟨#[]⟩ : ByteArray), .slice none 0 0, .bool false, .slice none 0 0] 36 (0, 0)) (by (with_reducible repeat (first | refine blk_drewN ?_ _ | refine blk_drew ?_ | refine blk_alloc ?_ _)); exact BK142.out) hb); have n2_ := Aside0.mk (below_step (by repeat (first | (with_reducible first | exact HB.out | apply below_alloc | apply pw_below_drewN | apply below_drew1 | refine below_set ?_ GE142.out) | exact HB.out)) hb); clear BK142; clear HB; have HO145 := n0_; have BK142 := n1_; have HB := n2_; clear n0_ n1_ n2_; clear hb ho7) | ((with_reducible refine gate_builtin (b := .append) (xs := #[.tmp 11, .tmp 12]) rfl ?_); at_builtin; refine Kd.R_append_rows (Kd.int .i64) (w0 := w) w.heap.size rfl (.tmp 11) (.tmp 12) 34 3 (.int .i64 0) 8 rfl Tryd.underlying34 info3 rfl (by decide) (by omega) v144 y143 l2 _ _ _ (fun _ => True) (fun _ => False) rfl rfl ?aO ?aR (fun _ _ h => h) (fun _ h => h.elim) ?aF ?aB ?aS ?aL ?_; (case aR => repeat (first | exact (Kd.C_below HR2.out HB.out) | (with_reducible refine Kd.C_alloc ?_ _) | (with_reducible refine Kd.C_drewN ?_ _) | (with_reducible refine Kd.C_drew ?_))); (case aB => exact (by repeat (first | (with_reducible first | exact HB.out | apply below_alloc | apply pw_below_drewN | apply below_drew1 | refine below_set ?_ GE142.out) | exact HB.out))); (case aF => exact (fun _ _ => trivial)); (case aO => exact (stR HO145.out)); (case aS => exact (below_size (by repeat (first | (with_reducible first | exact HB.out | apply below_alloc | apply pw_below_drewN | apply below_drew1 | refine below_set ?_ GE142.out) | exact HB.out)))); (case aL => have := LMc4.out; omega); intro v147 w8 ho hb hg hat; rw [← Ny146.out] at ho; have n0_ := Aside0.mk (blk_grown (g := gb142) (o := .cells #[.string (⟨#[]⟩ : ByteArray), .slice none 0 0, .bool false, .slice none 0 0] 36 (0, 0)) (by (with_reducible repeat (first | refine blk_drewN ?_ _ | refine blk_drew ?_ | refine blk_alloc ?_ _)); exact BK142.out) hg (Kd.R_ne HO145.out BK142.out (by decide))); have n1_ := Aside0.mk (hb); have n2_ := Aside0.mk (ho); clear BK142; clear HB; clear HO145; have BK142 := n0_; have HB := n1_; have HO148 := n2_; clear n0_ n1_ n2_; clear ho hb hg hat; obtain ⟨Ao9, co9, eo9⟩ := Kd.R_slice HO148.out; subst eo9) | ((with_reducible refine gate_dst (N := 7) rfl ?_); refine box_event ?hg (N := 7) ?hd (cs := #[.string (⟨#[]⟩ : ByteArray), .slice none 0 0, .bool false, .slice none 0 0]) (t := 36) ?hr ?_; (case hd => rfl); (case hg => rfl); (case hr => first | (go_simp; done) | (go_simp; rfl)); intro gb149 hg w10 hbox hb; have n0_ := Aside0.mk (Kd.R_below (stR HO148.out) hb); have n1_ := Aside0.mk (blk_below (g := gb142) (o := .cells #[.string (⟨#[]⟩ : ByteArray), .slice none 0 0, .bool false, .slice none 0 0] 36 (0, 0)) (by (with_reducible repeat (first | refine blk_drewN ?_ _ | refine blk_drew ?_ | refine blk_alloc ?_ _)); exact BK142.out) hb); have n2_ := Aside0.mk (below_step (by repeat (first | (with_reducible first | exact HB.out | apply below_alloc | apply pw_below_drewN | apply below_drew1 | refine below_set ?_ GE142.out) | exact HB.out)) hb); have n3_ := Aside0.mk (hbox); have n4_ := Aside0.mk ((by rw [hg]; exact (below_size (by repeat (first | (with_reducible first | exact HB.out | apply below_alloc | apply pw_below_drewN | apply below_drew1 | refine below_set ?_ GE142.out) | exact HB.out))) : w.heap.size ≤ gb149)); have n5_ := Aside0.mk ((by rw [hg]; exact (below_size (by repeat (first | (with_reducible first | exact HB.out | apply below_alloc | apply pw_below_drewN | apply below_drew1 | refine below_set ?_ GE142.out) | exact HB.out))) : w.heap.size ≤ gb149)); have n6_ := Aside0.mk ((by rw [hg]; exact Nat.ne_of_lt (blk_lt (g := gb142) (o := .cells #[.string (⟨#[]⟩ : ByteArray), .slice none 0 0, .bool false, .slice none 0 0] 36 (0, 0)) (by (with_reducible repeat (first | refine blk_drewN ?_ _ | refine blk_drew ?_ | refine blk_alloc ?_ _)); exact BK142.out)) : gb142 ≠ gb149)); have n7_ := Aside0.mk ((by rw [hg]; exact Nat.ne_of_gt (blk_lt (g := gb142) (o := .cells #[.string (⟨#[]⟩ : ByteArray), .slice none 0 0, .bool false, .slice none 0 0] 36 (0, 0)) (by (with_reducible repeat (first | refine blk_drewN ?_ _ | refine blk_drew ?_ | refine blk_alloc ?_ _)); exact BK142.out)) : gb149 ≠ gb142)); clear HO148; clear BK142; clear HB; have HO148 := n0_; have BK142 := n1_; have HB := n2_; have BK149 := n3_; have GW149 := n4_; have GE149 := n5_; have NB142_149 := n6_; have NB149_142 := n7_; clear n0_ n1_ n2_ n3_ n4_ n5_ n6_ n7_; clear hb hbox hg; have hnb11 := NB149_142.out; have hnc11 := NB142_149.out; have hcz12_0 : w10.cell? ⟨gb149, 0, none⟩ = some (.string (⟨#[]⟩ : ByteArray)) := (blk_cell BK149.out 0).trans rfl; have hcz12_1 : w10.cell? ⟨gb149, 1, none⟩ = some (.slice none 0 0) := (blk_cell BK149.out 1).trans rfl; have hcz12_2 : w10.cell? ⟨gb149, 2, none⟩ = some (.bool false) := (blk_cell BK149.out 2).trans rfl; have hcz12_3 : w10.cell? ⟨gb149, 3, none⟩ = some (.slice none 0 0) := (blk_cell BK149.out 3).trans rfl; have hfz12_0 := blk_frozen BK149.out 0; have hfz12_1 := blk_frozen BK149.out 1; have hfz12_2 := blk_frozen BK149.out 2; have hfz12_3 := blk_frozen BK149.out 3))
  go_loopg [8, 9] k (fun kq v8 v9 w' => ∃ (x8_1 : Int) (x9_1 : Int) (x150003_1 : List ByteArray) (u150003 : Value), v8 = .int .i64 x8_1 ∧ v9 = .int .i64 x9_1 ∧ Aside0 (spec_l2One.l0 kq a1 x8_1 x9_1 a0 y146 false x150003_1 = some (r1, r2, r3, r4)) ∧ Aside0 (kq ≤ k) ∧ Aside0 (Kd.R (Kd.int .i64) 3 w' w.heap.size (fun _ => True) (.slice Ao9 y146.length co9) y146) ∧ Aside0 (Kd.R Kd.string 9 w' w.heap.size (fun _ => True) u150003 x150003_1) ∧ Aside0 (w'.heap[gb142]? = some (.cells #[.string (⟨#[]⟩ : ByteArray), (.slice none 0 0), .bool false, (.slice none 0 0)] 36 (0, 0))) ∧ Aside0 (w'.heap[gb149]? = some (.cells #[.string a0, (.slice Ao9 y146.length co9), .bool false, u150003] 36 (0, 0))) ∧ Aside0 (Below w.heap.size w w'))
  case atStart => exact ⟨(0), (0), (([] : List ByteArray)), (.slice none 0 0), (by first | rfl | (simp; done) | (simp [*]; done)), (by first | rfl | (simp; done) | (simp [*]; done)), H', ⟨Nat.le_refl _⟩, ⟨by (with_reducible repeat (first | apply Kd.R_alloc | apply Kd.R_drewN | apply Kd.R_drew)); exact Kd.R_mono (Kd.R_far (p := ⟨gb149, 3, none⟩) (Kd.R_far (p := ⟨gb149, 2, none⟩) (Kd.R_far (p := ⟨gb149, 1, none⟩) (Kd.R_far (p := ⟨gb149, 0, none⟩) (Kd.R_types HO148.out BK149.out (by decide)) (fun _ hk => hk.2) (.string a0)) (fun _ hk => hk.2) (.slice Ao9 y146.length co9)) (fun _ hk => hk.2) (.bool false)) (fun _ hk => hk.2) (.slice none 0 0)) (fun _ hk => trivial)⟩, ⟨by first | exact Kd.R_nil _ _ _ _ _ | exact Kd.N_nil _ _ _ _ _ | exact Kd.V_nil _ _ _ _ _ | exact Kd.Q_nil _ _ _ _ _ | exact Kd.S_nil _ _ _ _ _⟩, ⟨by (with_reducible repeat (first | refine blk_drewN ?_ _ | refine blk_drew ?_ | refine blk_alloc ?_ _)); refine blk_far ?_ NB142_149.out _; (with_reducible repeat (first | refine blk_drewN ?_ _ | refine blk_drew ?_ | refine blk_alloc ?_ _)); refine blk_far ?_ NB142_149.out _; (with_reducible repeat (first | refine blk_drewN ?_ _ | refine blk_drew ?_ | refine blk_alloc ?_ _)); refine blk_far ?_ NB142_149.out _; (with_reducible repeat (first | refine blk_drewN ?_ _ | refine blk_drew ?_ | refine blk_alloc ?_ _)); refine blk_far ?_ NB142_149.out _; (with_reducible repeat (first | refine blk_drewN ?_ _ | refine blk_drew ?_ | refine blk_alloc ?_ _)); exact BK142.out⟩, ⟨by (with_reducible repeat (first | refine blk_drewN ?_ _ | refine blk_drew ?_ | refine blk_alloc ?_ _)); refine blk_put (cs := #[.string a0, .slice Ao9 y146.length co9, .bool false, .slice none 0 0]) ?_ 3 _ rfl; (with_reducible repeat (first | refine blk_drewN ?_ _ | refine blk_drew ?_ | refine blk_alloc ?_ _)); refine blk_put (cs := #[.string a0, .slice Ao9 y146.length co9, .bool false, .slice none 0 0]) ?_ 2 _ rfl; (with_reducible repeat (first | refine blk_drewN ?_ _ | refine blk_drew ?_ | refine blk_alloc ?_ _)); refine blk_put (cs := #[.string a0, .slice none 0 0, .bool false, .slice none 0 0]) ?_ 1 _ rfl; (with_reducible repeat (first | refine blk_drewN ?_ _ | refine blk_drew ?_ | refine blk_alloc ?_ _)); refine blk_put (cs := #[.string (⟨#[]⟩ : ByteArray), .slice none 0 0, .bool false, .slice none 0 0]) ?_ 0 _ rfl; (with_reducible repeat (first | refine blk_drewN ?_ _ | refine blk_drew ?_ | refine blk_alloc ?_ _)); exact BK149.out⟩, ⟨by repeat (first | (with_reducible first | exact HB.out | apply below_alloc | apply pw_below_drewN | apply below_drew1 | refine below_set ?_ GE142.out | refine below_set ?_ GE149.out) | exact HB.out)⟩⟩
  case round =>
   clear H'
   try clear c1
   try clear c2
   try clear p2
   try clear c4
   try clear c5
   try clear c11
   try clear hcz12_0
   try clear hcz12_1
   try clear hcz12_2
   try clear hcz12_3
   try clear hfz12_0
   try clear hfz12_1
   try clear hfz12_2
   try clear hfz12_3
   obtain ⟨x8_1, x9_1, x150003_1, u150003, rfl, rfl, HA, HK1, HO_150001, HO_150003, BK142, BK149, HB⟩ := hrel
   cases gk with
   | zero => exact absurd HA.out (by simp [spec_l2One.l0])
   | succ k1 =>
    have H := HA.out
    clear HA
    simp only [spec_l2One.l0] at H
    by_cases c13 : x9_1 ≤ (a1.size : Int)
    ·rw [if_pos c13] at H
     have c13b0 : decide (x9_1 ≤ (a1.size : Int)) = true := decide_eq_true c13
     clear c13
     by_cases c14 : x9_1 = (a1.size : Int)
     ·rw [if_pos c14] at H
      have c14b0 : (x9_1 == (a1.size : Int)) = true := beq_iff_eq.mpr c14
      have c14b1 : (x9_1 != (a1.size : Int)) = false := bne_eq_false_iff_eq.mpr c14
      clear c14
      by_cases c15 : 0 ≤ x8_1
      ·rw [if_pos c15] at H
       have c15b0 := eq_true c15
       have c15b1 : decide (0 ≤ x8_1) = true := decide_eq_true c15
       clear c15
       by_cases c16 : x8_1 ≤ x9_1
       ·rw [if_pos c16] at H
        have c16b0 := eq_true c16
        have c16b1 : decide (x8_1 ≤ x9_1) = true := decide_eq_true c16
        clear c16
        have c17b0 := eq_true (of_decide_eq_true (by first | (with_reducible assumption) | assumption) : x9_1 ≤ (a1.size : Int))
        by_cases c18 : x150003_1.length < 8796093022208
        ·rw [if_pos c18] at H
         have LMc18 := Aside0.mk c18
         clear c18
         obtain ⟨y150, hy150⟩ : ∃ y_ : List ByteArray, y_ = (x150003_1 ++ [a1.extract (x8_1 : Int).toNat (x9_1 : Int).toNat]) := ⟨_, rfl⟩
         replace H : (spec_l2One.l0 k1 a1 (wrap64 (x9_1 + 1)) (wrap64 (x9_1 + 1)) a0 y146 false y150) = some (r1, r2, r3, r4) := by first | (rw [hy150]; with_reducible exact H) | (have H2_ := (Option.bind_some _ _).symm.trans H; rw [hy150]; with_reducible exact H2_) | (have H2_ := (Option.bind_some _ _).symm.trans H; with_reducible exact H2_) | with_reducible exact H | (rw [hy150]; exact H) | exact H
         have Ny150 := Aside0.mk hy150
         clear hy150
         have H' := Aside0.mk H
         clear H
         try go_wp2
         have n0_ := Aside0.mk (Kd.R_drew HO_150001.out)
         have n1_ := Aside0.mk (Kd.R_drew HO_150003.out)
         have n2_ := Aside0.mk (blk_drew BK142.out)
         have n3_ := Aside0.mk (blk_drew BK149.out)
         have n4_ := Aside0.mk (below_drew1 HB.out)
         clear HO_150001
         clear HO_150003
         clear BK142
         clear BK149
         clear HB
         have HO_150001 := n0_
         have HO_150003 := n1_
         have BK142 := n2_
         have BK149 := n3_
         have HB := n4_
         clear n0_ n1_ n2_ n3_ n4_
         refine start_ (n := 10) (S := fun w' => w'.cell? ⟨gb149, 0, none⟩ = some (.string a0) ∧ w'.cell? ⟨gb149, 1, none⟩ = some (.slice Ao9 y146.length co9) ∧ w'.cell? ⟨gb149, 2, none⟩ = some (.bool false) ∧ w'.cell? ⟨gb149, 3, none⟩ = some (u150003)) (ds := [9]) (bz_ 10 0) (by kernel_rfl) rfl rfl ⟨(blk_cell BK149.out 0).trans rfl, (blk_cell BK149.out 1).trans rfl, (blk_cell BK149.out 2).trans rfl, (blk_cell BK149.out 3).trans rfl⟩ (fun hHeld => ?_); refine with_tabW spec_l2One.tab7 spec_l2One.bits7 (fun HT_ HW_ => ?_)
         generalize wr.drew = w19 at HO_150001 HO_150003 BK142 BK149 HB hHeld ⊢
         refine pure_ (i := 0) (N := some 31) (v := ?_) (a' := ?_) (bz_ 10 1) rfl rfl (any_of HT_.out (by kernel_rfl)) (fun _ _ _ h => h) (Or.inl ⟨by rfl, ?_⟩) ?_ ?_
         rotate_left
         ·intro w'
          go_simp
          with_reducible rfl
         rotate_left
         ·simp only [Act.put, List.setIfInBounds_toArray, List.set_cons_zero, List.set_cons_succ, i64_w, i32_w]
          rfl
         refine pure_ (i := 2) (N := some 33) (v := ?_) (a' := ?_) (bz_ 10 5) rfl rfl (any_of HT_.out (by kernel_rfl)) (fun _ _ _ h => h) (Or.inl ⟨by rfl, ?_⟩) ?_ ?_
         rotate_left
         ·intro w'
          go_simp
          with_reducible rfl
         rotate_left
         ·simp only [Act.put, List.setIfInBounds_toArray, List.set_cons_zero, List.set_cons_succ, i64_w, i32_w]
          rfl
         refine pure_ (i := 3) (N := some 34) (v := ?_) (a' := ?_) (bz_ 10 13) rfl rfl (any_of HT_.out (by kernel_rfl)) (fun _ _ _ h => h) (Or.inl ⟨by rfl, ?_⟩) ?_ ?_
         rotate_left
         ·intro w'
          go_simp
          with_reducible rfl
         rotate_left
         ·simp only [Act.put, List.setIfInBounds_toArray, List.set_cons_zero, List.set_cons_succ, i64_w, i32_w]
          rfl
         refine pure_ (i := 4) (N := some 35) (v := ?_) (a' := ?_) (bz_ 10 29) rfl rfl (any_of HT_.out (by kernel_rfl)) (fun _ _ _ h => h) (Or.inl ⟨by rfl, ?_⟩) ?_ ?_
         rotate_left
         ·intro w'
          go_simp
          with_reducible rfl
         rotate_left
         ·simp only [Act.put, List.setIfInBounds_toArray, List.set_cons_zero, List.set_cons_succ, i64_w, i32_w]
          rfl
         refine pure_ (i := 5) (N := some 36) (v := ?_) (a' := ?_) (bz_ 10 61) rfl rfl (any_of HT_.out (by kernel_rfl)) (fun _ _ _ h => h) (Or.inl ⟨by rfl, ?_⟩) ?_ ?_
         rotate_left
         ·intro w'
          go_simp
          with_reducible rfl
         rotate_left
         ·simp only [Act.put, List.setIfInBounds_toArray, List.set_cons_zero, List.set_cons_succ, i64_w, i32_w]
          rfl
         refine take_ (i := 1) (N := some 32) (v := ?_) (a' := ?_) (bz_ 10 63) rfl rfl (take_ofW HT_.out HW_.out (by kernel_rfl)) (fun _ _ _ h => h) (Or.inl ⟨by rfl, ?_⟩) hHeld ?_ ?_
         rotate_left
         ·rintro w' ⟨s0, s1, s2, s3⟩
          go_simp
          with_reducible rfl
         rotate_left
         ·simp only [Act.put, List.setIfInBounds_toArray, List.set_cons_zero, List.set_cons_succ, i64_w, i32_w]
          rfl
         refine one_ (i := 6) (N := some 37) (bz_ 10 127) rfl rfl (one_of HT_.out (by kernel_rfl)) (by decide) (fun K hK => ?_)
         refine value_ (w1 := ?_) (v := ?_) (by rfl) rfl ?_ ?_
         rotate_left 2
         ·go_simp
          constructor
          ·rfl
          ·rfl
         refine hK.out _ _ ⟨(blk_cell (blk_alloc BK149.out _) 0).trans rfl, (blk_cell (blk_alloc BK149.out _) 1).trans rfl, (blk_cell (blk_alloc BK149.out _) 2).trans rfl, (blk_cell (blk_alloc BK149.out _) 3).trans rfl⟩ (fun hHeld => ?_)
         clear hK K
         refine norm_ (a' := ?_) ?_ ?_
         rotate_left
         ·show Act.put _ (some 37) _ = _
          simp only [Act.put, List.setIfInBounds_toArray, List.set_cons_zero, List.set_cons_succ, i64_w, i32_w]
          rfl
         refine one_ (i := 7) (N := some 38) (bz_ 10 255) rfl rfl (one_of HT_.out (by kernel_rfl)) (by decide) (fun K hK => ?_)
         refine Kd.R_append_step Kd.string (w0 := w) w.heap.size (by rfl) (.tmp 32) (.tmp 37) 27 9 (.string ⟨#[]⟩) 16 rfl Tryd.underlying27 info9 rfl (by decide) (by omega) u150003 x150003_1 (a1.extract (x8_1 : Int).toNat (x9_1 : Int).toNat) [.string (a1.extract (x8_1 : Int).toNat (x9_1 : Int).toNat)] (fun _ => True) (fun _ => False) rfl rfl ?aP (fun _ hk => hk.elim) ?aF ?aO ?aB ?aS ?aL ?_
         (case aP => exact rfl)
         (case aB => exact (by repeat (first | (with_reducible first | exact HB.out | apply below_alloc | apply pw_below_drewN | apply below_drew1 | refine below_set ?_ GE142.out | refine below_set ?_ GE149.out) | exact HB.out)))
         (case aF => exact (fun _ _ => trivial))
         (case aO => exact (stR HO_150003.out))
         (case aS => exact (below_size (by repeat (first | (with_reducible first | exact HB.out | apply below_alloc | apply pw_below_drewN | apply below_drew1 | refine below_set ?_ GE142.out | refine below_set ?_ GE149.out) | exact HB.out))))
         (case aL => have := LMc18.out; omega)
         intro v151 w20 ho hb hg hat
         rw [← Ny150.out] at ho
         have n0_ := Aside0.mk (Kd.R_over' (stR HO_150001.out) (Kd.R_typed (stR HO_150003.out)) (by decide) hg)
         have n1_ := Aside0.mk (blk_grown (g := gb142) (o := .cells #[.string (⟨#[]⟩ : ByteArray), .slice none 0 0, .bool false, .slice none 0 0] 36 (0, 0)) (by (with_reducible repeat (first | refine blk_drewN ?_ _ | refine blk_drew ?_ | refine blk_alloc ?_ _)); exact BK142.out) hg (Kd.R_ne HO_150003.out BK142.out (by decide)))
         have n2_ := Aside0.mk (blk_grown (g := gb149) (o := .cells #[.string a0, .slice Ao9 y146.length co9, .bool false, u150003] 36 (0, 0)) (by (with_reducible repeat (first | refine blk_drewN ?_ _ | refine blk_drew ?_ | refine blk_alloc ?_ _)); exact BK149.out) hg (Kd.R_ne HO_150003.out BK149.out (by decide)))
         have n3_ := Aside0.mk (hb)
         have n4_ := Aside0.mk (ho)
         clear HO_150001
         clear BK142
         clear BK149
         clear HB
         clear HO_150003
         have HO_150001 := n0_
         have BK142 := n1_
         have BK149 := n2_
         have HB := n3_
         have HO152 := n4_
         clear n0_ n1_ n2_ n3_ n4_
         clear ho hb hg hat
         obtain ⟨Ao21, co21, eo21⟩ := Kd.R_slice HO152.out
         (first | subst eo21 | (injection eo21 with f1_ f2_ f3_; have f4_ := f1_.symm; have f5_ := f3_.symm; clear f1_ f2_ f3_; subst f4_; subst f5_))
         refine hK.out _ _ ⟨(blk_cell BK149.out 0).trans rfl, (blk_cell BK149.out 1).trans rfl, (blk_cell BK149.out 2).trans rfl, (blk_cell BK149.out 3).trans rfl⟩ (fun hHeld => ?_)
         clear hK K
         refine norm_ (a' := ?_) ?_ ?_
         rotate_left
         ·show Act.put _ (some 38) _ = _
          simp only [Act.put, List.setIfInBounds_toArray, List.set_cons_zero, List.set_cons_succ, i64_w, i32_w]
          rfl
         refine pure_ (i := 8) (N := some 39) (v := ?_) (a' := ?_) (bz_ 10 511) rfl rfl (any_of HT_.out (by kernel_rfl)) (fun _ _ _ h => h) (Or.inl ⟨by rfl, ?_⟩) ?_ ?_
         rotate_left
         ·intro w'
          go_simp
          with_reducible rfl
         rotate_left
         ·simp only [Act.put, List.setIfInBounds_toArray, List.set_cons_zero, List.set_cons_succ, i64_w, i32_w]
          rfl
         refine last_ (i := 9) (N := none) (bz_ 10 1023) rfl rfl (one_of HT_.out (by kernel_rfl)) (by decide) (fun K hK => ?_)
         have hs22 : w20.cell? ⟨gb149, 3, none⟩ = some (u150003) := (blk_cell BK149.out 3).trans rfl
         have hfs22 := blk_frozen BK149.out 3
         have hns22_0 := NB142_149.out
         have hms22_0 := NB149_142.out
         refine skip_ (w1 := ?_) (by rfl) rfl ?_ ?_
         rotate_left
         ·go_simp
          rfl
         refine hK.out _ _ ?_
         clear hK K
         refine done_ (done_of HT_.out (by kernel_rfl)) ?_
         try go_wp2
         go_roundg k1
         case measure => have := HK1.out; omega
         case rel => exact ⟨(wrap64 (x9_1 + 1)), (wrap64 (x9_1 + 1)), (y150), (.slice Ao21 y150.length co21), (by first | rfl | (simp; done) | (simp [*]; done)), (by first | rfl | (simp; done) | (simp [*]; done)), H', ⟨by have := HK1.out; omega⟩, ⟨by (with_reducible repeat (first | apply Kd.R_alloc | apply Kd.R_drewN | apply Kd.R_drew)); exact Kd.R_mono (Kd.R_far (p := ⟨gb149, 3, none⟩) (Kd.R_types HO_150001.out BK149.out (by decide)) (fun _ hk => hk.2) (.slice Ao21 y150.length co21)) (fun _ hk => trivial)⟩, ⟨by (with_reducible repeat (first | apply Kd.R_alloc | apply Kd.R_drewN | apply Kd.R_drew)); exact Kd.R_mono (Kd.R_far (p := ⟨gb149, 3, none⟩) (Kd.R_types HO152.out BK149.out (by decide)) (fun _ hk => hk.2) (.slice Ao21 y150.length co21)) (fun _ hk => trivial)⟩, ⟨by (with_reducible repeat (first | refine blk_drewN ?_ _ | refine blk_drew ?_ | refine blk_alloc ?_ _)); refine blk_far ?_ NB142_149.out _; (with_reducible repeat (first | refine blk_drewN ?_ _ | refine blk_drew ?_ | refine blk_alloc ?_ _)); exact BK142.out⟩, ⟨by (with_reducible repeat (first | refine blk_drewN ?_ _ | refine blk_drew ?_ | refine blk_alloc ?_ _)); refine blk_put (cs := #[.string a0, .slice Ao9 y146.length co9, .bool false, u150003]) ?_ 3 _ rfl; (with_reducible repeat (first | refine blk_drewN ?_ _ | refine blk_drew ?_ | refine blk_alloc ?_ _)); exact BK149.out⟩, ⟨by repeat (first | (with_reducible first | exact HB.out | apply below_alloc | apply pw_below_drewN | apply below_drew1 | refine below_set ?_ GE142.out | refine below_set ?_ GE149.out) | exact HB.out)⟩⟩
        ·rw [if_neg c18] at H
         exact absurd H (by simp)
       ·rw [if_neg c16] at H
        exact absurd H (by simp)
      ·rw [if_neg c15] at H
       exact absurd H (by simp)
     ·rw [if_neg c14] at H
      have c14b0 : (x9_1 == (a1.size : Int)) = false := beq_eq_false_iff_ne.mpr c14
      have c14b1 : (x9_1 != (a1.size : Int)) = true := bne_iff_ne.mpr c14
      by_cases c23 : 0 ≤ x9_1
      ·rw [if_pos c23] at H
       have c23b0 : decide (0 ≤ x9_1) = true := decide_eq_true c23
       clear c23
       by_cases c24 : x9_1 < (a1.size : Int)
       ·rw [if_pos c24] at H
        have c24b0 : decide (x9_1 < (a1.size : Int)) = true := decide_eq_true c24
        clear c24
        by_cases c26 : (bt a1 x9_1) = 32
        ·rw [if_pos c26] at H
         have c26b0 : ((bt a1 x9_1) == 32) = true := beq_iff_eq.mpr c26
         have c26b1 : ((bt a1 x9_1) != 32) = false := bne_eq_false_iff_eq.mpr c26
         clear c26
         by_cases c27 : 0 ≤ x8_1
         ·rw [if_pos c27] at H
          have c27b0 := eq_true c27
          have c27b1 : decide (0 ≤ x8_1) = true := decide_eq_true c27
          clear c27
          by_cases c28 : x8_1 ≤ x9_1
          ·rw [if_pos c28] at H
           have c28b0 := eq_true c28
           have c28b1 : decide (x8_1 ≤ x9_1) = true := decide_eq_true c28
           clear c28
           have c29b0 := eq_true (of_decide_eq_true (by first | (with_reducible assumption) | assumption) : x9_1 ≤ (a1.size : Int))
           by_cases c30 : x150003_1.length < 8796093022208
           ·rw [if_pos c30] at H
            have LMc30 := Aside0.mk c30
            clear c30
            obtain ⟨y153, hy153⟩ : ∃ y_ : List ByteArray, y_ = (x150003_1 ++ [a1.extract (x8_1 : Int).toNat (x9_1 : Int).toNat]) := ⟨_, rfl⟩
            replace H : (spec_l2One.l0 k1 a1 (wrap64 (x9_1 + 1)) (wrap64 (x9_1 + 1)) a0 y146 false y153) = some (r1, r2, r3, r4) := by first | (rw [hy153]; with_reducible exact H) | (have H2_ := (Option.bind_some _ _).symm.trans H; rw [hy153]; with_reducible exact H2_) | (have H2_ := (Option.bind_some _ _).symm.trans H; with_reducible exact H2_) | with_reducible exact H | (rw [hy153]; exact H) | exact H
            have Ny153 := Aside0.mk hy153
            clear hy153
            have H' := Aside0.mk H
            clear H
            have p25 : 0 ≤ (x9_1 : Int) := of_decide_eq_true (by first | (with_reducible assumption) | assumption)
            have q25 : x9_1 < (a1.size : Int) := of_decide_eq_true (by first | (with_reducible assumption) | assumption)
            have hx25 := bt_at a1 x9_1
            replace p25 := eq_true p25
            replace q25 := eq_true q25
            try go_wp2
            have n0_ := Aside0.mk (Kd.R_drew HO_150001.out)
            have n1_ := Aside0.mk (Kd.R_drew HO_150003.out)
            have n2_ := Aside0.mk (blk_drew BK142.out)
            have n3_ := Aside0.mk (blk_drew BK149.out)
            have n4_ := Aside0.mk (below_drew1 HB.out)
            clear HO_150001
            clear HO_150003
            clear BK142
            clear BK149
            clear HB
            have HO_150001 := n0_
            have HO_150003 := n1_
            have BK142 := n2_
            have BK149 := n3_
            have HB := n4_
            clear n0_ n1_ n2_ n3_ n4_
            refine start_ (n := 10) (S := fun w' => w'.cell? ⟨gb149, 0, none⟩ = some (.string a0) ∧ w'.cell? ⟨gb149, 1, none⟩ = some (.slice Ao9 y146.length co9) ∧ w'.cell? ⟨gb149, 2, none⟩ = some (.bool false) ∧ w'.cell? ⟨gb149, 3, none⟩ = some (u150003)) (ds := [9]) (bz_ 10 0) (by kernel_rfl) rfl rfl ⟨(blk_cell BK149.out 0).trans rfl, (blk_cell BK149.out 1).trans rfl, (blk_cell BK149.out 2).trans rfl, (blk_cell BK149.out 3).trans rfl⟩ (fun hHeld => ?_); refine with_tabW spec_l2One.tab7 spec_l2One.bits7 (fun HT_ HW_ => ?_)
            generalize wr.drew = w31 at HO_150001 HO_150003 BK142 BK149 HB hHeld ⊢
            refine pure_ (i := 0) (N := some 31) (v := ?_) (a' := ?_) (bz_ 10 1) rfl rfl (any_of HT_.out (by kernel_rfl)) (fun _ _ _ h => h) (Or.inl ⟨by rfl, ?_⟩) ?_ ?_
            rotate_left
            ·intro w'
             go_simp
             with_reducible rfl
            rotate_left
            ·simp only [Act.put, List.setIfInBounds_toArray, List.set_cons_zero, List.set_cons_succ, i64_w, i32_w]
             rfl
            refine pure_ (i := 2) (N := some 33) (v := ?_) (a' := ?_) (bz_ 10 5) rfl rfl (any_of HT_.out (by kernel_rfl)) (fun _ _ _ h => h) (Or.inl ⟨by rfl, ?_⟩) ?_ ?_
            rotate_left
            ·intro w'
             go_simp
             with_reducible rfl
            rotate_left
            ·simp only [Act.put, List.setIfInBounds_toArray, List.set_cons_zero, List.set_cons_succ, i64_w, i32_w]
             rfl
            refine pure_ (i := 3) (N := some 34) (v := ?_) (a' := ?_) (bz_ 10 13) rfl rfl (any_of HT_.out (by kernel_rfl)) (fun _ _ _ h => h) (Or.inl ⟨by rfl, ?_⟩) ?_ ?_
            rotate_left
            ·intro w'
             go_simp
             with_reducible rfl
            rotate_left
            ·simp only [Act.put, List.setIfInBounds_toArray, List.set_cons_zero, List.set_cons_succ, i64_w, i32_w]
             rfl
            refine pure_ (i := 4) (N := some 35) (v := ?_) (a' := ?_) (bz_ 10 29) rfl rfl (any_of HT_.out (by kernel_rfl)) (fun _ _ _ h => h) (Or.inl ⟨by rfl, ?_⟩) ?_ ?_
            rotate_left
            ·intro w'
             go_simp
             with_reducible rfl
            rotate_left
            ·simp only [Act.put, List.setIfInBounds_toArray, List.set_cons_zero, List.set_cons_succ, i64_w, i32_w]
             rfl
            refine pure_ (i := 5) (N := some 36) (v := ?_) (a' := ?_) (bz_ 10 61) rfl rfl (any_of HT_.out (by kernel_rfl)) (fun _ _ _ h => h) (Or.inl ⟨by rfl, ?_⟩) ?_ ?_
            rotate_left
            ·intro w'
             go_simp
             with_reducible rfl
            rotate_left
            ·simp only [Act.put, List.setIfInBounds_toArray, List.set_cons_zero, List.set_cons_succ, i64_w, i32_w]
             rfl
            refine take_ (i := 1) (N := some 32) (v := ?_) (a' := ?_) (bz_ 10 63) rfl rfl (take_ofW HT_.out HW_.out (by kernel_rfl)) (fun _ _ _ h => h) (Or.inl ⟨by rfl, ?_⟩) hHeld ?_ ?_
            rotate_left
            ·rintro w' ⟨s0, s1, s2, s3⟩
             go_simp
             with_reducible rfl
            rotate_left
            ·simp only [Act.put, List.setIfInBounds_toArray, List.set_cons_zero, List.set_cons_succ, i64_w, i32_w]
             rfl
            refine one_ (i := 6) (N := some 37) (bz_ 10 127) rfl rfl (one_of HT_.out (by kernel_rfl)) (by decide) (fun K hK => ?_)
            refine value_ (w1 := ?_) (v := ?_) (by rfl) rfl ?_ ?_
            rotate_left 2
            ·go_simp
             constructor
             ·rfl
             ·rfl
            refine hK.out _ _ ⟨(blk_cell (blk_alloc BK149.out _) 0).trans rfl, (blk_cell (blk_alloc BK149.out _) 1).trans rfl, (blk_cell (blk_alloc BK149.out _) 2).trans rfl, (blk_cell (blk_alloc BK149.out _) 3).trans rfl⟩ (fun hHeld => ?_)
            clear hK K
            refine norm_ (a' := ?_) ?_ ?_
            rotate_left
            ·show Act.put _ (some 37) _ = _
             simp only [Act.put, List.setIfInBounds_toArray, List.set_cons_zero, List.set_cons_succ, i64_w, i32_w]
             rfl
            refine one_ (i := 7) (N := some 38) (bz_ 10 255) rfl rfl (one_of HT_.out (by kernel_rfl)) (by decide) (fun K hK => ?_)
            refine Kd.R_append_step Kd.string (w0 := w) w.heap.size (by rfl) (.tmp 32) (.tmp 37) 27 9 (.string ⟨#[]⟩) 16 rfl Tryd.underlying27 info9 rfl (by decide) (by omega) u150003 x150003_1 (a1.extract (x8_1 : Int).toNat (x9_1 : Int).toNat) [.string (a1.extract (x8_1 : Int).toNat (x9_1 : Int).toNat)] (fun _ => True) (fun _ => False) rfl rfl ?aP (fun _ hk => hk.elim) ?aF ?aO ?aB ?aS ?aL ?_
            (case aP => exact rfl)
            (case aB => exact (by repeat (first | (with_reducible first | exact HB.out | apply below_alloc | apply pw_below_drewN | apply below_drew1 | refine below_set ?_ GE142.out | refine below_set ?_ GE149.out) | exact HB.out)))
            (case aF => exact (fun _ _ => trivial))
            (case aO => exact (stR HO_150003.out))
            (case aS => exact (below_size (by repeat (first | (with_reducible first | exact HB.out | apply below_alloc | apply pw_below_drewN | apply below_drew1 | refine below_set ?_ GE142.out | refine below_set ?_ GE149.out) | exact HB.out))))
            (case aL => have := LMc30.out; omega)
            intro v154 w32 ho hb hg hat
            rw [← Ny153.out] at ho
            have n0_ := Aside0.mk (Kd.R_over' (stR HO_150001.out) (Kd.R_typed (stR HO_150003.out)) (by decide) hg)
            have n1_ := Aside0.mk (blk_grown (g := gb142) (o := .cells #[.string (⟨#[]⟩ : ByteArray), .slice none 0 0, .bool false, .slice none 0 0] 36 (0, 0)) (by (with_reducible repeat (first | refine blk_drewN ?_ _ | refine blk_drew ?_ | refine blk_alloc ?_ _)); exact BK142.out) hg (Kd.R_ne HO_150003.out BK142.out (by decide)))
            have n2_ := Aside0.mk (blk_grown (g := gb149) (o := .cells #[.string a0, .slice Ao9 y146.length co9, .bool false, u150003] 36 (0, 0)) (by (with_reducible repeat (first | refine blk_drewN ?_ _ | refine blk_drew ?_ | refine blk_alloc ?_ _)); exact BK149.out) hg (Kd.R_ne HO_150003.out BK149.out (by decide)))
            have n3_ := Aside0.mk (hb)
            have n4_ := Aside0.mk (ho)
            clear HO_150001
            clear BK142
            clear BK149
            clear HB
            clear HO_150003
            have HO_150001 := n0_
            have BK142 := n1_
            have BK149 := n2_
            have HB := n3_
            have HO155 := n4_
            clear n0_ n1_ n2_ n3_ n4_
            clear ho hb hg hat
            obtain ⟨Ao33, co33, eo33⟩ := Kd.R_slice HO155.out
            (first | subst eo33 | (injection eo33 with f1_ f2_ f3_; have f4_ := f1_.symm; have f5_ := f3_.symm; clear f1_ f2_ f3_; subst f4_; subst f5_))
            refine hK.out _ _ ⟨(blk_cell BK149.out 0).trans rfl, (blk_cell BK149.out 1).trans rfl, (blk_cell BK149.out 2).trans rfl, (blk_cell BK149.out 3).trans rfl⟩ (fun hHeld => ?_)
            clear hK K
            refine norm_ (a' := ?_) ?_ ?_
            rotate_left
            ·show Act.put _ (some 38) _ = _
             simp only [Act.put, List.setIfInBounds_toArray, List.set_cons_zero, List.set_cons_succ, i64_w, i32_w]
             rfl
            refine pure_ (i := 8) (N := some 39) (v := ?_) (a' := ?_) (bz_ 10 511) rfl rfl (any_of HT_.out (by kernel_rfl)) (fun _ _ _ h => h) (Or.inl ⟨by rfl, ?_⟩) ?_ ?_
            rotate_left
            ·intro w'
             go_simp
             with_reducible rfl
            rotate_left
            ·simp only [Act.put, List.setIfInBounds_toArray, List.set_cons_zero, List.set_cons_succ, i64_w, i32_w]
             rfl
            refine last_ (i := 9) (N := none) (bz_ 10 1023) rfl rfl (one_of HT_.out (by kernel_rfl)) (by decide) (fun K hK => ?_)
            have hs34 : w32.cell? ⟨gb149, 3, none⟩ = some (u150003) := (blk_cell BK149.out 3).trans rfl
            have hfs34 := blk_frozen BK149.out 3
            have hns34_0 := NB142_149.out
            have hms34_0 := NB149_142.out
            refine skip_ (w1 := ?_) (by rfl) rfl ?_ ?_
            rotate_left
            ·go_simp
             rfl
            refine hK.out _ _ ?_
            clear hK K
            refine done_ (done_of HT_.out (by kernel_rfl)) ?_
            try go_wp2
            go_roundg k1
            case measure => have := HK1.out; omega
            case rel => exact ⟨(wrap64 (x9_1 + 1)), (wrap64 (x9_1 + 1)), (y153), (.slice Ao33 y153.length co33), (by first | rfl | (simp; done) | (simp [*]; done)), (by first | rfl | (simp; done) | (simp [*]; done)), H', ⟨by have := HK1.out; omega⟩, ⟨by (with_reducible repeat (first | apply Kd.R_alloc | apply Kd.R_drewN | apply Kd.R_drew)); exact Kd.R_mono (Kd.R_far (p := ⟨gb149, 3, none⟩) (Kd.R_types HO_150001.out BK149.out (by decide)) (fun _ hk => hk.2) (.slice Ao33 y153.length co33)) (fun _ hk => trivial)⟩, ⟨by (with_reducible repeat (first | apply Kd.R_alloc | apply Kd.R_drewN | apply Kd.R_drew)); exact Kd.R_mono (Kd.R_far (p := ⟨gb149, 3, none⟩) (Kd.R_types HO155.out BK149.out (by decide)) (fun _ hk => hk.2) (.slice Ao33 y153.length co33)) (fun _ hk => trivial)⟩, ⟨by (with_reducible repeat (first | refine blk_drewN ?_ _ | refine blk_drew ?_ | refine blk_alloc ?_ _)); refine blk_far ?_ NB142_149.out _; (with_reducible repeat (first | refine blk_drewN ?_ _ | refine blk_drew ?_ | refine blk_alloc ?_ _)); exact BK142.out⟩, ⟨by (with_reducible repeat (first | refine blk_drewN ?_ _ | refine blk_drew ?_ | refine blk_alloc ?_ _)); refine blk_put (cs := #[.string a0, .slice Ao9 y146.length co9, .bool false, u150003]) ?_ 3 _ rfl; (with_reducible repeat (first | refine blk_drewN ?_ _ | refine blk_drew ?_ | refine blk_alloc ?_ _)); exact BK149.out⟩, ⟨by repeat (first | (with_reducible first | exact HB.out | apply below_alloc | apply pw_below_drewN | apply below_drew1 | refine below_set ?_ GE142.out | refine below_set ?_ GE149.out) | exact HB.out)⟩⟩
           ·rw [if_neg c30] at H
            exact absurd H (by simp)
          ·rw [if_neg c28] at H
           exact absurd H (by simp)
         ·rw [if_neg c27] at H
          exact absurd H (by simp)
        ·rw [if_neg c26] at H
         have c26b0 : ((bt a1 x9_1) == 32) = false := beq_eq_false_iff_ne.mpr c26
         have c26b1 : ((bt a1 x9_1) != 32) = true := bne_iff_ne.mpr c26
         have H' := Aside0.mk H
         clear H
         have p25 : 0 ≤ (x9_1 : Int) := of_decide_eq_true (by first | (with_reducible assumption) | assumption)
         have q25 : x9_1 < (a1.size : Int) := of_decide_eq_true (by first | (with_reducible assumption) | assumption)
         have hx25 := bt_at a1 x9_1
         replace p25 := eq_true p25
         replace q25 := eq_true q25
         go_wp2
         go_roundg k1
         case measure => have := HK1.out; omega
         case rel => exact ⟨(x8_1), (wrap64 (x9_1 + 1)), (x150003_1), (u150003), (by first | rfl | (simp; done) | (simp [*]; done)), (by first | rfl | (simp; done) | (simp [*]; done)), H', ⟨by have := HK1.out; omega⟩, ⟨by (with_reducible repeat (first | apply Kd.R_alloc | apply Kd.R_drewN | apply Kd.R_drew)); exact HO_150001.out⟩, ⟨by (with_reducible repeat (first | apply Kd.R_alloc | apply Kd.R_drewN | apply Kd.R_drew)); exact HO_150003.out⟩, ⟨by (with_reducible repeat (first | refine blk_drewN ?_ _ | refine blk_drew ?_ | refine blk_alloc ?_ _)); exact BK142.out⟩, ⟨by (with_reducible repeat (first | refine blk_drewN ?_ _ | refine blk_drew ?_ | refine blk_alloc ?_ _)); exact BK149.out⟩, ⟨by repeat (first | (with_reducible first | exact HB.out | apply below_alloc | apply pw_below_drewN | apply below_drew1 | refine below_set ?_ GE142.out | refine below_set ?_ GE149.out) | exact HB.out)⟩⟩
       ·rw [if_neg c24] at H
        exact absurd H (by simp)
      ·rw [if_neg c23] at H
       exact absurd H (by simp)
    ·rw [if_neg c13] at H
     have c13b0 : decide (x9_1 ≤ (a1.size : Int)) = false := decide_eq_false c13
     clear c13
     simp only [Option.some.injEq, Prod.mk.injEq] at H
     obtain ⟨rfl, rfl, rfl, rfl⟩ := H
     have hnb35 := NB149_142.out
     have hnc35 := NB142_149.out
     have hcz36_0 : wr.cell? ⟨gb149, 0, none⟩ = some (.string a0) := (blk_cell BK149.out 0).trans rfl
     have hcz36_1 : wr.cell? ⟨gb149, 1, none⟩ = some (.slice Ao9 y146.length co9) := (blk_cell BK149.out 1).trans rfl
     have hcz36_2 : wr.cell? ⟨gb149, 2, none⟩ = some (.bool false) := (blk_cell BK149.out 2).trans rfl
     have hcz36_3 : wr.cell? ⟨gb149, 3, none⟩ = some (u150003) := (blk_cell BK149.out 3).trans rfl
     have hfz36_0 := blk_frozen BK149.out 0
     have hfz36_1 := blk_frozen BK149.out 1
     have hfz36_2 := blk_frozen BK149.out 2
     have hfz36_3 := blk_frozen BK149.out 3
     have hcz37_0 : wr.cell? ⟨gb142, 0, none⟩ = some (.string (⟨#[]⟩ : ByteArray)) := (blk_cell BK142.out 0).trans rfl
     have hcz37_1 : wr.cell? ⟨gb142, 1, none⟩ = some (.slice none 0 0) := (blk_cell BK142.out 1).trans rfl
     have hcz37_2 : wr.cell? ⟨gb142, 2, none⟩ = some (.bool false) := (blk_cell BK142.out 2).trans rfl
     have hcz37_3 : wr.cell? ⟨gb142, 3, none⟩ = some (.slice none 0 0) := (blk_cell BK142.out 3).trans rfl
     have hfz37_0 := blk_frozen BK142.out 0
     have hfz37_1 := blk_frozen BK142.out 1
     have hfz37_2 := blk_frozen BK142.out 2
     have hfz37_3 := blk_frozen BK142.out 3
     obtain ⟨Ao38, co38, eo38⟩ := Kd.R_slice HO_150003.out
     subst eo38
     go_wp2
     refine bodyPost_ret (results_cell_row rfl _ _ gb142 36 #[.string a0, .slice Ao9 y146.length co9, .bool false, .slice Ao38 x150003_1.length co38] (0, 0) _ rfl (by (with_reducible repeat (first | refine blk_drewN ?_ _ | refine blk_drew ?_ | refine blk_alloc ?_ _)); refine blk_put (cs := #[.string a0, .slice Ao9 y146.length co9, .bool false, .slice none 0 0]) ?_ 3 _ rfl; (with_reducible repeat (first | refine blk_drewN ?_ _ | refine blk_drew ?_ | refine blk_alloc ?_ _)); refine blk_put (cs := #[.string a0, .slice Ao9 y146.length co9, .bool false, .slice none 0 0]) ?_ 2 _ rfl; (with_reducible repeat (first | refine blk_drewN ?_ _ | refine blk_drew ?_ | refine blk_alloc ?_ _)); refine blk_put (cs := #[.string a0, .slice none 0 0, .bool false, .slice none 0 0]) ?_ 1 _ rfl; (with_reducible repeat (first | refine blk_drewN ?_ _ | refine blk_drew ?_ | refine blk_alloc ?_ _)); refine blk_put (cs := #[.string (⟨#[]⟩ : ByteArray), .slice none 0 0, .bool false, .slice none 0 0]) ?_ 0 _ rfl; (with_reducible repeat (first | refine blk_drewN ?_ _ | refine blk_drew ?_ | refine blk_alloc ?_ _)); exact BK142.out) Tryd.underlying36 rfl (by kernel_rfl)) rfl ?_
     exact ⟨_, _, by first | rfl | (simp [errW_none, errW_some] <;> rfl) | (simp [*, errW_none, errW_some] <;> rfl), by (with_reducible repeat (first | apply Kd.R_alloc | apply Kd.R_drewN | apply Kd.R_drew)); exact Kd.R_mono (Kd.R_far (p := ⟨gb142, 3, none⟩) (Kd.R_far (p := ⟨gb142, 2, none⟩) (Kd.R_far (p := ⟨gb142, 1, none⟩) (Kd.R_far (p := ⟨gb142, 0, none⟩) (Kd.R_types HO_150001.out BK142.out (by decide)) (fun _ hk => hk.2) (.string a0)) (fun _ hk => hk.2) (.slice Ao9 y146.length co9)) (fun _ hk => hk.2) (.bool false)) (fun _ hk => hk.2) (.slice Ao38 x150003_1.length co38)) (fun _ hk => trivial), by (with_reducible repeat (first | apply Kd.R_alloc | apply Kd.R_drewN | apply Kd.R_drew)); exact Kd.R_mono (Kd.R_far (p := ⟨gb142, 3, none⟩) (Kd.R_far (p := ⟨gb142, 2, none⟩) (Kd.R_far (p := ⟨gb142, 1, none⟩) (Kd.R_far (p := ⟨gb142, 0, none⟩) (Kd.R_types HO_150003.out BK142.out (by decide)) (fun _ hk => hk.2) (.string a0)) (fun _ hk => hk.2) (.slice Ao9 y146.length co9)) (fun _ hk => hk.2) (.bool false)) (fun _ hk => hk.2) (.slice Ao38 x150003_1.length co38)) (fun _ hk => trivial), by repeat (first | (with_reducible first | exact HB.out | apply below_alloc | apply pw_below_drewN | apply below_drew1 | refine below_set ?_ GE142.out | refine below_set ?_ GE149.out) | exact HB.out)⟩
 ·rw [if_neg c4] at H
  exact absurd H (by simp)
end Go.Proofs.YtmcdnpooclelgaaDoor.PAll
