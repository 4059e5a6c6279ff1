import Derived.Test.YtjjmmjgkdmnbcaaProg
import Derived.Test.YtjjmmjgkdmnbcaaWWords
import Derived.WalkKit
import Derived.Deep.QuietTactic
import Derived.BigQuiet
import Derived.Deep.RegionLaw
import Derived.Lib.Hide
import Derived.IntWalk
namespace Go.Proofs.Ytjjmmjgkdmnbcaa
open Go.RowKit Go.Proofs.YtjjmmjgkdmnbcaaW.PrintWords
/-! words of our own: appends of a literal row -/
section
variable {P : Program} {ops : Array Oper} {rest : List Oper} {o : Oper} {a : Act} {Q : Exit → Act → World → Prop} {K : Act → World → Prop}
/-- append(s, lit...), s the call's own row, the literal's cells in W's next block. -/
theorem ap_lit {w0 W : World} (base : Nat) (hgd : o.guard = none) (s x : Operand) (t e : TypeId) (z : Value) (size bytes : Nat)
    (ho : o.op = .call { callee := .builtin .append, args := #[s, x], argTypes := #[t, t] })
    (ht : P.underlying t = some (.slice e)) (hinfo : (P.info? e).map (fun i => (i.zero, i.size, i.bytes)) = some (some z, size, bytes)) (hz : z.cells.size = size) (hs0 : 0 < size) (hb0 : 0 < bytes)
    (v : Value) (n m : Nat) (xs ys : List Value) (hs : a.eval s = v) (hx : a.eval x = .slice (some ⟨W.heap.size, 0, none⟩) m m) (hys : ys.length = m * size) (h1 : ∀ u ∈ ys, u.oneCell' = true)
    (HO : W.ownsRow base e size v n xs) (HB : Below base w0 W) (hbase : base ≤ W.heap.size) (hl : (n + m) * bytes ≤ 140737488355328)
    (h : ∀ v1 w1, w1.ownsRow base e size v1 (n + m) (xs ++ ys) → Below base w0 w1 → W.grownBy w1 v.ownBlock → (v1.ownBlock = v.ownBlock ∨ ∃ b, v1.ownBlock = some b ∧ W.heap.size ≤ b) → wpList P ops Q rest (a.put o.dst v1) w1) :
    wpList P ops Q (o :: rest) a (W.alloc (.cells ys.toArray e)) := by
  obtain ⟨i0, hi, hzz⟩ := Option.map_eq_some_iff.1 hinfo
  simp only [Prod.mk.injEq] at hzz
  obtain ⟨hz0, hz1, hz2⟩ := hzz
  have hlen : n + m ≤ 140737488355328 := Nat.le_trans (Nat.le_mul_of_pos_right _ hb0) hl
  refine wpList_append_own_at (W.alloc (.cells ys.toArray e)) hgd s x t ho base e i0 z size bytes ht hi hz0 hz1 hz2 hz hs0 v n xs hs (HO.alloc _) ⟨W.heap.size, 0, none⟩ m m ys hx hys
    (by simpa using World.news_of_block (cs := ys.toArray) (t := e) (fr := (0, 0)) (heap_alloc_new W _)) h1 (by simp only [maxLen]; omega) hl (by simp; omega) ?_
  intro v1 w1 hown hg _ hat
  refine h v1 w1 hown ((HB.alloc hbase _).grown hg (by simp; omega) (own_base HO)) (World.grownBy.trans (World.grownBy_alloc W _ _) hg) ?_
  rcases hat with hat | hat
  · exact .inl hat
  · exact .inr ⟨_, hat, by simp⟩
/-- The same as one step of a region that draws. -/
theorem ap_lit_step {w0 W : World} (base : Nat) (hw : Region.wanted o (yielded ops a.tmps) = true) (s x : Operand) (t e : TypeId) (z : Value) (size bytes : Nat)
    (ho : o.op = .call { callee := .builtin .append, args := #[s, x], argTypes := #[t, t] })
    (ht : P.underlying t = some (.slice e)) (hinfo : (P.info? e).map (fun i => (i.zero, i.size, i.bytes)) = some (some z, size, bytes)) (hz : z.cells.size = size) (hs0 : 0 < size) (hb0 : 0 < bytes)
    (v : Value) (n m : Nat) (xs ys : List Value) (hs : a.eval s = v) (hx : a.eval x = .slice (some ⟨W.heap.size, 0, none⟩) m m) (hys : ys.length = m * size) (h1 : ∀ u ∈ ys, u.oneCell' = true)
    (HO : W.ownsRow base e size v n xs) (HB : Below base w0 W) (hbase : base ≤ W.heap.size) (hl : (n + m) * bytes ≤ 140737488355328)
    (h : ∀ v1 w1, w1.ownsRow base e size v1 (n + m) (xs ++ ys) → Below base w0 w1 → W.grownBy w1 v.ownBlock → (v1.ownBlock = v.ownBlock ∨ ∃ b, v1.ownBlock = some b ∧ W.heap.size ≤ b) → K (a.put o.dst v1) w1) :
    if Region.wanted o (yielded ops a.tmps) = true then Oper.wp P o a (W.alloc (.cells ys.toArray e)) K Q else K (a.put o.dst undef) (W.alloc (.cells ys.toArray e)) := by
  obtain ⟨i0, hi, hzz⟩ := Option.map_eq_some_iff.1 hinfo
  simp only [Prod.mk.injEq] at hzz
  obtain ⟨hz0, hz1, hz2⟩ := hzz
  have hlen : n + m ≤ 140737488355328 := Nat.le_trans (Nat.le_mul_of_pos_right _ hb0) hl
  rw [if_pos hw]
  obtain ⟨v1, w1, hr, hown, hg, _, hat⟩ := run_append_own_at (P := P) (W.alloc (.cells ys.toArray e)) base t o.type e i0 z size bytes ht hi hz0 hz1 hz2 hz hs0 v n xs (HO.alloc _) ⟨W.heap.size, 0, none⟩ m m ys hys
    (by simpa using World.news_of_block (cs := ys.toArray) (t := e) (fr := (0, 0)) (heap_alloc_new W (.cells ys.toArray e))) h1 (by simp only [maxLen]; omega) hl (by simp; omega)
  unfold Oper.wp execOp
  simp only [ho, resolve, invoke, builtin, Sem.run_bind, Sem.run_pure, Result.andThen_ok, List.map_toArray, List.map_cons, List.map_nil, hs, hx, hr]
  refine h v1 w1 hown ((HB.alloc hbase _).grown hg (by simp; omega) (own_base HO)) (World.grownBy.trans (World.grownBy_alloc W _ _) hg) ?_
  rcases hat with hat | hat
  · exact .inl hat
  · exact .inr ⟨_, hat, by simp⟩
end
/-- a row of one-cell elements that the call owns -/
def ER {α : Type} (enc : α → Value) (w : World) (base e : Nat) (v : Value) (xs : List α) : Prop := w.ownsRow base e 1 v xs.length (xs.map enc)
section
variable {α : Type} {enc : α → Value} {w : World} {base e : Nat} {v : Value} {xs : List α}
theorem ER.alloc (h : ER enc w base e v xs) (o : Obj) : ER enc (w.alloc o) base e v xs := World.ownsRow.alloc h o
theorem ER.drew (h : ER enc w base e v xs) : ER enc w.drew base e v xs := World.ownsRow.drew h
theorem ER.drewN (h : ER enc w base e v xs) (n : Nat) : ER enc (w.drewN n) base e v xs := own_move h (fun _ _ => rfl)
theorem ER.nil (enc : α → Value) (w : World) (base e : Nat) : ER enc w base e (.slice none 0 0) [] := World.ownsRow_nil w base e 1
theorem ER.lit (enc : α → Value) (w : World) (base e : Nat) (xs : List α) (hb : base ≤ w.heap.size) (hm : xs.length ≤ 9223372036854775807) : ER enc (w.alloc (.cells (xs.map enc).toArray e)) base e (.slice (some ⟨w.heap.size, 0, none⟩) xs.length xs.length) xs := by
  have h := World.ownsRow_lit (base := base) (e := e) (size := 1) w (xs.map enc).toArray xs.length hb (by simpa [maxLen] using hm) (by simp)
  unfold ER; simpa using h
theorem ER.move {w1 : World} (h : ER enc w base e v xs) (hm : ∀ k, v.ownBlock = some k → w1.heap[k]? = w.heap[k]?) : ER enc w1 base e v xs := own_move h hm
theorem ER.below {w1 : World} (h : ER enc w base e v xs) (hb : Below w.heap.size w w1) : ER enc w1 base e v xs := h.move fun k hk => hb.block k (own_lt h k hk)
theorem ER.lower {b : Nat} (h : ER enc w base e v xs) (hb : b ≤ base) : ER enc w b e v xs := own_weaken h hb
theorem ER.far (h : ER enc w base e v xs) {p : Addr} (hp : p.block < base) (u : Value) : ER enc (w.setCell p u) base e v xs := ownsRow_setCell_below h hp u
theorem ER.form (h : ER enc w base e v xs) : ∃ A c, v = .slice A xs.length c ∧ (0 < xs.length → ∃ g, A = some ⟨g, 0, none⟩ ∧ base ≤ g ∧ g < w.heap.size ∧ (∀ j, w.frozen? ⟨g, j, none⟩ = false) ∧ ∀ (j : Nat) (x : α), xs[j]? = some x → w.cell? ⟨g, j, none⟩ = some (enc x)) := by
  have h' := h
  rcases h.2 with ⟨rfl, hn⟩ | ⟨g, cap, cur, rfl, hb, hg, _⟩
  · exact ⟨none, 0, by rw [hn], fun hp => by omega⟩
  · refine ⟨_, cap, rfl, fun _ => ⟨g, rfl, hb, (Array.getElem?_eq_some_iff.1 hg).1, fun j => World.ownsRow.frozenAt h' j, fun j x hx => ?_⟩⟩
    have hj := (List.getElem?_eq_some_iff.1 hx).1
    rw [World.ownsRow.cellAt h' j (by omega), List.getElem?_map, hx]; rfl
theorem ER.set {g c : Nat} (h : ER enc w base e (.slice (some ⟨g, 0, none⟩) xs.length c) xs) (j : Nat) (x : α) :
    ER enc (w.setCell ⟨g, j, none⟩ (enc x)) base e (.slice (some ⟨g, 0, none⟩) (xs.set j x).length c) (xs.set j x) ∧ w.grownBy (w.setCell ⟨g, j, none⟩ (enc x)) (some g) := by
  obtain ⟨h1, h2⟩ := World.ownsRow.stored h j (enc x)
  refine ⟨?_, h2⟩
  unfold ER
  rw [List.length_set, List.map_set]
  exact h1
end
section
variable {P : Program} {ops : Array Oper} {rest : List Oper} {o : Oper} {a : Act} {Q : Exit → Act → World → Prop} {K : Act → World → Prop} {α : Type} {enc : α → Value}
theorem ER.app {w0 W : World} {base : Nat} {v : Value} {xs : List α} (h1 : ∀ x, (enc x).oneCell' = true) (z : Value) (bytes : Nat) (ys : List α) (s x : Operand) (t e : TypeId) (HO : ER enc W base e v xs) (HB : Below base w0 W) (hl : xs.length + ys.length ≤ 8796093022208)
    (hgd : o.guard = none)
    (ho : o.op = .call { callee := .builtin .append, args := #[s, x], argTypes := #[t, t] })
    (ht : P.underlying t = some (.slice e)) (hinfo : (P.info? e).map (fun i => (i.zero, i.size, i.bytes)) = some (some z, 1, bytes)) (hz : z.cells.size = 1) (hb0 : 0 < bytes) (hb8 : bytes ≤ 16)
    (hbase : base ≤ W.heap.size) (hs : a.eval s = v) (hx : a.eval x = .slice (some ⟨W.heap.size, 0, none⟩) ys.length ys.length)
    (h : ∀ v1 w1, Aside0 (ER enc w1 base e v1 (xs ++ ys)) → Below base w0 w1 → Aside0 (W.grownBy w1 v.ownBlock) → Aside0 (v1.ownBlock = v.ownBlock ∨ ∃ b, v1.ownBlock = some b ∧ W.heap.size ≤ b) → wpList P ops Q rest (a.put o.dst v1) w1) :
    wpList P ops Q (o :: rest) a (W.alloc (.cells (ys.map enc).toArray e)) := by
  have hm : (xs.length + ys.length) * bytes ≤ 140737488355328 := Nat.le_trans (Nat.mul_le_mul hl hb8) (by omega)
  refine ap_lit base hgd s x t e z 1 bytes ho ht hinfo hz (by omega) hb0 v xs.length ys.length (xs.map enc) (ys.map enc) hs hx (by simp) (fun u hu => by obtain ⟨x, _, rfl⟩ := List.mem_map.1 hu; exact h1 x) HO HB hbase hm ?_
  intro v1 w1 h1 h2 h3 h4
  exact h v1 w1 ⟨by unfold ER; rw [List.map_append, List.length_append]; exact h1⟩ h2 ⟨h3⟩ ⟨h4⟩
theorem ER.app_step {w0 W : World} {base : Nat} {v : Value} {xs : List α} (h1 : ∀ x, (enc x).oneCell' = true) (z : Value) (bytes : Nat) (ys : List α) (s x : Operand) (t e : TypeId) (HO : ER enc W base e v xs) (HB : Below base w0 W) (hl : xs.length + ys.length ≤ 8796093022208)
    (hw : Region.wanted o (yielded ops a.tmps) = true)
    (ho : o.op = .call { callee := .builtin .append, args := #[s, x], argTypes := #[t, t] })
    (ht : P.underlying t = some (.slice e)) (hinfo : (P.info? e).map (fun i => (i.zero, i.size, i.bytes)) = some (some z, 1, bytes)) (hz : z.cells.size = 1) (hb0 : 0 < bytes) (hb8 : bytes ≤ 16)
    (hbase : base ≤ W.heap.size) (hs : a.eval s = v) (hx : a.eval x = .slice (some ⟨W.heap.size, 0, none⟩) ys.length ys.length)
    (h : ∀ v1 w1, Aside0 (ER enc w1 base e v1 (xs ++ ys)) → Below base w0 w1 → Aside0 (W.grownBy w1 v.ownBlock) → Aside0 (v1.ownBlock = v.ownBlock ∨ ∃ b, v1.ownBlock = some b ∧ W.heap.size ≤ b) → K (a.put o.dst v1) w1) :
    if Region.wanted o (yielded ops a.tmps) = true then Oper.wp P o a (W.alloc (.cells (ys.map enc).toArray e)) K Q else K (a.put o.dst undef) (W.alloc (.cells (ys.map enc).toArray e)) := by
  have hm : (xs.length + ys.length) * bytes ≤ 140737488355328 := Nat.le_trans (Nat.mul_le_mul hl hb8) (by omega)
  refine ap_lit_step base hw s x t e z 1 bytes ho ht hinfo hz (by omega) hb0 v xs.length ys.length (xs.map enc) (ys.map enc) hs hx (by simp) (fun u hu => by obtain ⟨x, _, rfl⟩ := List.mem_map.1 hu; exact h1 x) HO HB hbase hm ?_
  intro v1 w1 h1 h2 h3 h4
  exact h v1 w1 ⟨by unfold ER; rw [List.map_append, List.length_append]; exact h1⟩ h2 ⟨h3⟩ ⟨h4⟩
end
/-! rows of numbers -/
def NR (w : World) (base e : Nat) (k : IntKind) (v : Value) (xs : List Int) : Prop := ER (Value.int k) w base e v xs
theorem NR.alloc {w : World} {base e : Nat} {k : IntKind} {v : Value} {xs : List Int} (h : NR w base e k v xs) (o : Obj) : NR (w.alloc o) base e k v xs := ER.alloc h o
theorem NR.drew {w : World} {base e : Nat} {k : IntKind} {v : Value} {xs : List Int} (h : NR w base e k v xs) : NR w.drew base e k v xs := ER.drew h
theorem NR.nil (w : World) (base e : Nat) (k : IntKind) : NR w base e k (.slice none 0 0) [] := ER.nil _ w base e
theorem NR.lit (w : World) (base e : Nat) (k : IntKind) (xs : List Int) (hb : base ≤ w.heap.size) (hm : xs.length ≤ 9223372036854775807) : NR (w.alloc (.cells (nums k xs).toArray e)) base e k (.slice (some ⟨w.heap.size, 0, none⟩) xs.length xs.length) xs := ER.lit (Value.int k) w base e xs hb hm
section
variable {P : Program} {ops : Array Oper} {rest : List Oper} {o : Oper} {a : Act} {Q : Exit → Act → World → Prop} {K : Act → World → Prop}
theorem NR.app {w0 W : World} {base : Nat} {k : IntKind} {v : Value} {xs : List Int} (bytes : Nat) (ys : List Int) (s x : Operand) (t e : TypeId) (HO : NR W base e k v xs) (HB : Below base w0 W) (hl : xs.length + ys.length ≤ 8796093022208)
    (hgd : o.guard = none)
    (ho : o.op = .call { callee := .builtin .append, args := #[s, x], argTypes := #[t, t] })
    (ht : P.underlying t = some (.slice e)) (hinfo : (P.info? e).map (fun i => (i.zero, i.size, i.bytes)) = some (some (.int k 0), 1, bytes)) (hb0 : 0 < bytes) (hb8 : bytes ≤ 16)
    (hbase : base ≤ W.heap.size) (hs : a.eval s = v) (hx : a.eval x = .slice (some ⟨W.heap.size, 0, none⟩) ys.length ys.length)
    (h : ∀ v1 w1, Aside0 (NR w1 base e k v1 (xs ++ ys)) → Below base w0 w1 → Aside0 (W.grownBy w1 v.ownBlock) → Aside0 (v1.ownBlock = v.ownBlock ∨ ∃ b, v1.ownBlock = some b ∧ W.heap.size ≤ b) → wpList P ops Q rest (a.put o.dst v1) w1) :
    wpList P ops Q (o :: rest) a (W.alloc (.cells (nums k ys).toArray e)) :=
  ER.app (enc := Value.int k) (fun _ => rfl) (.int k 0) bytes ys s x t e HO HB hl hgd ho ht hinfo rfl hb0 hb8 hbase hs hx h
theorem NR.app_step {w0 W : World} {base : Nat} {k : IntKind} {v : Value} {xs : List Int} (bytes : Nat) (ys : List Int) (s x : Operand) (t e : TypeId) (HO : NR W base e k v xs) (HB : Below base w0 W) (hl : xs.length + ys.length ≤ 8796093022208)
    (hw : Region.wanted o (yielded ops a.tmps) = true)
    (ho : o.op = .call { callee := .builtin .append, args := #[s, x], argTypes := #[t, t] })
    (ht : P.underlying t = some (.slice e)) (hinfo : (P.info? e).map (fun i => (i.zero, i.size, i.bytes)) = some (some (.int k 0), 1, bytes)) (hb0 : 0 < bytes) (hb8 : bytes ≤ 16)
    (hbase : base ≤ W.heap.size) (hs : a.eval s = v) (hx : a.eval x = .slice (some ⟨W.heap.size, 0, none⟩) ys.length ys.length)
    (h : ∀ v1 w1, Aside0 (NR w1 base e k v1 (xs ++ ys)) → Below base w0 w1 → Aside0 (W.grownBy w1 v.ownBlock) → Aside0 (v1.ownBlock = v.ownBlock ∨ ∃ b, v1.ownBlock = some b ∧ W.heap.size ≤ b) → K (a.put o.dst v1) w1) :
    if Region.wanted o (yielded ops a.tmps) = true then Oper.wp P o a (W.alloc (.cells (nums k ys).toArray e)) K Q else K (a.put o.dst undef) (W.alloc (.cells (nums k ys).toArray e)) :=
  ER.app_step (enc := Value.int k) (fun _ => rfl) (.int k 0) bytes ys s x t e HO HB hl hw ho ht hinfo rfl hb0 hb8 hbase hs hx h
end
/-! what a call changes: at most the blocks bs -/
structure Upd (bs : List Nat) (w w' : World) : Prop where
  os : w'.os = w.os
  tape : w'.tape = w.tape
  output : w'.output = w.output
  size : w.heap.size ≤ w'.heap.size
  block : ∀ k, k < w.heap.size → k ∉ bs → w'.heap[k]? = w.heap[k]?
theorem Upd.refl (bs : List Nat) (w : World) : Upd bs w w := ⟨rfl, rfl, rfl, Nat.le_refl _, fun _ _ _ => rfl⟩
theorem Upd.trans {bs cs : List Nat} {a b c : World} (h : Upd bs a b) (k : Upd cs b c) (hc : ∀ x ∈ cs, x < a.heap.size → x ∈ bs) : Upd bs a c :=
  ⟨k.os.trans h.os, k.tape.trans h.tape, k.output.trans h.output, Nat.le_trans h.size k.size, fun i hi hn => (k.block i (Nat.lt_of_lt_of_le hi h.size) (fun hm => hn (hc i hm hi))).trans (h.block i hi hn)⟩
theorem Upd.mono {bs cs : List Nat} {a b : World} (h : Upd bs a b) (hc : ∀ x ∈ bs, x < a.heap.size → x ∈ cs) : Upd cs a b :=
  ⟨h.os, h.tape, h.output, h.size, fun i hi hn => h.block i hi (fun hm => hn (hc i hm hi))⟩
theorem Upd.of_below {a b : World} (h : Below a.heap.size a b) (bs : List Nat) : Upd bs a b := ⟨h.os, h.tape, h.output, h.size, fun i hi _ => h.block i hi⟩
theorem Upd.below {bs : List Nat} {a b : World} (h : Upd bs a b) {B : Nat} (hB : B ≤ a.heap.size) (hc : ∀ x ∈ bs, B ≤ x) : Below B a b :=
  ⟨h.os, h.tape, h.output, h.size, fun i hi => h.block i (by omega) (fun hm => by have := hc i hm; omega)⟩
theorem Upd.of_grown {a b : World} {row : Option Nat} (h : a.grownBy b row) : Upd row.toList a b :=
  ⟨h.os, h.tape, h.output, h.size, fun i hi hn => h.block i hi (fun he => hn (by rw [← he]; simp))⟩
theorem Upd.drewN {bs : List Nat} {a b : World} (h : Upd bs a b) (n : Nat) : Upd bs a (b.drewN n) := ⟨h.os, h.tape, h.output, h.size, h.block⟩
theorem Upd.drew {bs : List Nat} {a b : World} (h : Upd bs a b) : Upd bs a b.drew := ⟨h.os, h.tape, h.output, h.size, h.block⟩
theorem Upd.alloc {bs : List Nat} {a b : World} (h : Upd bs a b) (o : Obj) : Upd bs a (b.alloc o) := h.trans (Upd.of_below ((Below.refl _ _).alloc (Nat.le_refl _) o) []) (fun _ hx => by cases hx)
theorem ER.upd {α : Type} {enc : α → Value} {w w1 : World} {base e : Nat} {v : Value} {xs : List α} {bs : List Nat} (h : ER enc w base e v xs) (hu : Upd bs w w1) (hn : ∀ k, v.ownBlock = some k → k ∉ bs) : ER enc w1 base e v xs := h.move fun k hk => hu.block k (own_lt h k hk) (hn k hk)
end Go.Proofs.Ytjjmmjgkdmnbcaa
