/- Texts of this claim, packed: contracts of functions and plain lemmas that the law is proved from. -/
import Derived.Deep.RegionWith
import Derived.Test.YtmcdnpooclelgaaDoorQPrint1
import Derived.Test.YtmcdnpooclelgaaDoorQPrint2
import Derived.Test.YtmcdnpooclelgaaDoorQPrint3
set_option linter.unusedVariables false
set_option linter.unusedSimpArgs false
namespace Go.Proofs.YtmcdnpooclelgaaDoor.PAll
open Go.RowKit Go.Proofs.YtmcdnpooclelgaaDoorW.PrintWords
open Go.WideMaps Go.Maps
theorem implRules_nil (kind : ByteArray) (w : World) (h : rulesL kind = []) : Calls Tryd.prog 14 #[.string kind] w (fun e w' => e = .returned (.slice none 0 0) ∧ Below w.heap.size w w') := by
  rcases kind_cases kind with rfl | rfl | rfl | ⟨h1, h2, h3, h4⟩
  · rw [rulesL_team] at h; cases h
  · rw [rulesL_berth] at h; cases h
  · rw [rulesL_service] at h; cases h
  · have n1 : (kind.toList == ([116, 101, 97, 109] : List UInt8)) = false := str_neL kind _ h1
    have n2 : (kind.toList == ([98, 101, 114, 116, 104] : List UInt8)) = false := str_neL kind _ h2
    have n3 : (kind.toList == ([115, 101, 114, 118, 105, 99, 101] : List UInt8)) = false := str_neL kind _ h3
    clear h1 h2 h3 h4 h
    go_enter Tryd.func14, Tryd.ntmps14
    go_wp2
    go_ret
    exact ⟨rfl, Below.refl _ _⟩
theorem implRules_some (kind : ByteArray) (w : World) (h : rulesL kind ≠ []) : Calls Tryd.prog 14 #[.string kind] w (fun e w' => ∃ g n c, e = .returned (.slice (some ⟨g, 0, none⟩) n c) ∧ Below w.heap.size w w') := by
  refine (implRules_any kind w).mono ?_
  rintro e w' ⟨v, F, rfl, ⟨v', vss, Gs, hv, ho, _⟩, hb⟩
  injection hv with hv _
  subst hv
  rcases ownSl ho with ⟨_, hn⟩ | ⟨g, c, rfl⟩
  · exact absurd (List.length_eq_zero_iff.1 hn) h
  · exact ⟨g, _, c, rfl, hb⟩
def fitB (ls : List S83) : Prop := ls.length ≤ 1099511627776 ∧ ∀ l ∈ ls, l.f0.size ≤ 1099511627776 ∧ l.f1.length ≤ 1099511627776 ∧ ∀ s ∈ l.f1, s.size ≤ 1099511627776
def blockOkL (kind name : ByteArray) (ls : List S83) : Bool := !(rulesL kind).isEmpty && (nameOk name && linesOkL kind ls)
def CntAt (w : World) (b n : Nat) (D : DataW Unit) (ls : List S83) : Prop := w.ownsMap Tryd.prog 9 (plainElem Tryd.prog 3) b n D ∧ IsMap D ∧ ∀ s : ByteArray, s.size ≤ 1099511627776 → D.atKey (.string s.data.toList) (.lit (.int .i64 0)) = .lit (.int .i64 (cntKey s ls))
theorem dataList_inj {a b : ByteArray} (h : a.data.toList = b.data.toList) : a = b := by
  cases a; cases b
  simp only [Array.toList_inj] at h
  rw [h]
theorem CntAt.put {w w' : World} {b n : Nat} {D : DataW Unit} {ls ls' : List S83} {key : ByteArray} {c : Nat} (h : CntAt w b n D ls) (hc : c = cntKey key ls + 1) (hl : ∀ s, cntKey s ls' = cntKey s ls + if key = s then 1 else 0)
    (ho : w'.ownsMap Tryd.prog 9 (plainElem Tryd.prog 3) b (n + 1) (D.put (.string key.data.toList) (.lit (.int .i64 c)))) : CntAt w' b (n + 1) (D.put (.string key.data.toList) (.lit (.int .i64 c))) ls' := by
  obtain ⟨_, h2, h3⟩ := h
  refine ⟨ho, h2.put _ _, fun s hs => ?_⟩
  by_cases q : key = s
  · subst q
    rw [atKey_put_same h2 (by trivial), hl, hc, if_pos rfl]
  · rw [atKey_put_other (by intro e; injection e with e; exact q (dataList_inj e).symm), h3 s hs, hl, if_neg q, Nat.add_zero]
theorem CntAt.below {w w' : World} {b n : Nat} {D : DataW Unit} {ls : List S83} (h : CntAt w b n D ls) (hb : Below w.heap.size w w') : CntAt w' b n D ls := by
  obtain ⟨⟨es, cl, h1, h2, h3, h4⟩, h5⟩ := h
  exact ⟨⟨es, cl, by rw [hb.block _ (blk_lt h1)]; exact h1, h2, h3, h4⟩, h5⟩
theorem CntAt.start (w : World) : CntAt (w.alloc (.map #[] 0)) w.heap.size 0 (.map []) [] := ⟨World.ownsMap_made _ _ _ _, isMap_empty, fun _ _ => rfl⟩
theorem below_grown {N : Nat} {w0 w w' : World} {b : Nat} (h : Below N w0 w) (hg : w.grownBy w' (some b)) (hb : N ≤ b) (hs : N ≤ w0.heap.size) : Below N w0 w' := by
  obtain ⟨h1, h2, h3, h4, h5⟩ := hg
  exact ⟨h1.trans h.os, h2.trans h.tape, h3.trans h.output, Nat.le_trans h.size h4, fun k hk => by rw [h5 k (by have := h.size; omega) (by intro e; injection e with e; omega)]; exact h.block k hk⟩
theorem inc2 {j n : Nat} (h : j < n) (hn : n ≤ 1099511627776) : wrap64 ((j : Int) + 1 + 1) = ((j + 1 + 1 : Nat) : Int) := by rw [w64 (by omega) (by omega)]; rfl
theorem less2 {j n : Nat} (h : j + 1 < n) : n - (((j + 1 + 1 : Nat) : Int)).toNat < n - (((j + 1 : Nat) : Int)).toNat := by rw [Int.toNat_natCast, Int.toNat_natCast]; omega
theorem zeroI (w : World) : (zeroValue 3).run Tryd.prog w = .ok (.int .i64 0) w := by kernel_rfl
theorem isName_c (name : ByteArray) (w : World) (hn : name.size ≤ 1099511627776) : Calls Tryd.prog 109 #[.string name] w fun e w' => e = .returned (.bool (nameOk name)) ∧ Drawn0 w w' := by
  obtain ⟨K, hk⟩ := ev_isName name (by omega)
  exact impl_isName.calls K name _ w (hk K (Nat.le_refl _))
theorem fits_c (kind key : ByteArray) (A : Option Addr) (c : Nat) (ws : List ByteArray) (w : World) (hr : Kd.string.C w A ws.length ws) (hc : ws.length ≤ c) (hw : ∀ s ∈ ws, s.size ≤ 1099511627776) : Calls Tryd.prog 21 #[.string kind, .string key, .slice A ws.length c] w fun e w' => e = .returned (.bool (fitsL kind key ws)) ∧ Below w.heap.size w w' := by
  obtain ⟨K, hk⟩ := ev_implFits kind key ws (fun s hs => by have := hw s hs; omega)
  exact impl_SheetFits.calls K kind key A c ws _ w hr hc (hk K (Nat.le_refl _))
theorem order_c (kind : ByteArray) (A B : Option Addr) (c d : Nat) (a b : S83) (w : World) (ha : Kd.string.C w A a.f1.length a.f1) (hc : a.f1.length ≤ c) (hb : Kd.string.C w B b.f1.length b.f1) (hd : b.f1.length ≤ d) (h1 : a.f1.length ≤ 1099511627776) (h2 : b.f1.length ≤ 1099511627776) :
    Calls Tryd.prog 116 #[.string kind, .agg #[.string a.f0, .slice A a.f1.length c], .agg #[.string b.f0, .slice B b.f1.length d]] w fun e w' => e = .returned (.int .i64 (ordL kind a b)) ∧ Below w.heap.size w w' := by
  obtain ⟨K, hk⟩ := ev_order kind a b h1 h2
  exact impl_order.calls K kind a.f0 A c a.f1 b.f0 B d b.f1 _ w ha hc hb hd (hk K (Nat.le_refl _))
theorem find_c (kind key : ByteArray) (w : World) : Calls Tryd.prog 64 #[.string kind, .string key] w fun e w' => ∃ (r1 : ByteArray) (g1 : Option Addr) (n1 c1 : Nat) (g2 : Option Addr) (n2 c2 : Nat), e = .returned (.tuple #[.agg #[.string r1, .slice g1 n1 c1, .bool (manyL kind key), .slice g2 n2 c2], .int .i64 (placeL kind key)]) ∧ Below w.heap.size w w' := by
  obtain ⟨K, hk⟩ := ev_find kind key
  have h := hk K (Nat.le_refl _)
  have e1 := many_find kind key
  have e2 := findR_place kind key
  generalize findR (lookL kind key) = fr at *
  obtain ⟨f1, f2, f3, f4, f5⟩ := fr
  refine (impl_find.calls K kind key _ _ _ _ _ w h).mono ?_
  rintro e w' ⟨v1, v3, rfl, hR1, hR3, hb⟩
  obtain ⟨g1, c1, rfl⟩ := Kd.R_slice hR1
  obtain ⟨g2, c2, rfl⟩ := Kd.R_slice hR3
  exact ⟨_, g1, _, c1, g2, _, c2, by rw [← e1, ← e2], hb⟩
set_option maxRecDepth 100000 in
set_option maxHeartbeats 4000000 in
theorem blockOk_any (kind name : ByteArray) (A : Option Addr) (c : Nat) (ls : List S83) (w : World) (hr : Kd.C k83 w A ls.length ls) (hn : name.size ≤ 1099511627776) (hf : fitB ls) :
    Calls Tryd.prog 75 #[.agg #[.string kind, .string name, .slice A ls.length c]] w fun e w' => e = .returned (.bool (blockOkL kind name ls)) ∧ Below w.heap.size w w' := by
  have heq := fun (w : World) (a : Option Addr) (n c : Nat) => Go.Lib.run_eql_slice_nil (P := Tryd.prog) w 22 36 a n c 0 0 Tryd.underlying22
  have HR := Aside0.mk hr
  have HF := Aside0.mk hf
  clear hr hf
  by_cases hrl : rulesL kind = []
  · go_enter Tryd.func75, Tryd.ntmps75
    go_wp2_with fail
    refine (implRules_nil kind _ hrl).mono ?_
    rintro e w1 ⟨rfl, hb1⟩
    go_wp2_with fail
    go_ret
    refine ⟨by rw [blockOkL, hrl]; rfl, ?_⟩
    exact below_step ((Below.refl _ _).alloc (Nat.le_refl _) _) hb1
  · go_enter Tryd.func75, Tryd.ntmps75
    go_wp2_with fail
    refine (implRules_some kind _ hrl).mono ?_
    rintro e w1 ⟨g1, n1, c1, rfl, hb1⟩
    have B1 : Below w.heap.size w w1 := below_step ((Below.refl _ _).alloc (Nat.le_refl _) _) hb1
    have x10 : w1.cell? ⟨w.heap.size, 0, none⟩ = some (.string kind) := pw_cell_below hb1 (by go_simp)
    have x11 : w1.cell? ⟨w.heap.size, 1, none⟩ = some (.string name) := pw_cell_below hb1 (by go_simp)
    have x12 : w1.cell? ⟨w.heap.size, 2, none⟩ = some (.slice A ls.length c) := pw_cell_below hb1 (by go_simp)
    have hN1 : w.heap.size < w1.heap.size := by have := hb1.size; simp at this; omega
    clear hb1
    go_wp2_with fail
    refine (isName_c name w1 hn).mono ?_
    rintro e w2 ⟨rfl, ⟨nd, rfl⟩⟩
    cases hnm : nameOk name with
    | false =>
      go_wp2_with fail
      go_ret
      exact ⟨by rw [blockOkL, hnm]; simp, pw_below_drewN B1 _⟩
    | true =>
      have HBK : Aside0 (blockOkL kind name ls = linesFrom kind [] ls) := ⟨by rw [blockOkL, hnm, Bool.true_and]; cases h : rulesL kind with | nil => exact absurd h hrl | cons a b => rfl⟩
      clear hnm hrl
      have B2 : Below w.heap.size w (w1.drewN nd) := pw_below_drewN B1 _
      have x20 : (w1.drewN nd).cell? ⟨w.heap.size, 0, none⟩ = some (.string kind) := x10
      have x22 : (w1.drewN nd).cell? ⟨w.heap.size, 2, none⟩ = some (.slice A ls.length c) := x12
      have hN2 : w.heap.size < (w1.drewN nd).heap.size := hN1
      clear x10 x11 x12 hN1 B1
      generalize w1.drewN nd = w0 at *
      have S0 := CntAt.start w0
      have hmm := run_makeMap (P := Tryd.prog) 132 w0
      go_wp2
      go_loopw [22] (fun v wr => ∃ k : Nat, v = .int .i64 k ∧ k ≤ ls.length ∧ Below w0.heap.size w0 wr ∧ Aside0 (∃ D, CntAt wr w0.heap.size k D (ls.take k)) ∧ Aside0 (blockOkL kind name ls = linesFrom kind (ls.take k) (ls.drop k))) (fun v _ => ls.length - (intOf v).toNat)
      case atStart => exact ⟨0, rfl, Nat.zero_le _, (Below.refl _ _).alloc (Nat.le_refl _) _, ⟨_, S0⟩, HBK⟩
      case round =>
        obtain ⟨k, rfl, hk, hB, hD, hf⟩ := hrel
        clear S0 HBK hmm
        by_cases hlt : k < ls.length
        · obtain ⟨ad, A1, d1, rfl, hx0, hx1, hl1, hC1⟩ := line_at (Kd.C_below (Kd.C_below HR.out B2) hB) k ls[k] (List.getElem?_eq_getElem hlt)
          have hstep := hf.out
          rw [List.drop_eq_getElem_cons hlt, linesFrom] at hstep
          have hW := HF.out.2 _ (List.getElem_mem hlt)
          have htk : ls.take k ++ [ls[k]] = ls.take (k + 1) := by rw [List.take_add_one, List.getElem?_eq_getElem hlt]; rfl
          have hcw := fun key => cntKey_snoc key (ls.take k) ls[k]
          rw [htk] at hstep hcw
          have HL := Aside0.mk (show ls[k]? = some ls[k] from List.getElem?_eq_getElem hlt)
          have HC1 := Aside0.mk hC1
          have L1 := Aside0.mk hl1
          have xr0 := pw_cell_below hB x20
          have xr2 := pw_cell_below hB x22
          have HST := Aside0.mk hstep
          have HCW := Aside0.mk hcw
          clear hf hC1 hl1 hstep htk hcw
          generalize ls[k] = l at *
          have i1 : (k : Int) < (ls.length : Int) := by omega
          go_upto_region 7 with (fail)
          have B6 : Below wr.heap.size wr (wr.alloc (.cells #[.string l.f0, .slice A1 l.f1.length d1] 83)) := (Below.refl _ _).alloc (Nat.le_refl _) _
          have y0 : (wr.alloc (.cells #[.string l.f0, .slice A1 l.f1.length d1] 83)).cell? ⟨wr.heap.size, 0, none⟩ = some (.string l.f0) := by go_simp
          have y1 : (wr.alloc (.cells #[.string l.f0, .slice A1 l.f1.length d1] 83)).cell? ⟨wr.heap.size, 1, none⟩ = some (.slice A1 l.f1.length d1) := by go_simp
          have s6 : wr.heap.size < (wr.alloc (.cells #[.string l.f0, .slice A1 l.f1.length d1] 83)).heap.size := by simp
          generalize wr.alloc (.cells #[.string l.f0, .slice A1 l.f1.length d1] 83) = W6 at *
          have hB06 := hB.trans (B6.mono hB.size)
          have hD6 : Aside0 (∃ D, CntAt W6 w0.heap.size k D (ls.take k)) := by obtain ⟨D, hD⟩ := hD.out; exact ⟨⟨D, hD.below B6⟩⟩
          have q0 := fun p : BW W6 => p.cell (pw_cell_below B6 xr0)
          have q50 := fun p : BW W6 => p.cell y0
          have q51 := fun p : BW W6 => p.cell y1
          have s5 : w0.heap.size < wr.heap.size := by obtain ⟨D, hD⟩ := hD.out; exact hD.1.lt
          clear hD xr0 hx0 hx1
          have FC := fun p : BW W6 => fits_c kind l.f0 A1 d1 l.f1 p.w' (Kd.C_below (Kd.C_below HC1.out B6) p.h) L1.out hW.2.2
          cases hfit : fitsL kind l.f0 l.f1 with
          | false =>
            rw [hfit] at FC
            have HFIT := Aside0.mk hfit
            clear hfit
            refine wp_region_below (by kernel_rfl) (by kernel_rfl) ?_
            repeat ((with_reducible refine wpQuiet_step ?_); (with_reducible intro K hK); go_simp; first | ((with_reducible refine hK _ ?_); clear hK K) | ((with_reducible refine quiet_off (fun h => ?_) ?_); exact h; (with_reducible refine hK _ ?_); clear hK K) | (apply Exists.intro; refine ⟨fun _ => ?_, hK _ ?_⟩; (first | (go_at_call 21; exact BW.calls (FC _))); clear hK K))
            with_reducible refine wpQuiet_nil ?_
            intro wn hw'
            obtain ⟨⟨_, hBn⟩, rfl⟩ := hw'
            go_wp2
            go_ret
            exact ⟨by rw [HST.out, HFIT.out]; rfl, B2.trans ((hB06.trans (hBn.mono hB06.size)).mono B2.size)⟩
          | true =>
            rw [hfit] at FC
            have hstep := HST.out
            rw [hfit, Bool.true_and] at hstep
            clear hfit HST
            by_cases hk0 : k = 0
            · have hpick : headOk kind (ls.take k) l = true := by subst hk0; exact headOk_nil kind l
              rw [hpick, Bool.true_and] at hstep
              have HST := Aside0.mk hstep
              clear hstep hpick
              have ik : ¬ ((k : Int) > 0) := by omega
              have ik0 : decide ((k : Int) > 0) = false := decide_eq_false ik
              refine wp_region_below (by kernel_rfl) (by kernel_rfl) ?_
              repeat ((with_reducible refine wpQuiet_step ?_); (with_reducible intro K hK); go_simp; first | ((with_reducible refine hK _ ?_); clear hK K) | ((with_reducible refine quiet_off (fun h => ?_) ?_); exact h; (with_reducible refine hK _ ?_); clear hK K) | (apply Exists.intro; refine ⟨fun _ => ?_, hK _ ?_⟩; (first | (go_at_call 21; exact BW.calls (FC _))); clear hK K))
              with_reducible refine wpQuiet_nil ?_
              intro wn hw'
              obtain ⟨⟨_, hBn⟩, rfl⟩ := hw'
              have HK0 := Aside0.mk hk0
              clear hk0 ik ik0
              have CN := hD6.out
              obtain ⟨D, hCN⟩ := CN
              obtain ⟨hown, hIs, hat0⟩ := hCN.below hBn
              have hkey : keyOf Tryd.prog 9 (.string l.f0) = some (.string l.f0.data.toList) := keyOf_string_mk Tryd.underlying9 (by have := hW.1; unfold maxLen; omega)
              obtain ⟨n9, hrun, hat, _⟩ := hown.lookup_int (string_keyed Tryd.underlying9) Tryd.underlying132 Tryd.underlying3 (zeroI _) hkey
              have hn9 : n9 = cntKey l.f0 (ls.take k) := by
                have h9 := hat.symm.trans (hat0 l.f0 hW.1)
                injection h9 with h9
                injection h9
              subst hn9
              clear hat
              have z0 : wn.cell? ⟨w.heap.size, 0, none⟩ = some (.string kind) := q0 ⟨wn, hBn⟩
              have z50 := pw_cell_below hBn y0
              have hk9 : k < maxLen := by have := HF.out.1; unfold maxLen; omega
              go_wp2_with (first
                | (at_mapUpdate; refine wpList_mapUpdate_own _ rfl _ _ _ 132 rfl 9 3 (string_keyed Tryd.underlying9) Tryd.underlying132 _ w0.heap.size k _ rfl hown hk9 _ _ _ rfl rfl hkey _ [] (plainElem_int Tryd.underlying3 (wrap64_wf _)) ?_)
                | go_in)
              intro w9 hown9 hgrow9
              have e9 : wrap64 ((cntKey l.f0 (ls.take k) : Int) + 1) = ((cntKey l.f0 (ls.take k) + 1 : Nat) : Int) := inc (by have := cntKey_le l.f0 (ls.take k); have := HF.out.1; rw [List.length_take] at *; omega)
              rw [e9] at hown9
              have hCN9 := CntAt.put (hCN.below hBn) rfl HCW.out hown9
              have z90 := hgrow9.cell z0 (by intro e; injection e with e; simp only at e; omega)
              have z950 := hgrow9.cell z50 (by intro e; injection e with e; simp only at e; omega)
              have s9 : wr.heap.size < w9.heap.size := by have := hBn.size; have := hgrow9.size; omega
              have B9 := below_grown (hB06.trans (hBn.mono hB06.size)) hgrow9 (Nat.le_refl _) (Nat.le_refl _)
              clear hown9 hgrow9 hown hIs hat0 hrun z0 z50 hCN hBn FC q0 q50 q51 y0 y1 s6 hD6
              go_wp2_with fail
              refine (find_c kind l.f0 w9).mono ?_
              rintro e w10 ⟨r1, g5, n5, c5, g6, n6, c6, rfl, hb10⟩
              go_upto_region 11 with (fail)
              clear z90 hkey hk9 e9 hB06 B6
              have hct := cntKey_le l.f0 (ls.take (k + 1))
              rw [List.length_take] at hct
              have hTM := Aside0.mk (show tooMany kind l.f0 (cntKey l.f0 (ls.take (k + 1))) = ((!manyL kind l.f0 && decide (1 < cntKey l.f0 (ls.take (k + 1)))) || decide (10 < cntKey l.f0 (ls.take (k + 1)))) from rfl)
              generalize hm : manyL kind l.f0 = m at *
              have B11 : Below w9.heap.size w9 (w10.alloc (.cells #[.string r1, .slice g5 n5 c5, .bool m, .slice g6 n6 c6] 36)) := below_alloc hb10 _
              have z11 := pw_cell_below B11 z950
              have hCN11 := hCN9.below B11
              have hkey2 : keyOf Tryd.prog 9 (.string l.f0) = some (.string l.f0.data.toList) := keyOf_string_mk Tryd.underlying9 (by have := hW.1; unfold maxLen; omega)
              obtain ⟨n11, hrun11, hat11, _⟩ := hCN11.1.lookup_int (string_keyed Tryd.underlying9) Tryd.underlying132 Tryd.underlying3 (zeroI _) hkey2
              have hn11 : n11 = cntKey l.f0 (ls.take (k + 1)) := by
                have h9 := hat11.symm.trans (hCN11.2.2 l.f0 hW.1)
                injection h9 with h9
                injection h9
              subst hn11
              have B12 := B9.trans (B11.mono B9.size)
              have HD := Aside0.mk (⟨_, hCN11⟩ : ∃ D, CntAt _ w0.heap.size (k + 1) D (ls.take (k + 1)))
              clear hat11 hCN11 hkey2 hCN9 B11 B9 hb10 z950
              generalize hcn : cntKey l.f0 (ls.take (k + 1)) = n at *
              by_cases h10 : 10 < n
              · have i10 : ((n : Int) > 10) := by omega
                have i11 : ((n : Int) > 1) := by omega
                have hT : tooMany kind l.f0 n = true := by rw [hTM.out, decide_eq_true h10, Bool.or_true]
                have HF2 := Aside0.mk (show blockOkL kind name ls = false by rw [HST.out, hT]; rfl)
                clear hT h10
                cases m
                all_goals
                  go_wp2
                  go_ret
                  exact ⟨by rw [HF2.out]; rfl, B2.trans (B12.mono B2.size)⟩
              · have i10 : ¬ ((n : Int) > 10) := by omega
                by_cases h1 : 1 < n
                · have i11 : ((n : Int) > 1) := by omega
                  cases m
                  · have hT : tooMany kind l.f0 n = true := by rw [hTM.out, decide_eq_true h1]; rfl
                    have HF2 := Aside0.mk (show blockOkL kind name ls = false by rw [HST.out, hT]; rfl)
                    clear hT h10 h1
                    go_wp2
                    go_ret
                    exact ⟨by rw [HF2.out]; rfl, B2.trans (B12.mono B2.size)⟩
                  · have hT : tooMany kind l.f0 n = false := by rw [hTM.out, decide_eq_false h10]; rfl
                    have HF2 := Aside0.mk (show blockOkL kind name ls = linesFrom kind (ls.take (k + 1)) (ls.drop (k + 1)) by rw [HST.out, hT]; rfl)
                    clear hT h10 h1
                    go_wp2
                    go_roundw
                    case rel => exact ⟨k + 1, by first | go_num | (rw [HK0.out]; rfl), hlt, B12, HD, HF2⟩
                    case measure => have := HK0.out; simp [intOf]; omega
                · have i11 : ¬ ((n : Int) > 1) := by omega
                  have hT : tooMany kind l.f0 n = false := by rw [hTM.out, decide_eq_false h10, decide_eq_false h1, Bool.and_false]; rfl
                  have HF2 := Aside0.mk (show blockOkL kind name ls = linesFrom kind (ls.take (k + 1)) (ls.drop (k + 1)) by rw [HST.out, hT]; rfl)
                  clear hT h10 h1
                  cases m
                  all_goals
                    go_wp2
                    go_roundw
                    case rel => exact ⟨k + 1, by first | go_num | (rw [HK0.out]; rfl), hlt, B12, HD, HF2⟩
                    case measure => have := HK0.out; simp [intOf]; omega
            · obtain ⟨j, rfl⟩ : ∃ j, k = j + 1 := ⟨k - 1, by omega⟩
              have hjl : j < ls.length := by omega
              obtain ⟨_, Ap, cp, hadp, hp0, hp1, hlp, hCp⟩ := line_at (Kd.C_below (Kd.C_below (Kd.C_below HR.out B2) hB) B6) j ls[j] (List.getElem?_eq_getElem hjl)
              injection hadp with hadp
              subst hadp
              rw [headOk_take kind ls j ls[j] l (List.getElem?_eq_getElem hjl)] at hstep
              have hWp := HF.out.2 _ (List.getElem_mem hjl)
              generalize ls[j] = pl at *
              have OC := fun p : BW W6 => order_c kind Ap A1 cp d1 pl l p.w' (Kd.C_below hCp p.h) hlp (Kd.C_below (Kd.C_below HC1.out B6) p.h) L1.out hWp.2.1 hW.2.1
              have hol := ordL_lt kind pl l
              generalize ordL kind pl l = od at *
              have q2 := fun p : BW W6 => p.cell (pw_cell_below B6 xr2)
              have qp0 := fun p : BW W6 => p.cell hp0
              have qp1 := fun p : BW W6 => p.cell hp1
              have ij : (j : Int) < (ls.length : Int) := by omega
              have ew : IntKind.i64.wrap (j : Int) = (j : Int) := by have hll := HF.out.1; rw [IntKind.wrap_i64]; omega
              have ik : ((j + 1 : Nat) : Int) > 0 := by omega
              clear hp0 hp1 hCp hlp hk0
              cases hlt2 : lineLt kind pl l with
              | false =>
                rw [hlt2, Bool.false_and] at hstep
                rw [hlt2] at hol
                have io : od ≥ 0 := of_decide_eq_true hol
                have HF2 := Aside0.mk hstep
                clear hstep hlt2 hol
                refine wp_region_below (by kernel_rfl) (by kernel_rfl) ?_
                repeat ((with_reducible refine wpQuiet_step ?_); (with_reducible intro K hK); go_simp; first | ((with_reducible refine hK _ ?_); clear hK K) | ((with_reducible refine quiet_off (fun h => ?_) ?_); exact h; (with_reducible refine hK _ ?_); clear hK K) | (apply Exists.intro; refine ⟨fun _ => ?_, hK _ ?_⟩; (first | (go_at_call 21; exact BW.calls (FC _)) | (go_at_call 116; exact BW.calls (OC _))); clear hK K))
                with_reducible refine wpQuiet_nil ?_
                intro wn hw'
                obtain ⟨⟨_, hBn⟩, rfl⟩ := hw'
                go_wp2
                go_ret
                exact ⟨by rw [HF2.out]; rfl, B2.trans ((hB06.trans (hBn.mono hB06.size)).mono B2.size)⟩
              | true =>
                rw [hlt2, Bool.true_and] at hstep
                rw [hlt2] at hol
                have io : ¬ od ≥ 0 := of_decide_eq_false hol
                have hol2 := hol
                have HST := Aside0.mk hstep
                clear hstep hlt2 hol
                refine wp_region_below (by kernel_rfl) (by kernel_rfl) ?_
                repeat ((with_reducible refine wpQuiet_step ?_); (with_reducible intro K hK); go_simp; first | ((with_reducible refine hK _ ?_); clear hK K) | ((with_reducible refine quiet_off (fun h => ?_) ?_); exact h; (with_reducible refine hK _ ?_); clear hK K) | (apply Exists.intro; refine ⟨fun _ => ?_, hK _ ?_⟩; (first | (go_at_call 21; exact BW.calls (FC _)) | (go_at_call 116; exact BW.calls (OC _))); clear hK K))
                with_reducible refine wpQuiet_nil ?_
                intro wn hw'
                obtain ⟨⟨_, hBn⟩, rfl⟩ := hw'
                clear ik io ew ij q2 qp0 qp1 OC hol2
                have CN := hD6.out
                obtain ⟨D, hCN⟩ := CN
                obtain ⟨hown, hIs, hat0⟩ := hCN.below hBn
                have hkey : keyOf Tryd.prog 9 (.string l.f0) = some (.string l.f0.data.toList) := keyOf_string_mk Tryd.underlying9 (by have := hW.1; unfold maxLen; omega)
                obtain ⟨n9, hrun, hat, _⟩ := hown.lookup_int (string_keyed Tryd.underlying9) Tryd.underlying132 Tryd.underlying3 (zeroI _) hkey
                have hn9 : n9 = cntKey l.f0 (ls.take (j + 1)) := by
                  have h9 := hat.symm.trans (hat0 l.f0 hW.1)
                  injection h9 with h9
                  injection h9
                subst hn9
                clear hat
                have z0 : wn.cell? ⟨w.heap.size, 0, none⟩ = some (.string kind) := q0 ⟨wn, hBn⟩
                have z50 := pw_cell_below hBn y0
                have hk9 : j + 1 < maxLen := by have := HF.out.1; unfold maxLen; omega
                go_wp2_with (first
                  | (at_mapUpdate; refine wpList_mapUpdate_own _ rfl _ _ _ 132 rfl 9 3 (string_keyed Tryd.underlying9) Tryd.underlying132 _ w0.heap.size (j + 1) _ rfl hown hk9 _ _ _ rfl rfl hkey _ [] (plainElem_int Tryd.underlying3 (wrap64_wf _)) ?_)
                  | go_in)
                intro w9 hown9 hgrow9
                have e9 : wrap64 ((cntKey l.f0 (ls.take (j + 1)) : Int) + 1) = ((cntKey l.f0 (ls.take (j + 1)) + 1 : Nat) : Int) := inc (by have := cntKey_le l.f0 (ls.take (j + 1)); have := HF.out.1; rw [List.length_take] at *; omega)
                rw [e9] at hown9
                have hCN9 := CntAt.put (hCN.below hBn) rfl HCW.out hown9
                have z90 := hgrow9.cell z0 (by intro e; injection e with e; simp only at e; omega)
                have z950 := hgrow9.cell z50 (by intro e; injection e with e; simp only at e; omega)
                have s9 : wr.heap.size < w9.heap.size := by have := hBn.size; have := hgrow9.size; omega
                have B9 := below_grown (hB06.trans (hBn.mono hB06.size)) hgrow9 (Nat.le_refl _) (Nat.le_refl _)
                clear hown9 hgrow9 hown hIs hat0 hrun z0 z50 hCN hBn FC q0 q50 q51 y0 y1 s6 hD6
                go_wp2_with fail
                refine (find_c kind l.f0 w9).mono ?_
                rintro e w10 ⟨r1, g5, n5, c5, g6, n6, c6, rfl, hb10⟩
                go_upto_region 11 with (fail)
                clear z90 hkey hk9 e9 hB06 B6
                have hct := cntKey_le l.f0 (ls.take (j + 1 + 1))
                rw [List.length_take] at hct
                have hTM := Aside0.mk (show tooMany kind l.f0 (cntKey l.f0 (ls.take (j + 1 + 1))) = ((!manyL kind l.f0 && decide (1 < cntKey l.f0 (ls.take (j + 1 + 1)))) || decide (10 < cntKey l.f0 (ls.take (j + 1 + 1)))) from rfl)
                generalize hm : manyL kind l.f0 = m at *
                have B11 : Below w9.heap.size w9 (w10.alloc (.cells #[.string r1, .slice g5 n5 c5, .bool m, .slice g6 n6 c6] 36)) := below_alloc hb10 _
                have z11 := pw_cell_below B11 z950
                have hCN11 := hCN9.below B11
                have hkey2 : keyOf Tryd.prog 9 (.string l.f0) = some (.string l.f0.data.toList) := keyOf_string_mk Tryd.underlying9 (by have := hW.1; unfold maxLen; omega)
                obtain ⟨n11, hrun11, hat11, _⟩ := hCN11.1.lookup_int (string_keyed Tryd.underlying9) Tryd.underlying132 Tryd.underlying3 (zeroI _) hkey2
                have hn11 : n11 = cntKey l.f0 (ls.take (j + 1 + 1)) := by
                  have h9 := hat11.symm.trans (hCN11.2.2 l.f0 hW.1)
                  injection h9 with h9
                  injection h9
                subst hn11
                have B12 := B9.trans (B11.mono B9.size)
                have HD := Aside0.mk (⟨_, hCN11⟩ : ∃ D, CntAt _ w0.heap.size (j + 1 + 1) D (ls.take (j + 1 + 1)))
                clear hat11 hCN11 hkey2 hCN9 B11 B9 hb10 z950
                generalize hcn : cntKey l.f0 (ls.take (j + 1 + 1)) = n at *
                by_cases h10 : 10 < n
                · have i10 : ((n : Int) > 10) := by omega
                  have i11 : ((n : Int) > 1) := by omega
                  have hT : tooMany kind l.f0 n = true := by rw [hTM.out, decide_eq_true h10, Bool.or_true]
                  have HF2 := Aside0.mk (show blockOkL kind name ls = false by rw [HST.out, hT]; rfl)
                  clear hT h10
                  cases m
                  all_goals
                    go_wp2
                    go_ret
                    exact ⟨by rw [HF2.out]; rfl, B2.trans (B12.mono B2.size)⟩
                · have i10 : ¬ ((n : Int) > 10) := by omega
                  by_cases h1 : 1 < n
                  · have i11 : ((n : Int) > 1) := by omega
                    cases m
                    · have hT : tooMany kind l.f0 n = true := by rw [hTM.out, decide_eq_true h1]; rfl
                      have HF2 := Aside0.mk (show blockOkL kind name ls = false by rw [HST.out, hT]; rfl)
                      clear hT h10 h1
                      go_wp2
                      go_ret
                      exact ⟨by rw [HF2.out]; rfl, B2.trans (B12.mono B2.size)⟩
                    · have hT : tooMany kind l.f0 n = false := by rw [hTM.out, decide_eq_false h10]; rfl
                      have HF2 := Aside0.mk (show blockOkL kind name ls = linesFrom kind (ls.take (j + 1 + 1)) (ls.drop (j + 1 + 1)) by rw [HST.out, hT]; rfl)
                      clear hT h10 h1
                      go_wp2
                      go_roundw
                      case rel => exact ⟨j + 1 + 1, by rw [inc2 hjl HF.out.1], hlt, B12, HD, HF2⟩
                      case measure => rw [inc2 hjl HF.out.1]; exact less2 hlt
                  · have i11 : ¬ ((n : Int) > 1) := by omega
                    have hT : tooMany kind l.f0 n = false := by rw [hTM.out, decide_eq_false h10, decide_eq_false h1, Bool.and_false]; rfl
                    have HF2 := Aside0.mk (show blockOkL kind name ls = linesFrom kind (ls.take (j + 1 + 1)) (ls.drop (j + 1 + 1)) by rw [HST.out, hT]; rfl)
                    clear hT h10 h1
                    cases m
                    all_goals
                      go_wp2
                      go_roundw
                      case rel => exact ⟨j + 1 + 1, by rw [inc2 hjl HF.out.1], hlt, B12, HD, HF2⟩
                      case measure => rw [inc2 hjl HF.out.1]; exact less2 hlt
        · have hkn : k = ls.length := by omega
          subst hkn
          have hf2 := hf.out
          rw [List.drop_eq_nil_of_le (Nat.le_refl _)] at hf2
          go_wp2
          go_ret
          exact ⟨by rw [hf2]; rfl, B2.trans (hB.mono B2.size)⟩
instance (ls : List S83) : Decidable (fitB ls) := by unfold fitB; infer_instance
def impl_blockOk.f (a0 a1 : ByteArray) (l1 : List S83) : Option Bool := if a1.size ≤ 1099511627776 ∧ fitB l1 then some (blockOkL a0 a1 l1) else none
theorem impl_blockOk.calls (a0_0 : ByteArray) (a0_1 : ByteArray) (A0_2 : Option Addr) (c0_2 : Nat) (l0_2 : List S83) (r : Bool) (w : World) (hr0_2 : Kd.C k83 w A0_2 l0_2.length l0_2) (hc0_2 : l0_2.length ≤ c0_2) (h : impl_blockOk.f a0_0 a0_1 l0_2 = some r) :
    Calls Tryd.prog 75 #[.agg #[.string a0_0, .string a0_1, .slice A0_2 l0_2.length c0_2]] w fun e w' => e = .returned (.bool r) ∧ Below w.heap.size w w' := by
  unfold impl_blockOk.f at h
  split at h
  · rename_i hb
    injection h with h
    subst h
    exact blockOk_any a0_0 a0_1 A0_2 c0_2 l0_2 w hr0_2 hb.1 hb.2
  · cases h
end Go.Proofs.YtmcdnpooclelgaaDoor.PAll

namespace Go.Proofs.YtmcdnpooclelgaaDoor.PAll
open Go.RowKit Go.Proofs.YtmcdnpooclelgaaDoorW.PrintWords Go.Proofs.YtmcdnpooclelgaaDoorW.PrintLast Go.Proofs.YtmcdnpooclelgaaDoorW.PrintMore
attribute [local go_sem] max2_int min2_int max_two min_two max_three min_three max_four min_four   -- for this text's walks alone
set_option linter.unusedVariables false
set_option linter.unusedSimpArgs false
mutual
def spec_l3LinesOk.l0 : Nat → ByteArray → List (S83) → Int → Option (Bool)
 | 0, _, _, _ => none
 | k + 1, x0, x1, x5 => if x5 < (x1.length : Int) then (if 0 ≤ x5 then ((spec_SheetFits.f x0 ((rd_T83 x1 x5).f0) ((rd_T83 x1 x5).f1)).bind fun t352 => (if t352 = true then (if x5 > 0 then (if 0 ≤ (wrap64 (x5 - 1)) then (if (wrap64 (x5 - 1)) < (x1.length : Int) then ((spec_l3LineLess.f k x0 ((rd_T83 x1 (wrap64 (x5 - 1))).f0) ((rd_T83 x1 (wrap64 (x5 - 1))).f1) ((rd_T83 x1 x5).f0) ((rd_T83 x1 x5).f1)).bind fun t355 => (spec_l3LinesOk.j1 k x0 x1 x5 (!t355))) else (none)) else (none)) else (spec_l3LinesOk.j1 k x0 x1 x5 false)) else (spec_l3LinesOk.j1 k x0 x1 x5 true))) else (none)) else (some true)
def spec_l3LinesOk.j1 : Nat → ByteArray → List (S83) → Int → Bool → Option (Bool)
 | 0, _, _, _, _ => none
 | k + 1, x0, x1, x5, x45 => if x45 = true then (some false) else ((spec_SheetRules.f x0).bind fun t356 => (if 0 ≤ x5 then (if x5 < (x1.length : Int) then ((spec_l2Rule.f k x0 ((rd_T83 x1 x5).f0)).bind fun t360 => (if 0 ≤ t360 then (if t360 < (t356.length : Int) then (spec_l3LinesOk.l1 k x0 x1 x5 ((rd_T36 t356 t360).f2) 0 0) else (none)) else (none))) else (none)) else (none)))
def spec_l3LinesOk.l1 : Nat → ByteArray → List (S83) → Int → Bool → Int → Int → Option (Bool)
 | 0, _, _, _, _, _, _ => none
 | k + 1, x0, x1, x5, x6, x7, x8 => if x8 ≤ x5 then (if 0 ≤ x8 then (if x8 < (x1.length : Int) then (if 0 ≤ x5 then (if x5 < (x1.length : Int) then (if ((rd_T83 x1 x8).f0).toList = ((rd_T83 x1 x5).f0).toList then (spec_l3LinesOk.l1 k x0 x1 x5 x6 (wrap64 (x7 + 1)) (wrap64 (x8 + 1))) else (spec_l3LinesOk.l1 k x0 x1 x5 x6 x7 (wrap64 (x8 + 1)))) else (none)) else (none)) else (none)) else (none)) else (if x6 = true then (if x7 > 10 then (some false) else (spec_l3LinesOk.l0 k x0 x1 (wrap64 (x5 + 1)))) else (if x7 > 1 then (some false) else (if x7 > 10 then (some false) else (spec_l3LinesOk.l0 k x0 x1 (wrap64 (x5 + 1))))))
end
def spec_l3LinesOk.f (k : Nat) (a0 : ByteArray) (l1 : List (S83)) : Option (Bool) := spec_l3LinesOk.l0 k a0 l1 0
def spec_l3LinesOk.T4 : Bool × List (List Nat × List Nat) := (true, [([], []), ([], []), ([], []), ([1, 2], [1, 2]), ([3], [3]), ([4], [4]), ([], []), ([], []), ([6, 7], [6, 7]), ([8], [8]), ([9], [9]), ([0, 5, 10], [0, 5, 10]), ([11], [11]), ([12, 11], [12]), ([13], [13]), ([14, 13], [13, 14]), ([15, 13, 13], [13, 15]), ([16], [16]), ([16], [16]), ([16], [16]), ([19, 16], [16, 19]), ([18, 20, 16], [16, 18, 20]), ([21, 16], [16, 21]), ([16], [16]), ([16], [16]), ([23, 24, 16], [16, 23, 24]), ([25, 16], [16, 25]), ([17, 22, 26, 16, 16], [16, 17, 22, 26]), ([27, 16], [16, 27]), ([16, 28, 13], [13, 16, 28]), ([13, 29], [13, 29])])
def spec_l3LinesOk.B4 : List Nat := [0, 0, 0, 6, 14, 30, 0, 0, 192, 448, 960, 2047, 4095, 8191, 16383, 32767, 65535, 131071, 131071, 131071, 655359, 1966079, 4063231, 131071, 131071, 25296895, 58851327, 134217727, 268435455, 536870911, 1073741823]
theorem spec_l3LinesOk.tab4 : rtab .any (opsOf Tryd.f72 4) = spec_l3LinesOk.T4 := by kernel_rfl
theorem spec_l3LinesOk.bits4 : waitsOk spec_l3LinesOk.T4.2 spec_l3LinesOk.B4 = true := by kernel_rfl
def spec_l3LinesOk.T11 : Bool × List (List Nat × List Nat) := (true, [([], []), ([], []), ([0, 1], [0, 1]), ([2], [2]), ([3], [3]), ([], []), ([], []), ([5, 6], [5, 6]), ([7], [7]), ([8], [8]), ([4, 9], [4, 9])])
def spec_l3LinesOk.B11 : List Nat := [0, 0, 3, 7, 15, 0, 0, 96, 224, 480, 1023]
theorem spec_l3LinesOk.tab11 : rtab .any (opsOf Tryd.f72 11) = spec_l3LinesOk.T11 := by kernel_rfl
theorem spec_l3LinesOk.bits11 : waitsOk spec_l3LinesOk.T11.2 spec_l3LinesOk.B11 = true := by kernel_rfl
set_option maxHeartbeats 8000000 in
set_option maxRecDepth 100000 in
theorem spec_l3LinesOk.calls (k : Nat) (a0 : ByteArray) (A1 : Option Addr) (c1 : Nat) (l1 : List (S83)) (r : Bool) (w : World) (hr1 : Kd.C k83 w A1 l1.length l1) (hc1 : l1.length ≤ c1) (h : spec_l3LinesOk.f k a0 l1 = some r) :
  Calls Tryd.prog 72 #[.string a0, .slice A1 l1.length c1] w fun e w' => e = .returned (.bool r) ∧ Below w.heap.size w w' := by
 have hu83 := Tryd.underlying83
 have HR1 := Aside0.mk hr1
 have HC1 := Aside0.mk hc1
 clear hr1 hc1
 have HB := Aside0.mk (Below.refl w.heap.size w)
 have H : (spec_l3LinesOk.l0 k a0 l1 0) = some r := h
 clear h
 have H' := Aside0.mk H
 clear H
 go_enter Tryd.func72, Tryd.ntmps72
 go_wp2
 go_loopg [5] k (fun kq v5 w' => ∃ (x5_1 : Int), v5 = .int .i64 x5_1 ∧ Aside0 (spec_l3LinesOk.l0 kq a0 l1 x5_1 = some r) ∧ Aside0 (kq ≤ k) ∧ Aside0 (Below w.heap.size w w'))
 case atStart => exact ⟨(0), (by first | rfl | (simp; done) | (simp [*]; done)), H', ⟨Nat.le_refl _⟩, ⟨by repeat (first | (with_reducible first | exact HB.out | apply below_alloc | apply pw_below_drewN | apply below_drew1) | exact HB.out)⟩⟩
 case round =>
  clear H'
  try clear c1
  try clear p2
  obtain ⟨x5_1, rfl, HA, HK1, HB⟩ := hrel
  cases gk with
  | zero => exact absurd HA.out (by simp [spec_l3LinesOk.l0])
  | succ k1 =>
   have H := HA.out
   clear HA
   simp only [spec_l3LinesOk.l0] at H
   by_cases c3 : x5_1 < (l1.length : Int)
   ·rw [if_pos c3] at H
    have c3b0 : decide (x5_1 < (l1.length : Int)) = true := decide_eq_true c3
    clear c3
    have HC4 := Aside0.mk H
    clear H
    go_upto_region 4 with (fail)
    go_cut [45] (fun v45 wc => ∃ (kq : Nat) (x45_3 : Bool), v45 = .bool x45_3 ∧ Aside0 (spec_l3LinesOk.j1 kq a0 l1 x5_1 x45_3 = some r) ∧ Aside0 (kq ≤ k1) ∧ Aside0 (Below w.heap.size w wc))
    case first =>
     have H := HC4.out
     clear HC4
     by_cases c5 : 0 ≤ x5_1
     ·rw [if_pos c5] at H
      have c5b0 : decide (0 ≤ x5_1) = true := decide_eq_true c5
      clear c5
      (first | rw [c5b0] | (simp only [i64_w, i32_w]; rw [c5b0]) | skip)
      replace H := Option.bind_eq_some_iff.mp H
      obtain ⟨t352, A60, H⟩ := H
      replace H : (if t352 = true then (if x5_1 > 0 then (if 0 ≤ (wrap64 (x5_1 - 1)) then (if (wrap64 (x5_1 - 1)) < (l1.length : Int) then ((spec_l3LineLess.f k1 a0 ((rd_T83 l1 (wrap64 (x5_1 - 1))).f0) ((rd_T83 l1 (wrap64 (x5_1 - 1))).f1) ((rd_T83 l1 x5_1).f0) ((rd_T83 l1 x5_1).f1)).bind fun t355 => (spec_l3LinesOk.j1 k1 a0 l1 x5_1 (!t355))) else (none)) else (none)) else (spec_l3LinesOk.j1 k1 a0 l1 x5_1 false)) else (spec_l3LinesOk.j1 k1 a0 l1 x5_1 true)) = some r := H
      have A6 := Aside0.mk A60
      clear A60
      by_cases c7 : t352 = true
      ·subst c7
       have H1 : (if x5_1 > 0 then (if 0 ≤ (wrap64 (x5_1 - 1)) then (if (wrap64 (x5_1 - 1)) < (l1.length : Int) then ((spec_l3LineLess.f k1 a0 ((rd_T83 l1 (wrap64 (x5_1 - 1))).f0) ((rd_T83 l1 (wrap64 (x5_1 - 1))).f1) ((rd_T83 l1 x5_1).f0) ((rd_T83 l1 x5_1).f1)).bind fun t355 => (spec_l3LinesOk.j1 k1 a0 l1 x5_1 (!t355))) else (none)) else (none)) else (spec_l3LinesOk.j1 k1 a0 l1 x5_1 false)) = some r := by rw [if_pos rfl] at H; exact H
       clear H
       have H := H1
       clear H1
       by_cases c8 : x5_1 > 0
       ·rw [if_pos c8] at H
        have c8b0 : decide (0 < x5_1) = true := decide_eq_true c8
        clear c8
        obtain ⟨ji9, hji9⟩ : ∃ j_ : Int, (wrap64 (x5_1 - 1)) = j_ := ⟨_, rfl⟩
        replace H : (if 0 ≤ (ji9) then (if (ji9) < (l1.length : Int) then ((spec_l3LineLess.f k1 a0 ((rd_T83 l1 (ji9)).f0) ((rd_T83 l1 (ji9)).f1) ((rd_T83 l1 x5_1).f0) ((rd_T83 l1 x5_1).f1)).bind fun t355 => (spec_l3LinesOk.j1 k1 a0 l1 x5_1 (!t355))) else (none)) else (none)) = some r := by first | (rw [hji9] at H; exact H) | (simp only [hji9] at H ⊢; exact H)
        (try rw [hji9] at A6)
        have hji9w : (IntKind.i64.wrap (x5_1 - 1)) = ji9 := (i64_w _).trans hji9
        by_cases c10 : 0 ≤ (ji9)
        ·rw [if_pos c10] at H
         have c10b0 : decide (0 ≤ (ji9)) = true := decide_eq_true c10
         clear c10
         by_cases c11 : (ji9) < (l1.length : Int)
         ·rw [if_pos c11] at H
          have c11b0 : decide ((ji9) < (l1.length : Int)) = true := decide_eq_true c11
          clear c11
          replace H := Option.bind_eq_some_iff.mp H
          obtain ⟨t355, A120, H⟩ := H
          replace H : (spec_l3LinesOk.j1 k1 a0 l1 x5_1 (!t355)) = some r := H
          have A12 := Aside0.mk A120
          clear A120
          have H' := Aside0.mk H
          clear H
          try go_wp2
          have n0_ := Aside0.mk (below_drew1 HB.out)
          clear HB
          have HB := n0_
          clear n0_
          have p350 : 0 ≤ (x5_1 : Int) := of_decide_eq_true (by first | (with_reducible assumption) | assumption)
          have q350 : x5_1 < (l1.length : Int) := of_decide_eq_true (by first | (with_reducible assumption) | assumption)
          obtain ⟨ad350, A350_1, c350_1, e350, hx350_0, hx350_1, hl350_1, hi350_1⟩ := at_T83 HR1.out x5_1 p350 q350
          have hw350_1 := hx350_1
          have hw350_0 := hx350_0
          cases e350
          (try replace hx350_0 := (HB.out.cell (World.block_lt_of_cell? w _ hx350_0)).trans hx350_0)
          (try replace hx350_1 := (HB.out.cell (World.block_lt_of_cell? w _ hx350_1)).trans hx350_1)
          have HR350_1 := Aside0.mk hi350_1
          have HC350_1 := Aside0.mk hl350_1
          clear hi350_1 hl350_1
          replace p350 := eq_true p350
          replace q350 := eq_true q350
          have p351 : 0 ≤ (x5_1 : Int) := of_decide_eq_true (by first | (with_reducible assumption) | assumption)
          have q351 : x5_1 < (l1.length : Int) := of_decide_eq_true (by first | (with_reducible assumption) | assumption)
          obtain ⟨ad351, A351_1, c351_1, e351, hx351_0, hx351_1, hl351_1, hi351_1⟩ := at_T83 HR1.out x5_1 p351 q351
          have hw351_1 := hx351_1
          have hw351_0 := hx351_0
          obtain rfl : ad350 = ad351 := (by injection e351)
          (try replace hx351_0 := (HB.out.cell (World.block_lt_of_cell? w _ hx351_0)).trans hx351_0)
          (try replace hx351_1 := (HB.out.cell (World.block_lt_of_cell? w _ hx351_1)).trans hx351_1)
          have HR351_1 := Aside0.mk hi351_1
          have HC351_1 := Aside0.mk hl351_1
          clear hi351_1 hl351_1
          replace p351 := eq_true p351
          replace q351 := eq_true q351
          have ea_ := Option.some.inj (hx350_1.symm.trans hx351_1)
          injection ea_ with ea_ en_ ec_
          subst ea_
          subst ec_
          clear en_
          have p353 : 0 ≤ ((ji9) : Int) := of_decide_eq_true (by first | (with_reducible assumption) | assumption)
          have q353 : (ji9) < (l1.length : Int) := of_decide_eq_true (by first | (with_reducible assumption) | assumption)
          obtain ⟨ad353, A353_1, c353_1, e353, hx353_0, hx353_1, hl353_1, hi353_1⟩ := at_T83 HR1.out (ji9) p353 q353
          have hw353_1 := hx353_1
          have hw353_0 := hx353_0
          obtain rfl : ad350 = ad353 := (by injection e353)
          (try replace hx353_0 := (HB.out.cell (World.block_lt_of_cell? w _ hx353_0)).trans hx353_0)
          (try replace hx353_1 := (HB.out.cell (World.block_lt_of_cell? w _ hx353_1)).trans hx353_1)
          have HR353_1 := Aside0.mk hi353_1
          have HC353_1 := Aside0.mk hl353_1
          clear hi353_1 hl353_1
          replace p353 := eq_true p353
          replace q353 := eq_true q353
          have p354 : 0 ≤ (x5_1 : Int) := of_decide_eq_true (by first | (with_reducible assumption) | assumption)
          have q354 : x5_1 < (l1.length : Int) := of_decide_eq_true (by first | (with_reducible assumption) | assumption)
          obtain ⟨ad354, A354_1, c354_1, e354, hx354_0, hx354_1, hl354_1, hi354_1⟩ := at_T83 HR1.out x5_1 p354 q354
          have hw354_1 := hx354_1
          have hw354_0 := hx354_0
          obtain rfl : ad350 = ad354 := (by injection e354)
          (try replace hx354_0 := (HB.out.cell (World.block_lt_of_cell? w _ hx354_0)).trans hx354_0)
          (try replace hx354_1 := (HB.out.cell (World.block_lt_of_cell? w _ hx354_1)).trans hx354_1)
          have HR354_1 := Aside0.mk hi354_1
          have HC354_1 := Aside0.mk hl354_1
          clear hi354_1 hl354_1
          replace p354 := eq_true p354
          replace q354 := eq_true q354
          refine start_ (n := 31) (S := fun w' => w'.cell? (ad350.add ((x5_1).toNat * 2)) = some (.string ((rd_T83 l1 x5_1).f0)) ∧ w'.cell? ⟨(ad350.add ((x5_1).toNat * 2)).block, (ad350.add ((x5_1).toNat * 2)).off + 1, none⟩ = some (.slice A350_1 ((rd_T83 l1 x5_1).f1).length c350_1) ∧ w'.cell? (ad350.add ((x5_1).toNat * 2)) = some (.string ((rd_T83 l1 x5_1).f0)) ∧ w'.cell? ⟨(ad350.add ((x5_1).toNat * 2)).block, (ad350.add ((x5_1).toNat * 2)).off + 1, none⟩ = some (.slice A350_1 ((rd_T83 l1 x5_1).f1).length c350_1) ∧ w'.cell? (ad350.add (((ji9)).toNat * 2)) = some (.string ((rd_T83 l1 (ji9)).f0)) ∧ w'.cell? ⟨(ad350.add (((ji9)).toNat * 2)).block, (ad350.add (((ji9)).toNat * 2)).off + 1, none⟩ = some (.slice A353_1 ((rd_T83 l1 (ji9)).f1).length c353_1) ∧ w'.cell? (ad350.add ((x5_1).toNat * 2)) = some (.string ((rd_T83 l1 x5_1).f0)) ∧ w'.cell? ⟨(ad350.add ((x5_1).toNat * 2)).block, (ad350.add ((x5_1).toNat * 2)).off + 1, none⟩ = some (.slice A354_1 ((rd_T83 l1 x5_1).f1).length c354_1)) (ds := []) (bz 31 0) (by kernel_rfl) rfl rfl ⟨(by first | exact (HB.out.cell (World.block_lt_of_cell? w _ hw350_0)).trans hw350_0 | exact hw350_0), (by first | exact (HB.out.cell (World.block_lt_of_cell? w _ hw350_1)).trans hw350_1 | exact hw350_1), (by first | exact (HB.out.cell (World.block_lt_of_cell? w _ hw351_0)).trans hw351_0 | exact hw351_0), (by first | exact (HB.out.cell (World.block_lt_of_cell? w _ hw351_1)).trans hw351_1 | exact hw351_1), (by first | exact (HB.out.cell (World.block_lt_of_cell? w _ hw353_0)).trans hw353_0 | exact hw353_0), (by first | exact (HB.out.cell (World.block_lt_of_cell? w _ hw353_1)).trans hw353_1 | exact hw353_1), (by first | exact (HB.out.cell (World.block_lt_of_cell? w _ hw354_0)).trans hw354_0 | exact hw354_0), (by first | exact (HB.out.cell (World.block_lt_of_cell? w _ hw354_1)).trans hw354_1 | exact hw354_1)⟩ (fun hHeld => ?_); refine with_tabW spec_l3LinesOk.tab4 spec_l3LinesOk.bits4 (fun HT_ HW_ => ?_)
          generalize wr.drew = w13 at HB HR350_1 HR351_1 HR353_1 HR354_1 hx350_0 hx350_1 hx351_0 hx351_1 hx353_0 hx353_1 hx354_0 hx354_1 hHeld ⊢
          refine pure_ (i := 0) (N := some 15) (v := ?_) (a' := ?_) (bz 31 1) rfl rfl (any_of HT_.out (by kernel_rfl)) (fun _ _ _ h => h) (Or.inl ⟨by rfl, ?_⟩) ?_ ?_
          rotate_left
          ·intro w'
           go_simp
           with_reducible rfl
          rotate_left
          ·simp only [Act.put, List.setIfInBounds_toArray, List.set_cons_zero, List.set_cons_succ, i64_w, i32_w]
           rfl
          refine pure_ (i := 1) (N := some 16) (v := ?_) (a' := ?_) (bz 31 3) rfl rfl (any_of HT_.out (by kernel_rfl)) (fun _ _ _ h => h) (Or.inl ⟨by rfl, ?_⟩) ?_ ?_
          rotate_left
          ·intro w'
           go_simp
           with_reducible rfl
          rotate_left
          ·simp only [Act.put, List.setIfInBounds_toArray, List.set_cons_zero, List.set_cons_succ, i64_w, i32_w]
           rfl
          refine pure_ (i := 2) (N := some 17) (v := ?_) (a' := ?_) (bz 31 7) rfl rfl (any_of HT_.out (by kernel_rfl)) (fun _ _ _ h => h) (Or.inl ⟨by rfl, ?_⟩) ?_ ?_
          rotate_left
          ·intro w'
           go_simp
           with_reducible rfl
          rotate_left
          ·simp only [Act.put, List.setIfInBounds_toArray, List.set_cons_zero, List.set_cons_succ, i64_w, i32_w]
           rfl
          refine pure_ (i := 3) (N := some 18) (v := ?_) (a' := ?_) (bz 31 15) rfl rfl (any_of HT_.out (by kernel_rfl)) (fun _ _ _ h => h) (Or.inl ⟨by rfl, ?_⟩) ?_ ?_
          rotate_left
          ·intro w'
           go_simp
           with_reducible rfl
          rotate_left
          ·simp only [Act.put, List.setIfInBounds_toArray, List.set_cons_zero, List.set_cons_succ, i64_w, i32_w]
           rfl
          refine pure_ (i := 4) (N := some 19) (v := ?_) (a' := ?_) (bz 31 31) rfl rfl (any_of HT_.out (by kernel_rfl)) (fun _ _ _ h => h) (Or.inl ⟨by rfl, ?_⟩) ?_ ?_
          rotate_left
          ·intro w'
           go_simp
           with_reducible rfl
          rotate_left
          ·simp only [Act.put, List.setIfInBounds_toArray, List.set_cons_zero, List.set_cons_succ, i64_w, i32_w]
           rfl
          refine pure_ (i := 6) (N := some 21) (v := ?_) (a' := ?_) (bz 31 95) rfl rfl (any_of HT_.out (by kernel_rfl)) (fun _ _ _ h => h) (Or.inl ⟨by rfl, ?_⟩) ?_ ?_
          rotate_left
          ·intro w'
           go_simp
           with_reducible rfl
          rotate_left
          ·simp only [Act.put, List.setIfInBounds_toArray, List.set_cons_zero, List.set_cons_succ, i64_w, i32_w]
           rfl
          refine pure_ (i := 7) (N := some 22) (v := ?_) (a' := ?_) (bz 31 223) rfl rfl (any_of HT_.out (by kernel_rfl)) (fun _ _ _ h => h) (Or.inl ⟨by rfl, ?_⟩) ?_ ?_
          rotate_left
          ·intro w'
           go_simp
           with_reducible rfl
          rotate_left
          ·simp only [Act.put, List.setIfInBounds_toArray, List.set_cons_zero, List.set_cons_succ, i64_w, i32_w]
           rfl
          refine pure_ (i := 8) (N := some 23) (v := ?_) (a' := ?_) (bz 31 479) rfl rfl (any_of HT_.out (by kernel_rfl)) (fun _ _ _ h => h) (Or.inl ⟨by rfl, ?_⟩) ?_ ?_
          rotate_left
          ·intro w'
           go_simp
           with_reducible rfl
          rotate_left
          ·simp only [Act.put, List.setIfInBounds_toArray, List.set_cons_zero, List.set_cons_succ, i64_w, i32_w]
           rfl
          refine pure_ (i := 9) (N := some 24) (v := ?_) (a' := ?_) (bz 31 991) rfl rfl (any_of HT_.out (by kernel_rfl)) (fun _ _ _ h => h) (Or.inl ⟨by rfl, ?_⟩) ?_ ?_
          rotate_left
          ·intro w'
           go_simp
           with_reducible rfl
          rotate_left
          ·simp only [Act.put, List.setIfInBounds_toArray, List.set_cons_zero, List.set_cons_succ, i64_w, i32_w]
           rfl
          refine take_ (i := 5) (N := some 20) (v := ?_) (a' := ?_) (bz 31 1023) rfl rfl (take_ofW HT_.out HW_.out (by kernel_rfl)) (fun _ _ _ h => h) (Or.inl ⟨by rfl, ?_⟩) hHeld ?_ ?_
          rotate_left
          ·rintro w' ⟨s0, s1, s2, s3, s4, s5, s6, s7⟩
           go_simp
           with_reducible rfl
          rotate_left
          ·simp only [Act.put, List.setIfInBounds_toArray, List.set_cons_zero, List.set_cons_succ, i64_w, i32_w]
           rfl
          refine take_ (i := 10) (N := some 25) (v := ?_) (a' := ?_) (bz 31 2047) rfl rfl (take_ofW HT_.out HW_.out (by kernel_rfl)) (fun _ _ _ h => h) (Or.inl ⟨by rfl, ?_⟩) hHeld ?_ ?_
          rotate_left
          ·rintro w' ⟨s0, s1, s2, s3, s4, s5, s6, s7⟩
           go_simp
           with_reducible rfl
          rotate_left
          ·simp only [Act.put, List.setIfInBounds_toArray, List.set_cons_zero, List.set_cons_succ, i64_w, i32_w]
           rfl
          refine one_ (i := 11) (N := some 26) (bz 31 4095) rfl rfl (one_of HT_.out (by kernel_rfl)) (by decide) (fun K hK => ?_)
          refine goes_ Tryd.func19 (by kernel_rfl) rfl #[.string a0, .string ((rd_T83 l1 x5_1).f0), .slice A350_1 ((rd_T83 l1 x5_1).f1).length c350_1] (by rfl) rfl rfl (by (try simp only [List.map_toArray, List.map_cons, List.map_nil]); first | done | rfl | (simp only [List.length_drop, List.length_take]; rfl)) ?_
          with_reducible refine (spec_SheetFits.calls a0 ((rd_T83 l1 x5_1).f0) _ _ ((rd_T83 l1 x5_1).f1) true _ ?side1 ?side2 A6.out).mono ?_
          (case side1 => repeat (first | exact (Kd.C_below HR351_1.out HB.out) | (with_reducible refine Kd.C_alloc ?_ _) | (with_reducible refine Kd.C_drewN ?_ _) | (with_reducible refine Kd.C_drew ?_)))
          (case side2 => exact HC351_1.out)
          rintro e w14 ⟨rfl, hb⟩
          refine ⟨_, rfl, ?_⟩
          have n0_ := Aside0.mk (below_step (stB HB.out) hb)
          clear HB
          have HB := n0_
          clear n0_
          (try clear hb)
          (try clear hb2)
          (try clear hk)
          (try clear hi)
          refine hK.out _ _ ⟨(by first | exact (HB.out.cell (World.block_lt_of_cell? w _ hw350_0)).trans hw350_0 | exact hw350_0), (by first | exact (HB.out.cell (World.block_lt_of_cell? w _ hw350_1)).trans hw350_1 | exact hw350_1), (by first | exact (HB.out.cell (World.block_lt_of_cell? w _ hw351_0)).trans hw351_0 | exact hw351_0), (by first | exact (HB.out.cell (World.block_lt_of_cell? w _ hw351_1)).trans hw351_1 | exact hw351_1), (by first | exact (HB.out.cell (World.block_lt_of_cell? w _ hw353_0)).trans hw353_0 | exact hw353_0), (by first | exact (HB.out.cell (World.block_lt_of_cell? w _ hw353_1)).trans hw353_1 | exact hw353_1), (by first | exact (HB.out.cell (World.block_lt_of_cell? w _ hw354_0)).trans hw354_0 | exact hw354_0), (by first | exact (HB.out.cell (World.block_lt_of_cell? w _ hw354_1)).trans hw354_1 | exact hw354_1)⟩ (fun hHeld => ?_)
          clear hK K
          refine norm_ (a' := ?_) ?_ ?_
          rotate_left
          ·show Act.put _ (some 26) _ = _
           simp only [Act.put, List.setIfInBounds_toArray, List.set_cons_zero, List.set_cons_succ, i64_w, i32_w]
           rfl
          refine pure_ (i := 12) (N := some 27) (v := ?_) (a' := ?_) (bz 31 8191) rfl rfl (any_of HT_.out (by kernel_rfl)) (fun _ _ _ h => h) (Or.inl ⟨by rfl, ?_⟩) ?_ ?_
          rotate_left
          ·intro w'
           go_simp
           with_reducible rfl
          rotate_left
          ·simp only [Act.put, List.setIfInBounds_toArray, List.set_cons_zero, List.set_cons_succ, i64_w, i32_w]
           rfl
          refine pure_ (i := 13) (N := some 28) (v := ?_) (a' := ?_) (bz 31 16383) rfl rfl (any_of HT_.out (by kernel_rfl)) (fun _ _ _ h => h) (Or.inl ⟨by rfl, ?_⟩) ?_ ?_
          rotate_left
          ·intro w'
           go_simp
           with_reducible rfl
          rotate_left
          ·simp only [Act.put, List.setIfInBounds_toArray, List.set_cons_zero, List.set_cons_succ, i64_w, i32_w]
           rfl
          refine pure_ (i := 14) (N := some 29) (v := ?_) (a' := ?_) (bz 31 32767) rfl rfl (any_of HT_.out (by kernel_rfl)) (fun _ _ _ h => h) (Or.inl ⟨by rfl, ?_⟩) ?_ ?_
          rotate_left
          ·intro w'
           go_simp
           with_reducible rfl
          rotate_left
          ·simp only [Act.put, List.setIfInBounds_toArray, List.set_cons_zero, List.set_cons_succ, i64_w, i32_w]
           rfl
          refine pure_ (i := 15) (N := some 30) (v := ?_) (a' := ?_) (bz 31 65535) rfl rfl (any_of HT_.out (by kernel_rfl)) (fun _ _ _ h => h) (Or.inl ⟨by rfl, ?_⟩) ?_ ?_
          rotate_left
          ·intro w'
           go_simp
           with_reducible rfl
          rotate_left
          ·simp only [Act.put, List.setIfInBounds_toArray, List.set_cons_zero, List.set_cons_succ, i64_w, i32_w]
           rfl
          refine pure_ (i := 16) (N := some 31) (v := ?_) (a' := ?_) (bz 31 131071) rfl rfl (any_of HT_.out (by kernel_rfl)) (fun _ _ _ h => h) (Or.inl ⟨by rfl, ?_⟩) ?_ ?_
          rotate_left
          ·intro w'
           go_simp
           with_reducible rfl
          rotate_left
          ·simp only [Act.put, List.setIfInBounds_toArray, List.set_cons_zero, List.set_cons_succ, i64_w, i32_w]
           rfl
          refine pure_ (i := 17) (N := some 32) (v := ?_) (a' := ?_) (bz 31 262143) rfl rfl (any_of HT_.out (by kernel_rfl)) (fun _ _ _ h => h) (Or.inl ⟨by rfl, ?_⟩) ?_ ?_
          rotate_left
          ·intro w'
           go_simp
           with_reducible rfl
          rotate_left
          ·simp only [Act.put, List.setIfInBounds_toArray, List.set_cons_zero, List.set_cons_succ, i64_w, i32_w]
           rfl
          refine pure_ (i := 18) (N := some 33) (v := ?_) (a' := ?_) (bz 31 524287) rfl rfl (any_of HT_.out (by kernel_rfl)) (fun _ _ _ h => h) (Or.inl ⟨by rfl, ?_⟩) ?_ ?_
          rotate_left
          ·intro w'
           go_simp
           with_reducible rfl
          rotate_left
          ·simp only [Act.put, List.setIfInBounds_toArray, List.set_cons_zero, List.set_cons_succ, i64_w, i32_w]
           rfl
          refine pure_ (i := 19) (N := some 34) (v := ?_) (a' := ?_) (bz 31 1048575) rfl rfl (any_of HT_.out (by kernel_rfl)) (fun _ _ _ h => h) (Or.inl ⟨by rfl, ?_⟩) ?_ ?_
          rotate_left
          ·intro w'
           go_simp
           with_reducible rfl
          rotate_left
          ·simp only [Act.put, List.setIfInBounds_toArray, List.set_cons_zero, List.set_cons_succ, i64_w, i32_w]
           rfl
          refine pure_ (i := 20) (N := some 35) (v := ?_) (a' := ?_) (bz 31 2097151) rfl rfl (any_of HT_.out (by kernel_rfl)) (fun _ _ _ h => h) (Or.inl ⟨by rfl, ?_⟩) ?_ ?_
          rotate_left
          ·intro w'
           go_simp
           with_reducible rfl
          rotate_left
          ·simp only [Act.put, List.setIfInBounds_toArray, List.set_cons_zero, List.set_cons_succ, i64_w, i32_w]
           rfl
          refine pure_ (i := 21) (N := some 36) (v := ?_) (a' := ?_) (bz 31 4194303) rfl rfl (any_of HT_.out (by kernel_rfl)) (fun _ _ _ h => h) (Or.inl ⟨by rfl, ?_⟩) ?_ ?_
          rotate_left
          ·intro w'
           go_simp
           with_reducible rfl
          rotate_left
          ·simp only [Act.put, List.setIfInBounds_toArray, List.set_cons_zero, List.set_cons_succ, i64_w, i32_w]
           rfl
          refine pure_ (i := 23) (N := some 38) (v := ?_) (a' := ?_) (bz 31 12582911) rfl rfl (any_of HT_.out (by kernel_rfl)) (fun _ _ _ h => h) (Or.inl ⟨by rfl, ?_⟩) ?_ ?_
          rotate_left
          ·intro w'
           go_simp
           with_reducible rfl
          rotate_left
          ·simp only [Act.put, List.setIfInBounds_toArray, List.set_cons_zero, List.set_cons_succ, i64_w, i32_w]
           rfl
          refine pure_ (i := 24) (N := some 39) (v := ?_) (a' := ?_) (bz 31 29360127) rfl rfl (any_of HT_.out (by kernel_rfl)) (fun _ _ _ h => h) (Or.inl ⟨by rfl, ?_⟩) ?_ ?_
          rotate_left
          ·intro w'
           go_simp
           with_reducible rfl
          rotate_left
          ·simp only [Act.put, List.setIfInBounds_toArray, List.set_cons_zero, List.set_cons_succ, i64_w, i32_w]
           rfl
          refine pure_ (i := 25) (N := some 40) (v := ?_) (a' := ?_) (bz 31 62914559) rfl rfl (any_of HT_.out (by kernel_rfl)) (fun _ _ _ h => h) (Or.inl ⟨by rfl, ?_⟩) ?_ ?_
          rotate_left
          ·intro w'
           go_simp
           with_reducible rfl
          rotate_left
          ·simp only [Act.put, List.setIfInBounds_toArray, List.set_cons_zero, List.set_cons_succ, i64_w, i32_w]
           rfl
          refine take_ (i := 22) (N := some 37) (v := ?_) (a' := ?_) (bz 31 67108863) rfl rfl (take_ofW HT_.out HW_.out (by kernel_rfl)) (fun _ _ _ h => h) (Or.inl ⟨by rfl, ?_⟩) hHeld ?_ ?_
          rotate_left
          ·rintro w' ⟨s0, s1, s2, s3, s4, s5, s6, s7⟩
           go_simp
           with_reducible rfl
          rotate_left
          ·simp only [Act.put, List.setIfInBounds_toArray, List.set_cons_zero, List.set_cons_succ, i64_w, i32_w]
           rfl
          refine take_ (i := 26) (N := some 41) (v := ?_) (a' := ?_) (bz 31 134217727) rfl rfl (take_ofW HT_.out HW_.out (by kernel_rfl)) (fun _ _ _ h => h) (Or.inl ⟨by rfl, ?_⟩) hHeld ?_ ?_
          rotate_left
          ·rintro w' ⟨s0, s1, s2, s3, s4, s5, s6, s7⟩
           go_simp
           with_reducible rfl
          rotate_left
          ·simp only [Act.put, List.setIfInBounds_toArray, List.set_cons_zero, List.set_cons_succ, i64_w, i32_w]
           rfl
          refine one_ (i := 27) (N := some 42) (bz 31 268435455) rfl rfl (one_of HT_.out (by kernel_rfl)) (by decide) (fun K hK => ?_)
          (try (have ea_ := Option.some.inj (hw354_1.symm.trans hw350_1); injection ea_ with ea_ en_ ec_; subst ea_; subst ec_; clear en_))
          refine goes_ Tryd.func114 (by kernel_rfl) rfl #[.string a0, .agg #[.string ((rd_T83 l1 (ji9)).f0), .slice A353_1 ((rd_T83 l1 (ji9)).f1).length c353_1], .agg #[.string ((rd_T83 l1 x5_1).f0), .slice A354_1 ((rd_T83 l1 x5_1).f1).length c354_1]] (by rfl) rfl rfl (by (try simp only [List.map_toArray, List.map_cons, List.map_nil]); first | done | (simp only [hji9]; rfl) | rfl | (simp only [List.length_drop, List.length_take]; rfl)) ?_
          with_reducible refine (spec_l3LineLess.calls k1 a0 ((rd_T83 l1 (ji9)).f0) _ _ ((rd_T83 l1 (ji9)).f1) ((rd_T83 l1 x5_1).f0) _ _ ((rd_T83 l1 x5_1).f1) t355 _ ?side1 ?side2 ?side3 ?side4 A12.out).mono ?_
          (case side1 => repeat (first | exact (Kd.C_below HR353_1.out HB.out) | (with_reducible refine Kd.C_alloc ?_ _) | (with_reducible refine Kd.C_drewN ?_ _) | (with_reducible refine Kd.C_drew ?_)))
          (case side2 => exact HC353_1.out)
          (case side3 => repeat (first | exact (Kd.C_below HR354_1.out HB.out) | (with_reducible refine Kd.C_alloc ?_ _) | (with_reducible refine Kd.C_drewN ?_ _) | (with_reducible refine Kd.C_drew ?_)))
          (case side4 => exact HC354_1.out)
          rintro e w15 ⟨rfl, hb⟩
          refine ⟨_, rfl, ?_⟩
          have n0_ := Aside0.mk (below_step (stB HB.out) hb)
          clear HB
          have HB := n0_
          clear n0_
          (try clear hb)
          (try clear hb2)
          (try clear hk)
          (try clear hi)
          refine hK.out _ _ ⟨(by first | exact (HB.out.cell (World.block_lt_of_cell? w _ hw350_0)).trans hw350_0 | exact hw350_0), (by first | exact (HB.out.cell (World.block_lt_of_cell? w _ hw350_1)).trans hw350_1 | exact hw350_1), (by first | exact (HB.out.cell (World.block_lt_of_cell? w _ hw351_0)).trans hw351_0 | exact hw351_0), (by first | exact (HB.out.cell (World.block_lt_of_cell? w _ hw351_1)).trans hw351_1 | exact hw351_1), (by first | exact (HB.out.cell (World.block_lt_of_cell? w _ hw353_0)).trans hw353_0 | exact hw353_0), (by first | exact (HB.out.cell (World.block_lt_of_cell? w _ hw353_1)).trans hw353_1 | exact hw353_1), (by first | exact (HB.out.cell (World.block_lt_of_cell? w _ hw354_0)).trans hw354_0 | exact hw354_0), (by first | exact (HB.out.cell (World.block_lt_of_cell? w _ hw354_1)).trans hw354_1 | exact hw354_1)⟩ (fun hHeld => ?_)
          clear hK K
          refine norm_ (a' := ?_) ?_ ?_
          rotate_left
          ·show Act.put _ (some 42) _ = _
           simp only [Act.put, List.setIfInBounds_toArray, List.set_cons_zero, List.set_cons_succ, i64_w, i32_w]
           rfl
          refine pure_ (i := 28) (N := some 43) (v := ?_) (a' := ?_) (bz 31 536870911) rfl rfl (any_of HT_.out (by kernel_rfl)) (fun _ _ _ h => h) (Or.inl ⟨by rfl, ?_⟩) ?_ ?_
          rotate_left
          ·intro w'
           go_simp
           with_reducible rfl
          rotate_left
          ·simp only [Act.put, List.setIfInBounds_toArray, List.set_cons_zero, List.set_cons_succ, i64_w, i32_w]
           rfl
          refine pure_ (i := 29) (N := some 44) (v := ?_) (a' := ?_) (bz 31 1073741823) rfl rfl (any_of HT_.out (by kernel_rfl)) (fun _ _ _ h => h) (Or.inl ⟨by rfl, ?_⟩) ?_ ?_
          rotate_left
          ·intro w'
           go_simp
           with_reducible rfl
          rotate_left
          ·simp only [Act.put, List.setIfInBounds_toArray, List.set_cons_zero, List.set_cons_succ, i64_w, i32_w]
           rfl
          refine pure_ (i := 30) (N := some 45) (v := ?_) (a' := ?_) (bz 31 2147483647) rfl rfl (any_of HT_.out (by kernel_rfl)) (fun _ _ _ h => h) (Or.inl ⟨by rfl, ?_⟩) ?_ ?_
          rotate_left
          ·intro w'
           go_simp
           with_reducible rfl
          rotate_left
          ·simp only [Act.put, List.setIfInBounds_toArray, List.set_cons_zero, List.set_cons_succ, i64_w, i32_w]
           rfl
          refine done_ (done_of HT_.out (by kernel_rfl)) ?_
          try go_wp2
          go_meet
          case rel => exact ⟨_, (!t355), (by first | rfl | (simp; done) | (simp [*]; done)), H', ⟨by have := HK1.out; first | omega | exact Nat.le_refl _⟩, ⟨by repeat (first | (with_reducible first | exact HB.out | apply below_alloc | apply pw_below_drewN | apply below_drew1) | exact HB.out)⟩⟩
         ·rw [if_neg c11] at H
          exact absurd H (by simp)
        ·rw [if_neg c10] at H
         exact absurd H (by simp)
       ·rw [if_neg c8] at H
        have c8b0 : decide (0 < x5_1) = false := decide_eq_false c8
        clear c8
        have H' := Aside0.mk H
        clear H
        try go_wp2
        have n0_ := Aside0.mk (below_drew1 HB.out)
        clear HB
        have HB := n0_
        clear n0_
        have p350 : 0 ≤ (x5_1 : Int) := of_decide_eq_true (by first | (with_reducible assumption) | assumption)
        have q350 : x5_1 < (l1.length : Int) := of_decide_eq_true (by first | (with_reducible assumption) | assumption)
        obtain ⟨ad350, A350_1, c350_1, e350, hx350_0, hx350_1, hl350_1, hi350_1⟩ := at_T83 HR1.out x5_1 p350 q350
        have hw350_1 := hx350_1
        have hw350_0 := hx350_0
        cases e350
        (try replace hx350_0 := (HB.out.cell (World.block_lt_of_cell? w _ hx350_0)).trans hx350_0)
        (try replace hx350_1 := (HB.out.cell (World.block_lt_of_cell? w _ hx350_1)).trans hx350_1)
        have HR350_1 := Aside0.mk hi350_1
        have HC350_1 := Aside0.mk hl350_1
        clear hi350_1 hl350_1
        replace p350 := eq_true p350
        replace q350 := eq_true q350
        have p351 : 0 ≤ (x5_1 : Int) := of_decide_eq_true (by first | (with_reducible assumption) | assumption)
        have q351 : x5_1 < (l1.length : Int) := of_decide_eq_true (by first | (with_reducible assumption) | assumption)
        obtain ⟨ad351, A351_1, c351_1, e351, hx351_0, hx351_1, hl351_1, hi351_1⟩ := at_T83 HR1.out x5_1 p351 q351
        have hw351_1 := hx351_1
        have hw351_0 := hx351_0
        obtain rfl : ad350 = ad351 := (by injection e351)
        (try replace hx351_0 := (HB.out.cell (World.block_lt_of_cell? w _ hx351_0)).trans hx351_0)
        (try replace hx351_1 := (HB.out.cell (World.block_lt_of_cell? w _ hx351_1)).trans hx351_1)
        have HR351_1 := Aside0.mk hi351_1
        have HC351_1 := Aside0.mk hl351_1
        clear hi351_1 hl351_1
        replace p351 := eq_true p351
        replace q351 := eq_true q351
        have ea_ := Option.some.inj (hx350_1.symm.trans hx351_1)
        injection ea_ with ea_ en_ ec_
        subst ea_
        subst ec_
        clear en_
        refine start_ (n := 31) (S := fun w' => w'.cell? (ad350.add ((x5_1).toNat * 2)) = some (.string ((rd_T83 l1 x5_1).f0)) ∧ w'.cell? ⟨(ad350.add ((x5_1).toNat * 2)).block, (ad350.add ((x5_1).toNat * 2)).off + 1, none⟩ = some (.slice A350_1 ((rd_T83 l1 x5_1).f1).length c350_1) ∧ w'.cell? (ad350.add ((x5_1).toNat * 2)) = some (.string ((rd_T83 l1 x5_1).f0)) ∧ w'.cell? ⟨(ad350.add ((x5_1).toNat * 2)).block, (ad350.add ((x5_1).toNat * 2)).off + 1, none⟩ = some (.slice A350_1 ((rd_T83 l1 x5_1).f1).length c350_1)) (ds := []) (bz 31 0) (by kernel_rfl) rfl rfl ⟨(by first | exact (HB.out.cell (World.block_lt_of_cell? w _ hw350_0)).trans hw350_0 | exact hw350_0), (by first | exact (HB.out.cell (World.block_lt_of_cell? w _ hw350_1)).trans hw350_1 | exact hw350_1), (by first | exact (HB.out.cell (World.block_lt_of_cell? w _ hw351_0)).trans hw351_0 | exact hw351_0), (by first | exact (HB.out.cell (World.block_lt_of_cell? w _ hw351_1)).trans hw351_1 | exact hw351_1)⟩ (fun hHeld => ?_); refine with_tabW spec_l3LinesOk.tab4 spec_l3LinesOk.bits4 (fun HT_ HW_ => ?_)
        generalize wr.drew = w16 at HB HR350_1 HR351_1 hx350_0 hx350_1 hx351_0 hx351_1 hHeld ⊢
        refine pure_ (i := 0) (N := some 15) (v := ?_) (a' := ?_) (bz 31 1) rfl rfl (any_of HT_.out (by kernel_rfl)) (fun _ _ _ h => h) (Or.inl ⟨by rfl, ?_⟩) ?_ ?_
        rotate_left
        ·intro w'
         go_simp
         with_reducible rfl
        rotate_left
        ·simp only [Act.put, List.setIfInBounds_toArray, List.set_cons_zero, List.set_cons_succ, i64_w, i32_w]
         rfl
        refine pure_ (i := 1) (N := some 16) (v := ?_) (a' := ?_) (bz 31 3) rfl rfl (any_of HT_.out (by kernel_rfl)) (fun _ _ _ h => h) (Or.inl ⟨by rfl, ?_⟩) ?_ ?_
        rotate_left
        ·intro w'
         go_simp
         with_reducible rfl
        rotate_left
        ·simp only [Act.put, List.setIfInBounds_toArray, List.set_cons_zero, List.set_cons_succ, i64_w, i32_w]
         rfl
        refine pure_ (i := 2) (N := some 17) (v := ?_) (a' := ?_) (bz 31 7) rfl rfl (any_of HT_.out (by kernel_rfl)) (fun _ _ _ h => h) (Or.inl ⟨by rfl, ?_⟩) ?_ ?_
        rotate_left
        ·intro w'
         go_simp
         with_reducible rfl
        rotate_left
        ·simp only [Act.put, List.setIfInBounds_toArray, List.set_cons_zero, List.set_cons_succ, i64_w, i32_w]
         rfl
        refine pure_ (i := 3) (N := some 18) (v := ?_) (a' := ?_) (bz 31 15) rfl rfl (any_of HT_.out (by kernel_rfl)) (fun _ _ _ h => h) (Or.inl ⟨by rfl, ?_⟩) ?_ ?_
        rotate_left
        ·intro w'
         go_simp
         with_reducible rfl
        rotate_left
        ·simp only [Act.put, List.setIfInBounds_toArray, List.set_cons_zero, List.set_cons_succ, i64_w, i32_w]
         rfl
        refine pure_ (i := 4) (N := some 19) (v := ?_) (a' := ?_) (bz 31 31) rfl rfl (any_of HT_.out (by kernel_rfl)) (fun _ _ _ h => h) (Or.inl ⟨by rfl, ?_⟩) ?_ ?_
        rotate_left
        ·intro w'
         go_simp
         with_reducible rfl
        rotate_left
        ·simp only [Act.put, List.setIfInBounds_toArray, List.set_cons_zero, List.set_cons_succ, i64_w, i32_w]
         rfl
        refine pure_ (i := 6) (N := some 21) (v := ?_) (a' := ?_) (bz 31 95) rfl rfl (any_of HT_.out (by kernel_rfl)) (fun _ _ _ h => h) (Or.inl ⟨by rfl, ?_⟩) ?_ ?_
        rotate_left
        ·intro w'
         go_simp
         with_reducible rfl
        rotate_left
        ·simp only [Act.put, List.setIfInBounds_toArray, List.set_cons_zero, List.set_cons_succ, i64_w, i32_w]
         rfl
        refine pure_ (i := 7) (N := some 22) (v := ?_) (a' := ?_) (bz 31 223) rfl rfl (any_of HT_.out (by kernel_rfl)) (fun _ _ _ h => h) (Or.inl ⟨by rfl, ?_⟩) ?_ ?_
        rotate_left
        ·intro w'
         go_simp
         with_reducible rfl
        rotate_left
        ·simp only [Act.put, List.setIfInBounds_toArray, List.set_cons_zero, List.set_cons_succ, i64_w, i32_w]
         rfl
        refine pure_ (i := 8) (N := some 23) (v := ?_) (a' := ?_) (bz 31 479) rfl rfl (any_of HT_.out (by kernel_rfl)) (fun _ _ _ h => h) (Or.inl ⟨by rfl, ?_⟩) ?_ ?_
        rotate_left
        ·intro w'
         go_simp
         with_reducible rfl
        rotate_left
        ·simp only [Act.put, List.setIfInBounds_toArray, List.set_cons_zero, List.set_cons_succ, i64_w, i32_w]
         rfl
        refine pure_ (i := 9) (N := some 24) (v := ?_) (a' := ?_) (bz 31 991) rfl rfl (any_of HT_.out (by kernel_rfl)) (fun _ _ _ h => h) (Or.inl ⟨by rfl, ?_⟩) ?_ ?_
        rotate_left
        ·intro w'
         go_simp
         with_reducible rfl
        rotate_left
        ·simp only [Act.put, List.setIfInBounds_toArray, List.set_cons_zero, List.set_cons_succ, i64_w, i32_w]
         rfl
        refine take_ (i := 5) (N := some 20) (v := ?_) (a' := ?_) (bz 31 1023) rfl rfl (take_ofW HT_.out HW_.out (by kernel_rfl)) (fun _ _ _ h => h) (Or.inl ⟨by rfl, ?_⟩) hHeld ?_ ?_
        rotate_left
        ·rintro w' ⟨s0, s1, s2, s3⟩
         go_simp
         with_reducible rfl
        rotate_left
        ·simp only [Act.put, List.setIfInBounds_toArray, List.set_cons_zero, List.set_cons_succ, i64_w, i32_w]
         rfl
        refine take_ (i := 10) (N := some 25) (v := ?_) (a' := ?_) (bz 31 2047) rfl rfl (take_ofW HT_.out HW_.out (by kernel_rfl)) (fun _ _ _ h => h) (Or.inl ⟨by rfl, ?_⟩) hHeld ?_ ?_
        rotate_left
        ·rintro w' ⟨s0, s1, s2, s3⟩
         go_simp
         with_reducible rfl
        rotate_left
        ·simp only [Act.put, List.setIfInBounds_toArray, List.set_cons_zero, List.set_cons_succ, i64_w, i32_w]
         rfl
        refine one_ (i := 11) (N := some 26) (bz 31 4095) rfl rfl (one_of HT_.out (by kernel_rfl)) (by decide) (fun K hK => ?_)
        refine goes_ Tryd.func19 (by kernel_rfl) rfl #[.string a0, .string ((rd_T83 l1 x5_1).f0), .slice A350_1 ((rd_T83 l1 x5_1).f1).length c350_1] (by rfl) rfl rfl (by (try simp only [List.map_toArray, List.map_cons, List.map_nil]); first | done | rfl | (simp only [List.length_drop, List.length_take]; rfl)) ?_
        with_reducible refine (spec_SheetFits.calls a0 ((rd_T83 l1 x5_1).f0) _ _ ((rd_T83 l1 x5_1).f1) true _ ?side1 ?side2 A6.out).mono ?_
        (case side1 => repeat (first | exact (Kd.C_below HR351_1.out HB.out) | (with_reducible refine Kd.C_alloc ?_ _) | (with_reducible refine Kd.C_drewN ?_ _) | (with_reducible refine Kd.C_drew ?_)))
        (case side2 => exact HC351_1.out)
        rintro e w17 ⟨rfl, hb⟩
        refine ⟨_, rfl, ?_⟩
        have n0_ := Aside0.mk (below_step (stB HB.out) hb)
        clear HB
        have HB := n0_
        clear n0_
        (try clear hb)
        (try clear hb2)
        (try clear hk)
        (try clear hi)
        refine hK.out _ _ ⟨(by first | exact (HB.out.cell (World.block_lt_of_cell? w _ hw350_0)).trans hw350_0 | exact hw350_0), (by first | exact (HB.out.cell (World.block_lt_of_cell? w _ hw350_1)).trans hw350_1 | exact hw350_1), (by first | exact (HB.out.cell (World.block_lt_of_cell? w _ hw351_0)).trans hw351_0 | exact hw351_0), (by first | exact (HB.out.cell (World.block_lt_of_cell? w _ hw351_1)).trans hw351_1 | exact hw351_1)⟩ (fun hHeld => ?_)
        clear hK K
        refine norm_ (a' := ?_) ?_ ?_
        rotate_left
        ·show Act.put _ (some 26) _ = _
         simp only [Act.put, List.setIfInBounds_toArray, List.set_cons_zero, List.set_cons_succ, i64_w, i32_w]
         rfl
        refine pure_ (i := 12) (N := some 27) (v := ?_) (a' := ?_) (bz 31 8191) rfl rfl (any_of HT_.out (by kernel_rfl)) (fun _ _ _ h => h) (Or.inl ⟨by rfl, ?_⟩) ?_ ?_
        rotate_left
        ·intro w'
         go_simp
         with_reducible rfl
        rotate_left
        ·simp only [Act.put, List.setIfInBounds_toArray, List.set_cons_zero, List.set_cons_succ, i64_w, i32_w]
         rfl
        refine pure_ (i := 13) (N := some 28) (v := ?_) (a' := ?_) (bz 31 16383) rfl rfl (any_of HT_.out (by kernel_rfl)) (fun _ _ _ h => h) (Or.inl ⟨by rfl, ?_⟩) ?_ ?_
        rotate_left
        ·intro w'
         go_simp
         with_reducible rfl
        rotate_left
        ·simp only [Act.put, List.setIfInBounds_toArray, List.set_cons_zero, List.set_cons_succ, i64_w, i32_w]
         rfl
        refine pure_ (i := 14) (N := some 29) (v := ?_) (a' := ?_) (bz 31 32767) rfl rfl (any_of HT_.out (by kernel_rfl)) (fun _ _ _ h => h) (Or.inl ⟨by rfl, ?_⟩) ?_ ?_
        rotate_left
        ·intro w'
         go_simp
         with_reducible rfl
        rotate_left
        ·simp only [Act.put, List.setIfInBounds_toArray, List.set_cons_zero, List.set_cons_succ, i64_w, i32_w]
         rfl
        refine pure_ (i := 15) (N := some 30) (v := ?_) (a' := ?_) (bz 31 65535) rfl rfl (any_of HT_.out (by kernel_rfl)) (fun _ _ _ h => h) (Or.inl ⟨by rfl, ?_⟩) ?_ ?_
        rotate_left
        ·intro w'
         go_simp
         with_reducible rfl
        rotate_left
        ·simp only [Act.put, List.setIfInBounds_toArray, List.set_cons_zero, List.set_cons_succ, i64_w, i32_w]
         rfl
        refine pure_ (i := 16) (N := some 31) (v := ?_) (a' := ?_) (bz 31 131071) rfl rfl (any_of HT_.out (by kernel_rfl)) (fun _ _ _ h => h) (Or.inl ⟨by rfl, ?_⟩) ?_ ?_
        rotate_left
        ·intro w'
         go_simp
         with_reducible rfl
        rotate_left
        ·simp only [Act.put, List.setIfInBounds_toArray, List.set_cons_zero, List.set_cons_succ, i64_w, i32_w]
         rfl
        refine pure_ (i := 17) (N := some 32) (v := undef) (a' := ?_) (bz 31 262143) rfl rfl (any_of HT_.out (by kernel_rfl)) (fun _ _ _ h => h) (Or.inr ⟨by rfl, rfl⟩) ?_ ?_
        rotate_left
        ·simp only [Act.put, List.setIfInBounds_toArray, List.set_cons_zero, List.set_cons_succ, i64_w, i32_w]
         rfl
        refine pure_ (i := 18) (N := some 33) (v := undef) (a' := ?_) (bz 31 524287) rfl rfl (any_of HT_.out (by kernel_rfl)) (fun _ _ _ h => h) (Or.inr ⟨by rfl, rfl⟩) ?_ ?_
        rotate_left
        ·simp only [Act.put, List.setIfInBounds_toArray, List.set_cons_zero, List.set_cons_succ, i64_w, i32_w]
         rfl
        refine pure_ (i := 19) (N := some 34) (v := undef) (a' := ?_) (bz 31 1048575) rfl rfl (any_of HT_.out (by kernel_rfl)) (fun _ _ _ h => h) (Or.inr ⟨by rfl, rfl⟩) ?_ ?_
        rotate_left
        ·simp only [Act.put, List.setIfInBounds_toArray, List.set_cons_zero, List.set_cons_succ, i64_w, i32_w]
         rfl
        refine pure_ (i := 20) (N := some 35) (v := undef) (a' := ?_) (bz 31 2097151) rfl rfl (any_of HT_.out (by kernel_rfl)) (fun _ _ _ h => h) (Or.inr ⟨by rfl, rfl⟩) ?_ ?_
        rotate_left
        ·simp only [Act.put, List.setIfInBounds_toArray, List.set_cons_zero, List.set_cons_succ, i64_w, i32_w]
         rfl
        refine pure_ (i := 21) (N := some 36) (v := undef) (a' := ?_) (bz 31 4194303) rfl rfl (any_of HT_.out (by kernel_rfl)) (fun _ _ _ h => h) (Or.inr ⟨by rfl, rfl⟩) ?_ ?_
        rotate_left
        ·simp only [Act.put, List.setIfInBounds_toArray, List.set_cons_zero, List.set_cons_succ, i64_w, i32_w]
         rfl
        refine pure_ (i := 22) (N := some 37) (v := undef) (a' := ?_) (bz 31 8388607) rfl rfl (any_of HT_.out (by kernel_rfl)) (fun _ _ _ h => h) (Or.inr ⟨by rfl, rfl⟩) ?_ ?_
        rotate_left
        ·simp only [Act.put, List.setIfInBounds_toArray, List.set_cons_zero, List.set_cons_succ, i64_w, i32_w]
         rfl
        refine pure_ (i := 23) (N := some 38) (v := undef) (a' := ?_) (bz 31 16777215) rfl rfl (any_of HT_.out (by kernel_rfl)) (fun _ _ _ h => h) (Or.inr ⟨by rfl, rfl⟩) ?_ ?_
        rotate_left
        ·simp only [Act.put, List.setIfInBounds_toArray, List.set_cons_zero, List.set_cons_succ, i64_w, i32_w]
         rfl
        refine pure_ (i := 24) (N := some 39) (v := undef) (a' := ?_) (bz 31 33554431) rfl rfl (any_of HT_.out (by kernel_rfl)) (fun _ _ _ h => h) (Or.inr ⟨by rfl, rfl⟩) ?_ ?_
        rotate_left
        ·simp only [Act.put, List.setIfInBounds_toArray, List.set_cons_zero, List.set_cons_succ, i64_w, i32_w]
         rfl
        refine pure_ (i := 25) (N := some 40) (v := undef) (a' := ?_) (bz 31 67108863) rfl rfl (any_of HT_.out (by kernel_rfl)) (fun _ _ _ h => h) (Or.inr ⟨by rfl, rfl⟩) ?_ ?_
        rotate_left
        ·simp only [Act.put, List.setIfInBounds_toArray, List.set_cons_zero, List.set_cons_succ, i64_w, i32_w]
         rfl
        refine pure_ (i := 26) (N := some 41) (v := undef) (a' := ?_) (bz 31 134217727) rfl rfl (any_of HT_.out (by kernel_rfl)) (fun _ _ _ h => h) (Or.inr ⟨by rfl, rfl⟩) ?_ ?_
        rotate_left
        ·simp only [Act.put, List.setIfInBounds_toArray, List.set_cons_zero, List.set_cons_succ, i64_w, i32_w]
         rfl
        refine pure_ (i := 27) (N := some 42) (v := undef) (a' := ?_) (bz 31 268435455) rfl rfl (any_of HT_.out (by kernel_rfl)) (fun _ _ _ h => h) (Or.inr ⟨by rfl, rfl⟩) ?_ ?_
        rotate_left
        ·simp only [Act.put, List.setIfInBounds_toArray, List.set_cons_zero, List.set_cons_succ, i64_w, i32_w]
         rfl
        refine pure_ (i := 28) (N := some 43) (v := undef) (a' := ?_) (bz 31 536870911) rfl rfl (any_of HT_.out (by kernel_rfl)) (fun _ _ _ h => h) (Or.inr ⟨by rfl, rfl⟩) ?_ ?_
        rotate_left
        ·simp only [Act.put, List.setIfInBounds_toArray, List.set_cons_zero, List.set_cons_succ, i64_w, i32_w]
         rfl
        refine pure_ (i := 29) (N := some 44) (v := ?_) (a' := ?_) (bz 31 1073741823) rfl rfl (any_of HT_.out (by kernel_rfl)) (fun _ _ _ h => h) (Or.inl ⟨by rfl, ?_⟩) ?_ ?_
        rotate_left
        ·intro w'
         go_simp
         with_reducible rfl
        rotate_left
        ·simp only [Act.put, List.setIfInBounds_toArray, List.set_cons_zero, List.set_cons_succ, i64_w, i32_w]
         rfl
        refine pure_ (i := 30) (N := some 45) (v := ?_) (a' := ?_) (bz 31 2147483647) rfl rfl (any_of HT_.out (by kernel_rfl)) (fun _ _ _ h => h) (Or.inl ⟨by rfl, ?_⟩) ?_ ?_
        rotate_left
        ·intro w'
         go_simp
         with_reducible rfl
        rotate_left
        ·simp only [Act.put, List.setIfInBounds_toArray, List.set_cons_zero, List.set_cons_succ, i64_w, i32_w]
         rfl
        refine done_ (done_of HT_.out (by kernel_rfl)) ?_
        try go_wp2
        go_meet
        case rel => exact ⟨_, (false), (by first | rfl | (simp; done) | (simp [*]; done)), H', ⟨by have := HK1.out; first | omega | exact Nat.le_refl _⟩, ⟨by repeat (first | (with_reducible first | exact HB.out | apply below_alloc | apply pw_below_drewN | apply below_drew1) | exact HB.out)⟩⟩
      ·replace c7 := Bool.eq_false_iff.mpr c7
       subst c7
       have H1 : (spec_l3LinesOk.j1 k1 a0 l1 x5_1 true) = some r := by rw [if_neg (show ¬ (false = true) by decide)] at H; exact H
       clear H
       have H := H1
       clear H1
       have H' := Aside0.mk H
       clear H
       try go_wp2
       have n0_ := Aside0.mk (below_drew1 HB.out)
       clear HB
       have HB := n0_
       clear n0_
       have p350 : 0 ≤ (x5_1 : Int) := of_decide_eq_true (by first | (with_reducible assumption) | assumption)
       have q350 : x5_1 < (l1.length : Int) := of_decide_eq_true (by first | (with_reducible assumption) | assumption)
       obtain ⟨ad350, A350_1, c350_1, e350, hx350_0, hx350_1, hl350_1, hi350_1⟩ := at_T83 HR1.out x5_1 p350 q350
       have hw350_1 := hx350_1
       have hw350_0 := hx350_0
       cases e350
       (try replace hx350_0 := (HB.out.cell (World.block_lt_of_cell? w _ hx350_0)).trans hx350_0)
       (try replace hx350_1 := (HB.out.cell (World.block_lt_of_cell? w _ hx350_1)).trans hx350_1)
       have HR350_1 := Aside0.mk hi350_1
       have HC350_1 := Aside0.mk hl350_1
       clear hi350_1 hl350_1
       replace p350 := eq_true p350
       replace q350 := eq_true q350
       have p351 : 0 ≤ (x5_1 : Int) := of_decide_eq_true (by first | (with_reducible assumption) | assumption)
       have q351 : x5_1 < (l1.length : Int) := of_decide_eq_true (by first | (with_reducible assumption) | assumption)
       obtain ⟨ad351, A351_1, c351_1, e351, hx351_0, hx351_1, hl351_1, hi351_1⟩ := at_T83 HR1.out x5_1 p351 q351
       have hw351_1 := hx351_1
       have hw351_0 := hx351_0
       obtain rfl : ad350 = ad351 := (by injection e351)
       (try replace hx351_0 := (HB.out.cell (World.block_lt_of_cell? w _ hx351_0)).trans hx351_0)
       (try replace hx351_1 := (HB.out.cell (World.block_lt_of_cell? w _ hx351_1)).trans hx351_1)
       have HR351_1 := Aside0.mk hi351_1
       have HC351_1 := Aside0.mk hl351_1
       clear hi351_1 hl351_1
       replace p351 := eq_true p351
       replace q351 := eq_true q351
       have ea_ := Option.some.inj (hx350_1.symm.trans hx351_1)
       injection ea_ with ea_ en_ ec_
       subst ea_
       subst ec_
       clear en_
       refine start_ (n := 31) (S := fun w' => w'.cell? (ad350.add ((x5_1).toNat * 2)) = some (.string ((rd_T83 l1 x5_1).f0)) ∧ w'.cell? ⟨(ad350.add ((x5_1).toNat * 2)).block, (ad350.add ((x5_1).toNat * 2)).off + 1, none⟩ = some (.slice A350_1 ((rd_T83 l1 x5_1).f1).length c350_1) ∧ w'.cell? (ad350.add ((x5_1).toNat * 2)) = some (.string ((rd_T83 l1 x5_1).f0)) ∧ w'.cell? ⟨(ad350.add ((x5_1).toNat * 2)).block, (ad350.add ((x5_1).toNat * 2)).off + 1, none⟩ = some (.slice A350_1 ((rd_T83 l1 x5_1).f1).length c350_1)) (ds := []) (bz 31 0) (by kernel_rfl) rfl rfl ⟨(by first | exact (HB.out.cell (World.block_lt_of_cell? w _ hw350_0)).trans hw350_0 | exact hw350_0), (by first | exact (HB.out.cell (World.block_lt_of_cell? w _ hw350_1)).trans hw350_1 | exact hw350_1), (by first | exact (HB.out.cell (World.block_lt_of_cell? w _ hw351_0)).trans hw351_0 | exact hw351_0), (by first | exact (HB.out.cell (World.block_lt_of_cell? w _ hw351_1)).trans hw351_1 | exact hw351_1)⟩ (fun hHeld => ?_); refine with_tabW spec_l3LinesOk.tab4 spec_l3LinesOk.bits4 (fun HT_ HW_ => ?_)
       generalize wr.drew = w18 at HB HR350_1 HR351_1 hx350_0 hx350_1 hx351_0 hx351_1 hHeld ⊢
       refine pure_ (i := 0) (N := some 15) (v := ?_) (a' := ?_) (bz 31 1) rfl rfl (any_of HT_.out (by kernel_rfl)) (fun _ _ _ h => h) (Or.inl ⟨by rfl, ?_⟩) ?_ ?_
       rotate_left
       ·intro w'
        go_simp
        with_reducible rfl
       rotate_left
       ·simp only [Act.put, List.setIfInBounds_toArray, List.set_cons_zero, List.set_cons_succ, i64_w, i32_w]
        rfl
       refine pure_ (i := 1) (N := some 16) (v := ?_) (a' := ?_) (bz 31 3) rfl rfl (any_of HT_.out (by kernel_rfl)) (fun _ _ _ h => h) (Or.inl ⟨by rfl, ?_⟩) ?_ ?_
       rotate_left
       ·intro w'
        go_simp
        with_reducible rfl
       rotate_left
       ·simp only [Act.put, List.setIfInBounds_toArray, List.set_cons_zero, List.set_cons_succ, i64_w, i32_w]
        rfl
       refine pure_ (i := 2) (N := some 17) (v := ?_) (a' := ?_) (bz 31 7) rfl rfl (any_of HT_.out (by kernel_rfl)) (fun _ _ _ h => h) (Or.inl ⟨by rfl, ?_⟩) ?_ ?_
       rotate_left
       ·intro w'
        go_simp
        with_reducible rfl
       rotate_left
       ·simp only [Act.put, List.setIfInBounds_toArray, List.set_cons_zero, List.set_cons_succ, i64_w, i32_w]
        rfl
       refine pure_ (i := 3) (N := some 18) (v := ?_) (a' := ?_) (bz 31 15) rfl rfl (any_of HT_.out (by kernel_rfl)) (fun _ _ _ h => h) (Or.inl ⟨by rfl, ?_⟩) ?_ ?_
       rotate_left
       ·intro w'
        go_simp
        with_reducible rfl
       rotate_left
       ·simp only [Act.put, List.setIfInBounds_toArray, List.set_cons_zero, List.set_cons_succ, i64_w, i32_w]
        rfl
       refine pure_ (i := 4) (N := some 19) (v := ?_) (a' := ?_) (bz 31 31) rfl rfl (any_of HT_.out (by kernel_rfl)) (fun _ _ _ h => h) (Or.inl ⟨by rfl, ?_⟩) ?_ ?_
       rotate_left
       ·intro w'
        go_simp
        with_reducible rfl
       rotate_left
       ·simp only [Act.put, List.setIfInBounds_toArray, List.set_cons_zero, List.set_cons_succ, i64_w, i32_w]
        rfl
       refine pure_ (i := 6) (N := some 21) (v := ?_) (a' := ?_) (bz 31 95) rfl rfl (any_of HT_.out (by kernel_rfl)) (fun _ _ _ h => h) (Or.inl ⟨by rfl, ?_⟩) ?_ ?_
       rotate_left
       ·intro w'
        go_simp
        with_reducible rfl
       rotate_left
       ·simp only [Act.put, List.setIfInBounds_toArray, List.set_cons_zero, List.set_cons_succ, i64_w, i32_w]
        rfl
       refine pure_ (i := 7) (N := some 22) (v := ?_) (a' := ?_) (bz 31 223) rfl rfl (any_of HT_.out (by kernel_rfl)) (fun _ _ _ h => h) (Or.inl ⟨by rfl, ?_⟩) ?_ ?_
       rotate_left
       ·intro w'
        go_simp
        with_reducible rfl
       rotate_left
       ·simp only [Act.put, List.setIfInBounds_toArray, List.set_cons_zero, List.set_cons_succ, i64_w, i32_w]
        rfl
       refine pure_ (i := 8) (N := some 23) (v := ?_) (a' := ?_) (bz 31 479) rfl rfl (any_of HT_.out (by kernel_rfl)) (fun _ _ _ h => h) (Or.inl ⟨by rfl, ?_⟩) ?_ ?_
       rotate_left
       ·intro w'
        go_simp
        with_reducible rfl
       rotate_left
       ·simp only [Act.put, List.setIfInBounds_toArray, List.set_cons_zero, List.set_cons_succ, i64_w, i32_w]
        rfl
       refine pure_ (i := 9) (N := some 24) (v := ?_) (a' := ?_) (bz 31 991) rfl rfl (any_of HT_.out (by kernel_rfl)) (fun _ _ _ h => h) (Or.inl ⟨by rfl, ?_⟩) ?_ ?_
       rotate_left
       ·intro w'
        go_simp
        with_reducible rfl
       rotate_left
       ·simp only [Act.put, List.setIfInBounds_toArray, List.set_cons_zero, List.set_cons_succ, i64_w, i32_w]
        rfl
       refine take_ (i := 5) (N := some 20) (v := ?_) (a' := ?_) (bz 31 1023) rfl rfl (take_ofW HT_.out HW_.out (by kernel_rfl)) (fun _ _ _ h => h) (Or.inl ⟨by rfl, ?_⟩) hHeld ?_ ?_
       rotate_left
       ·rintro w' ⟨s0, s1, s2, s3⟩
        go_simp
        with_reducible rfl
       rotate_left
       ·simp only [Act.put, List.setIfInBounds_toArray, List.set_cons_zero, List.set_cons_succ, i64_w, i32_w]
        rfl
       refine take_ (i := 10) (N := some 25) (v := ?_) (a' := ?_) (bz 31 2047) rfl rfl (take_ofW HT_.out HW_.out (by kernel_rfl)) (fun _ _ _ h => h) (Or.inl ⟨by rfl, ?_⟩) hHeld ?_ ?_
       rotate_left
       ·rintro w' ⟨s0, s1, s2, s3⟩
        go_simp
        with_reducible rfl
       rotate_left
       ·simp only [Act.put, List.setIfInBounds_toArray, List.set_cons_zero, List.set_cons_succ, i64_w, i32_w]
        rfl
       refine one_ (i := 11) (N := some 26) (bz 31 4095) rfl rfl (one_of HT_.out (by kernel_rfl)) (by decide) (fun K hK => ?_)
       refine goes_ Tryd.func19 (by kernel_rfl) rfl #[.string a0, .string ((rd_T83 l1 x5_1).f0), .slice A350_1 ((rd_T83 l1 x5_1).f1).length c350_1] (by rfl) rfl rfl (by (try simp only [List.map_toArray, List.map_cons, List.map_nil]); first | done | rfl | (simp only [List.length_drop, List.length_take]; rfl)) ?_
       with_reducible refine (spec_SheetFits.calls a0 ((rd_T83 l1 x5_1).f0) _ _ ((rd_T83 l1 x5_1).f1) false _ ?side1 ?side2 A6.out).mono ?_
       (case side1 => repeat (first | exact (Kd.C_below HR351_1.out HB.out) | (with_reducible refine Kd.C_alloc ?_ _) | (with_reducible refine Kd.C_drewN ?_ _) | (with_reducible refine Kd.C_drew ?_)))
       (case side2 => exact HC351_1.out)
       rintro e w19 ⟨rfl, hb⟩
       refine ⟨_, rfl, ?_⟩
       have n0_ := Aside0.mk (below_step (stB HB.out) hb)
       clear HB
       have HB := n0_
       clear n0_
       (try clear hb)
       (try clear hb2)
       (try clear hk)
       (try clear hi)
       refine hK.out _ _ ⟨(by first | exact (HB.out.cell (World.block_lt_of_cell? w _ hw350_0)).trans hw350_0 | exact hw350_0), (by first | exact (HB.out.cell (World.block_lt_of_cell? w _ hw350_1)).trans hw350_1 | exact hw350_1), (by first | exact (HB.out.cell (World.block_lt_of_cell? w _ hw351_0)).trans hw351_0 | exact hw351_0), (by first | exact (HB.out.cell (World.block_lt_of_cell? w _ hw351_1)).trans hw351_1 | exact hw351_1)⟩ (fun hHeld => ?_)
       clear hK K
       refine norm_ (a' := ?_) ?_ ?_
       rotate_left
       ·show Act.put _ (some 26) _ = _
        simp only [Act.put, List.setIfInBounds_toArray, List.set_cons_zero, List.set_cons_succ, i64_w, i32_w]
        rfl
       refine pure_ (i := 12) (N := some 27) (v := ?_) (a' := ?_) (bz 31 8191) rfl rfl (any_of HT_.out (by kernel_rfl)) (fun _ _ _ h => h) (Or.inl ⟨by rfl, ?_⟩) ?_ ?_
       rotate_left
       ·intro w'
        go_simp
        with_reducible rfl
       rotate_left
       ·simp only [Act.put, List.setIfInBounds_toArray, List.set_cons_zero, List.set_cons_succ, i64_w, i32_w]
        rfl
       refine pure_ (i := 13) (N := some 28) (v := ?_) (a' := ?_) (bz 31 16383) rfl rfl (any_of HT_.out (by kernel_rfl)) (fun _ _ _ h => h) (Or.inl ⟨by rfl, ?_⟩) ?_ ?_
       rotate_left
       ·intro w'
        go_simp
        with_reducible rfl
       rotate_left
       ·simp only [Act.put, List.setIfInBounds_toArray, List.set_cons_zero, List.set_cons_succ, i64_w, i32_w]
        rfl
       refine pure_ (i := 14) (N := some 29) (v := undef) (a' := ?_) (bz 31 32767) rfl rfl (any_of HT_.out (by kernel_rfl)) (fun _ _ _ h => h) (Or.inr ⟨by rfl, rfl⟩) ?_ ?_
       rotate_left
       ·simp only [Act.put, List.setIfInBounds_toArray, List.set_cons_zero, List.set_cons_succ, i64_w, i32_w]
        rfl
       refine pure_ (i := 15) (N := some 30) (v := undef) (a' := ?_) (bz 31 65535) rfl rfl (any_of HT_.out (by kernel_rfl)) (fun _ _ _ h => h) (Or.inr ⟨by rfl, rfl⟩) ?_ ?_
       rotate_left
       ·simp only [Act.put, List.setIfInBounds_toArray, List.set_cons_zero, List.set_cons_succ, i64_w, i32_w]
        rfl
       refine pure_ (i := 16) (N := some 31) (v := undef) (a' := ?_) (bz 31 131071) rfl rfl (any_of HT_.out (by kernel_rfl)) (fun _ _ _ h => h) (Or.inr ⟨by rfl, rfl⟩) ?_ ?_
       rotate_left
       ·simp only [Act.put, List.setIfInBounds_toArray, List.set_cons_zero, List.set_cons_succ, i64_w, i32_w]
        rfl
       refine pure_ (i := 17) (N := some 32) (v := undef) (a' := ?_) (bz 31 262143) rfl rfl (any_of HT_.out (by kernel_rfl)) (fun _ _ _ h => h) (Or.inr ⟨by rfl, rfl⟩) ?_ ?_
       rotate_left
       ·simp only [Act.put, List.setIfInBounds_toArray, List.set_cons_zero, List.set_cons_succ, i64_w, i32_w]
        rfl
       refine pure_ (i := 18) (N := some 33) (v := undef) (a' := ?_) (bz 31 524287) rfl rfl (any_of HT_.out (by kernel_rfl)) (fun _ _ _ h => h) (Or.inr ⟨by rfl, rfl⟩) ?_ ?_
       rotate_left
       ·simp only [Act.put, List.setIfInBounds_toArray, List.set_cons_zero, List.set_cons_succ, i64_w, i32_w]
        rfl
       refine pure_ (i := 19) (N := some 34) (v := undef) (a' := ?_) (bz 31 1048575) rfl rfl (any_of HT_.out (by kernel_rfl)) (fun _ _ _ h => h) (Or.inr ⟨by rfl, rfl⟩) ?_ ?_
       rotate_left
       ·simp only [Act.put, List.setIfInBounds_toArray, List.set_cons_zero, List.set_cons_succ, i64_w, i32_w]
        rfl
       refine pure_ (i := 20) (N := some 35) (v := undef) (a' := ?_) (bz 31 2097151) rfl rfl (any_of HT_.out (by kernel_rfl)) (fun _ _ _ h => h) (Or.inr ⟨by rfl, rfl⟩) ?_ ?_
       rotate_left
       ·simp only [Act.put, List.setIfInBounds_toArray, List.set_cons_zero, List.set_cons_succ, i64_w, i32_w]
        rfl
       refine pure_ (i := 21) (N := some 36) (v := undef) (a' := ?_) (bz 31 4194303) rfl rfl (any_of HT_.out (by kernel_rfl)) (fun _ _ _ h => h) (Or.inr ⟨by rfl, rfl⟩) ?_ ?_
       rotate_left
       ·simp only [Act.put, List.setIfInBounds_toArray, List.set_cons_zero, List.set_cons_succ, i64_w, i32_w]
        rfl
       refine pure_ (i := 22) (N := some 37) (v := undef) (a' := ?_) (bz 31 8388607) rfl rfl (any_of HT_.out (by kernel_rfl)) (fun _ _ _ h => h) (Or.inr ⟨by rfl, rfl⟩) ?_ ?_
       rotate_left
       ·simp only [Act.put, List.setIfInBounds_toArray, List.set_cons_zero, List.set_cons_succ, i64_w, i32_w]
        rfl
       refine pure_ (i := 23) (N := some 38) (v := undef) (a' := ?_) (bz 31 16777215) rfl rfl (any_of HT_.out (by kernel_rfl)) (fun _ _ _ h => h) (Or.inr ⟨by rfl, rfl⟩) ?_ ?_
       rotate_left
       ·simp only [Act.put, List.setIfInBounds_toArray, List.set_cons_zero, List.set_cons_succ, i64_w, i32_w]
        rfl
       refine pure_ (i := 24) (N := some 39) (v := undef) (a' := ?_) (bz 31 33554431) rfl rfl (any_of HT_.out (by kernel_rfl)) (fun _ _ _ h => h) (Or.inr ⟨by rfl, rfl⟩) ?_ ?_
       rotate_left
       ·simp only [Act.put, List.setIfInBounds_toArray, List.set_cons_zero, List.set_cons_succ, i64_w, i32_w]
        rfl
       refine pure_ (i := 25) (N := some 40) (v := undef) (a' := ?_) (bz 31 67108863) rfl rfl (any_of HT_.out (by kernel_rfl)) (fun _ _ _ h => h) (Or.inr ⟨by rfl, rfl⟩) ?_ ?_
       rotate_left
       ·simp only [Act.put, List.setIfInBounds_toArray, List.set_cons_zero, List.set_cons_succ, i64_w, i32_w]
        rfl
       refine pure_ (i := 26) (N := some 41) (v := undef) (a' := ?_) (bz 31 134217727) rfl rfl (any_of HT_.out (by kernel_rfl)) (fun _ _ _ h => h) (Or.inr ⟨by rfl, rfl⟩) ?_ ?_
       rotate_left
       ·simp only [Act.put, List.setIfInBounds_toArray, List.set_cons_zero, List.set_cons_succ, i64_w, i32_w]
        rfl
       refine pure_ (i := 27) (N := some 42) (v := undef) (a' := ?_) (bz 31 268435455) rfl rfl (any_of HT_.out (by kernel_rfl)) (fun _ _ _ h => h) (Or.inr ⟨by rfl, rfl⟩) ?_ ?_
       rotate_left
       ·simp only [Act.put, List.setIfInBounds_toArray, List.set_cons_zero, List.set_cons_succ, i64_w, i32_w]
        rfl
       refine pure_ (i := 28) (N := some 43) (v := undef) (a' := ?_) (bz 31 536870911) rfl rfl (any_of HT_.out (by kernel_rfl)) (fun _ _ _ h => h) (Or.inr ⟨by rfl, rfl⟩) ?_ ?_
       rotate_left
       ·simp only [Act.put, List.setIfInBounds_toArray, List.set_cons_zero, List.set_cons_succ, i64_w, i32_w]
        rfl
       refine pure_ (i := 29) (N := some 44) (v := undef) (a' := ?_) (bz 31 1073741823) rfl rfl (any_of HT_.out (by kernel_rfl)) (fun _ _ _ h => h) (Or.inr ⟨by rfl, rfl⟩) ?_ ?_
       rotate_left
       ·simp only [Act.put, List.setIfInBounds_toArray, List.set_cons_zero, List.set_cons_succ, i64_w, i32_w]
        rfl
       refine pure_ (i := 30) (N := some 45) (v := ?_) (a' := ?_) (bz 31 2147483647) rfl rfl (any_of HT_.out (by kernel_rfl)) (fun _ _ _ h => h) (Or.inl ⟨by rfl, ?_⟩) ?_ ?_
       rotate_left
       ·intro w'
        go_simp
        with_reducible rfl
       rotate_left
       ·simp only [Act.put, List.setIfInBounds_toArray, List.set_cons_zero, List.set_cons_succ, i64_w, i32_w]
        rfl
       refine done_ (done_of HT_.out (by kernel_rfl)) ?_
       try go_wp2
       go_meet
       case rel => exact ⟨_, (true), (by first | rfl | (simp; done) | (simp [*]; done)), H', ⟨by have := HK1.out; first | omega | exact Nat.le_refl _⟩, ⟨by repeat (first | (with_reducible first | exact HB.out | apply below_alloc | apply pw_below_drewN | apply below_drew1) | exact HB.out)⟩⟩
     ·rw [if_neg c5] at H
      exact absurd H (by simp)
    case rest =>
     clear HC4
     try clear c1
     try clear p2
     try clear c3
     try clear p3
     try clear q3
     try clear hx3
     try clear c5
     try clear c7
     try clear c8
     try clear c8b0
     try clear c10
     try clear c11
     try clear c19
     try clear hx350_0
     try clear hx350_1
     try clear hx351_0
     try clear hx351_1
     try clear p350
     try clear p351
     try clear q350
     try clear q351
     obtain ⟨kq, x45_3, rfl, HA, HJ3, HB⟩ := hcut
     cases kq with
     | zero => exact absurd HA.out (by simp [spec_l3LinesOk.j1])
     | succ kj3 =>
      have H := HA.out
      clear HA
      simp only [spec_l3LinesOk.j1] at H
      by_cases c20 : x45_3 = true
      ·subst c20
       have H1 : (some false) = some r := by rw [if_pos rfl] at H; exact H
       clear H
       have H := H1
       clear H1
       obtain rfl := Option.some.inj H
       go_wp2
       go_ret
       exact ⟨by first | rfl | (simp [errW_none, errW_some] <;> rfl) | (simp [*, errW_none, errW_some] <;> rfl), by repeat (first | (with_reducible first | exact HB.out | apply below_alloc | apply pw_below_drewN | apply below_drew1) | exact HB.out)⟩
      ·replace c20 := Bool.eq_false_iff.mpr c20
       subst c20
       have H1 : ((spec_SheetRules.f a0).bind fun t356 => (if 0 ≤ x5_1 then (if x5_1 < (l1.length : Int) then ((spec_l2Rule.f kj3 a0 ((rd_T83 l1 x5_1).f0)).bind fun t360 => (if 0 ≤ t360 then (if t360 < (t356.length : Int) then (spec_l3LinesOk.l1 kj3 a0 l1 x5_1 ((rd_T36 t356 t360).f2) 0 0) else (none)) else (none))) else (none)) else (none))) = some r := by rw [if_neg (show ¬ (false = true) by decide)] at H; exact H
       clear H
       have H := H1
       clear H1
       replace H := Option.bind_eq_some_iff.mp H
       obtain ⟨t356, A210, H⟩ := H
       replace H : (if 0 ≤ x5_1 then (if x5_1 < (l1.length : Int) then ((spec_l2Rule.f kj3 a0 ((rd_T83 l1 x5_1).f0)).bind fun t360 => (if 0 ≤ t360 then (if t360 < (t356.length : Int) then (spec_l3LinesOk.l1 kj3 a0 l1 x5_1 ((rd_T36 t356 t360).f2) 0 0) else (none)) else (none))) else (none)) else (none)) = some r := H
       have A21 := Aside0.mk A210
       clear A210
       by_cases c22 : 0 ≤ x5_1
       ·rw [if_pos c22] at H
        have c22b0 : decide (0 ≤ x5_1) = true := decide_eq_true c22
        clear c22
        by_cases c23 : x5_1 < (l1.length : Int)
        ·rw [if_pos c23] at H
         have c23b0 : decide (x5_1 < (l1.length : Int)) = true := decide_eq_true c23
         clear c23
         replace H := Option.bind_eq_some_iff.mp H
         obtain ⟨t360, A240, H⟩ := H
         replace H : (if 0 ≤ t360 then (if t360 < (t356.length : Int) then (spec_l3LinesOk.l1 kj3 a0 l1 x5_1 ((rd_T36 t356 t360).f2) 0 0) else (none)) else (none)) = some r := H
         have A24 := Aside0.mk A240
         clear A240
         by_cases c25 : 0 ≤ t360
         ·rw [if_pos c25] at H
          have c25b0 : decide (0 ≤ t360) = true := decide_eq_true c25
          clear c25
          by_cases c26 : t360 < (t356.length : Int)
          ·rw [if_pos c26] at H
           have c26b0 : decide (t360 < (t356.length : Int)) = true := decide_eq_true c26
           clear c26
           have H' := Aside0.mk H
           clear H
           have p359 : 0 ≤ (x5_1 : Int) := of_decide_eq_true (by first | (with_reducible assumption) | assumption)
           have q359 : x5_1 < (l1.length : Int) := of_decide_eq_true (by first | (with_reducible assumption) | assumption)
           obtain ⟨ad359, A359_1, c359_1, e359, hx359_0, hx359_1, hl359_1, hi359_1⟩ := at_T83 HR1.out x5_1 p359 q359
           have hw359_1 := hx359_1
           have hw359_0 := hx359_0
           cases e359
           have HR359_1 := Aside0.mk hi359_1
           have HC359_1 := Aside0.mk hl359_1
           clear hi359_1 hl359_1
           replace p359 := eq_true p359
           replace q359 := eq_true q359
           go_upto_region 6 with (fail)
           go_cut [6] (fun v6 wc6 => ∃ (A361_1 A361_3 : Option Addr), v6 = .bool ((rd_T36 t356 t360).f2) ∧ Aside0 (Kd.C (Kd.int .i64) wc6 A361_1 ((rd_T36 t356 t360).f1).length ((rd_T36 t356 t360).f1)) ∧ Aside0 (Kd.C Kd.string wc6 A361_3 ((rd_T36 t356 t360).f3).length ((rd_T36 t356 t360).f3)) ∧ Aside0 (Below w.heap.size w wc6))
           case first =>
            have p361 : 0 ≤ (t360 : Int) := of_decide_eq_true c25b0
            have q361 : t360 < (t356.length : Int) := of_decide_eq_true c26b0
            replace hx359_0 := pw_cell_below HB.out hx359_0
            clear hx359_1
            go_region_with (first | (go_at_call 13; refine (spec_SheetRules.calls a0 t356 _ A21.out).mono ?_; rintro e w31 ⟨v357, rfl, ho31, hb31⟩; obtain ⟨A358, c358, rfl, _, hC31⟩ := Kd.R_reads ho31; obtain ⟨ad361, A361_1, c361_1, A361_3, c361_3, e361, hx361_0, hx361_1, hx361_2, hx361_3, hl361_1, hi361_1, hl361_3, hi361_3⟩ := at_T36 hC31 t360 p361 q361; cases e361; have HI1 := Aside0.mk hi361_1; have HI3 := Aside0.mk hi361_3; clear hi361_1 hi361_3 ho31 hC31 hx361_0 hx361_1 hx361_3 hl361_1 hl361_3; (try have hk31 := pw_cell_below hb31 (by simpa using hx359_0)); (try have hB31 := Aside0.mk ((below_drew1 HB.out).trans (hb31.mono HB.out.size)))) | (go_at_call 62; refine (spec_l2Rule.calls kj3 a0 ((rd_T83 l1 x5_1).f0) t360 _ A24.out).mono ?_; rintro e w32 ⟨rfl, hb32⟩; (try have hy2 := pw_cell_below hb32 (by simpa using hx361_2))))
            all_goals (try go_wp2)
            all_goals go_meet
            all_goals (first | exact ⟨A361_1, A361_3, rfl, ⟨Kd.C_below HI1.out hb32⟩, ⟨Kd.C_below HI3.out hb32⟩, ⟨hB31.out.trans (hb32.mono hB31.out.size)⟩⟩ | exact ⟨A361_1, A361_3, rfl, HI1, HI3, ⟨((below_drew1 HB.out).trans (hb32.mono (below_drew1 HB.out).size)).trans (hb31.mono (Nat.le_trans (below_drew1 HB.out).size hb32.size))⟩⟩)
           case rest =>
            obtain ⟨A361_1, A361_3, rfl, HR361_1, HR361_3, HB⟩ := hcut
            try go_wp2
            go_loopg [7, 8] kj3 (fun kq v7 v8 w' => ∃ (x7_3 : Int) (x8_3 : Int), v7 = .int .i64 x7_3 ∧ v8 = .int .i64 x8_3 ∧ Aside0 (spec_l3LinesOk.l1 kq a0 l1 x5_1 ((rd_T36 t356 t360).f2) x7_3 x8_3 = some r) ∧ Aside0 (kq ≤ kj3) ∧ Aside0 (Kd.C (Kd.int .i64) w' A361_1 ((rd_T36 t356 t360).f1).length ((rd_T36 t356 t360).f1)) ∧ Aside0 (Kd.C Kd.string w' A361_3 ((rd_T36 t356 t360).f3).length ((rd_T36 t356 t360).f3)) ∧ Aside0 (Below w.heap.size w w'))
            case atStart => exact ⟨(0), (0), (by first | rfl | (simp; done) | (simp [*]; done)), (by first | rfl | (simp; done) | (simp [*]; done)), H', ⟨Nat.le_refl _⟩, ⟨by repeat (first | (with_reducible exact HR361_1.out) | (with_reducible refine Kd.C_alloc ?_ _) | (with_reducible refine Kd.C_drewN ?_ _) | (with_reducible refine Kd.C_drew ?_) | exact HR361_1.out)⟩, ⟨by repeat (first | (with_reducible exact HR361_3.out) | (with_reducible refine Kd.C_alloc ?_ _) | (with_reducible refine Kd.C_drewN ?_ _) | (with_reducible refine Kd.C_drew ?_) | exact HR361_3.out)⟩, ⟨by repeat (first | (with_reducible first | exact HB.out | apply below_alloc | apply pw_below_drewN | apply below_drew1) | exact HB.out)⟩⟩
            case round =>
             clear H'
             try clear c1
             try clear c2
             try clear p2
             try clear c3
             try clear p3
             try clear q3
             try clear hx3
             try clear c5
             try clear c6
             try clear c7
             try clear c8
             try clear c8b0
             try clear c10
             try clear c11
             try clear c13
             try clear c19
             try clear c20
             try clear c22
             try clear c22b0
             try clear c23
             try clear c23b0
             try clear c25
             try clear c25b0
             try clear c26
             try clear c26b0
             try clear hx350_0
             try clear hx350_1
             try clear hx351_0
             try clear hx351_1
             try clear hx359_0
             try clear hx359_1
             try clear hx361_0
             try clear hx361_1
             try clear hx361_2
             try clear hx361_3
             try clear p2
             try clear p3
             try clear p350
             try clear p351
             try clear p359
             try clear p361
             try clear q3
             try clear q350
             try clear q351
             try clear q359
             try clear q361
             obtain ⟨x7_3, x8_3, rfl, rfl, HA, HK3, HR361_1, HR361_3, HB⟩ := hrel
             cases gk with
             | zero => exact absurd HA.out (by simp [spec_l3LinesOk.l1])
             | succ k3 =>
              have H := HA.out
              clear HA
              simp only [spec_l3LinesOk.l1] at H
              by_cases c31 : x8_3 ≤ x5_1
              ·rw [if_pos c31] at H
               have c31b0 : decide (x8_3 ≤ x5_1) = true := decide_eq_true c31
               clear c31
               by_cases c32 : 0 ≤ x8_3
               ·rw [if_pos c32] at H
                have c32b0 : decide (0 ≤ x8_3) = true := decide_eq_true c32
                clear c32
                by_cases c33 : x8_3 < (l1.length : Int)
                ·rw [if_pos c33] at H
                 have c33b0 : decide (x8_3 < (l1.length : Int)) = true := decide_eq_true c33
                 clear c33
                 by_cases c34 : 0 ≤ x5_1
                 ·rw [if_pos c34] at H
                  have c34b0 : decide (0 ≤ x5_1) = true := decide_eq_true c34
                  clear c34
                  by_cases c35 : x5_1 < (l1.length : Int)
                  ·rw [if_pos c35] at H
                   have c35b0 : decide (x5_1 < (l1.length : Int)) = true := decide_eq_true c35
                   clear c35
                   by_cases c36 : ((rd_T83 l1 x8_3).f0).toList = ((rd_T83 l1 x5_1).f0).toList
                   ·rw [if_pos c36] at H
                    have c36b0 : (((rd_T83 l1 x8_3).f0).toList == ((rd_T83 l1 x5_1).f0).toList) = true := beq_iff_eq.mpr c36
                    have c36b1 : (((rd_T83 l1 x8_3).f0).toList != ((rd_T83 l1 x5_1).f0).toList) = false := bne_eq_false_iff_eq.mpr c36
                    clear c36
                    have H' := Aside0.mk H
                    clear H
                    try go_wp2
                    have n0_ := Aside0.mk (Kd.C_drew HR361_1.out)
                    have n1_ := Aside0.mk (Kd.C_drew HR361_3.out)
                    have n2_ := Aside0.mk (below_drew1 HB.out)
                    clear HR361_1
                    clear HR361_3
                    clear HB
                    have HR361_1 := n0_
                    have HR361_3 := n1_
                    have HB := n2_
                    clear n0_ n1_ n2_
                    have p362 : 0 ≤ (x8_3 : Int) := of_decide_eq_true (by first | (with_reducible assumption) | assumption)
                    have q362 : x8_3 < (l1.length : Int) := of_decide_eq_true (by first | (with_reducible assumption) | assumption)
                    obtain ⟨ad362, A362_1, c362_1, e362, hx362_0, hx362_1, hl362_1, hi362_1⟩ := at_T83 HR1.out x8_3 p362 q362
                    have hw362_1 := hx362_1
                    have hw362_0 := hx362_0
                    obtain rfl : ad359 = ad362 := (by injection e362)
                    (try replace hx362_0 := (HB.out.cell (World.block_lt_of_cell? w _ hx362_0)).trans hx362_0)
                    (try replace hx362_1 := (HB.out.cell (World.block_lt_of_cell? w _ hx362_1)).trans hx362_1)
                    have HR362_1 := Aside0.mk hi362_1
                    have HC362_1 := Aside0.mk hl362_1
                    clear hi362_1 hl362_1
                    replace p362 := eq_true p362
                    replace q362 := eq_true q362
                    have p363 : 0 ≤ (x5_1 : Int) := of_decide_eq_true (by first | (with_reducible assumption) | assumption)
                    have q363 : x5_1 < (l1.length : Int) := of_decide_eq_true (by first | (with_reducible assumption) | assumption)
                    obtain ⟨ad363, A363_1, c363_1, e363, hx363_0, hx363_1, hl363_1, hi363_1⟩ := at_T83 HR1.out x5_1 p363 q363
                    have hw363_1 := hx363_1
                    have hw363_0 := hx363_0
                    obtain rfl : ad359 = ad363 := (by injection e363)
                    (try replace hx363_0 := (HB.out.cell (World.block_lt_of_cell? w _ hx363_0)).trans hx363_0)
                    (try replace hx363_1 := (HB.out.cell (World.block_lt_of_cell? w _ hx363_1)).trans hx363_1)
                    have HR363_1 := Aside0.mk hi363_1
                    have HC363_1 := Aside0.mk hl363_1
                    clear hi363_1 hl363_1
                    replace p363 := eq_true p363
                    replace q363 := eq_true q363
                    refine start_ (n := 11) (S := fun w' => w'.cell? (ad359.add ((x8_3).toNat * 2)) = some (.string ((rd_T83 l1 x8_3).f0)) ∧ w'.cell? ⟨(ad359.add ((x8_3).toNat * 2)).block, (ad359.add ((x8_3).toNat * 2)).off + 1, none⟩ = some (.slice A362_1 ((rd_T83 l1 x8_3).f1).length c362_1) ∧ w'.cell? (ad359.add ((x5_1).toNat * 2)) = some (.string ((rd_T83 l1 x5_1).f0)) ∧ w'.cell? ⟨(ad359.add ((x5_1).toNat * 2)).block, (ad359.add ((x5_1).toNat * 2)).off + 1, none⟩ = some (.slice A363_1 ((rd_T83 l1 x5_1).f1).length c363_1)) (ds := []) (bz 11 0) (by kernel_rfl) rfl rfl ⟨(by first | exact (HB.out.cell (World.block_lt_of_cell? w _ hw362_0)).trans hw362_0 | exact hw362_0), (by first | exact (HB.out.cell (World.block_lt_of_cell? w _ hw362_1)).trans hw362_1 | exact hw362_1), (by first | exact (HB.out.cell (World.block_lt_of_cell? w _ hw363_0)).trans hw363_0 | exact hw363_0), (by first | exact (HB.out.cell (World.block_lt_of_cell? w _ hw363_1)).trans hw363_1 | exact hw363_1)⟩ (fun hHeld => ?_); refine with_tabW spec_l3LinesOk.tab11 spec_l3LinesOk.bits11 (fun HT_ HW_ => ?_)
                    generalize wr.drew = w37 at HR361_1 HR361_3 HB HR362_1 HR363_1 hx362_0 hx362_1 hx363_0 hx363_1 hHeld ⊢
                    refine pure_ (i := 0) (N := some 63) (v := ?_) (a' := ?_) (bz 11 1) rfl rfl (any_of HT_.out (by kernel_rfl)) (fun _ _ _ h => h) (Or.inl ⟨by rfl, ?_⟩) ?_ ?_
                    rotate_left
                    ·intro w'
                     go_simp
                     with_reducible rfl
                    rotate_left
                    ·simp only [Act.put, List.setIfInBounds_toArray, List.set_cons_zero, List.set_cons_succ, i64_w, i32_w]
                     rfl
                    refine pure_ (i := 1) (N := some 64) (v := ?_) (a' := ?_) (bz 11 3) rfl rfl (any_of HT_.out (by kernel_rfl)) (fun _ _ _ h => h) (Or.inl ⟨by rfl, ?_⟩) ?_ ?_
                    rotate_left
                    ·intro w'
                     go_simp
                     with_reducible rfl
                    rotate_left
                    ·simp only [Act.put, List.setIfInBounds_toArray, List.set_cons_zero, List.set_cons_succ, i64_w, i32_w]
                     rfl
                    refine pure_ (i := 2) (N := some 65) (v := ?_) (a' := ?_) (bz 11 7) rfl rfl (any_of HT_.out (by kernel_rfl)) (fun _ _ _ h => h) (Or.inl ⟨by rfl, ?_⟩) ?_ ?_
                    rotate_left
                    ·intro w'
                     go_simp
                     with_reducible rfl
                    rotate_left
                    ·simp only [Act.put, List.setIfInBounds_toArray, List.set_cons_zero, List.set_cons_succ, i64_w, i32_w]
                     rfl
                    refine pure_ (i := 3) (N := some 66) (v := ?_) (a' := ?_) (bz 11 15) rfl rfl (any_of HT_.out (by kernel_rfl)) (fun _ _ _ h => h) (Or.inl ⟨by rfl, ?_⟩) ?_ ?_
                    rotate_left
                    ·intro w'
                     go_simp
                     with_reducible rfl
                    rotate_left
                    ·simp only [Act.put, List.setIfInBounds_toArray, List.set_cons_zero, List.set_cons_succ, i64_w, i32_w]
                     rfl
                    refine pure_ (i := 5) (N := some 68) (v := ?_) (a' := ?_) (bz 11 47) rfl rfl (any_of HT_.out (by kernel_rfl)) (fun _ _ _ h => h) (Or.inl ⟨by rfl, ?_⟩) ?_ ?_
                    rotate_left
                    ·intro w'
                     go_simp
                     with_reducible rfl
                    rotate_left
                    ·simp only [Act.put, List.setIfInBounds_toArray, List.set_cons_zero, List.set_cons_succ, i64_w, i32_w]
                     rfl
                    refine pure_ (i := 6) (N := some 69) (v := ?_) (a' := ?_) (bz 11 111) rfl rfl (any_of HT_.out (by kernel_rfl)) (fun _ _ _ h => h) (Or.inl ⟨by rfl, ?_⟩) ?_ ?_
                    rotate_left
                    ·intro w'
                     go_simp
                     with_reducible rfl
                    rotate_left
                    ·simp only [Act.put, List.setIfInBounds_toArray, List.set_cons_zero, List.set_cons_succ, i64_w, i32_w]
                     rfl
                    refine pure_ (i := 7) (N := some 70) (v := ?_) (a' := ?_) (bz 11 239) rfl rfl (any_of HT_.out (by kernel_rfl)) (fun _ _ _ h => h) (Or.inl ⟨by rfl, ?_⟩) ?_ ?_
                    rotate_left
                    ·intro w'
                     go_simp
                     with_reducible rfl
                    rotate_left
                    ·simp only [Act.put, List.setIfInBounds_toArray, List.set_cons_zero, List.set_cons_succ, i64_w, i32_w]
                     rfl
                    refine pure_ (i := 8) (N := some 71) (v := ?_) (a' := ?_) (bz 11 495) rfl rfl (any_of HT_.out (by kernel_rfl)) (fun _ _ _ h => h) (Or.inl ⟨by rfl, ?_⟩) ?_ ?_
                    rotate_left
                    ·intro w'
                     go_simp
                     with_reducible rfl
                    rotate_left
                    ·simp only [Act.put, List.setIfInBounds_toArray, List.set_cons_zero, List.set_cons_succ, i64_w, i32_w]
                     rfl
                    refine take_ (i := 4) (N := some 67) (v := ?_) (a' := ?_) (bz 11 511) rfl rfl (take_ofW HT_.out HW_.out (by kernel_rfl)) (fun _ _ _ h => h) (Or.inl ⟨by rfl, ?_⟩) hHeld ?_ ?_
                    rotate_left
                    ·rintro w' ⟨s0, s1, s2, s3⟩
                     go_simp
                     with_reducible rfl
                    rotate_left
                    ·simp only [Act.put, List.setIfInBounds_toArray, List.set_cons_zero, List.set_cons_succ, i64_w, i32_w]
                     rfl
                    refine take_ (i := 9) (N := some 72) (v := ?_) (a' := ?_) (bz 11 1023) rfl rfl (take_ofW HT_.out HW_.out (by kernel_rfl)) (fun _ _ _ h => h) (Or.inl ⟨by rfl, ?_⟩) hHeld ?_ ?_
                    rotate_left
                    ·rintro w' ⟨s0, s1, s2, s3⟩
                     go_simp
                     with_reducible rfl
                    rotate_left
                    ·simp only [Act.put, List.setIfInBounds_toArray, List.set_cons_zero, List.set_cons_succ, i64_w, i32_w]
                     rfl
                    refine pure_ (i := 10) (N := some 73) (v := ?_) (a' := ?_) (bz 11 2047) rfl rfl (any_of HT_.out (by kernel_rfl)) (fun _ _ _ h => h) (Or.inl ⟨by rfl, ?_⟩) ?_ ?_
                    rotate_left
                    ·intro w'
                     go_simp
                     with_reducible rfl
                    rotate_left
                    ·simp only [Act.put, List.setIfInBounds_toArray, List.set_cons_zero, List.set_cons_succ, i64_w, i32_w]
                     rfl
                    refine done_ (done_of HT_.out (by kernel_rfl)) ?_
                    try go_wp2
                    go_roundg k3
                    case measure => have := HK1.out; have := HJ3.out; have := HK3.out; omega
                    case rel => exact ⟨(wrap64 (x7_3 + 1)), (wrap64 (x8_3 + 1)), (by first | rfl | (simp; done) | (simp [*]; done)), (by first | rfl | (simp; done) | (simp [*]; done)), H', ⟨by have := HK1.out; have := HJ3.out; have := HK3.out; omega⟩, ⟨by repeat (first | (with_reducible exact HR361_1.out) | (with_reducible refine Kd.C_alloc ?_ _) | (with_reducible refine Kd.C_drewN ?_ _) | (with_reducible refine Kd.C_drew ?_) | exact HR361_1.out)⟩, ⟨by repeat (first | (with_reducible exact HR361_3.out) | (with_reducible refine Kd.C_alloc ?_ _) | (with_reducible refine Kd.C_drewN ?_ _) | (with_reducible refine Kd.C_drew ?_) | exact HR361_3.out)⟩, ⟨by repeat (first | (with_reducible first | exact HB.out | apply below_alloc | apply pw_below_drewN | apply below_drew1) | exact HB.out)⟩⟩
                   ·rw [if_neg c36] at H
                    have c36b0 : (((rd_T83 l1 x8_3).f0).toList == ((rd_T83 l1 x5_1).f0).toList) = false := beq_eq_false_iff_ne.mpr c36
                    have c36b1 : (((rd_T83 l1 x8_3).f0).toList != ((rd_T83 l1 x5_1).f0).toList) = true := bne_iff_ne.mpr c36
                    have H' := Aside0.mk H
                    clear H
                    try go_wp2
                    have n0_ := Aside0.mk (Kd.C_drew HR361_1.out)
                    have n1_ := Aside0.mk (Kd.C_drew HR361_3.out)
                    have n2_ := Aside0.mk (below_drew1 HB.out)
                    clear HR361_1
                    clear HR361_3
                    clear HB
                    have HR361_1 := n0_
                    have HR361_3 := n1_
                    have HB := n2_
                    clear n0_ n1_ n2_
                    have p362 : 0 ≤ (x8_3 : Int) := of_decide_eq_true (by first | (with_reducible assumption) | assumption)
                    have q362 : x8_3 < (l1.length : Int) := of_decide_eq_true (by first | (with_reducible assumption) | assumption)
                    obtain ⟨ad362, A362_1, c362_1, e362, hx362_0, hx362_1, hl362_1, hi362_1⟩ := at_T83 HR1.out x8_3 p362 q362
                    have hw362_1 := hx362_1
                    have hw362_0 := hx362_0
                    obtain rfl : ad359 = ad362 := (by injection e362)
                    (try replace hx362_0 := (HB.out.cell (World.block_lt_of_cell? w _ hx362_0)).trans hx362_0)
                    (try replace hx362_1 := (HB.out.cell (World.block_lt_of_cell? w _ hx362_1)).trans hx362_1)
                    have HR362_1 := Aside0.mk hi362_1
                    have HC362_1 := Aside0.mk hl362_1
                    clear hi362_1 hl362_1
                    replace p362 := eq_true p362
                    replace q362 := eq_true q362
                    have p363 : 0 ≤ (x5_1 : Int) := of_decide_eq_true (by first | (with_reducible assumption) | assumption)
                    have q363 : x5_1 < (l1.length : Int) := of_decide_eq_true (by first | (with_reducible assumption) | assumption)
                    obtain ⟨ad363, A363_1, c363_1, e363, hx363_0, hx363_1, hl363_1, hi363_1⟩ := at_T83 HR1.out x5_1 p363 q363
                    have hw363_1 := hx363_1
                    have hw363_0 := hx363_0
                    obtain rfl : ad359 = ad363 := (by injection e363)
                    (try replace hx363_0 := (HB.out.cell (World.block_lt_of_cell? w _ hx363_0)).trans hx363_0)
                    (try replace hx363_1 := (HB.out.cell (World.block_lt_of_cell? w _ hx363_1)).trans hx363_1)
                    have HR363_1 := Aside0.mk hi363_1
                    have HC363_1 := Aside0.mk hl363_1
                    clear hi363_1 hl363_1
                    replace p363 := eq_true p363
                    replace q363 := eq_true q363
                    refine start_ (n := 11) (S := fun w' => w'.cell? (ad359.add ((x8_3).toNat * 2)) = some (.string ((rd_T83 l1 x8_3).f0)) ∧ w'.cell? ⟨(ad359.add ((x8_3).toNat * 2)).block, (ad359.add ((x8_3).toNat * 2)).off + 1, none⟩ = some (.slice A362_1 ((rd_T83 l1 x8_3).f1).length c362_1) ∧ w'.cell? (ad359.add ((x5_1).toNat * 2)) = some (.string ((rd_T83 l1 x5_1).f0)) ∧ w'.cell? ⟨(ad359.add ((x5_1).toNat * 2)).block, (ad359.add ((x5_1).toNat * 2)).off + 1, none⟩ = some (.slice A363_1 ((rd_T83 l1 x5_1).f1).length c363_1)) (ds := []) (bz 11 0) (by kernel_rfl) rfl rfl ⟨(by first | exact (HB.out.cell (World.block_lt_of_cell? w _ hw362_0)).trans hw362_0 | exact hw362_0), (by first | exact (HB.out.cell (World.block_lt_of_cell? w _ hw362_1)).trans hw362_1 | exact hw362_1), (by first | exact (HB.out.cell (World.block_lt_of_cell? w _ hw363_0)).trans hw363_0 | exact hw363_0), (by first | exact (HB.out.cell (World.block_lt_of_cell? w _ hw363_1)).trans hw363_1 | exact hw363_1)⟩ (fun hHeld => ?_); refine with_tabW spec_l3LinesOk.tab11 spec_l3LinesOk.bits11 (fun HT_ HW_ => ?_)
                    generalize wr.drew = w38 at HR361_1 HR361_3 HB HR362_1 HR363_1 hx362_0 hx362_1 hx363_0 hx363_1 hHeld ⊢
                    refine pure_ (i := 0) (N := some 63) (v := ?_) (a' := ?_) (bz 11 1) rfl rfl (any_of HT_.out (by kernel_rfl)) (fun _ _ _ h => h) (Or.inl ⟨by rfl, ?_⟩) ?_ ?_
                    rotate_left
                    ·intro w'
                     go_simp
                     with_reducible rfl
                    rotate_left
                    ·simp only [Act.put, List.setIfInBounds_toArray, List.set_cons_zero, List.set_cons_succ, i64_w, i32_w]
                     rfl
                    refine pure_ (i := 1) (N := some 64) (v := ?_) (a' := ?_) (bz 11 3) rfl rfl (any_of HT_.out (by kernel_rfl)) (fun _ _ _ h => h) (Or.inl ⟨by rfl, ?_⟩) ?_ ?_
                    rotate_left
                    ·intro w'
                     go_simp
                     with_reducible rfl
                    rotate_left
                    ·simp only [Act.put, List.setIfInBounds_toArray, List.set_cons_zero, List.set_cons_succ, i64_w, i32_w]
                     rfl
                    refine pure_ (i := 2) (N := some 65) (v := ?_) (a' := ?_) (bz 11 7) rfl rfl (any_of HT_.out (by kernel_rfl)) (fun _ _ _ h => h) (Or.inl ⟨by rfl, ?_⟩) ?_ ?_
                    rotate_left
                    ·intro w'
                     go_simp
                     with_reducible rfl
                    rotate_left
                    ·simp only [Act.put, List.setIfInBounds_toArray, List.set_cons_zero, List.set_cons_succ, i64_w, i32_w]
                     rfl
                    refine pure_ (i := 3) (N := some 66) (v := ?_) (a' := ?_) (bz 11 15) rfl rfl (any_of HT_.out (by kernel_rfl)) (fun _ _ _ h => h) (Or.inl ⟨by rfl, ?_⟩) ?_ ?_
                    rotate_left
                    ·intro w'
                     go_simp
                     with_reducible rfl
                    rotate_left
                    ·simp only [Act.put, List.setIfInBounds_toArray, List.set_cons_zero, List.set_cons_succ, i64_w, i32_w]
                     rfl
                    refine pure_ (i := 5) (N := some 68) (v := ?_) (a' := ?_) (bz 11 47) rfl rfl (any_of HT_.out (by kernel_rfl)) (fun _ _ _ h => h) (Or.inl ⟨by rfl, ?_⟩) ?_ ?_
                    rotate_left
                    ·intro w'
                     go_simp
                     with_reducible rfl
                    rotate_left
                    ·simp only [Act.put, List.setIfInBounds_toArray, List.set_cons_zero, List.set_cons_succ, i64_w, i32_w]
                     rfl
                    refine pure_ (i := 6) (N := some 69) (v := ?_) (a' := ?_) (bz 11 111) rfl rfl (any_of HT_.out (by kernel_rfl)) (fun _ _ _ h => h) (Or.inl ⟨by rfl, ?_⟩) ?_ ?_
                    rotate_left
                    ·intro w'
                     go_simp
                     with_reducible rfl
                    rotate_left
                    ·simp only [Act.put, List.setIfInBounds_toArray, List.set_cons_zero, List.set_cons_succ, i64_w, i32_w]
                     rfl
                    refine pure_ (i := 7) (N := some 70) (v := ?_) (a' := ?_) (bz 11 239) rfl rfl (any_of HT_.out (by kernel_rfl)) (fun _ _ _ h => h) (Or.inl ⟨by rfl, ?_⟩) ?_ ?_
                    rotate_left
                    ·intro w'
                     go_simp
                     with_reducible rfl
                    rotate_left
                    ·simp only [Act.put, List.setIfInBounds_toArray, List.set_cons_zero, List.set_cons_succ, i64_w, i32_w]
                     rfl
                    refine pure_ (i := 8) (N := some 71) (v := ?_) (a' := ?_) (bz 11 495) rfl rfl (any_of HT_.out (by kernel_rfl)) (fun _ _ _ h => h) (Or.inl ⟨by rfl, ?_⟩) ?_ ?_
                    rotate_left
                    ·intro w'
                     go_simp
                     with_reducible rfl
                    rotate_left
                    ·simp only [Act.put, List.setIfInBounds_toArray, List.set_cons_zero, List.set_cons_succ, i64_w, i32_w]
                     rfl
                    refine take_ (i := 4) (N := some 67) (v := ?_) (a' := ?_) (bz 11 511) rfl rfl (take_ofW HT_.out HW_.out (by kernel_rfl)) (fun _ _ _ h => h) (Or.inl ⟨by rfl, ?_⟩) hHeld ?_ ?_
                    rotate_left
                    ·rintro w' ⟨s0, s1, s2, s3⟩
                     go_simp
                     with_reducible rfl
                    rotate_left
                    ·simp only [Act.put, List.setIfInBounds_toArray, List.set_cons_zero, List.set_cons_succ, i64_w, i32_w]
                     rfl
                    refine take_ (i := 9) (N := some 72) (v := ?_) (a' := ?_) (bz 11 1023) rfl rfl (take_ofW HT_.out HW_.out (by kernel_rfl)) (fun _ _ _ h => h) (Or.inl ⟨by rfl, ?_⟩) hHeld ?_ ?_
                    rotate_left
                    ·rintro w' ⟨s0, s1, s2, s3⟩
                     go_simp
                     with_reducible rfl
                    rotate_left
                    ·simp only [Act.put, List.setIfInBounds_toArray, List.set_cons_zero, List.set_cons_succ, i64_w, i32_w]
                     rfl
                    refine pure_ (i := 10) (N := some 73) (v := ?_) (a' := ?_) (bz 11 2047) rfl rfl (any_of HT_.out (by kernel_rfl)) (fun _ _ _ h => h) (Or.inl ⟨by rfl, ?_⟩) ?_ ?_
                    rotate_left
                    ·intro w'
                     go_simp
                     with_reducible rfl
                    rotate_left
                    ·simp only [Act.put, List.setIfInBounds_toArray, List.set_cons_zero, List.set_cons_succ, i64_w, i32_w]
                     rfl
                    refine done_ (done_of HT_.out (by kernel_rfl)) ?_
                    try go_wp2
                    go_roundg k3
                    case measure => have := HK1.out; have := HJ3.out; have := HK3.out; omega
                    case rel => exact ⟨(x7_3), (wrap64 (x8_3 + 1)), (by first | rfl | (simp; done) | (simp [*]; done)), (by first | rfl | (simp; done) | (simp [*]; done)), H', ⟨by have := HK1.out; have := HJ3.out; have := HK3.out; omega⟩, ⟨by repeat (first | (with_reducible exact HR361_1.out) | (with_reducible refine Kd.C_alloc ?_ _) | (with_reducible refine Kd.C_drewN ?_ _) | (with_reducible refine Kd.C_drew ?_) | exact HR361_1.out)⟩, ⟨by repeat (first | (with_reducible exact HR361_3.out) | (with_reducible refine Kd.C_alloc ?_ _) | (with_reducible refine Kd.C_drewN ?_ _) | (with_reducible refine Kd.C_drew ?_) | exact HR361_3.out)⟩, ⟨by repeat (first | (with_reducible first | exact HB.out | apply below_alloc | apply pw_below_drewN | apply below_drew1) | exact HB.out)⟩⟩
                  ·rw [if_neg c35] at H
                   exact absurd H (by simp)
                 ·rw [if_neg c34] at H
                  exact absurd H (by simp)
                ·rw [if_neg c33] at H
                 exact absurd H (by simp)
               ·rw [if_neg c32] at H
                exact absurd H (by simp)
              ·rw [if_neg c31] at H
               have c31b0 : decide (x8_3 ≤ x5_1) = false := decide_eq_false c31
               clear c31
               by_cases c39 : ((rd_T36 t356 t360).f2) = true
               ·rw [if_pos c39] at H
                have c39b0 : ((rd_T36 t356 t360).f2) = true := c39
                clear c39
                by_cases c40 : x7_3 > 10
                ·rw [if_pos c40] at H
                 have c40b0 : decide (10 < x7_3) = true := decide_eq_true c40
                 clear c40
                 obtain rfl := Option.some.inj H
                 go_wp2
                 go_ret
                 exact ⟨by first | rfl | (simp [errW_none, errW_some] <;> rfl) | (simp [*, errW_none, errW_some] <;> rfl), by repeat (first | (with_reducible first | exact HB.out | apply below_alloc | apply pw_below_drewN | apply below_drew1) | exact HB.out)⟩
                ·rw [if_neg c40] at H
                 have c40b0 : decide (10 < x7_3) = false := decide_eq_false c40
                 clear c40
                 have H' := Aside0.mk H
                 clear H
                 go_wp2
                 go_roundg k3
                 case measure => have := HK1.out; have := HJ3.out; have := HK3.out; omega
                 case rel => exact ⟨(wrap64 (x5_1 + 1)), (by first | rfl | (simp; done) | (simp [*]; done)), H', ⟨by have := HK1.out; have := HJ3.out; have := HK3.out; omega⟩, ⟨by repeat (first | (with_reducible first | exact HB.out | apply below_alloc | apply pw_below_drewN | apply below_drew1) | exact HB.out)⟩⟩
               ·rw [if_neg c39] at H
                have c39b0 : ((rd_T36 t356 t360).f2) = false := by simpa using c39
                clear c39
                by_cases c41 : x7_3 > 1
                ·rw [if_pos c41] at H
                 have c41b0 : decide (1 < x7_3) = true := decide_eq_true c41
                 clear c41
                 obtain rfl := Option.some.inj H
                 go_wp2
                 go_ret
                 exact ⟨by first | rfl | (simp [errW_none, errW_some] <;> rfl) | (simp [*, errW_none, errW_some] <;> rfl), by repeat (first | (with_reducible first | exact HB.out | apply below_alloc | apply pw_below_drewN | apply below_drew1) | exact HB.out)⟩
                ·rw [if_neg c41] at H
                 have c41b0 : decide (1 < x7_3) = false := decide_eq_false c41
                 clear c41
                 by_cases c42 : x7_3 > 10
                 ·rw [if_pos c42] at H
                  have c42b0 : decide (10 < x7_3) = true := decide_eq_true c42
                  clear c42
                  obtain rfl := Option.some.inj H
                  go_wp2
                  go_ret
                  exact ⟨by first | rfl | (simp [errW_none, errW_some] <;> rfl) | (simp [*, errW_none, errW_some] <;> rfl), by repeat (first | (with_reducible first | exact HB.out | apply below_alloc | apply pw_below_drewN | apply below_drew1) | exact HB.out)⟩
                 ·rw [if_neg c42] at H
                  have c42b0 : decide (10 < x7_3) = false := decide_eq_false c42
                  clear c42
                  have H' := Aside0.mk H
                  clear H
                  go_wp2
                  go_roundg k3
                  case measure => have := HK1.out; have := HJ3.out; have := HK3.out; omega
                  case rel => exact ⟨(wrap64 (x5_1 + 1)), (by first | rfl | (simp; done) | (simp [*]; done)), H', ⟨by have := HK1.out; have := HJ3.out; have := HK3.out; omega⟩, ⟨by repeat (first | (with_reducible first | exact HB.out | apply below_alloc | apply pw_below_drewN | apply below_drew1) | exact HB.out)⟩⟩
          ·rw [if_neg c26] at H
           exact absurd H (by simp)
         ·rw [if_neg c25] at H
          exact absurd H (by simp)
        ·rw [if_neg c23] at H
         exact absurd H (by simp)
       ·rw [if_neg c22] at H
        exact absurd H (by simp)
   ·rw [if_neg c3] at H
    have c3b0 : decide (x5_1 < (l1.length : Int)) = false := decide_eq_false c3
    clear c3
    obtain rfl := Option.some.inj H
    go_wp2
    go_ret
    exact ⟨by first | rfl | (simp [errW_none, errW_some] <;> rfl) | (simp [*, errW_none, errW_some] <;> rfl), by repeat (first | (with_reducible first | exact HB.out | apply below_alloc | apply pw_below_drewN | apply below_drew1) | exact HB.out)⟩
end Go.Proofs.YtmcdnpooclelgaaDoor.PAll

namespace Go.Proofs.YtmcdnpooclelgaaDoor.PAll
open Go.RowKit Go.Proofs.YtmcdnpooclelgaaDoorW.PrintWords Go.Proofs.YtmcdnpooclelgaaDoorW.PrintLast Go.Proofs.YtmcdnpooclelgaaDoorW.PrintMore
attribute [local go_sem] max2_int min2_int max_two min_two max_three min_three max_four min_four   -- for this text's walks alone
set_option linter.unusedVariables false
set_option linter.unusedSimpArgs false
def spec_l3Ahead.f (a0_0 : ByteArray) (a0_1 : ByteArray) (l0_2 : List (S83)) (a1_0 : ByteArray) (a1_1 : ByteArray) (l1_2 : List (S83)) : Option (Bool) := if (Op.bytesLess a0_0.toList a1_0.toList) = true then (some true) else (if a0_0.toList = a1_0.toList then (some (Op.bytesLess a0_1.toList a1_1.toList)) else (some false))
set_option maxHeartbeats 8000000 in
set_option maxRecDepth 100000 in
theorem spec_l3Ahead.calls (a0_0 : ByteArray) (a0_1 : ByteArray) (A0_2 : Option Addr) (c0_2 : Nat) (l0_2 : List (S83)) (a1_0 : ByteArray) (a1_1 : ByteArray) (A1_2 : Option Addr) (c1_2 : Nat) (l1_2 : List (S83)) (r : Bool) (w : World) (hr0_2 : Kd.C k83 w A0_2 l0_2.length l0_2) (hc0_2 : l0_2.length ≤ c0_2) (hr1_2 : Kd.C k83 w A1_2 l1_2.length l1_2) (hc1_2 : l1_2.length ≤ c1_2) (h : spec_l3Ahead.f a0_0 a0_1 l0_2 a1_0 a1_1 l1_2 = some r) :
  Calls Tryd.prog 73 #[.agg #[.string a0_0, .string a0_1, .slice A0_2 l0_2.length c0_2], .agg #[.string a1_0, .string a1_1, .slice A1_2 l1_2.length c1_2]] w fun e w' => e = .returned (.bool r) ∧ Below w.heap.size w w' := by
 have hu62 := Tryd.underlying62
 have HR0_2 := Aside0.mk hr0_2
 have HC0_2 := Aside0.mk hc0_2
 clear hr0_2 hc0_2
 have HR1_2 := Aside0.mk hr1_2
 have HC1_2 := Aside0.mk hc1_2
 clear hr1_2 hc1_2
 have HB := Aside0.mk (Below.refl w.heap.size w)
 have H : (if (Op.bytesLess a0_0.toList a1_0.toList) = true then (some true) else (if a0_0.toList = a1_0.toList then (some (Op.bytesLess a0_1.toList a1_1.toList)) else (some false))) = some r := h
 clear h
 by_cases c3 : (Op.bytesLess a0_0.toList a1_0.toList) = true
 ·rw [if_pos c3] at H
  have c3b0 : (Op.bytesLess a0_0.toList a1_0.toList) = true := c3
  clear c3
  obtain rfl := Option.some.inj H
  go_enter Tryd.func73, Tryd.ntmps73
  go_wp2_with (first | ((with_reducible refine gate_dst (N := 2) rfl ?_); refine box_event ?hg (N := 2) ?hd (cs := #[.string a0_0, .string a0_1, .slice A0_2 l0_2.length c0_2]) (t := 62) ?hr ?_; (case hd => rfl); (case hg => rfl); (case hr => first | (go_simp; done) | (go_simp; rfl)); intro gb391 hg w4 hbox hb; have n0_ := Aside0.mk (below_step (stB HB.out) hb); have n1_ := Aside0.mk (hbox); have n2_ := Aside0.mk ((by rw [hg]; exact (below_size (stB HB.out)) : w.heap.size ≤ gb391)); have n3_ := Aside0.mk ((by rw [hg]; exact (below_size (stB HB.out)) : w.heap.size ≤ gb391)); clear HB; have HB := n0_; have BK391 := n1_; have GW391 := n2_; have GE391 := n3_; clear n0_ n1_ n2_ n3_; clear hb hbox hg) | ((with_reducible refine gate_dst (N := 3) rfl ?_); refine box_event ?hg (N := 3) ?hd (cs := #[.string a1_0, .string a1_1, .slice A1_2 l1_2.length c1_2]) (t := 62) ?hr ?_; (case hd => rfl); (case hg => rfl); (case hr => first | (go_simp; done) | (go_simp; rfl)); intro gb392 hg w5 hbox hb; have n0_ := Aside0.mk (blk_below (g := gb391) (o := .cells #[.string a0_0, .string a0_1, .slice A0_2 l0_2.length c0_2] 62 (0, 0)) (by (with_reducible repeat (first | refine blk_drewN ?_ _ | refine blk_drew ?_ | refine blk_alloc ?_ _)); exact BK391.out) hb); have n1_ := Aside0.mk (below_step (by repeat (first | (with_reducible first | exact HB.out | apply below_alloc | apply pw_below_drewN | apply below_drew1 | refine below_set ?_ GE391.out) | exact HB.out)) hb); have n2_ := Aside0.mk (hbox); have n3_ := Aside0.mk ((by rw [hg]; exact (below_size (by repeat (first | (with_reducible first | exact HB.out | apply below_alloc | apply pw_below_drewN | apply below_drew1 | refine below_set ?_ GE391.out) | exact HB.out))) : w.heap.size ≤ gb392)); have n4_ := Aside0.mk ((by rw [hg]; exact (below_size (by repeat (first | (with_reducible first | exact HB.out | apply below_alloc | apply pw_below_drewN | apply below_drew1 | refine below_set ?_ GE391.out) | exact HB.out))) : w.heap.size ≤ gb392)); have n5_ := Aside0.mk ((by rw [hg]; exact Nat.ne_of_lt (blk_lt (g := gb391) (o := .cells #[.string a0_0, .string a0_1, .slice A0_2 l0_2.length c0_2] 62 (0, 0)) (by (with_reducible repeat (first | refine blk_drewN ?_ _ | refine blk_drew ?_ | refine blk_alloc ?_ _)); exact BK391.out)) : gb391 ≠ gb392)); have n6_ := Aside0.mk ((by rw [hg]; exact Nat.ne_of_gt (blk_lt (g := gb391) (o := .cells #[.string a0_0, .string a0_1, .slice A0_2 l0_2.length c0_2] 62 (0, 0)) (by (with_reducible repeat (first | refine blk_drewN ?_ _ | refine blk_drew ?_ | refine blk_alloc ?_ _)); exact BK391.out)) : gb392 ≠ gb391)); clear BK391; clear HB; have BK391 := n0_; have HB := n1_; have BK392 := n2_; have GW392 := n3_; have GE392 := n4_; have NB391_392 := n5_; have NB392_391 := n6_; clear n0_ n1_ n2_ n3_ n4_ n5_ n6_; clear hb hbox hg; have hnb6 := NB391_392.out; have hnc6 := NB392_391.out; have hcz7_0 : w5.cell? ⟨gb391, 0, none⟩ = some (.string a0_0) := (blk_cell BK391.out 0).trans rfl; have hcz7_1 : w5.cell? ⟨gb391, 1, none⟩ = some (.string a0_1) := (blk_cell BK391.out 1).trans rfl; have hcz7_2 : w5.cell? ⟨gb391, 2, none⟩ = some (.slice A0_2 l0_2.length c0_2) := (blk_cell BK391.out 2).trans rfl; have hfz7_0 := blk_frozen BK391.out 0; have hfz7_1 := blk_frozen BK391.out 1; have hfz7_2 := blk_frozen BK391.out 2; have hcz8_0 : w5.cell? ⟨gb392, 0, none⟩ = some (.string a1_0) := (blk_cell BK392.out 0).trans rfl; have hcz8_1 : w5.cell? ⟨gb392, 1, none⟩ = some (.string a1_1) := (blk_cell BK392.out 1).trans rfl; have hcz8_2 : w5.cell? ⟨gb392, 2, none⟩ = some (.slice A1_2 l1_2.length c1_2) := (blk_cell BK392.out 2).trans rfl; have hfz8_0 := blk_frozen BK392.out 0; have hfz8_1 := blk_frozen BK392.out 1; have hfz8_2 := blk_frozen BK392.out 2))
  go_ret
  exact ⟨by first | rfl | (simp [errW_none, errW_some] <;> rfl) | (simp [*, errW_none, errW_some] <;> rfl), by repeat (first | (with_reducible first | exact HB.out | apply below_alloc | apply pw_below_drewN | apply below_drew1 | refine below_set ?_ GE391.out | refine below_set ?_ GE392.out) | exact HB.out)⟩
 ·rw [if_neg c3] at H
  have c3b0 : (Op.bytesLess a0_0.toList a1_0.toList) = false := by simpa using c3
  clear c3
  by_cases c9 : a0_0.toList = a1_0.toList
  ·rw [if_pos c9] at H
   have c9b0 : (a0_0.toList == a1_0.toList) = true := beq_iff_eq.mpr c9
   have c9b1 : (a0_0.toList != a1_0.toList) = false := bne_eq_false_iff_eq.mpr c9
   clear c9
   obtain rfl := Option.some.inj H
   go_enter Tryd.func73, Tryd.ntmps73
   go_wp2_with (first | ((with_reducible refine gate_dst (N := 2) rfl ?_); refine box_event ?hg (N := 2) ?hd (cs := #[.string a0_0, .string a0_1, .slice A0_2 l0_2.length c0_2]) (t := 62) ?hr ?_; (case hd => rfl); (case hg => rfl); (case hr => first | (go_simp; done) | (go_simp; rfl)); intro gb391 hg w10 hbox hb; have n0_ := Aside0.mk (below_step (stB HB.out) hb); have n1_ := Aside0.mk (hbox); have n2_ := Aside0.mk ((by rw [hg]; exact (below_size (stB HB.out)) : w.heap.size ≤ gb391)); have n3_ := Aside0.mk ((by rw [hg]; exact (below_size (stB HB.out)) : w.heap.size ≤ gb391)); clear HB; have HB := n0_; have BK391 := n1_; have GW391 := n2_; have GE391 := n3_; clear n0_ n1_ n2_ n3_; clear hb hbox hg) | ((with_reducible refine gate_dst (N := 3) rfl ?_); refine box_event ?hg (N := 3) ?hd (cs := #[.string a1_0, .string a1_1, .slice A1_2 l1_2.length c1_2]) (t := 62) ?hr ?_; (case hd => rfl); (case hg => rfl); (case hr => first | (go_simp; done) | (go_simp; rfl)); intro gb392 hg w11 hbox hb; have n0_ := Aside0.mk (blk_below (g := gb391) (o := .cells #[.string a0_0, .string a0_1, .slice A0_2 l0_2.length c0_2] 62 (0, 0)) (by (with_reducible repeat (first | refine blk_drewN ?_ _ | refine blk_drew ?_ | refine blk_alloc ?_ _)); exact BK391.out) hb); have n1_ := Aside0.mk (below_step (by repeat (first | (with_reducible first | exact HB.out | apply below_alloc | apply pw_below_drewN | apply below_drew1 | refine below_set ?_ GE391.out) | exact HB.out)) hb); have n2_ := Aside0.mk (hbox); have n3_ := Aside0.mk ((by rw [hg]; exact (below_size (by repeat (first | (with_reducible first | exact HB.out | apply below_alloc | apply pw_below_drewN | apply below_drew1 | refine below_set ?_ GE391.out) | exact HB.out))) : w.heap.size ≤ gb392)); have n4_ := Aside0.mk ((by rw [hg]; exact (below_size (by repeat (first | (with_reducible first | exact HB.out | apply below_alloc | apply pw_below_drewN | apply below_drew1 | refine below_set ?_ GE391.out) | exact HB.out))) : w.heap.size ≤ gb392)); have n5_ := Aside0.mk ((by rw [hg]; exact Nat.ne_of_lt (blk_lt (g := gb391) (o := .cells #[.string a0_0, .string a0_1, .slice A0_2 l0_2.length c0_2] 62 (0, 0)) (by (with_reducible repeat (first | refine blk_drewN ?_ _ | refine blk_drew ?_ | refine blk_alloc ?_ _)); exact BK391.out)) : gb391 ≠ gb392)); have n6_ := Aside0.mk ((by rw [hg]; exact Nat.ne_of_gt (blk_lt (g := gb391) (o := .cells #[.string a0_0, .string a0_1, .slice A0_2 l0_2.length c0_2] 62 (0, 0)) (by (with_reducible repeat (first | refine blk_drewN ?_ _ | refine blk_drew ?_ | refine blk_alloc ?_ _)); exact BK391.out)) : gb392 ≠ gb391)); clear BK391; clear HB; have BK391 := n0_; have HB := n1_; have BK392 := n2_; have GW392 := n3_; have GE392 := n4_; have NB391_392 := n5_; have NB392_391 := n6_; clear n0_ n1_ n2_ n3_ n4_ n5_ n6_; clear hb hbox hg; have hnb12 := NB391_392.out; have hnc12 := NB392_391.out; have hcz13_0 : w11.cell? ⟨gb391, 0, none⟩ = some (.string a0_0) := (blk_cell BK391.out 0).trans rfl; have hcz13_1 : w11.cell? ⟨gb391, 1, none⟩ = some (.string a0_1) := (blk_cell BK391.out 1).trans rfl; have hcz13_2 : w11.cell? ⟨gb391, 2, none⟩ = some (.slice A0_2 l0_2.length c0_2) := (blk_cell BK391.out 2).trans rfl; have hfz13_0 := blk_frozen BK391.out 0; have hfz13_1 := blk_frozen BK391.out 1; have hfz13_2 := blk_frozen BK391.out 2; have hcz14_0 : w11.cell? ⟨gb392, 0, none⟩ = some (.string a1_0) := (blk_cell BK392.out 0).trans rfl; have hcz14_1 : w11.cell? ⟨gb392, 1, none⟩ = some (.string a1_1) := (blk_cell BK392.out 1).trans rfl; have hcz14_2 : w11.cell? ⟨gb392, 2, none⟩ = some (.slice A1_2 l1_2.length c1_2) := (blk_cell BK392.out 2).trans rfl; have hfz14_0 := blk_frozen BK392.out 0; have hfz14_1 := blk_frozen BK392.out 1; have hfz14_2 := blk_frozen BK392.out 2))
   go_ret
   exact ⟨by first | rfl | (simp [errW_none, errW_some] <;> rfl) | (simp [*, errW_none, errW_some] <;> rfl), by repeat (first | (with_reducible first | exact HB.out | apply below_alloc | apply pw_below_drewN | apply below_drew1 | refine below_set ?_ GE391.out | refine below_set ?_ GE392.out) | exact HB.out)⟩
  ·rw [if_neg c9] at H
   have c9b0 : (a0_0.toList == a1_0.toList) = false := beq_eq_false_iff_ne.mpr c9
   have c9b1 : (a0_0.toList != a1_0.toList) = true := bne_iff_ne.mpr c9
   obtain rfl := Option.some.inj H
   go_enter Tryd.func73, Tryd.ntmps73
   go_wp2_with (first | ((with_reducible refine gate_dst (N := 2) rfl ?_); refine box_event ?hg (N := 2) ?hd (cs := #[.string a0_0, .string a0_1, .slice A0_2 l0_2.length c0_2]) (t := 62) ?hr ?_; (case hd => rfl); (case hg => rfl); (case hr => first | (go_simp; done) | (go_simp; rfl)); intro gb391 hg w15 hbox hb; have n0_ := Aside0.mk (below_step (stB HB.out) hb); have n1_ := Aside0.mk (hbox); have n2_ := Aside0.mk ((by rw [hg]; exact (below_size (stB HB.out)) : w.heap.size ≤ gb391)); have n3_ := Aside0.mk ((by rw [hg]; exact (below_size (stB HB.out)) : w.heap.size ≤ gb391)); clear HB; have HB := n0_; have BK391 := n1_; have GW391 := n2_; have GE391 := n3_; clear n0_ n1_ n2_ n3_; clear hb hbox hg) | ((with_reducible refine gate_dst (N := 3) rfl ?_); refine box_event ?hg (N := 3) ?hd (cs := #[.string a1_0, .string a1_1, .slice A1_2 l1_2.length c1_2]) (t := 62) ?hr ?_; (case hd => rfl); (case hg => rfl); (case hr => first | (go_simp; done) | (go_simp; rfl)); intro gb392 hg w16 hbox hb; have n0_ := Aside0.mk (blk_below (g := gb391) (o := .cells #[.string a0_0, .string a0_1, .slice A0_2 l0_2.length c0_2] 62 (0, 0)) (by (with_reducible repeat (first | refine blk_drewN ?_ _ | refine blk_drew ?_ | refine blk_alloc ?_ _)); exact BK391.out) hb); have n1_ := Aside0.mk (below_step (by repeat (first | (with_reducible first | exact HB.out | apply below_alloc | apply pw_below_drewN | apply below_drew1 | refine below_set ?_ GE391.out) | exact HB.out)) hb); have n2_ := Aside0.mk (hbox); have n3_ := Aside0.mk ((by rw [hg]; exact (below_size (by repeat (first | (with_reducible first | exact HB.out | apply below_alloc | apply pw_below_drewN | apply below_drew1 | refine below_set ?_ GE391.out) | exact HB.out))) : w.heap.size ≤ gb392)); have n4_ := Aside0.mk ((by rw [hg]; exact (below_size (by repeat (first | (with_reducible first | exact HB.out | apply below_alloc | apply pw_below_drewN | apply below_drew1 | refine below_set ?_ GE391.out) | exact HB.out))) : w.heap.size ≤ gb392)); have n5_ := Aside0.mk ((by rw [hg]; exact Nat.ne_of_lt (blk_lt (g := gb391) (o := .cells #[.string a0_0, .string a0_1, .slice A0_2 l0_2.length c0_2] 62 (0, 0)) (by (with_reducible repeat (first | refine blk_drewN ?_ _ | refine blk_drew ?_ | refine blk_alloc ?_ _)); exact BK391.out)) : gb391 ≠ gb392)); have n6_ := Aside0.mk ((by rw [hg]; exact Nat.ne_of_gt (blk_lt (g := gb391) (o := .cells #[.string a0_0, .string a0_1, .slice A0_2 l0_2.length c0_2] 62 (0, 0)) (by (with_reducible repeat (first | refine blk_drewN ?_ _ | refine blk_drew ?_ | refine blk_alloc ?_ _)); exact BK391.out)) : gb392 ≠ gb391)); clear BK391; clear HB; have BK391 := n0_; have HB := n1_; have BK392 := n2_; have GW392 := n3_; have GE392 := n4_; have NB391_392 := n5_; have NB392_391 := n6_; clear n0_ n1_ n2_ n3_ n4_ n5_ n6_; clear hb hbox hg; have hnb17 := NB391_392.out; have hnc17 := NB392_391.out; have hcz18_0 : w16.cell? ⟨gb391, 0, none⟩ = some (.string a0_0) := (blk_cell BK391.out 0).trans rfl; have hcz18_1 : w16.cell? ⟨gb391, 1, none⟩ = some (.string a0_1) := (blk_cell BK391.out 1).trans rfl; have hcz18_2 : w16.cell? ⟨gb391, 2, none⟩ = some (.slice A0_2 l0_2.length c0_2) := (blk_cell BK391.out 2).trans rfl; have hfz18_0 := blk_frozen BK391.out 0; have hfz18_1 := blk_frozen BK391.out 1; have hfz18_2 := blk_frozen BK391.out 2; have hcz19_0 : w16.cell? ⟨gb392, 0, none⟩ = some (.string a1_0) := (blk_cell BK392.out 0).trans rfl; have hcz19_1 : w16.cell? ⟨gb392, 1, none⟩ = some (.string a1_1) := (blk_cell BK392.out 1).trans rfl; have hcz19_2 : w16.cell? ⟨gb392, 2, none⟩ = some (.slice A1_2 l1_2.length c1_2) := (blk_cell BK392.out 2).trans rfl; have hfz19_0 := blk_frozen BK392.out 0; have hfz19_1 := blk_frozen BK392.out 1; have hfz19_2 := blk_frozen BK392.out 2))
   go_ret
   exact ⟨by first | rfl | (simp [errW_none, errW_some] <;> rfl) | (simp [*, errW_none, errW_some] <;> rfl), by repeat (first | (with_reducible first | exact HB.out | apply below_alloc | apply pw_below_drewN | apply below_drew1 | refine below_set ?_ GE391.out | refine below_set ?_ GE392.out) | exact HB.out)⟩
end Go.Proofs.YtmcdnpooclelgaaDoor.PAll
