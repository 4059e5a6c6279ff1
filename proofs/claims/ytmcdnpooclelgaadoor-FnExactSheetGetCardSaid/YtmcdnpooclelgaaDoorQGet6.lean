/- Texts of this claim, packed: contracts of functions and plain lemmas that the law is proved from. -/
import Derived.HandedShaped
import Derived.LaidMore
import Derived.LaidOnce
import Derived.OpenShut
import Derived.ProofKit
import Derived.Shelf.Vars
import Derived.Test.YtmcdnpooclelgaaDoorRows
import Derived.Test.YtmcdnpooclelgaaDoorQGet1
import Derived.Test.YtmcdnpooclelgaaDoorQGet2
import Derived.Test.YtmcdnpooclelgaaDoorQGet3
import Derived.Test.YtmcdnpooclelgaaDoorQGet4
import Derived.Test.YtmcdnpooclelgaaDoorQGet5
set_option linter.unusedVariables false
set_option linter.unusedSimpArgs false
namespace Go.Proofs.YtmcdnpooclelgaaDoor.PAll
open Go.RowKit Go.Proofs.YtmcdnpooclelgaaDoorW.PrintWords
theorem findB_in (kind name : ByteArray) : ∀ (bs : List S62) (i : Nat), findB kind name bs i = -1 ∨ ∃ n : Nat, findB kind name bs i = ((i + n : Nat) : Int) ∧ n < bs.length
  | [], _ => .inl rfl
  | b :: bs, i => by
    unfold findB
    split
    · exact .inr ⟨0, by simp, by simp⟩
    · rcases findB_in kind name bs (i + 1) with h | ⟨n, h, hn⟩
      · exact .inl h
      · exact .inr ⟨n + 1, by rw [h]; omega, by simpa using hn⟩
def getH (kind key : ByteArray) (ls : List S83) : List S83 := if (decide (((ofKey key ls).length : Int) = 0) && !manyL kind key) = true then [⟨key, defL kind key⟩] else ofKey key ls
def getP (bs : List S62) (kind name key : ByteArray) : List S83 × Bool :=
  if findB kind name bs 0 < 0 then ([], false) else if placeL kind key < 0 then ([], false) else if sheetOk bs = true then (getH kind key (rd_T62 bs (findB kind name bs 0)).f2, true) else ([], false)
theorem src_of_C {w : World} {A : Option Addr} {n : Nat} {ls : List S83} (h : Kd.C k83 w A n ls) : ∃ T : List Cut2, T.map Prod.snd = ls ∧ SrcL w A T ∧ ∀ t ∈ T, ∃ B d, t.1 = [.string t.2.f0, .slice B t.2.f1.length d] ∧ t.2.f1.length ≤ d ∧ Kd.C Kd.string w B t.2.f1.length t.2.f1 := by
  have each : ∀ i, i < ls.length → ∃ t : Cut2, (ls[i]? = some t.2) ∧ (∃ ad B d, A = some ad ∧ t.1 = [.string t.2.f0, .slice B t.2.f1.length d] ∧ w.cell? (ad.add (i * 2)) = some (.string t.2.f0) ∧ w.cell? ⟨(ad.add (i * 2)).block, (ad.add (i * 2)).off + 1, none⟩ = some (.slice B t.2.f1.length d) ∧ t.2.f1.length ≤ d ∧ Kd.C Kd.string w B t.2.f1.length t.2.f1) := by
    intro i hi
    obtain ⟨ad, B, d, h1, h2, h3, h4, h5⟩ := line_at h i ls[i] (List.getElem?_eq_getElem hi)
    exact ⟨([.string ls[i].f0, .slice B ls[i].f1.length d], ls[i]), List.getElem?_eq_getElem hi, ad, B, d, h1, rfl, h2, h3, h4, h5⟩
  obtain ⟨T, hl, hT⟩ := list_choose (fun i (t : Cut2) => (ls[i]? = some t.2) ∧ (∃ ad B d, A = some ad ∧ t.1 = [.string t.2.f0, .slice B t.2.f1.length d] ∧ w.cell? (ad.add (i * 2)) = some (.string t.2.f0) ∧ w.cell? ⟨(ad.add (i * 2)).block, (ad.add (i * 2)).off + 1, none⟩ = some (.slice B t.2.f1.length d) ∧ t.2.f1.length ≤ d ∧ Kd.C Kd.string w B t.2.f1.length t.2.f1)) ls.length each
  refine ⟨T, ?_, fun j t hj => ?_, fun t ht => ?_⟩
  · apply List.ext_getElem?
    intro i
    rw [List.getElem?_map]
    by_cases hi : i < T.length
    · rw [List.getElem?_eq_getElem hi, Option.map_some]
      exact (hT i _ (List.getElem?_eq_getElem hi)).1.symm
    · rw [List.getElem?_eq_none (by omega), List.getElem?_eq_none (by omega)]; rfl
  · obtain ⟨_, ad, B, d, h1, h2, h3, h4, _⟩ := hT j t hj
    exact ⟨ad, B, _, d, h1, h2, h3, h4⟩
  · obtain ⟨i, hi⟩ := List.getElem?_of_mem ht
    obtain ⟨_, ad, B, d, _, h2, _, _, h5, h6⟩ := hT i t hi
    exact ⟨B, d, h2, h5, h6⟩
theorem C_of_own {w : World} {b c : Nat} {A : Option Addr} {T : List Cut2} (h : w.ownsRow b 83 2 (.slice A T.length c) T.length (T.map Prod.fst).flatten) (hn : T.length ≤ 9223372036854775807) (hT : ∀ t ∈ T, ∃ B d, t.1 = [.string t.2.f0, .slice B t.2.f1.length d] ∧ t.2.f1.length ≤ d ∧ Kd.C Kd.string w B t.2.f1.length t.2.f1) :
    Kd.C k83 w A T.length (T.map Prod.snd) := by
  refine ⟨by simp, hn, fun hp => ?_⟩
  have h' := h
  rcases ownSl h with ⟨hv, h0⟩ | ⟨g, c', hv⟩
  · omega
  · injection hv with hv _ _
    subst hv
    refine ⟨_, rfl, fun j p hj => ?_⟩
    rw [List.getElem?_map] at hj
    obtain ⟨t, ht, rfl⟩ := Option.map_eq_some_iff.1 hj
    have hjl := (List.getElem?_eq_some_iff.1 ht).1
    obtain ⟨B, d, e1, e2, e3⟩ := hT t (List.mem_of_getElem? ht)
    have hls : ∀ vs ∈ T.map Prod.fst, vs.length = 2 := by
      intro vs hvs
      obtain ⟨s, hs, rfl⟩ := List.mem_map.1 hvs
      obtain ⟨B', d', e1', _⟩ := hT s hs
      rw [e1']; rfl
    refine ⟨[.string t.2.f0, .slice B t.2.f1.length d], rfl, ⟨[.string t.2.f0], [.slice B t.2.f1.length d], rfl, rfl, B, d, rfl, e2, e3⟩, fun i u hu => ?_⟩
    have hi2 : i < 2 := by have := (List.getElem?_eq_some_iff.1 hu).1; simpa using this
    have h3 := flat_at (T.map Prod.fst) j t.1 hls (by rw [List.getElem?_map, ht]; rfl) i hi2
    have h4 := World.ownsRow.cellAt h (j * 2 + i) (by have : (j + 1) * 2 ≤ T.length * 2 := Nat.mul_le_mul_right _ hjl; omega)
    rw [h3, e1, hu] at h4
    have e : ((⟨g, 0, none⟩ : Addr).add (j * 2 + i)) = ⟨g, j * 2 + i, none⟩ := by simp [Addr.add]; intros; omega
    change w.cell? ((⟨g, 0, none⟩ : Addr).add (j * 2 + i)) = some u
    rw [e]
    exact h4
theorem filter_snd (key : ByteArray) (T : List Cut2) : (T.filter (isKey key)).map Prod.snd = ofKey key (T.map Prod.snd) := by
  unfold ofKey
  rw [List.filter_map]
  rfl
theorem ofKey_small {key : ByteArray} {ls : List S83} (h : smallLs ls) : smallLs (ofKey key ls) :=
  ⟨Nat.le_trans (List.length_filter_le _ _) h.1, fun l hl => h.2 l (List.mem_filter.1 hl).1⟩
theorem rules_small (kind : ByteArray) : ∀ r ∈ rulesL kind, r.f3.length ≤ 16 := by
  have h1 : rules_team.all (fun r => decide (r.f3.length ≤ 16)) = true := by decide
  have h2 : rules_berth.all (fun r => decide (r.f3.length ≤ 16)) = true := by decide
  have h3 : rules_service.all (fun r => decide (r.f3.length ≤ 16)) = true := by decide
  intro r hr
  unfold rulesL at hr
  split at hr
  · simpa using List.all_eq_true.1 h1 r hr
  · split at hr
    · simpa using List.all_eq_true.1 h2 r hr
    · split at hr
      · simpa using List.all_eq_true.1 h3 r hr
      · cases hr
theorem defL_small (kind key : ByteArray) : (defL kind key).length ≤ 16 := by
  unfold defL
  split
  · simp
  · rename_i r k h
    obtain ⟨_, _, _, h4⟩ := lookFrom_mem key _ _ _ _ h
    exact rules_small kind r (List.mem_of_getElem? h4)
set_option maxRecDepth 100000 in
set_option maxHeartbeats 4000000 in
theorem implGet_any (A : Option Addr) (c : Nat) (bs : List S62) (kind name key : ByteArray) (w : World) (hr : Kd.C k62 w A bs.length bs) (hc : bs.length ≤ c) (hs : smallBs bs) :
    Calls Tryd.prog 34 #[.agg #[.slice A bs.length c], .string kind, .string name, .string key] w fun e w' => ∃ v G, e = .returned (.tuple #[v, .bool (getP bs kind name key).2]) ∧ linesS.ow w' w.heap.size [v] (getP bs kind name key).1 G ∧ Below w.heap.size w w' := by
  obtain ⟨K, hk⟩ := ev_implValid bs (fits_small bs hs)
  have HV := Aside0.mk (fun w hr => impl_SheetValid.calls K A c bs (sheetOk bs) w hr hc (hk K (Nat.le_refl _)))
  have HAT := Aside0.mk (fun w hr => at_c kind name bs (by have := hs.1; omega) A c w hr)
  clear hk
  have HR := Aside0.mk hr
  have HS := Aside0.mk hs
  clear hr hs
  rcases findB_in kind name bs 0 with hf | ⟨n, hf, hn⟩
  · have HP : Aside0 (getP bs kind name key = ([], false)) := ⟨by unfold getP; rw [hf, if_pos (by omega)]⟩
    rw [HP.out]
    rw [hf] at HAT
    clear hf HP HV
    go_enter Tryd.func34, Tryd.ntmps34
    go_wp2_with fail
    refine (HAT.out _ (Kd.C_below HR.out ((Below.refl _ _).alloc (Nat.le_refl _) _))).mono ?_
    rintro e w1 ⟨rfl, hb1⟩
    have B1 := Aside0.mk (below_step ((Below.refl w.heap.size w).alloc (Nat.le_refl _) _) hb1)
    clear hb1
    go_wp2_with fail
    refine (find2_c kind key w1).mono ?_
    rintro e w2 ⟨r1, g1, n1, c1, g2, c2, rfl, _, _, hb2⟩
    have B2 := Aside0.mk (B1.out.trans (hb2.mono B1.out.size))
    have B3 : Below w.heap.size w (w2.alloc (.cells #[.string r1, .slice g1 n1 c1, .bool (manyL kind key), .slice g2 (defL kind key).length c2] 36)) := B2.out.alloc B2.out.size _
    clear hb2
    go_wp2
    go_ret2
    exact ⟨_, _, rfl, Sh.row_nil _ _ _ _, B3⟩
  · have hfn : findB kind name bs 0 = (n : Int) := by rw [hf]; omega
    have HPG : Aside0 (getP bs kind name key = if placeL kind key < 0 then ([], false) else if sheetOk bs = true then (getH kind key bs[n].f2, true) else ([], false)) := ⟨by unfold getP; rw [hfn, if_neg (by omega), rdBlock hn]⟩
    rw [hfn] at HAT
    have hplo := placeL_le kind key
    have hn63 : bs.length ≤ 1048576 := HS.out.1
    clear hf hfn
    by_cases hpl : placeL kind key < 0
    · have HP : Aside0 (getP bs kind name key = ([], false)) := ⟨by rw [HPG.out, if_pos hpl]⟩
      rw [HP.out]
      clear HP HV HPG
      go_enter Tryd.func34, Tryd.ntmps34
      go_wp2_with fail
      refine (HAT.out _ (Kd.C_below HR.out ((Below.refl _ _).alloc (Nat.le_refl _) _))).mono ?_
      rintro e w1 ⟨rfl, hb1⟩
      have B1 := Aside0.mk (below_step ((Below.refl w.heap.size w).alloc (Nat.le_refl _) _) hb1)
      clear hb1
      go_wp2_with fail
      refine (find2_c kind key w1).mono ?_
      rintro e w2 ⟨r1, g1, n1, c1, g2, c2, rfl, _, _, hb2⟩
      have B2 := Aside0.mk (B1.out.trans (hb2.mono B1.out.size))
      have B3 : Below w.heap.size w (w2.alloc (.cells #[.string r1, .slice g1 n1 c1, .bool (manyL kind key), .slice g2 (defL kind key).length c2] 36)) := B2.out.alloc B2.out.size _
      clear hb2
      generalize manyL kind key = mm at *
      generalize placeL kind key = pl at *
      go_wp2
      go_ret2
      exact ⟨_, _, rfl, Sh.row_nil _ _ _ _, B3⟩
    · cases hv : sheetOk bs with
      | false =>
        have HP : Aside0 (getP bs kind name key = ([], false)) := ⟨by rw [HPG.out, if_neg hpl, hv]; rfl⟩
        rw [HP.out]
        rw [hv] at HV
        clear HP HPG hv
        go_enter Tryd.func34, Tryd.ntmps34
        go_wp2_with fail
        refine (HAT.out _ (Kd.C_below HR.out ((Below.refl _ _).alloc (Nat.le_refl _) _))).mono ?_
        rintro e w1 ⟨rfl, hb1⟩
        have B1 := Aside0.mk (below_step ((Below.refl w.heap.size w).alloc (Nat.le_refl _) _) hb1)
        have x1 : w1.cell? ⟨w.heap.size, 0, none⟩ = some (.slice A bs.length c) := pw_cell_below hb1 (by go_simp)
        clear hb1
        go_wp2_with fail
        refine (find2_c kind key w1).mono ?_
        rintro e w2 ⟨r1, g1, n1, c1, g2, c2, rfl, hr1, _, hb2⟩
        have hr2 := hr1 (by omega)
        subst r1
        clear hr1
        have B2 := Aside0.mk (B1.out.trans (hb2.mono B1.out.size))
        have B3 := Aside0.mk (B2.out.alloc B2.out.size (.cells #[.string key, .slice g1 n1 c1, .bool (manyL kind key), .slice g2 (defL kind key).length c2] 36))
        have x2 := pw_cell_below hb2 x1
        have hN : w.heap.size < w2.heap.size := by have := World.block_lt_of_cell? _ _ x2; exact this
        clear hb2 x1
        generalize manyL kind key = mm at *
        generalize placeL kind key = pl at *
        go_wp2_with fail
        refine (HV.out _ (Kd.C_below HR.out B3.out)).mono ?_
        rintro e w4 ⟨rfl, hb4⟩
        have B4 := Aside0.mk (B3.out.trans (hb4.mono B3.out.size))
        clear hb4
        go_wp2
        go_ret2
        exact ⟨_, _, rfl, Sh.row_nil _ _ _ _, B4.out⟩
      | true =>
        have HP : Aside0 (getP bs kind name key = (getH kind key bs[n].f2, true)) := ⟨by rw [HPG.out, if_neg hpl, hv]; rfl⟩
        rw [HP.out]
        rw [hv] at HV
        clear HP HPG hv
        obtain ⟨ad, A1, c3, rfl, hx0, hx1, hx2, hl1, hC1⟩ := block_at HR.out n bs[n] (List.getElem?_eq_getElem hn)
        have hsb := (HS.out.2 _ (List.getElem_mem hn)).2.2
        generalize bs[n] = bb at *
        obtain ⟨kk, nn, ls⟩ := bb
        simp only at *
        obtain ⟨T, hT1, hT2, hT3⟩ := src_of_C hC1
        subst hT1
        rw [List.length_map] at hx2 hl1
        have hTn : T.length ≤ 1048576 := by have := hsb.1; rwa [List.length_map] at this
        have HX := Aside0.mk (And.intro hx0 (And.intro hx1 hx2))
        have HT := Aside0.mk (And.intro hT2 hT3)
        have HSB := Aside0.mk hsb
        clear hx0 hx1 hx2 hT2 hT3 hsb hC1
        have HGH : Aside0 (getH kind key (T.map Prod.snd) = if (decide (((ofKey key (T.map Prod.snd)).length : Int) = 0) && !manyL kind key) = true then [⟨key, defL kind key⟩] else ofKey key (T.map Prod.snd)) := ⟨rfl⟩
        generalize getH kind key (T.map Prod.snd) = gh at *
        go_enter Tryd.func34, Tryd.ntmps34
        go_wp2_with fail
        refine (HAT.out _ (Kd.C_below HR.out ((Below.refl _ _).alloc (Nat.le_refl _) _))).mono ?_
        rintro e w1 ⟨rfl, hb1⟩
        have B1 := Aside0.mk (below_step ((Below.refl w.heap.size w).alloc (Nat.le_refl _) _) hb1)
        have x1 : w1.cell? ⟨w.heap.size, 0, none⟩ = some (.slice (some ad) bs.length c) := pw_cell_below hb1 (by go_simp)
        clear hb1
        go_wp2_with fail
        refine (find2_c kind key w1).mono ?_
        rintro e w2 ⟨r1, g1, n1, c1, g2, c2, rfl, hr1, hD, hb2⟩
        have hr2 := hr1 (by omega)
        subst r1
        have HD := Aside0.mk hD
        clear hr1 hD
        have B2 := Aside0.mk (B1.out.trans (hb2.mono B1.out.size))
        have b3 := Aside0.mk (blk_new w2 (.cells #[.string key, .slice g1 n1 c1, .bool (manyL kind key), .slice g2 (defL kind key).length c2] 36))
        have B3 := Aside0.mk (B2.out.alloc B2.out.size (.cells #[.string key, .slice g1 n1 c1, .bool (manyL kind key), .slice g2 (defL kind key).length c2] 36))
        have HD3 := Aside0.mk (Kd.C_below HD.out ((Below.refl w2.heap.size w2).alloc (Nat.le_refl _) (.cells #[.string key, .slice g1 n1 c1, .bool (manyL kind key), .slice g2 (defL kind key).length c2] 36)))
        have x2 := pw_cell_below hb2 x1
        have hN : w.heap.size < w2.heap.size := by have := World.block_lt_of_cell? _ _ x2; exact this
        clear hb2 x1 HD
        have hdn : (defL kind key).length ≤ 1048576 := by have := defL_small kind key; omega
        generalize manyL kind key = mm at *
        generalize placeL kind key = pl at *
        generalize defL kind key = df at *
        go_wp2_with fail
        refine (HV.out _ (Kd.C_below HR.out B3.out)).mono ?_
        rintro e w4 ⟨rfl, hb4⟩
        have B4 := Aside0.mk (B3.out.trans (hb4.mono B3.out.size))
        have x4 : w4.cell? ⟨w.heap.size, 0, none⟩ = some (.slice (some ad) bs.length c) := pw_cell_below hb4 (pw_cell_below ((Below.refl w2.heap.size w2).alloc (Nat.le_refl _) _) x2)
        have K4 := Aside0.mk (blk_below b3.out hb4)
        have HD4 := Aside0.mk (Kd.C_below HD3.out hb4)
        obtain ⟨hx0, hx1, hx2⟩ := HX.out
        have y0 := pw_cell_below B4.out hx0
        have y1 := pw_cell_below B4.out hx1
        have y2 := pw_cell_below B4.out hx2
        have hw2 : w2.heap.size < w4.heap.size := by have h := B3.out.size; have h4 := hb4.size; simp at h4; omega
        clear hb4 x2 hx0 hx1 hx2 HD3 b3 HX
        go_wp2_with fail
        refine (of_c kk nn key T (by omega) A1 c3 w4 (HT.out.1.below B4.out)).mono ?_
        rintro e w5 ⟨v5, rfl, hO5, hb5⟩
        obtain ⟨A5, d5, rfl⟩ := own_shapeN hO5
        have hC5 := C_of_own hO5 (by have := List.length_filter_le (isKey key) T; omega) (fun t ht => by
          obtain ⟨B, d, e1, e2, e3⟩ := HT.out.2 t (List.mem_filter.1 ht).1
          exact ⟨B, d, e1, e2, Kd.C_below e3 (B4.out.trans (hb5.mono B4.out.size))⟩)
        have hlen : (T.filter (isKey key)).length = (ofKey key (T.map Prod.snd)).length := by rw [← filter_snd, List.length_map]
        rw [filter_snd, hlen] at hC5
        rw [hlen]
        have B5 := Aside0.mk (B4.out.trans (hb5.mono B4.out.size))
        have K5 := Aside0.mk (blk_below K4.out hb5)
        have HD5 := Aside0.mk (Kd.C_below HD4.out hb5)
        have HC5 := Aside0.mk hC5
        have hw5 : w2.heap.size < w5.heap.size := Nat.lt_of_lt_of_le hw2 hb5.size
        clear hb5 hO5 hC5 y0 y1 y2 x4 K4 HD4 hlen
        have HOS := ofKey_small (key := key) HSB.out
        generalize ofKey key (T.map Prod.snd) = ok at *
        go_wp2_with fail
        refine (cloneLines_any ok HOS A5 d5 w5 HC5.out).mono ?_
        rintro e w6 ⟨v6, G6, rfl, hO6, hb6⟩
        obtain ⟨A6, d6, rfl⟩ := own_form hO6
        have B6 := Aside0.mk (B5.out.trans (hb6.mono B5.out.size))
        have K6 := Aside0.mk (blk_below K5.out hb6)
        have HD6 := Aside0.mk (Kd.C_below HD5.out hb6)
        have HO6 := Aside0.mk hO6
        have q0 : w6.cell? ⟨w2.heap.size, 0, none⟩ = some (.string key) := (blk_cell K6.out 0).trans rfl
        have q1 : w6.cell? ⟨w2.heap.size, 1, none⟩ = some (.slice g1 n1 c1) := (blk_cell K6.out 1).trans rfl
        have q2 : w6.cell? ⟨w2.heap.size, 2, none⟩ = some (.bool mm) := (blk_cell K6.out 2).trans rfl
        have q3 : w6.cell? ⟨w2.heap.size, 3, none⟩ = some (.slice g2 df.length c2) := (blk_cell K6.out 3).trans rfl
        have hok : ok.length ≤ 1048576 := HOS.1
        clear hb6 hO6 K5 HD5 K6
        by_cases hz : ((ok.length : Nat) : Int) = 0
        · cases mm with
          | true =>
            have HG : gh = ok := by rw [HGH.out]; simp
            subst gh
            clear HGH
            go_wp2
            go_ret2
            exact ⟨_, G6, rfl, linesS.olow HO6.out B5.out.size, B6.out⟩
          | false =>
            have HG : gh = [⟨key, df⟩] := by rw [HGH.out, if_pos (by simp [hz])]
            subst gh
            clear HGH
            go_wp2_with fail
            refine (standard_c key g1 n1 c1 false df hdn g2 c2 w6 HD6.out).mono ?_
            rintro e w7 ⟨v7, G7, rfl, hO7, hb7⟩
            have B7 := Aside0.mk (B6.out.trans (hb7.mono B6.out.size))
            have E7 : Aside0 (Els lineS w7 w.heap.size [[.string key, v7]] [⟨key, df⟩] G7) := ⟨⟨G7, [], by simp, lineS.olow (line_ow hO7) B6.out.size, rfl, by simp⟩⟩
            clear hb7 hO7
            go_wp2
            go_ret2
            exact ⟨_, _, rfl, Sh.row_lit' (e := 83) E7.out B7.out.size (by simp) (by rfl) (by simp) (by rfl) (by rfl), B7.out.alloc B7.out.size _⟩
        · have HG : gh = ok := by rw [HGH.out, if_neg (by simp only [Bool.and_eq_true, decide_eq_true_eq]; intro h; exact hz h.1)]
          subst gh
          clear HGH
          have hz2 : ¬ ok = [] := fun e => hz (by rw [e]; rfl)
          go_wp2
          go_ret2
          exact ⟨_, G6, rfl, linesS.olow HO6.out B5.out.size, B6.out⟩
end Go.Proofs.YtmcdnpooclelgaaDoor.PAll

namespace Go.Proofs.YtmcdnpooclelgaaDoor.PAll
open Go.RowKit Go.Proofs.YtmcdnpooclelgaaDoorW.PrintWords Go.Proofs.YtmcdnpooclelgaaDoorW.PrintLast Go.Proofs.YtmcdnpooclelgaaDoorW.PrintMore
attribute [local go_sem] max2_int min2_int max_two min_two max_three min_three max_four min_four   -- for this text's walks alone
set_option linter.unusedVariables false
set_option linter.unusedSimpArgs false
def spec_l3Lines.l0 : Nat → List (S83) → List (S83) → Int → Option ((List (S83)))
 | 0, _, _, _ => none
 | k + 1, x0, x3, x4 => if x4 < (x0.length : Int) then (if 0 ≤ x4 then ((some (([] : List ByteArray) : List ByteArray)).bind fun y523 => (if y523.length + ((rd_T83 x0 x4).f1).length < 8796093022208 then (if x3.length < 3518437208883 then (spec_l3Lines.l0 k x0 (x3 ++ [(⟨(rd_T83 x0 x4).f0, (y523 ++ ((rd_T83 x0 x4).f1))⟩ : S83)]) (wrap64 (x4 + 1))) else (none)) else (none))) else (none)) else (some x3)
def spec_l3Lines.f (k : Nat) (l0 : List (S83)) : Option ((List (S83))) := spec_l3Lines.l0 k l0 (([] : List (S83))) 0
def spec_l3Lines.T5 : Bool × List (List Nat × List Nat) := (true, [([], []), ([], []), ([], []), ([1, 2], [1, 2]), ([3], [3]), ([4], [4]), ([], []), ([], []), ([], []), ([7, 8], [7, 8]), ([9], [9]), ([10], [10]), ([6, 11], [6, 11]), ([5, 12], [5, 12]), ([13], [13]), ([0, 14, 12], [0, 14]), ([15, 15, 0, 1, 2, 3, 4, 5, 6, 7, 8, 9, 10, 11, 12, 13, 14, 15], [0, 15])])
def spec_l3Lines.B5 : List Nat := [0, 0, 0, 6, 14, 30, 0, 0, 0, 384, 896, 1920, 4032, 8190, 16382, 32767, 65535]
theorem spec_l3Lines.tab5 : rtab .any (opsOf Tryd.f100 5) = spec_l3Lines.T5 := by kernel_rfl
theorem spec_l3Lines.bits5 : waitsOk spec_l3Lines.T5.2 spec_l3Lines.B5 = true := by kernel_rfl
set_option maxHeartbeats 8000000 in
set_option maxRecDepth 100000 in
theorem spec_l3Lines.calls (k : Nat) (A0 : Option Addr) (c0 : Nat) (l0 : List (S83)) (r : List (S83)) (w : World) (hr0 : Kd.C k83 w A0 l0.length l0) (hc0 : l0.length ≤ c0) (h : spec_l3Lines.f k l0 = some r) :
  Calls Tryd.prog 100 #[.slice A0 l0.length c0] w fun e w' => ∃ v0_ : Value, e = .returned (v0_) ∧ Kd.R k83 83 w' w.heap.size (fun _ => True) v0_ r ∧ Below w.heap.size w w' := by
 have hu83 := Tryd.underlying83
 have HR0 := Aside0.mk hr0
 have HC0 := Aside0.mk hc0
 clear hr0 hc0
 have HB := Aside0.mk (Below.refl w.heap.size w)
 have H : (spec_l3Lines.l0 k l0 (([] : List (S83))) 0) = some r := h
 clear h
 obtain ⟨y519, hy519⟩ : ∃ y_ : List (S83), y_ = (([] : List (S83))) := ⟨_, rfl⟩
 replace H : (spec_l3Lines.l0 k l0 y519 0) = some r := by first | (rw [hy519]; with_reducible exact H) | (have H2_ := (Option.bind_some _ _).symm.trans H; rw [hy519]; with_reducible exact H2_) | (have H2_ := (Option.bind_some _ _).symm.trans H; with_reducible exact H2_) | with_reducible exact H | (rw [hy519]; exact H) | exact H
 have Ny519 := Aside0.mk hy519
 clear hy519
 have H' := Aside0.mk H
 clear H
 go_enter Tryd.func100, Tryd.ntmps100
 go_wp2_with (first | ((with_reducible refine gate_dst (N := 5) rfl ?_); refine Kd.R_lit k83 _ 83 ?hg (N := 5) ?hd (xs := ([] : List (S83))) (inner := []) (ok := fun _ => True) (okp := fun _ => True) ?hr ?hp (fun _ hk => hk) trivial (Below.refl _ _) (Nat.le_refl _) (by simp) ?_; (case hd => rfl); (case hg => rfl); (case hr => first | (go_simp; done) | (go_simp; rfl)); (case hp => exact (Reps.none _ _)); intro v520 w2 ho3 hb hg_ hnew_; clear hg_ hnew_; (first | rw [← Ny519.out] at ho3 | (simp only [Int.reduceToNat] at ho3; rw [← Ny519.out] at ho3)); have n0_ := Aside0.mk (Kd.R_lower ho3 (below_size (stB HB.out))); have n1_ := Aside0.mk (below_step (stB HB.out) hb); clear HB; have HO521 := n0_; have HB := n1_; clear n0_ n1_; clear hb ho3))
 go_loopg [3, 4] k (fun kq v3 v4 w' => ∃ (x3_1 : List (S83)) (x4_1 : Int), v4 = .int .i64 x4_1 ∧ Aside0 (spec_l3Lines.l0 kq l0 x3_1 x4_1 = some r) ∧ Aside0 (kq ≤ k) ∧ Aside0 (Kd.R k83 83 w' w.heap.size (fun _ => True) v3 x3_1) ∧ Aside0 (Below w.heap.size w w'))
 case atStart => exact ⟨(y519), (0), (by first | rfl | (simp; done) | (simp [*]; done)), H', ⟨Nat.le_refl _⟩, ⟨by (with_reducible repeat (first | apply Kd.R_alloc | apply Kd.R_drewN | apply Kd.R_drew)); exact HO521.out⟩, ⟨by repeat (first | (with_reducible first | exact HB.out | apply below_alloc | apply pw_below_drewN | apply below_drew1) | exact HB.out)⟩⟩
 case round =>
  clear H'
  try clear c1
  try clear p2
  obtain ⟨x3_1, x4_1, rfl, HA, HK1, HO_3, HB⟩ := hrel
  cases gk with
  | zero => exact absurd HA.out (by simp [spec_l3Lines.l0])
  | succ k1 =>
   have H := HA.out
   clear HA
   simp only [spec_l3Lines.l0] at H
   by_cases c4 : x4_1 < (l0.length : Int)
   ·rw [if_pos c4] at H
    have c4b0 : decide (x4_1 < (l0.length : Int)) = true := decide_eq_true c4
    clear c4
    by_cases c5 : 0 ≤ x4_1
    ·rw [if_pos c5] at H
     have c5b0 : decide (0 ≤ x4_1) = true := decide_eq_true c5
     clear c5
     obtain ⟨y523, hy523⟩ : ∃ y_ : List ByteArray, y_ = (([] : List ByteArray)) := ⟨_, rfl⟩
     replace H : (if y523.length + ((rd_T83 l0 x4_1).f1).length < 8796093022208 then (if x3_1.length < 3518437208883 then (spec_l3Lines.l0 k1 l0 (x3_1 ++ [(⟨(rd_T83 l0 x4_1).f0, (y523 ++ ((rd_T83 l0 x4_1).f1))⟩ : S83)]) (wrap64 (x4_1 + 1))) else (none)) else (none)) = some r := by first | (rw [hy523]; with_reducible exact H) | (have H2_ := (Option.bind_some _ _).symm.trans H; rw [hy523]; with_reducible exact H2_) | (have H2_ := (Option.bind_some _ _).symm.trans H; with_reducible exact H2_) | with_reducible exact H | (rw [hy523]; exact H) | exact H
     have Ny523 := Aside0.mk hy523
     clear hy523
     by_cases c6 : y523.length + ((rd_T83 l0 x4_1).f1).length < 8796093022208
     ·rw [if_pos c6] at H
      have LMc6 := Aside0.mk c6
      clear c6
      obtain ⟨y527, hy527⟩ : ∃ y_ : List ByteArray, y_ = (y523 ++ ((rd_T83 l0 x4_1).f1)) := ⟨_, rfl⟩
      replace H : (if x3_1.length < 3518437208883 then (spec_l3Lines.l0 k1 l0 (x3_1 ++ [(⟨(rd_T83 l0 x4_1).f0, y527⟩ : S83)]) (wrap64 (x4_1 + 1))) else (none)) = some r := by first | (rw [hy527]; with_reducible exact H) | (have H2_ := (Option.bind_some _ _).symm.trans H; rw [hy527]; with_reducible exact H2_) | (have H2_ := (Option.bind_some _ _).symm.trans H; with_reducible exact H2_) | with_reducible exact H | (rw [hy527]; exact H) | exact H
      have Ny527 := Aside0.mk hy527
      clear hy527
      by_cases c7 : x3_1.length < 3518437208883
      ·rw [if_pos c7] at H
       have LMc7 := Aside0.mk c7
       clear c7
       obtain ⟨y530, hy530⟩ : ∃ y_ : List (S83), y_ = (x3_1 ++ [(⟨(rd_T83 l0 x4_1).f0, y527⟩ : S83)]) := ⟨_, rfl⟩
       replace H : (spec_l3Lines.l0 k1 l0 y530 (wrap64 (x4_1 + 1))) = some r := by first | (rw [hy530]; with_reducible exact H) | (have H2_ := (Option.bind_some _ _).symm.trans H; rw [hy530]; with_reducible exact H2_) | (have H2_ := (Option.bind_some _ _).symm.trans H; with_reducible exact H2_) | with_reducible exact H | (rw [hy530]; exact H) | exact H
       have Ny530 := Aside0.mk hy530
       clear hy530
       have H' := Aside0.mk H
       clear H
       try go_wp2
       have n0_ := Aside0.mk (Kd.R_drew HO_3.out)
       have n1_ := Aside0.mk (below_drew1 HB.out)
       clear HO_3
       clear HB
       have HO_3 := n0_
       have HB := n1_
       clear n0_ n1_
       have p522 : 0 ≤ (x4_1 : Int) := of_decide_eq_true (by first | (with_reducible assumption) | assumption)
       have q522 : x4_1 < (l0.length : Int) := of_decide_eq_true (by first | (with_reducible assumption) | assumption)
       obtain ⟨ad522, A522_1, c522_1, e522, hx522_0, hx522_1, hl522_1, hi522_1⟩ := at_T83 HR0.out x4_1 p522 q522
       have hw522_1 := hx522_1
       have hw522_0 := hx522_0
       cases e522
       (try replace hx522_0 := (HB.out.cell (World.block_lt_of_cell? w _ hx522_0)).trans hx522_0)
       (try replace hx522_1 := (HB.out.cell (World.block_lt_of_cell? w _ hx522_1)).trans hx522_1)
       have HR522_1 := Aside0.mk hi522_1
       have HC522_1 := Aside0.mk hl522_1
       clear hi522_1 hl522_1
       replace p522 := eq_true p522
       replace q522 := eq_true q522
       have p526 : 0 ≤ (x4_1 : Int) := of_decide_eq_true (by first | (with_reducible assumption) | assumption)
       have q526 : x4_1 < (l0.length : Int) := of_decide_eq_true (by first | (with_reducible assumption) | assumption)
       obtain ⟨ad526, A526_1, c526_1, e526, hx526_0, hx526_1, hl526_1, hi526_1⟩ := at_T83 HR0.out x4_1 p526 q526
       have hw526_1 := hx526_1
       have hw526_0 := hx526_0
       obtain rfl : ad522 = ad526 := (by injection e526)
       (try replace hx526_0 := (HB.out.cell (World.block_lt_of_cell? w _ hx526_0)).trans hx526_0)
       (try replace hx526_1 := (HB.out.cell (World.block_lt_of_cell? w _ hx526_1)).trans hx526_1)
       have HR526_1 := Aside0.mk hi526_1
       have HC526_1 := Aside0.mk hl526_1
       clear hi526_1 hl526_1
       replace p526 := eq_true p526
       replace q526 := eq_true q526
       have ea_ := Option.some.inj (hx522_1.symm.trans hx526_1)
       injection ea_ with ea_ en_ ec_
       subst ea_
       subst ec_
       clear en_
       refine start_ (n := 17) (S := fun w' => w'.cell? (ad522.add ((x4_1).toNat * 2)) = some (.string ((rd_T83 l0 x4_1).f0)) ∧ w'.cell? ⟨(ad522.add ((x4_1).toNat * 2)).block, (ad522.add ((x4_1).toNat * 2)).off + 1, none⟩ = some (.slice A522_1 ((rd_T83 l0 x4_1).f1).length c522_1) ∧ w'.cell? (ad522.add ((x4_1).toNat * 2)) = some (.string ((rd_T83 l0 x4_1).f0)) ∧ w'.cell? ⟨(ad522.add ((x4_1).toNat * 2)).block, (ad522.add ((x4_1).toNat * 2)).off + 1, none⟩ = some (.slice A522_1 ((rd_T83 l0 x4_1).f1).length c522_1)) (ds := []) (bz 17 0) (by kernel_rfl) rfl rfl ⟨(by first | exact (HB.out.cell (World.block_lt_of_cell? w _ hw522_0)).trans hw522_0 | exact hw522_0), (by first | exact (HB.out.cell (World.block_lt_of_cell? w _ hw522_1)).trans hw522_1 | exact hw522_1), (by first | exact (HB.out.cell (World.block_lt_of_cell? w _ hw526_0)).trans hw526_0 | exact hw526_0), (by first | exact (HB.out.cell (World.block_lt_of_cell? w _ hw526_1)).trans hw526_1 | exact hw526_1)⟩ (fun hHeld => ?_); refine with_tabW spec_l3Lines.tab5 spec_l3Lines.bits5 (fun HT_ HW_ => ?_)
       generalize wr.drew = w8 at HO_3 HB HR522_1 HR526_1 hx522_0 hx522_1 hx526_0 hx526_1 hHeld ⊢
       refine pure_ (i := 0) (N := some 12) (v := ?_) (a' := ?_) (bz 17 1) rfl rfl (any_of HT_.out (by kernel_rfl)) (fun _ _ _ h => h) (Or.inl ⟨by rfl, ?_⟩) ?_ ?_
       rotate_left
       ·intro w'
        go_simp
        with_reducible rfl
       rotate_left
       ·simp only [Act.put, List.setIfInBounds_toArray, List.set_cons_zero, List.set_cons_succ, i64_w, i32_w]
        rfl
       refine pure_ (i := 1) (N := some 13) (v := ?_) (a' := ?_) (bz 17 3) rfl rfl (any_of HT_.out (by kernel_rfl)) (fun _ _ _ h => h) (Or.inl ⟨by rfl, ?_⟩) ?_ ?_
       rotate_left
       ·intro w'
        go_simp
        with_reducible rfl
       rotate_left
       ·simp only [Act.put, List.setIfInBounds_toArray, List.set_cons_zero, List.set_cons_succ, i64_w, i32_w]
        rfl
       refine pure_ (i := 2) (N := some 14) (v := ?_) (a' := ?_) (bz 17 7) rfl rfl (any_of HT_.out (by kernel_rfl)) (fun _ _ _ h => h) (Or.inl ⟨by rfl, ?_⟩) ?_ ?_
       rotate_left
       ·intro w'
        go_simp
        with_reducible rfl
       rotate_left
       ·simp only [Act.put, List.setIfInBounds_toArray, List.set_cons_zero, List.set_cons_succ, i64_w, i32_w]
        rfl
       refine pure_ (i := 3) (N := some 15) (v := ?_) (a' := ?_) (bz 17 15) rfl rfl (any_of HT_.out (by kernel_rfl)) (fun _ _ _ h => h) (Or.inl ⟨by rfl, ?_⟩) ?_ ?_
       rotate_left
       ·intro w'
        go_simp
        with_reducible rfl
       rotate_left
       ·simp only [Act.put, List.setIfInBounds_toArray, List.set_cons_zero, List.set_cons_succ, i64_w, i32_w]
        rfl
       refine pure_ (i := 4) (N := some 16) (v := ?_) (a' := ?_) (bz 17 31) rfl rfl (any_of HT_.out (by kernel_rfl)) (fun _ _ _ h => h) (Or.inl ⟨by rfl, ?_⟩) ?_ ?_
       rotate_left
       ·intro w'
        go_simp
        with_reducible rfl
       rotate_left
       ·simp only [Act.put, List.setIfInBounds_toArray, List.set_cons_zero, List.set_cons_succ, i64_w, i32_w]
        rfl
       refine pure_ (i := 7) (N := some 19) (v := ?_) (a' := ?_) (bz 17 159) rfl rfl (any_of HT_.out (by kernel_rfl)) (fun _ _ _ h => h) (Or.inl ⟨by rfl, ?_⟩) ?_ ?_
       rotate_left
       ·intro w'
        go_simp
        with_reducible rfl
       rotate_left
       ·simp only [Act.put, List.setIfInBounds_toArray, List.set_cons_zero, List.set_cons_succ, i64_w, i32_w]
        rfl
       refine pure_ (i := 8) (N := some 20) (v := ?_) (a' := ?_) (bz 17 415) rfl rfl (any_of HT_.out (by kernel_rfl)) (fun _ _ _ h => h) (Or.inl ⟨by rfl, ?_⟩) ?_ ?_
       rotate_left
       ·intro w'
        go_simp
        with_reducible rfl
       rotate_left
       ·simp only [Act.put, List.setIfInBounds_toArray, List.set_cons_zero, List.set_cons_succ, i64_w, i32_w]
        rfl
       refine pure_ (i := 9) (N := some 21) (v := ?_) (a' := ?_) (bz 17 927) rfl rfl (any_of HT_.out (by kernel_rfl)) (fun _ _ _ h => h) (Or.inl ⟨by rfl, ?_⟩) ?_ ?_
       rotate_left
       ·intro w'
        go_simp
        with_reducible rfl
       rotate_left
       ·simp only [Act.put, List.setIfInBounds_toArray, List.set_cons_zero, List.set_cons_succ, i64_w, i32_w]
        rfl
       refine pure_ (i := 10) (N := some 22) (v := ?_) (a' := ?_) (bz 17 1951) rfl rfl (any_of HT_.out (by kernel_rfl)) (fun _ _ _ h => h) (Or.inl ⟨by rfl, ?_⟩) ?_ ?_
       rotate_left
       ·intro w'
        go_simp
        with_reducible rfl
       rotate_left
       ·simp only [Act.put, List.setIfInBounds_toArray, List.set_cons_zero, List.set_cons_succ, i64_w, i32_w]
        rfl
       refine take_ (i := 5) (N := some 17) (v := ?_) (a' := ?_) (bz 17 1983) rfl rfl (take_ofW HT_.out HW_.out (by kernel_rfl)) (fun _ _ _ h => h) (Or.inl ⟨by rfl, ?_⟩) hHeld ?_ ?_
       rotate_left
       ·rintro w' ⟨s0, s1, s2, s3⟩
        go_simp
        with_reducible rfl
       rotate_left
       ·simp only [Act.put, List.setIfInBounds_toArray, List.set_cons_zero, List.set_cons_succ, i64_w, i32_w]
        rfl
       refine take_ (i := 11) (N := some 23) (v := ?_) (a' := ?_) (bz 17 4031) rfl rfl (take_ofW HT_.out HW_.out (by kernel_rfl)) (fun _ _ _ h => h) (Or.inl ⟨by rfl, ?_⟩) hHeld ?_ ?_
       rotate_left
       ·rintro w' ⟨s0, s1, s2, s3⟩
        go_simp
        with_reducible rfl
       rotate_left
       ·simp only [Act.put, List.setIfInBounds_toArray, List.set_cons_zero, List.set_cons_succ, i64_w, i32_w]
        rfl
       refine one_ (i := 6) (N := some 18) (bz 17 4095) rfl rfl (one_of HT_.out (by kernel_rfl)) (by decide) (fun K hK => ?_)
       refine Kd.R_lit_step Kd.string _ 9 ?hg (N := 18) ?hd (xs := ([] : List ByteArray)) (inner := []) (ok := fun _ => True) (okp := fun _ => True) ?hr ?hp (fun _ hk => hk) trivial (Below.refl _ _) (Nat.le_refl _) (by simp) ?_; (case hd => rfl); (case hg => rfl); (case hr => first | (go_simp; done) | (go_simp; rfl)); (case hp => exact (Reps.none _ _))
       intro v524 w9 ho10 hb hg_ hnew_
       clear hg_ hnew_
       (first | rw [← Ny523.out] at ho10 | (simp only [Int.reduceToNat] at ho10; rw [← Ny523.out] at ho10))
       have n0_ := Aside0.mk (Kd.R_elder' (stR HO_3.out) (Kd.R_base ho10) hb)
       have n1_ := Aside0.mk (Kd.R_lower ho10 (below_size (stB HB.out)))
       have n2_ := Aside0.mk (below_step (stB HB.out) hb)
       clear HO_3
       clear HB
       have HO_3 := n0_
       have HO525 := n1_
       have HB := n2_
       clear n0_ n1_ n2_
       clear hb ho10
       refine hK.out _ _ ⟨(by first | exact (HB.out.cell (World.block_lt_of_cell? w _ hw522_0)).trans hw522_0 | exact hw522_0), (by first | exact (HB.out.cell (World.block_lt_of_cell? w _ hw522_1)).trans hw522_1 | exact hw522_1), (by first | exact (HB.out.cell (World.block_lt_of_cell? w _ hw526_0)).trans hw526_0 | exact hw526_0), (by first | exact (HB.out.cell (World.block_lt_of_cell? w _ hw526_1)).trans hw526_1 | exact hw526_1)⟩ (fun hHeld => ?_)
       clear hK K
       refine norm_ (a' := ?_) ?_ ?_
       rotate_left
       ·show Act.put _ (some 18) _ = _
        simp only [Act.put, List.setIfInBounds_toArray, List.set_cons_zero, List.set_cons_succ, i64_w, i32_w]
        rfl
       refine one_ (i := 12) (N := some 24) (bz 17 8191) rfl rfl (one_of HT_.out (by kernel_rfl)) (by decide) (fun K hK => ?_)
       refine Kd.R_append_rows_step Kd.string (w0 := w) w.heap.size (by rfl) (.tmp 18) (.tmp 23) 27 9 (.string ⟨#[]⟩) 16 rfl Tryd.underlying27 info9 rfl (by decide) (by omega) v524 y523 ((rd_T83 l0 x4_1).f1) _ _ _ (fun _ => True) (fun _ => False) rfl rfl ?aO ?aR (fun _ _ h => h) (fun _ h => h.elim) ?aF ?aB ?aS ?aL ?_
       (case aR => repeat (first | exact (Kd.C_below HR526_1.out HB.out) | (with_reducible refine Kd.C_alloc ?_ _) | (with_reducible refine Kd.C_drewN ?_ _) | (with_reducible refine Kd.C_drew ?_)))
       (case aB => exact (stB HB.out))
       (case aF => exact (fun _ _ => trivial))
       (case aO => exact (stR HO525.out))
       (case aS => exact (below_size (stB HB.out)))
       (case aL => have := LMc6.out; omega)
       intro v528 w11 ho hb hg hat
       rw [← Ny527.out] at ho
       have n0_ := Aside0.mk (Kd.R_after (ok := (fun _ => True)) (stR HO_3.out) hg hat)
       have n1_ := Aside0.mk (hb)
       have n2_ := Aside0.mk (ho)
       clear HO_3
       clear HB
       clear HO525
       have HO_3 := n0_
       have HB := n1_
       have HO529 := n2_
       clear n0_ n1_ n2_
       clear ho hb hg hat
       obtain ⟨Ao12, co12, eo12⟩ := Kd.R_slice HO529.out
       (first | subst eo12 | (injection eo12 with f1_ f2_ f3_; have f4_ := f1_.symm; have f5_ := f3_.symm; clear f1_ f2_ f3_; subst f4_; subst f5_))
       refine hK.out _ _ ⟨(by first | exact (HB.out.cell (World.block_lt_of_cell? w _ hw522_0)).trans hw522_0 | exact hw522_0), (by first | exact (HB.out.cell (World.block_lt_of_cell? w _ hw522_1)).trans hw522_1 | exact hw522_1), (by first | exact (HB.out.cell (World.block_lt_of_cell? w _ hw526_0)).trans hw526_0 | exact hw526_0), (by first | exact (HB.out.cell (World.block_lt_of_cell? w _ hw526_1)).trans hw526_1 | exact hw526_1)⟩ (fun hHeld => ?_)
       clear hK K
       refine norm_ (a' := ?_) ?_ ?_
       rotate_left
       ·show Act.put _ (some 24) _ = _
        simp only [Act.put, List.setIfInBounds_toArray, List.set_cons_zero, List.set_cons_succ, i64_w, i32_w]
        rfl
       refine pure_ (i := 13) (N := some 25) (v := ?_) (a' := ?_) (bz 17 16383) rfl rfl (any_of HT_.out (by kernel_rfl)) (fun _ _ _ h => h) (Or.inl ⟨by rfl, ?_⟩) ?_ ?_
       rotate_left
       ·intro w'
        go_simp
        with_reducible rfl
       rotate_left
       ·simp only [Act.put, List.setIfInBounds_toArray, List.set_cons_zero, List.set_cons_succ, i64_w, i32_w]
        rfl
       refine one_ (i := 14) (N := some 26) (bz 17 32767) rfl rfl (one_of HT_.out (by kernel_rfl)) (by decide) (fun K hK => ?_)
       refine value_ (w1 := ?_) (v := ?_) (by rfl) rfl ?_ ?_
       rotate_left 2
       ·go_simp
        constructor
        ·rfl
        ·rfl
       refine hK.out _ _ ⟨(World.cell?_alloc_lt _ _ _ (World.block_lt_of_cell? _ _ ((by first | exact (HB.out.cell (World.block_lt_of_cell? w _ hw522_0)).trans hw522_0 | exact hw522_0)))).trans ((by first | exact (HB.out.cell (World.block_lt_of_cell? w _ hw522_0)).trans hw522_0 | exact hw522_0)), (World.cell?_alloc_lt _ _ _ (World.block_lt_of_cell? _ _ ((by first | exact (HB.out.cell (World.block_lt_of_cell? w _ hw522_1)).trans hw522_1 | exact hw522_1)))).trans ((by first | exact (HB.out.cell (World.block_lt_of_cell? w _ hw522_1)).trans hw522_1 | exact hw522_1)), (World.cell?_alloc_lt _ _ _ (World.block_lt_of_cell? _ _ ((by first | exact (HB.out.cell (World.block_lt_of_cell? w _ hw526_0)).trans hw526_0 | exact hw526_0)))).trans ((by first | exact (HB.out.cell (World.block_lt_of_cell? w _ hw526_0)).trans hw526_0 | exact hw526_0)), (World.cell?_alloc_lt _ _ _ (World.block_lt_of_cell? _ _ ((by first | exact (HB.out.cell (World.block_lt_of_cell? w _ hw526_1)).trans hw526_1 | exact hw526_1)))).trans ((by first | exact (HB.out.cell (World.block_lt_of_cell? w _ hw526_1)).trans hw526_1 | exact hw526_1))⟩ (fun hHeld => ?_)
       clear hK K
       refine norm_ (a' := ?_) ?_ ?_
       rotate_left
       ·show Act.put _ (some 26) _ = _
        simp only [Act.put, List.setIfInBounds_toArray, List.set_cons_zero, List.set_cons_succ, i64_w, i32_w]
        rfl
       refine one_ (i := 15) (N := some 27) (bz 17 65535) rfl rfl (one_of HT_.out (by kernel_rfl)) (by decide) (fun K hK => ?_)
       refine Kd.R_append_step k83 (w0 := w) w.heap.size (by rfl) (.tmp 12) (.tmp 26) 52 83 (.agg #[(.string ⟨#[]⟩), (.slice none 0 0)]) 40 rfl Tryd.underlying52 info83 rfl (by decide) (by omega) u3 x3_1 (⟨(rd_T83 l0 x4_1).f0, y527⟩ : S83) [.string ((rd_T83 l0 x4_1).f0), .slice Ao12 y527.length co12] (fun _ => True) (fun k_ => ((fun _ => True)) k_ ∧ some k_ ≠ (u3 : Value).ownBlock) rfl rfl ?aP (fun _ hk => hk) ?aF ?aO ?aB ?aS ?aL ?_
       (case aP => exact k83_mkM _ _ _ (⟨(rd_T83 l0 x4_1).f0, y527⟩ : S83) (Kd.R_mono (Kd.R_apart' (HO529.out) (Kd.R_typed HO_3.out) (by decide)) (fun k_ hk => ⟨trivial, hk.2⟩)))
       (case aB => exact (stB HB.out))
       (case aF => exact (fun _ _ => trivial))
       (case aO => exact (by (with_reducible repeat (first | apply Kd.R_alloc | apply Kd.R_drewN | apply Kd.R_drew)); exact Kd.R_mono HO_3.out (fun _ hk => trivial)))
       (case aS => exact (below_size (stB HB.out)))
       (case aL => have := LMc7.out; omega)
       intro v531 w13 ho hb hg hat
       rw [← Ny530.out] at ho
       have n0_ := Aside0.mk (hb)
       have n1_ := Aside0.mk (ho)
       clear HB
       clear HO_3
       clear HO529
       have HB := n0_
       have HO532 := n1_
       clear n0_ n1_
       clear ho hb hg hat
       refine hK.out _ _ ⟨(by first | exact (HB.out.cell (World.block_lt_of_cell? w _ hw522_0)).trans hw522_0 | exact hw522_0), (by first | exact (HB.out.cell (World.block_lt_of_cell? w _ hw522_1)).trans hw522_1 | exact hw522_1), (by first | exact (HB.out.cell (World.block_lt_of_cell? w _ hw526_0)).trans hw526_0 | exact hw526_0), (by first | exact (HB.out.cell (World.block_lt_of_cell? w _ hw526_1)).trans hw526_1 | exact hw526_1)⟩ (fun hHeld => ?_)
       clear hK K
       refine norm_ (a' := ?_) ?_ ?_
       rotate_left
       ·show Act.put _ (some 27) _ = _
        simp only [Act.put, List.setIfInBounds_toArray, List.set_cons_zero, List.set_cons_succ, i64_w, i32_w]
        rfl
       refine pure_ (i := 16) (N := some 3) (v := ?_) (a' := ?_) (bz 17 131071) rfl rfl (any_of HT_.out (by kernel_rfl)) (fun _ _ _ h => h) (Or.inl ⟨by rfl, ?_⟩) ?_ ?_
       rotate_left
       ·intro w'
        go_simp
        with_reducible rfl
       rotate_left
       ·simp only [Act.put, List.setIfInBounds_toArray, List.set_cons_zero, List.set_cons_succ, i64_w, i32_w]
        rfl
       refine done_ (done_of HT_.out (by kernel_rfl)) ?_
       try go_wp2
       go_roundg k1
       case measure => have := HK1.out; omega
       case rel => exact ⟨(y530), (wrap64 (x4_1 + 1)), (by first | rfl | (simp; done) | (simp [*]; done)), H', ⟨by have := HK1.out; omega⟩, ⟨by (with_reducible repeat (first | apply Kd.R_alloc | apply Kd.R_drewN | apply Kd.R_drew)); exact HO532.out⟩, ⟨by repeat (first | (with_reducible first | exact HB.out | apply below_alloc | apply pw_below_drewN | apply below_drew1) | exact HB.out)⟩⟩
      ·rw [if_neg c7] at H
       exact absurd H (by simp)
     ·rw [if_neg c6] at H
      exact absurd H (by simp)
    ·rw [if_neg c5] at H
     exact absurd H (by simp)
   ·rw [if_neg c4] at H
    have c4b0 : decide (x4_1 < (l0.length : Int)) = false := decide_eq_false c4
    clear c4
    obtain rfl := Option.some.inj H
    go_wp2
    go_ret
    exact ⟨_, by first | rfl | (simp [errW_none, errW_some] <;> rfl) | (simp [*, errW_none, errW_some] <;> rfl), by (with_reducible repeat (first | apply Kd.R_alloc | apply Kd.R_drewN | apply Kd.R_drew)); exact HO_3.out, by repeat (first | (with_reducible first | exact HB.out | apply below_alloc | apply pw_below_drewN | apply below_drew1) | exact HB.out)⟩
end Go.Proofs.YtmcdnpooclelgaaDoor.PAll

namespace Go.Proofs.YtmcdnpooclelgaaDoor.PAll
open Go.RowKit Go.Proofs.YtmcdnpooclelgaaDoorW.PrintWords Go.Proofs.YtmcdnpooclelgaaDoorW.PrintLast Go.Proofs.YtmcdnpooclelgaaDoorW.PrintMore
attribute [local go_sem] max2_int min2_int max_two min_two max_three min_three max_four min_four   -- for this text's walks alone
set_option linter.unusedVariables false
set_option linter.unusedSimpArgs false
def spec_l5Of.l0 : Nat → ByteArray → List (S83) → Int → ByteArray → ByteArray → List (S83) → Option ((List (S83)))
 | 0, _, _, _, _, _, _ => none
 | k + 1, x1, x5, x6, x534000, x534001, x534002 => if x6 < (x534002.length : Int) then (if 0 ≤ x6 then (if ((rd_T83 x534002 x6).f0).toList = x1.toList then (if x5.length < 3518437208883 then (spec_l5Of.l0 k x1 (x5 ++ [(⟨(rd_T83 x534002 x6).f0, (rd_T83 x534002 x6).f1⟩ : S83)]) (wrap64 (x6 + 1)) x534000 x534001 x534002) else (none)) else (spec_l5Of.l0 k x1 x5 (wrap64 (x6 + 1)) x534000 x534001 x534002)) else (none)) else ((spec_l3Lines.f k x5).bind fun t542 => (some t542))
def spec_l5Of.f (k : Nat) (a0_0 : ByteArray) (a0_1 : ByteArray) (l0_2 : List (S83)) (a1 : ByteArray) : Option ((List (S83))) := spec_l5Of.l0 k a1 (([] : List (S83))) 0 a0_0 a0_1 l0_2
set_option maxHeartbeats 8000000 in
set_option maxRecDepth 100000 in
theorem spec_l5Of.calls (k : Nat) (a0_0 : ByteArray) (a0_1 : ByteArray) (P0_2_ : Nat → Prop) (A0_2 : Option Addr) (c0_2 : Nat) (l0_2 : List (S83)) (a1 : ByteArray) (r : List (S83)) (w : World) (hs0_2 : Kd.V k83 83 w w.heap.size (fun k_ => P0_2_ k_) (.slice A0_2 l0_2.length c0_2) l0_2) (h : spec_l5Of.f k a0_0 a0_1 l0_2 a1 = some r) :
  Calls Tryd.prog 84 #[.agg #[.string a0_0, .string a0_1, .slice A0_2 l0_2.length c0_2], .string a1] w fun e w' => ∃ v0_ : Value, e = .returned (v0_) ∧ Kd.N k83 83 w' w.heap.size (fun k_ => (P0_2_ k_ ∨ w.heap.size ≤ k_)) v0_ r ∧ Below w.heap.size w w' := by
 have hu62 := Tryd.underlying62
 have hu83 := Tryd.underlying83
 have HO0_2 := Aside0.mk (show Kd.V k83 83 w w.heap.size (fun k_ => (P0_2_ k_ ∨ w.heap.size ≤ k_)) (.slice A0_2 l0_2.length c0_2) l0_2 from Kd.V_mono hs0_2 (fun k_ hk => .inl hk))
 have HB := Aside0.mk (Below.refl w.heap.size w)
 have H : (spec_l5Of.l0 k a1 (([] : List (S83))) 0 a0_0 a0_1 l0_2) = some r := h
 clear h
 obtain ⟨y534, hy534⟩ : ∃ y_ : List (S83), y_ = (([] : List (S83))) := ⟨_, rfl⟩
 replace H : (spec_l5Of.l0 k a1 y534 0 a0_0 a0_1 l0_2) = some r := by first | (rw [hy534]; with_reducible exact H) | (have H2_ := (Option.bind_some _ _).symm.trans H; rw [hy534]; with_reducible exact H2_) | (have H2_ := (Option.bind_some _ _).symm.trans H; with_reducible exact H2_) | with_reducible exact H | (rw [hy534]; exact H) | exact H
 have Ny534 := Aside0.mk hy534
 clear hy534
 have H' := Aside0.mk H
 clear H
 go_enter Tryd.func84, Tryd.ntmps84
 go_wp2_with (first | ((with_reducible refine gate_dst (N := 2) rfl ?_); refine box_event ?hg (N := 2) ?hd (cs := #[.string a0_0, .string a0_1, .slice A0_2 l0_2.length c0_2]) (t := 62) ?hr ?_; (case hd => rfl); (case hg => rfl); (case hr => first | (go_simp; done) | (go_simp; rfl)); intro gb533 hg w3 hbox hb; have n0_ := Aside0.mk (Kd.V_below (Kd.V_elderB (by (with_reducible repeat (first | apply Kd.V_alloc | apply Kd.V_drewN | apply Kd.V_drew)); exact HO0_2.out) gb533 (Nat.le_of_eq hg.symm)) hb); have n1_ := Aside0.mk (below_step (stB HB.out) hb); have n2_ := Aside0.mk (hbox); have n3_ := Aside0.mk ((by rw [hg]; exact (below_size (stB HB.out)) : w.heap.size ≤ gb533)); have n4_ := Aside0.mk ((by rw [hg]; exact (below_size (stB HB.out)) : w.heap.size ≤ gb533)); clear HO0_2; clear HB; have HO0_2 := n0_; have HB := n1_; have BK533 := n2_; have GW533 := n3_; have GE533 := n4_; clear n0_ n1_ n2_ n3_ n4_; clear hb hbox hg) | ((with_reducible refine gate_dst (N := 7) rfl ?_); refine Kd.N_lit k83 _ 83 ?hg (N' := 7) ?hd (xs := ([] : List (S83))) (inner := []) (ok := (fun k_ => (P0_2_ k_ ∨ w.heap.size ≤ k_) ∧ k_ ≠ gb533)) (okp := (fun k_ => (P0_2_ k_ ∨ w.heap.size ≤ k_) ∧ k_ ≠ gb533)) ?hr ?hp (fun _ hk => hk) ((show ∀ k_, w3.heap.size ≤ k_ → (fun k_ => (P0_2_ k_ ∨ w.heap.size ≤ k_) ∧ k_ ≠ gb533) k_ from fun k_ hk => ⟨(.inr (Nat.le_trans (below_size (by repeat (first | (with_reducible first | exact HB.out | apply below_alloc | apply pw_below_drewN | apply below_drew1 | refine below_set ?_ GE533.out) | exact HB.out))) hk)), Kd.freshB (g := gb533) (o := .cells #[.string a0_0, .string a0_1, .slice A0_2 l0_2.length c0_2] 62 (0, 0)) (by (with_reducible repeat (first | refine blk_drewN ?_ _ | refine blk_drew ?_ | refine blk_alloc ?_ _)); exact BK533.out) k_ hk⟩) _ (Nat.le_refl _)) (Below.refl _ _) (Nat.le_refl _) (by simp) ?_; (case hd => rfl); (case hg => rfl); (case hr => first | (go_simp; done) | (go_simp; rfl)); (case hp => exact (Reps.none _ _)); intro v535 w4 ho5 hb hg_ hnew_; clear hg_ hnew_; (first | rw [← Ny534.out] at ho5 | (simp only [Int.reduceToNat] at ho5; rw [← Ny534.out] at ho5)); have n0_ := Aside0.mk (Kd.V_elder' (by (with_reducible repeat (first | apply Kd.V_alloc | apply Kd.V_drewN | apply Kd.V_drew)); exact HO0_2.out) (Kd.N_base ho5) hb); have n1_ := Aside0.mk (Kd.N_lower ho5 (below_size (by repeat (first | (with_reducible first | exact HB.out | apply below_alloc | apply pw_below_drewN | apply below_drew1 | refine below_set ?_ GE533.out) | exact HB.out)))); have n2_ := Aside0.mk (blk_below (g := gb533) (o := .cells #[.string a0_0, .string a0_1, .slice A0_2 l0_2.length c0_2] 62 (0, 0)) (by (with_reducible repeat (first | refine blk_drewN ?_ _ | refine blk_drew ?_ | refine blk_alloc ?_ _)); exact BK533.out) hb); have n3_ := Aside0.mk (below_step (by repeat (first | (with_reducible first | exact HB.out | apply below_alloc | apply pw_below_drewN | apply below_drew1 | refine below_set ?_ GE533.out) | exact HB.out)) hb); clear HO0_2; clear BK533; clear HB; have HO0_2 := n0_; have HO536 := n1_; have BK533 := n2_; have HB := n3_; clear n0_ n1_ n2_ n3_; clear hb ho5))
 go_loopg [5, 6] k (fun kq v5 v6 w' => ∃ (x5_1 : List (S83)) (x6_1 : Int), v6 = .int .i64 x6_1 ∧ Aside0 (spec_l5Of.l0 kq a1 x5_1 x6_1 a0_0 a0_1 l0_2 = some r) ∧ Aside0 (kq ≤ k) ∧ Aside0 (Kd.N k83 83 w' w.heap.size (fun k_ => (P0_2_ k_ ∨ w.heap.size ≤ k_) ∧ k_ ≠ gb533) v5 x5_1) ∧ Aside0 (Kd.V k83 83 w' w.heap.size (fun k_ => (P0_2_ k_ ∨ w.heap.size ≤ k_) ∧ some k_ ≠ (v5 : Value).ownBlock ∧ k_ ≠ gb533) (.slice A0_2 l0_2.length c0_2) l0_2) ∧ Aside0 (w'.heap[gb533]? = some (.cells #[.string a0_0, .string a0_1, (.slice A0_2 l0_2.length c0_2)] 62 (0, 0))) ∧ Aside0 (Below w.heap.size w w'))
 case atStart => exact ⟨(y534), (0), (by first | rfl | (simp; done) | (simp [*]; done)), H', ⟨Nat.le_refl _⟩, ⟨by (with_reducible repeat (first | apply Kd.N_alloc | apply Kd.N_drewN | apply Kd.N_drew)); exact HO536.out⟩, ⟨by (with_reducible repeat (first | apply Kd.V_alloc | apply Kd.V_drewN | apply Kd.V_drew)); exact Kd.V_mono HO0_2.out (fun _ hk => ⟨hk.1.1, ⟨hk.2, hk.1.2⟩⟩)⟩, ⟨by (with_reducible repeat (first | refine blk_drewN ?_ _ | refine blk_drew ?_ | refine blk_alloc ?_ _)); exact BK533.out⟩, ⟨by repeat (first | (with_reducible first | exact HB.out | apply below_alloc | apply pw_below_drewN | apply below_drew1 | refine below_set ?_ GE533.out) | exact HB.out)⟩⟩
 case round =>
  clear H'
  try clear p2
  obtain ⟨x5_1, x6_1, rfl, HA, HK1, HO_5, HO_534002, BK533, HB⟩ := hrel
  cases gk with
  | zero => exact absurd HA.out (by simp [spec_l5Of.l0])
  | succ k1 =>
   have H := HA.out
   clear HA
   simp only [spec_l5Of.l0] at H
   by_cases c6 : x6_1 < (l0_2.length : Int)
   ·rw [if_pos c6] at H
    have c6b0 : decide (x6_1 < (l0_2.length : Int)) = true := decide_eq_true c6
    clear c6
    by_cases c7 : 0 ≤ x6_1
    ·rw [if_pos c7] at H
     have c7b0 : decide (0 ≤ x6_1) = true := decide_eq_true c7
     clear c7
     by_cases c8 : ((rd_T83 l0_2 x6_1).f0).toList = a1.toList
     ·rw [if_pos c8] at H
      have c8b0 : (((rd_T83 l0_2 x6_1).f0).toList == a1.toList) = true := beq_iff_eq.mpr c8
      have c8b1 : (((rd_T83 l0_2 x6_1).f0).toList != a1.toList) = false := bne_eq_false_iff_eq.mpr c8
      clear c8
      by_cases c9 : x5_1.length < 3518437208883
      ·rw [if_pos c9] at H
       have LMc9 := Aside0.mk c9
       clear c9
       obtain ⟨y539, hy539⟩ : ∃ y_ : List (S83), y_ = (x5_1 ++ [(⟨(rd_T83 l0_2 x6_1).f0, (rd_T83 l0_2 x6_1).f1⟩ : S83)]) := ⟨_, rfl⟩
       replace H : (spec_l5Of.l0 k1 a1 y539 (wrap64 (x6_1 + 1)) a0_0 a0_1 l0_2) = some r := by first | (rw [hy539]; with_reducible exact H) | (have H2_ := (Option.bind_some _ _).symm.trans H; rw [hy539]; with_reducible exact H2_) | (have H2_ := (Option.bind_some _ _).symm.trans H; with_reducible exact H2_) | with_reducible exact H | (rw [hy539]; exact H) | exact H
       have Ny539 := Aside0.mk hy539
       clear hy539
       have H' := Aside0.mk H
       clear H
       have hcz10_0 : wr.cell? ⟨gb533, 0, none⟩ = some (.string a0_0) := (blk_cell BK533.out 0).trans rfl
       have hcz10_1 : wr.cell? ⟨gb533, 1, none⟩ = some (.string a0_1) := (blk_cell BK533.out 1).trans rfl
       have hcz10_2 : wr.cell? ⟨gb533, 2, none⟩ = some (.slice A0_2 l0_2.length c0_2) := (blk_cell BK533.out 2).trans rfl
       have hfz10_0 := blk_frozen BK533.out 0
       have hfz10_1 := blk_frozen BK533.out 1
       have hfz10_2 := blk_frozen BK533.out 2
       have p537 : 0 ≤ (x6_1 : Int) := of_decide_eq_true (by first | (with_reducible assumption) | assumption)
       have q537 : x6_1 < (l0_2.length : Int) := of_decide_eq_true (by first | (with_reducible assumption) | assumption)
       obtain ⟨ad537, A537_1, c537_1, e537, hx537_0, hx537_1, hl537_1, hi537_1⟩ := at_T83 (Kd.V_reads' HO_534002.out).2.2 x6_1 p537 q537
       cases e537
       obtain ⟨ce537, hce537, hMe537, hcc537⟩ := Kd.V_get HO_534002.out z83 x6_1 p537 (by first | exact q537 | exact of_decide_eq_true (by first | (with_reducible assumption) | assumption) | (have e_ := (Kd.V_reads' HO_534002.out).1; omega))
       obtain ⟨ua537_1, uc537_1, rfl, ul537_1, ge537_1⟩ := k83_openF hMe537
       have hv537_1 := hcc537 1 _ rfl
       rw [add_field _ _ 1 (by omega)] at hv537_1
       replace hv537_1 := Option.some.inj (hv537_1.symm.trans hx537_1)
       injection hv537_1 with hva_ hvn_ hvc_
       rw [hva_] at ge537_1
       rw [hvc_] at ul537_1
       have HL537_1 := Aside0.mk (show Kd.V Kd.string 9 _ w.heap.size _ _ ((rd_T83 l0_2 x6_1).f1) from Kd.V_mk ul537_1 ge537_1)
       clear hva_ hvn_ hvc_ ge537_1 ul537_1
       clear hcc537 hce537
       have HR537_1 := Aside0.mk hi537_1
       have HC537_1 := Aside0.mk hl537_1
       clear hi537_1 hl537_1
       replace p537 := eq_true p537
       replace q537 := eq_true q537
       have p538 : 0 ≤ (x6_1 : Int) := of_decide_eq_true (by first | (with_reducible assumption) | assumption)
       have q538 : x6_1 < (l0_2.length : Int) := of_decide_eq_true (by first | (with_reducible assumption) | assumption)
       obtain ⟨ad538, A538_1, c538_1, e538, hx538_0, hx538_1, hl538_1, hi538_1⟩ := at_T83 (Kd.V_reads' HO_534002.out).2.2 x6_1 p538 q538
       obtain rfl : ad537 = ad538 := (by injection e538)
       obtain ⟨ce538, hce538, hMe538, hcc538⟩ := Kd.V_get HO_534002.out z83 x6_1 p538 (by first | exact q538 | exact of_decide_eq_true (by first | (with_reducible assumption) | assumption) | (have e_ := (Kd.V_reads' HO_534002.out).1; omega))
       obtain ⟨ua538_1, uc538_1, rfl, ul538_1, ge538_1⟩ := k83_openF hMe538
       have hv538_1 := hcc538 1 _ rfl
       rw [add_field _ _ 1 (by omega)] at hv538_1
       replace hv538_1 := Option.some.inj (hv538_1.symm.trans hx538_1)
       injection hv538_1 with hva_ hvn_ hvc_
       rw [hva_] at ge538_1
       rw [hvc_] at ul538_1
       have HL538_1 := Aside0.mk (show Kd.V Kd.string 9 _ w.heap.size _ _ ((rd_T83 l0_2 x6_1).f1) from Kd.V_mk ul538_1 ge538_1)
       clear hva_ hvn_ hvc_ ge538_1 ul538_1
       clear hcc538 hce538
       have HR538_1 := Aside0.mk hi538_1
       have HC538_1 := Aside0.mk hl538_1
       clear hi538_1 hl538_1
       replace p538 := eq_true p538
       replace q538 := eq_true q538
       have ea_ := Option.some.inj (hx537_1.symm.trans hx538_1)
       injection ea_ with ea_ en_ ec_
       subst ea_
       subst ec_
       clear en_
       go_wp2_with (first | ((with_reducible refine gate_builtin (b := .append) (xs := #[.tmp 23, .tmp 29]) rfl ?_); at_builtin; refine Kd.N_append k83 (w0 := w) w.heap.size rfl (.tmp 23) (.tmp 29) 52 83 (.agg #[(.string ⟨#[]⟩), (.slice none 0 0)]) 40 rfl Tryd.underlying52 info83 rfl (by decide) (by omega) u5 x5_1 (⟨(rd_T83 l0_2 x6_1).f0, (rd_T83 l0_2 x6_1).f1⟩ : S83) [.string ((rd_T83 l0_2 x6_1).f0), .slice A537_1 ((rd_T83 l0_2 x6_1).f1).length c537_1] (fun k_ => (P0_2_ k_ ∨ w.heap.size ≤ k_) ∧ k_ ≠ gb533) (fun k_ => ((fun k_ => (P0_2_ k_ ∨ w.heap.size ≤ k_) ∧ k_ ≠ gb533)) k_ ∧ some k_ ≠ (u5 : Value).ownBlock) rfl rfl ?aP (fun _ hk => hk) ?aF ?aO ?aB ?aS ?aL ?_; (case aP => exact (k83_mkF _ _ (⟨(rd_T83 l0_2 x6_1).f0, (rd_T83 l0_2 x6_1).f1⟩ : S83) (Kd.V_reads' (Kd.V_mono (ok' := (fun k_ => ((fun k_ => (P0_2_ k_ ∨ w.heap.size ≤ k_) ∧ k_ ≠ gb533)) k_ ∧ some k_ ≠ (u5 : Value).ownBlock)) (HL538_1.out) (fun k_ hk => ⟨⟨hk.1, hk.2.2⟩, hk.2.1⟩))).2.1 (Kd.V_F (Kd.V_mono (ok' := (fun k_ => ((fun k_ => (P0_2_ k_ ∨ w.heap.size ≤ k_) ∧ k_ ≠ gb533)) k_ ∧ some k_ ≠ (u5 : Value).ownBlock)) (HL538_1.out) (fun k_ hk => ⟨⟨hk.1, hk.2.2⟩, hk.2.1⟩))))); (case aB => exact (by repeat (first | (with_reducible first | exact HB.out | apply below_alloc | apply pw_below_drewN | apply below_drew1 | refine below_set ?_ GE533.out) | exact HB.out))); (case aF => exact (fun k_ hk => ⟨(.inr (Nat.le_trans (below_size (by repeat (first | (with_reducible first | exact HB.out | apply below_alloc | apply pw_below_drewN | apply below_drew1 | refine below_set ?_ GE533.out) | exact HB.out))) hk)), Kd.freshB (g := gb533) (o := .cells #[.string a0_0, .string a0_1, .slice (some ad537) l0_2.length c0_2] 62 (0, 0)) (by (with_reducible repeat (first | refine blk_drewN ?_ _ | refine blk_drew ?_ | refine blk_alloc ?_ _)); exact BK533.out) k_ hk⟩)); (case aO => exact (by (with_reducible repeat (first | apply Kd.N_alloc | apply Kd.N_drewN | apply Kd.N_drew)); exact HO_5.out)); (case aS => exact (below_size (by repeat (first | (with_reducible first | exact HB.out | apply below_alloc | apply pw_below_drewN | apply below_drew1 | refine below_set ?_ GE533.out) | exact HB.out)))); (case aL => have := LMc9.out; omega); intro v540 w11 ho hb hg hat; rw [← Ny539.out] at ho; have n0_ := Aside0.mk (Kd.V_afterv (ok := (fun k_ => (P0_2_ k_ ∨ w.heap.size ≤ k_) ∧ k_ ≠ gb533)) (by (with_reducible repeat (first | apply Kd.V_alloc | apply Kd.V_drewN | apply Kd.V_drew)); exact Kd.V_mono HO_534002.out (fun _ hk => ⟨⟨hk.1, hk.2.2⟩, hk.2.1⟩)) hg hat); have n1_ := Aside0.mk (blk_grown (g := gb533) (o := .cells #[.string a0_0, .string a0_1, .slice (some ad537) l0_2.length c0_2] 62 (0, 0)) (by (with_reducible repeat (first | refine blk_drewN ?_ _ | refine blk_drew ?_ | refine blk_alloc ?_ _)); exact BK533.out) hg (Kd.N_ne HO_5.out BK533.out (by decide))); have n2_ := Aside0.mk (Kd.V_afterv (ok := (fun k_ => (P0_2_ k_ ∨ w.heap.size ≤ k_) ∧ k_ ≠ gb533)) (by (with_reducible repeat (first | apply Kd.V_alloc | apply Kd.V_drewN | apply Kd.V_drew)); exact Kd.V_mono HL537_1.out (fun _ hk => ⟨⟨hk.1, hk.2.2⟩, hk.2.1⟩)) hg hat); have n3_ := Aside0.mk (Kd.V_afterv (ok := (fun k_ => (P0_2_ k_ ∨ w.heap.size ≤ k_) ∧ k_ ≠ gb533)) (by (with_reducible repeat (first | apply Kd.V_alloc | apply Kd.V_drewN | apply Kd.V_drew)); exact Kd.V_mono HL538_1.out (fun _ hk => ⟨⟨hk.1, hk.2.2⟩, hk.2.1⟩)) hg hat); have n4_ := Aside0.mk (hb); have n5_ := Aside0.mk (ho); clear HO_534002; clear BK533; clear HL537_1; clear HL538_1; clear HB; clear HO_5; have HO_534002 := n0_; have BK533 := n1_; have HL537_1 := n2_; have HL538_1 := n3_; have HB := n4_; have HO541 := n5_; clear n0_ n1_ n2_ n3_ n4_ n5_; clear ho hb hg hat))
       go_roundg k1
       case measure => have := HK1.out; omega
       case rel => exact ⟨(y539), (wrap64 (x6_1 + 1)), (by first | rfl | (simp; done) | (simp [*]; done)), H', ⟨by have := HK1.out; omega⟩, ⟨by (with_reducible repeat (first | apply Kd.N_alloc | apply Kd.N_drewN | apply Kd.N_drew)); exact HO541.out⟩, ⟨by (with_reducible repeat (first | apply Kd.V_alloc | apply Kd.V_drewN | apply Kd.V_drew)); exact Kd.V_mono HO_534002.out (fun _ hk => ⟨hk.1.1, ⟨hk.2, hk.1.2⟩⟩)⟩, ⟨by (with_reducible repeat (first | refine blk_drewN ?_ _ | refine blk_drew ?_ | refine blk_alloc ?_ _)); exact BK533.out⟩, ⟨by repeat (first | (with_reducible first | exact HB.out | apply below_alloc | apply pw_below_drewN | apply below_drew1 | refine below_set ?_ GE533.out) | exact HB.out)⟩⟩
      ·rw [if_neg c9] at H
       exact absurd H (by simp)
     ·rw [if_neg c8] at H
      have c8b0 : (((rd_T83 l0_2 x6_1).f0).toList == a1.toList) = false := beq_eq_false_iff_ne.mpr c8
      have c8b1 : (((rd_T83 l0_2 x6_1).f0).toList != a1.toList) = true := bne_iff_ne.mpr c8
      have H' := Aside0.mk H
      clear H
      have hcz12_0 : wr.cell? ⟨gb533, 0, none⟩ = some (.string a0_0) := (blk_cell BK533.out 0).trans rfl
      have hcz12_1 : wr.cell? ⟨gb533, 1, none⟩ = some (.string a0_1) := (blk_cell BK533.out 1).trans rfl
      have hcz12_2 : wr.cell? ⟨gb533, 2, none⟩ = some (.slice A0_2 l0_2.length c0_2) := (blk_cell BK533.out 2).trans rfl
      have hfz12_0 := blk_frozen BK533.out 0
      have hfz12_1 := blk_frozen BK533.out 1
      have hfz12_2 := blk_frozen BK533.out 2
      have p537 : 0 ≤ (x6_1 : Int) := of_decide_eq_true (by first | (with_reducible assumption) | assumption)
      have q537 : x6_1 < (l0_2.length : Int) := of_decide_eq_true (by first | (with_reducible assumption) | assumption)
      obtain ⟨ad537, A537_1, c537_1, e537, hx537_0, hx537_1, hl537_1, hi537_1⟩ := at_T83 (Kd.V_reads' HO_534002.out).2.2 x6_1 p537 q537
      cases e537
      obtain ⟨ce537, hce537, hMe537, hcc537⟩ := Kd.V_get HO_534002.out z83 x6_1 p537 (by first | exact q537 | exact of_decide_eq_true (by first | (with_reducible assumption) | assumption) | (have e_ := (Kd.V_reads' HO_534002.out).1; omega))
      obtain ⟨ua537_1, uc537_1, rfl, ul537_1, ge537_1⟩ := k83_openF hMe537
      have hv537_1 := hcc537 1 _ rfl
      rw [add_field _ _ 1 (by omega)] at hv537_1
      replace hv537_1 := Option.some.inj (hv537_1.symm.trans hx537_1)
      injection hv537_1 with hva_ hvn_ hvc_
      rw [hva_] at ge537_1
      rw [hvc_] at ul537_1
      have HL537_1 := Aside0.mk (show Kd.V Kd.string 9 _ w.heap.size _ _ ((rd_T83 l0_2 x6_1).f1) from Kd.V_mk ul537_1 ge537_1)
      clear hva_ hvn_ hvc_ ge537_1 ul537_1
      clear hcc537 hce537
      have HR537_1 := Aside0.mk hi537_1
      have HC537_1 := Aside0.mk hl537_1
      clear hi537_1 hl537_1
      replace p537 := eq_true p537
      replace q537 := eq_true q537
      go_wp2
      go_roundg k1
      case measure => have := HK1.out; omega
      case rel => exact ⟨(x5_1), (wrap64 (x6_1 + 1)), (by first | rfl | (simp; done) | (simp [*]; done)), H', ⟨by have := HK1.out; omega⟩, ⟨by (with_reducible repeat (first | apply Kd.N_alloc | apply Kd.N_drewN | apply Kd.N_drew)); exact HO_5.out⟩, ⟨by (with_reducible repeat (first | apply Kd.V_alloc | apply Kd.V_drewN | apply Kd.V_drew)); exact HO_534002.out⟩, ⟨by (with_reducible repeat (first | refine blk_drewN ?_ _ | refine blk_drew ?_ | refine blk_alloc ?_ _)); exact BK533.out⟩, ⟨by repeat (first | (with_reducible first | exact HB.out | apply below_alloc | apply pw_below_drewN | apply below_drew1 | refine below_set ?_ GE533.out) | exact HB.out)⟩⟩
    ·rw [if_neg c7] at H
     exact absurd H (by simp)
   ·rw [if_neg c6] at H
    have c6b0 : decide (x6_1 < (l0_2.length : Int)) = false := decide_eq_false c6
    clear c6
    replace H := Option.bind_eq_some_iff.mp H
    obtain ⟨t542, A130, H⟩ := H
    replace H : (some t542) = some r := H
    have A13 := Aside0.mk A130
    clear A130
    obtain rfl := Option.some.inj H
    have hcz14_0 : wr.cell? ⟨gb533, 0, none⟩ = some (.string a0_0) := (blk_cell BK533.out 0).trans rfl
    have hcz14_1 : wr.cell? ⟨gb533, 1, none⟩ = some (.string a0_1) := (blk_cell BK533.out 1).trans rfl
    have hcz14_2 : wr.cell? ⟨gb533, 2, none⟩ = some (.slice A0_2 l0_2.length c0_2) := (blk_cell BK533.out 2).trans rfl
    have hfz14_0 := blk_frozen BK533.out 0
    have hfz14_1 := blk_frozen BK533.out 1
    have hfz14_2 := blk_frozen BK533.out 2
    obtain ⟨Ao15, co15, eo15⟩ := Kd.N_slice HO_5.out
    subst eo15
    go_wp2_with (first | ((with_reducible refine gate_callee (f := 100) rfl ?_); refine goesL_ (some 32) rfl rfl Tryd.func100 (by kernel_rfl) rfl #[.slice Ao15 x5_1.length co15] rfl (by (try simp only [List.map_toArray, List.map_cons, List.map_nil]); first | done | rfl | (simp only [List.length_drop, List.length_take]; rfl)) ?_; (with_reducible refine (spec_l3Lines.calls k1 _ _ x5_1 t542 _ ?side1 ?side2 A13.out).mono ?_); (case side1 => repeat (first | exact (Kd.N_reads' HO_5.out).2.2 | (with_reducible refine Kd.C_alloc ?_ _) | (with_reducible refine Kd.C_drewN ?_ _) | (with_reducible refine Kd.C_drew ?_))); (case side2 => exact (Kd.N_reads' HO_5.out).2.1); rintro e w16 ⟨v543, rfl, ho0, hb⟩; refine ⟨_, rfl, ?_⟩; have n0_ := Aside0.mk (Kd.N_elder' (by (with_reducible repeat (first | apply Kd.N_alloc | apply Kd.N_drewN | apply Kd.N_drew)); exact HO_5.out) (Kd.N_base (Kd.R_N (Kd.R_bound ho0))) hb); have n1_ := Aside0.mk (Kd.V_elder' (by (with_reducible repeat (first | apply Kd.V_alloc | apply Kd.V_drewN | apply Kd.V_drew)); exact HO_534002.out) (Kd.N_base (Kd.R_N (Kd.R_bound ho0))) hb); have n2_ := Aside0.mk (Kd.N_lower (Kd.N_mono (ok' := fun k_ => (P0_2_ k_ ∨ w.heap.size ≤ k_) ∧ some k_ ≠ (.slice Ao15 x5_1.length co15 : Value).ownBlock ∧ k_ ≠ gb533) (Kd.R_N (Kd.R_bound ho0)) (fun k_ hk_ => ⟨(.inr (Nat.le_trans (below_size (by repeat (first | (with_reducible first | exact HB.out | apply below_alloc | apply pw_below_drewN | apply below_drew1 | refine below_set ?_ GE533.out) | exact HB.out))) hk_.2.1)), (Kd.fresh' (Kd.N_lt (by (with_reducible repeat (first | apply Kd.N_alloc | apply Kd.N_drewN | apply Kd.N_drew)); exact HO_5.out)) k_ hk_.2.1), (Kd.freshB (g := gb533) (o := .cells #[.string a0_0, .string a0_1, .slice A0_2 l0_2.length c0_2] 62 (0, 0)) (by (with_reducible repeat (first | refine blk_drewN ?_ _ | refine blk_drew ?_ | refine blk_alloc ?_ _)); exact BK533.out) k_ hk_.2.1)⟩)) (below_size (by repeat (first | (with_reducible first | exact HB.out | apply below_alloc | apply pw_below_drewN | apply below_drew1 | refine below_set ?_ GE533.out) | exact HB.out)))); have n3_ := Aside0.mk (blk_below (g := gb533) (o := .cells #[.string a0_0, .string a0_1, .slice A0_2 l0_2.length c0_2] 62 (0, 0)) (by (with_reducible repeat (first | refine blk_drewN ?_ _ | refine blk_drew ?_ | refine blk_alloc ?_ _)); exact BK533.out) hb); have n4_ := Aside0.mk (below_step (by repeat (first | (with_reducible first | exact HB.out | apply below_alloc | apply pw_below_drewN | apply below_drew1 | refine below_set ?_ GE533.out) | exact HB.out)) hb); clear HO_5; clear HO_534002; clear BK533; clear HB; have HO_5 := n0_; have HO_534002 := n1_; have HO544 := n2_; have BK533 := n3_; have HB := n4_; clear n0_ n1_ n2_ n3_ n4_; (try clear hb); (try clear hb2); (try clear hk); (try clear hi); (try clear ho0)))
    go_ret
    exact ⟨_, by first | rfl | (simp [errW_none, errW_some] <;> rfl) | (simp [*, errW_none, errW_some] <;> rfl), by (with_reducible repeat (first | apply Kd.N_alloc | apply Kd.N_drewN | apply Kd.N_drew)); exact Kd.N_mono HO544.out (fun _ hk => hk.1), by repeat (first | (with_reducible first | exact HB.out | apply below_alloc | apply pw_below_drewN | apply below_drew1 | refine below_set ?_ GE533.out) | exact HB.out)⟩
end Go.Proofs.YtmcdnpooclelgaaDoor.PAll

namespace Go.Proofs.YtmcdnpooclelgaaDoor.PAll
open Go.RowKit Go.Proofs.YtmcdnpooclelgaaDoorW.PrintWords Go.Proofs.YtmcdnpooclelgaaDoorW.PrintLast Go.Proofs.YtmcdnpooclelgaaDoorW.PrintMore
attribute [local go_sem] max2_int min2_int max_two min_two max_three min_three max_four min_four   -- for this text's walks alone
set_option linter.unusedVariables false
set_option linter.unusedSimpArgs false
def spec_l3Find.l0 : Nat → ByteArray → ByteArray → Int → List (S62) → Option (Int)
 | 0, _, _, _, _ => none
 | k + 1, x1, x2, x7, x517000 => if x7 < (x517000.length : Int) then (if 0 ≤ x7 then (if ((rd_T62 x517000 x7).f0).toList = x1.toList then (if ((rd_T62 x517000 x7).f1).toList = x2.toList then (some x7) else (spec_l3Find.l0 k x1 x2 (wrap64 (x7 + 1)) x517000)) else (spec_l3Find.l0 k x1 x2 (wrap64 (x7 + 1)) x517000)) else (none)) else (some (-1))
def spec_l3Find.f (k : Nat) (l0_0 : List (S62)) (a1 : ByteArray) (a2 : ByteArray) : Option (Int) := spec_l3Find.l0 k a1 a2 0 l0_0
set_option maxHeartbeats 8000000 in
set_option maxRecDepth 100000 in
theorem spec_l3Find.calls (k : Nat) (A0_0 : Option Addr) (c0_0 : Nat) (l0_0 : List (S62)) (a1 : ByteArray) (a2 : ByteArray) (r : Int) (w : World) (hr0_0 : Kd.C k62 w A0_0 l0_0.length l0_0) (hc0_0 : l0_0.length ≤ c0_0) (h : spec_l3Find.f k l0_0 a1 a2 = some r) :
  Calls Tryd.prog 83 #[.agg #[.slice A0_0 l0_0.length c0_0], .string a1, .string a2] w fun e w' => e = .returned (.int .i64 r) ∧ Below w.heap.size w w' := by
 have hu47 := Tryd.underlying47
 have HR0_0 := Aside0.mk hr0_0
 have HC0_0 := Aside0.mk hc0_0
 clear hr0_0 hc0_0
 have HB := Aside0.mk (Below.refl w.heap.size w)
 have H : (spec_l3Find.l0 k a1 a2 0 l0_0) = some r := h
 clear h
 have H' := Aside0.mk H
 clear H
 go_enter Tryd.func83, Tryd.ntmps83
 go_wp2_with (first | ((with_reducible refine gate_dst (N := 3) rfl ?_); refine box_event ?hg (N := 3) ?hd (cs := #[.slice A0_0 l0_0.length c0_0]) (t := 47) ?hr ?_; (case hd => rfl); (case hg => rfl); (case hr => first | (go_simp; done) | (go_simp; rfl)); intro gb516 hg w4 hbox hb; have n0_ := Aside0.mk (below_step (stB HB.out) hb); have n1_ := Aside0.mk (hbox); have n2_ := Aside0.mk ((by rw [hg]; exact (below_size (stB HB.out)) : w.heap.size ≤ gb516)); have n3_ := Aside0.mk ((by rw [hg]; exact (below_size (stB HB.out)) : w.heap.size ≤ gb516)); clear HB; have HB := n0_; have BK516 := n1_; have GW516 := n2_; have GE516 := n3_; clear n0_ n1_ n2_ n3_; clear hb hbox hg))
 go_loopg [7] k (fun kq v7 w' => ∃ (x7_1 : Int), v7 = .int .i64 x7_1 ∧ Aside0 (spec_l3Find.l0 kq a1 a2 x7_1 l0_0 = some r) ∧ Aside0 (kq ≤ k) ∧ Aside0 (w'.heap[gb516]? = some (.cells #[(.slice A0_0 l0_0.length c0_0)] 47 (0, 0))) ∧ Aside0 (Below w.heap.size w w'))
 case atStart => exact ⟨(0), (by first | rfl | (simp; done) | (simp [*]; done)), H', ⟨Nat.le_refl _⟩, ⟨by (with_reducible repeat (first | refine blk_drewN ?_ _ | refine blk_drew ?_ | refine blk_alloc ?_ _)); exact BK516.out⟩, ⟨by repeat (first | (with_reducible first | exact HB.out | apply below_alloc | apply pw_below_drewN | apply below_drew1 | refine below_set ?_ GE516.out) | exact HB.out)⟩⟩
 case round =>
  clear H'
  try clear p2
  obtain ⟨x7_1, rfl, HA, HK1, BK516, HB⟩ := hrel
  cases gk with
  | zero => exact absurd HA.out (by simp [spec_l3Find.l0])
  | succ k1 =>
   have H := HA.out
   clear HA
   simp only [spec_l3Find.l0] at H
   by_cases c5 : x7_1 < (l0_0.length : Int)
   ·rw [if_pos c5] at H
    have c5b0 : decide (x7_1 < (l0_0.length : Int)) = true := decide_eq_true c5
    clear c5
    by_cases c6 : 0 ≤ x7_1
    ·rw [if_pos c6] at H
     have c6b0 : decide (0 ≤ x7_1) = true := decide_eq_true c6
     clear c6
     by_cases c7 : ((rd_T62 l0_0 x7_1).f0).toList = a1.toList
     ·rw [if_pos c7] at H
      have c7b0 : (((rd_T62 l0_0 x7_1).f0).toList == a1.toList) = true := beq_iff_eq.mpr c7
      have c7b1 : (((rd_T62 l0_0 x7_1).f0).toList != a1.toList) = false := bne_eq_false_iff_eq.mpr c7
      clear c7
      by_cases c8 : ((rd_T62 l0_0 x7_1).f1).toList = a2.toList
      ·rw [if_pos c8] at H
       have c8b0 : (((rd_T62 l0_0 x7_1).f1).toList == a2.toList) = true := beq_iff_eq.mpr c8
       have c8b1 : (((rd_T62 l0_0 x7_1).f1).toList != a2.toList) = false := bne_eq_false_iff_eq.mpr c8
       clear c8
       obtain rfl := Option.some.inj H
       have hcz9_0 : wr.cell? ⟨gb516, 0, none⟩ = some (.slice A0_0 l0_0.length c0_0) := (blk_cell BK516.out 0).trans rfl
       have hfz9_0 := blk_frozen BK516.out 0
       have p517 : 0 ≤ (x7_1 : Int) := of_decide_eq_true (by first | (with_reducible assumption) | assumption)
       have q517 : x7_1 < (l0_0.length : Int) := of_decide_eq_true (by first | (with_reducible assumption) | assumption)
       obtain ⟨ad517, A517_2, c517_2, e517, hx517_0, hx517_1, hx517_2, hl517_2, hi517_2⟩ := at_T62 HR0_0.out x7_1 p517 q517
       cases e517
       (try replace hx517_0 := (HB.out.cell (World.block_lt_of_cell? w _ hx517_0)).trans hx517_0)
       (try replace hx517_1 := (HB.out.cell (World.block_lt_of_cell? w _ hx517_1)).trans hx517_1)
       (try replace hx517_2 := (HB.out.cell (World.block_lt_of_cell? w _ hx517_2)).trans hx517_2)
       have HR517_2 := Aside0.mk hi517_2
       have HC517_2 := Aside0.mk hl517_2
       clear hi517_2 hl517_2
       replace p517 := eq_true p517
       replace q517 := eq_true q517
       have p518 : 0 ≤ (x7_1 : Int) := of_decide_eq_true (by first | (with_reducible assumption) | assumption)
       have q518 : x7_1 < (l0_0.length : Int) := of_decide_eq_true (by first | (with_reducible assumption) | assumption)
       obtain ⟨ad518, A518_2, c518_2, e518, hx518_0, hx518_1, hx518_2, hl518_2, hi518_2⟩ := at_T62 HR0_0.out x7_1 p518 q518
       obtain rfl : ad517 = ad518 := (by injection e518)
       (try replace hx518_0 := (HB.out.cell (World.block_lt_of_cell? w _ hx518_0)).trans hx518_0)
       (try replace hx518_1 := (HB.out.cell (World.block_lt_of_cell? w _ hx518_1)).trans hx518_1)
       (try replace hx518_2 := (HB.out.cell (World.block_lt_of_cell? w _ hx518_2)).trans hx518_2)
       have HR518_2 := Aside0.mk hi518_2
       have HC518_2 := Aside0.mk hl518_2
       clear hi518_2 hl518_2
       replace p518 := eq_true p518
       replace q518 := eq_true q518
       have ea_ := Option.some.inj (hx517_2.symm.trans hx518_2)
       injection ea_ with ea_ en_ ec_
       subst ea_
       subst ec_
       clear en_
       go_wp2
       go_ret
       exact ⟨by first | rfl | (simp [errW_none, errW_some] <;> rfl) | (simp [*, errW_none, errW_some] <;> rfl), by repeat (first | (with_reducible first | exact HB.out | apply below_alloc | apply pw_below_drewN | apply below_drew1 | refine below_set ?_ GE516.out) | exact HB.out)⟩
      ·rw [if_neg c8] at H
       have c8b0 : (((rd_T62 l0_0 x7_1).f1).toList == a2.toList) = false := beq_eq_false_iff_ne.mpr c8
       have c8b1 : (((rd_T62 l0_0 x7_1).f1).toList != a2.toList) = true := bne_iff_ne.mpr c8
       have H' := Aside0.mk H
       clear H
       have hcz10_0 : wr.cell? ⟨gb516, 0, none⟩ = some (.slice A0_0 l0_0.length c0_0) := (blk_cell BK516.out 0).trans rfl
       have hfz10_0 := blk_frozen BK516.out 0
       have p517 : 0 ≤ (x7_1 : Int) := of_decide_eq_true (by first | (with_reducible assumption) | assumption)
       have q517 : x7_1 < (l0_0.length : Int) := of_decide_eq_true (by first | (with_reducible assumption) | assumption)
       obtain ⟨ad517, A517_2, c517_2, e517, hx517_0, hx517_1, hx517_2, hl517_2, hi517_2⟩ := at_T62 HR0_0.out x7_1 p517 q517
       cases e517
       (try replace hx517_0 := (HB.out.cell (World.block_lt_of_cell? w _ hx517_0)).trans hx517_0)
       (try replace hx517_1 := (HB.out.cell (World.block_lt_of_cell? w _ hx517_1)).trans hx517_1)
       (try replace hx517_2 := (HB.out.cell (World.block_lt_of_cell? w _ hx517_2)).trans hx517_2)
       have HR517_2 := Aside0.mk hi517_2
       have HC517_2 := Aside0.mk hl517_2
       clear hi517_2 hl517_2
       replace p517 := eq_true p517
       replace q517 := eq_true q517
       have p518 : 0 ≤ (x7_1 : Int) := of_decide_eq_true (by first | (with_reducible assumption) | assumption)
       have q518 : x7_1 < (l0_0.length : Int) := of_decide_eq_true (by first | (with_reducible assumption) | assumption)
       obtain ⟨ad518, A518_2, c518_2, e518, hx518_0, hx518_1, hx518_2, hl518_2, hi518_2⟩ := at_T62 HR0_0.out x7_1 p518 q518
       obtain rfl : ad517 = ad518 := (by injection e518)
       (try replace hx518_0 := (HB.out.cell (World.block_lt_of_cell? w _ hx518_0)).trans hx518_0)
       (try replace hx518_1 := (HB.out.cell (World.block_lt_of_cell? w _ hx518_1)).trans hx518_1)
       (try replace hx518_2 := (HB.out.cell (World.block_lt_of_cell? w _ hx518_2)).trans hx518_2)
       have HR518_2 := Aside0.mk hi518_2
       have HC518_2 := Aside0.mk hl518_2
       clear hi518_2 hl518_2
       replace p518 := eq_true p518
       replace q518 := eq_true q518
       have ea_ := Option.some.inj (hx517_2.symm.trans hx518_2)
       injection ea_ with ea_ en_ ec_
       subst ea_
       subst ec_
       clear en_
       go_wp2
       go_roundg k1
       case measure => have := HK1.out; omega
       case rel => exact ⟨(wrap64 (x7_1 + 1)), (by first | rfl | (simp; done) | (simp [*]; done)), H', ⟨by have := HK1.out; omega⟩, ⟨by (with_reducible repeat (first | refine blk_drewN ?_ _ | refine blk_drew ?_ | refine blk_alloc ?_ _)); exact BK516.out⟩, ⟨by repeat (first | (with_reducible first | exact HB.out | apply below_alloc | apply pw_below_drewN | apply below_drew1 | refine below_set ?_ GE516.out) | exact HB.out)⟩⟩
     ·rw [if_neg c7] at H
      have c7b0 : (((rd_T62 l0_0 x7_1).f0).toList == a1.toList) = false := beq_eq_false_iff_ne.mpr c7
      have c7b1 : (((rd_T62 l0_0 x7_1).f0).toList != a1.toList) = true := bne_iff_ne.mpr c7
      have H' := Aside0.mk H
      clear H
      have hcz11_0 : wr.cell? ⟨gb516, 0, none⟩ = some (.slice A0_0 l0_0.length c0_0) := (blk_cell BK516.out 0).trans rfl
      have hfz11_0 := blk_frozen BK516.out 0
      have p517 : 0 ≤ (x7_1 : Int) := of_decide_eq_true (by first | (with_reducible assumption) | assumption)
      have q517 : x7_1 < (l0_0.length : Int) := of_decide_eq_true (by first | (with_reducible assumption) | assumption)
      obtain ⟨ad517, A517_2, c517_2, e517, hx517_0, hx517_1, hx517_2, hl517_2, hi517_2⟩ := at_T62 HR0_0.out x7_1 p517 q517
      cases e517
      (try replace hx517_0 := (HB.out.cell (World.block_lt_of_cell? w _ hx517_0)).trans hx517_0)
      (try replace hx517_1 := (HB.out.cell (World.block_lt_of_cell? w _ hx517_1)).trans hx517_1)
      (try replace hx517_2 := (HB.out.cell (World.block_lt_of_cell? w _ hx517_2)).trans hx517_2)
      have HR517_2 := Aside0.mk hi517_2
      have HC517_2 := Aside0.mk hl517_2
      clear hi517_2 hl517_2
      replace p517 := eq_true p517
      replace q517 := eq_true q517
      go_wp2
      go_roundg k1
      case measure => have := HK1.out; omega
      case rel => exact ⟨(wrap64 (x7_1 + 1)), (by first | rfl | (simp; done) | (simp [*]; done)), H', ⟨by have := HK1.out; omega⟩, ⟨by (with_reducible repeat (first | refine blk_drewN ?_ _ | refine blk_drew ?_ | refine blk_alloc ?_ _)); exact BK516.out⟩, ⟨by repeat (first | (with_reducible first | exact HB.out | apply below_alloc | apply pw_below_drewN | apply below_drew1 | refine below_set ?_ GE516.out) | exact HB.out)⟩⟩
    ·rw [if_neg c6] at H
     exact absurd H (by simp)
   ·rw [if_neg c5] at H
    have c5b0 : decide (x7_1 < (l0_0.length : Int)) = false := decide_eq_false c5
    clear c5
    obtain rfl := Option.some.inj H
    have hcz12_0 : wr.cell? ⟨gb516, 0, none⟩ = some (.slice A0_0 l0_0.length c0_0) := (blk_cell BK516.out 0).trans rfl
    have hfz12_0 := blk_frozen BK516.out 0
    go_wp2
    go_ret
    exact ⟨by first | rfl | (simp [errW_none, errW_some] <;> rfl) | (simp [*, errW_none, errW_some] <;> rfl), by repeat (first | (with_reducible first | exact HB.out | apply below_alloc | apply pw_below_drewN | apply below_drew1 | refine below_set ?_ GE516.out) | exact HB.out)⟩
end Go.Proofs.YtmcdnpooclelgaaDoor.PAll

namespace Go.Proofs.YtmcdnpooclelgaaDoor.PAll
open Go.RowKit Go.Proofs.YtmcdnpooclelgaaDoorW.PrintWords
theorem specFind_l0 (kind name : ByteArray) (ys : List S62) (hn : ys.length ≤ 1048576) : ∀ (d i : Nat), i + d = ys.length → Ev (fun k => spec_l3Find.l0 k kind name i ys) (findB kind name (ys.drop i) i)
  | 0, i, h => Ev.unf (fun _ => some (-1)) (fun k => by simp only [spec_l3Find.l0]; rw [if_neg (by omega)]) (by rw [List.drop_eq_nil_of_le (by omega), findB]; exact Ev.now _)
  | d + 1, i, h => by
    have hi : i < ys.length := by omega
    have ih := specFind_l0 kind name ys hn d (i + 1) (by omega)
    rw [List.drop_eq_getElem_cons hi, findB]
    by_cases q : ys[i].f0 = kind
    · by_cases q2 : ys[i].f1 = name
      · rw [if_pos ⟨q, q2⟩]
        refine Ev.unf (fun _ => some (i : Int)) (fun k => ?_) (Ev.now _)
        simp only [spec_l3Find.l0]
        rw [if_pos (by omega), if_pos (by omega), rdBlock hi, if_pos (by rw [q]), if_pos (by rw [q2])]
      · rw [if_neg (fun e => q2 e.2)]
        refine Ev.unf (fun k => spec_l3Find.l0 k kind name ((i + 1 : Nat) : Int) ys) (fun k => ?_) ih
        simp only [spec_l3Find.l0]
        rw [if_pos (by omega), if_pos (by omega), rdBlock hi, if_pos (by rw [q]), if_neg (fun e => q2 (bytes_inj e)), inc (by omega)]
    · rw [if_neg (fun e => q e.1)]
      refine Ev.unf (fun k => spec_l3Find.l0 k kind name ((i + 1 : Nat) : Int) ys) (fun k => ?_) ih
      simp only [spec_l3Find.l0]
      rw [if_pos (by omega), if_pos (by omega), rdBlock hi, if_neg (fun e => q (bytes_inj e)), inc (by omega)]
theorem ev_l3Find (kind name : ByteArray) (ys : List S62) (hn : ys.length ≤ 1048576) : Ev (fun k => spec_l3Find.f k ys kind name) (findB kind name ys 0) := specFind_l0 kind name ys hn ys.length 0 (by omega)
theorem specLines_l0 (xs : List S83) (h : smallLs xs) : ∀ (d i : Nat) (acc : List S83), i + d = xs.length → acc.length ≤ i → Ev (fun k => spec_l3Lines.l0 k xs acc i) (acc ++ xs.drop i)
  | 0, i, acc, hd, ha => Ev.unf (fun _ => some acc) (fun k => by simp only [spec_l3Lines.l0]; rw [if_neg (by omega)]) (by rw [List.drop_eq_nil_of_le (by omega), List.append_nil]; exact Ev.now _)
  | d + 1, i, acc, hd, ha => by
    have hi : i < xs.length := by omega
    have hl := h.1
    have hs := h.2 _ (List.getElem_mem hi)
    have ih := specLines_l0 xs h d (i + 1) (acc ++ [xs[i]]) (by omega) (by simp; omega)
    rw [List.drop_eq_getElem_cons hi, show acc ++ xs[i] :: xs.drop (i + 1) = (acc ++ [xs[i]]) ++ xs.drop (i + 1) by simp]
    refine Ev.unf (fun k => spec_l3Lines.l0 k xs (acc ++ [xs[i]]) ((i + 1 : Nat) : Int)) (fun k => ?_) ih
    simp only [spec_l3Lines.l0, Option.bind_some, List.nil_append, List.length_nil]
    rw [if_pos (by omega), if_pos (by omega), rdLine hi, if_pos (by have := hs.2.1; omega), if_pos (by omega), inc (by omega)]
theorem ev_l3Lines (xs : List S83) (h : smallLs xs) : Ev (fun k => spec_l3Lines.f k xs) xs := specLines_l0 xs h xs.length 0 [] (by omega) (by simp)
theorem specOf_l0 (k0 n0 key : ByteArray) (xs : List S83) (h : smallLs xs) : ∀ (d i : Nat) (acc : List S83), i + d = xs.length → acc.length ≤ i → smallLs (acc ++ ofKey key (xs.drop i)) → Ev (fun k => spec_l5Of.l0 k key acc i k0 n0 xs) (acc ++ ofKey key (xs.drop i))
  | 0, i, acc, hd, ha, hs => by
    rw [List.drop_eq_nil_of_le (by omega), show ofKey key [] = [] from rfl, List.append_nil] at hs ⊢
    refine Ev.unf (fun k => (spec_l3Lines.f k acc).bind fun t => some t) (fun k => by simp only [spec_l5Of.l0]; rw [if_neg (by omega)]) ?_
    exact Ev.bind (ev_l3Lines acc hs) (Ev.now _)
  | d + 1, i, acc, hd, ha, hs => by
    have hi : i < xs.length := by omega
    have hl := h.1
    rw [List.drop_eq_getElem_cons hi] at hs ⊢
    by_cases q : xs[i].f0 = key
    · have e : acc ++ ofKey key (xs[i] :: xs.drop (i + 1)) = (acc ++ [xs[i]]) ++ ofKey key (xs.drop (i + 1)) := by unfold ofKey; rw [List.filter_cons_of_pos (by simpa using q)]; simp
      rw [e] at hs ⊢
      have ih := specOf_l0 k0 n0 key xs h d (i + 1) (acc ++ [xs[i]]) (by omega) (by simp; omega) hs
      refine Ev.unf (fun k => spec_l5Of.l0 k key (acc ++ [xs[i]]) ((i + 1 : Nat) : Int) k0 n0 xs) (fun k => ?_) ih
      simp only [spec_l5Of.l0]
      rw [if_pos (by omega), if_pos (by omega), rdLine hi, if_pos (by rw [q]), if_pos (by omega), inc (by omega)]
    · have e : acc ++ ofKey key (xs[i] :: xs.drop (i + 1)) = acc ++ ofKey key (xs.drop (i + 1)) := by unfold ofKey; rw [List.filter_cons_of_neg (by simpa using q)]
      rw [e] at hs ⊢
      have ih := specOf_l0 k0 n0 key xs h d (i + 1) acc (by omega) (by omega) hs
      refine Ev.unf (fun k => spec_l5Of.l0 k key acc ((i + 1 : Nat) : Int) k0 n0 xs) (fun k => ?_) ih
      simp only [spec_l5Of.l0]
      rw [if_pos (by omega), if_pos (by omega), rdLine hi, if_neg (fun e => q (bytes_inj e)), inc (by omega)]
theorem ev_l5Of (k0 n0 key : ByteArray) (xs : List S83) (h : smallLs xs) : Ev (fun k => spec_l5Of.f k k0 n0 xs key) (ofKey key xs) :=
  specOf_l0 k0 n0 key xs h xs.length 0 [] (by omega) (by simp) (ofKey_small h)
theorem rdRuleAt {ls : List S36} {i : Nat} {r : S36} (h : ls[i]? = some r) : rd_T36 ls (i : Int) = r := by unfold rd_T36; rw [List.getD_eq_getElem?_getD, Int.toNat_natCast, h]; rfl
theorem rules_words (kind : ByteArray) : ∀ r ∈ rulesL kind, ∀ s ∈ r.f3, s.size ≤ 1048576 := by
  have h1 : rules_team.all (fun r => r.f3.all fun s => decide (s.size ≤ 1048576)) = true := by decide
  have h2 : rules_berth.all (fun r => r.f3.all fun s => decide (s.size ≤ 1048576)) = true := by decide
  have h3 : rules_service.all (fun r => r.f3.all fun s => decide (s.size ≤ 1048576)) = true := by decide
  intro r hr s hs
  unfold rulesL at hr
  split at hr
  · exact of_decide_eq_true (List.all_eq_true.1 (List.all_eq_true.1 h1 r hr) s hs)
  · split at hr
    · exact of_decide_eq_true (List.all_eq_true.1 (List.all_eq_true.1 h2 r hr) s hs)
    · split at hr
      · exact of_decide_eq_true (List.all_eq_true.1 (List.all_eq_true.1 h3 r hr) s hs)
      · cases hr
theorem defL_words (kind key : ByteArray) : ∀ s ∈ defL kind key, s.size ≤ 1048576 := by
  intro s hs
  unfold defL at hs
  split at hs
  · cases hs
  · rename_i r k h
    obtain ⟨_, _, _, h4⟩ := lookFrom_mem key _ _ _ _ h
    exact rules_words kind r (List.mem_of_getElem? h4) s hs
theorem getP_small (bs : List S62) (kind name key : ByteArray) (hs : smallBs bs) (hk : key.size ≤ 1048576) : smallLs (getP bs kind name key).1 := by
  have h0 : smallLs [] := ⟨Nat.zero_le _, fun l hl => by cases hl⟩
  unfold getP
  split
  · exact h0
  · split
    · exact h0
    · split
      · rename_i h1 h2 h3
        rcases findB_in kind name bs 0 with hf | ⟨n, hf, hn⟩
        · omega
        · have hfn : findB kind name bs 0 = (n : Int) := by rw [hf]; omega
          rw [hfn, rdBlock hn]
          simp only
          unfold getH
          split
          · refine ⟨by simp, fun l hl => ?_⟩
            obtain rfl := List.mem_singleton.1 hl
            exact ⟨hk, by have := defL_small kind key; simp only; omega, fun s hsd => defL_words kind key s hsd⟩
          · exact ofKey_small (hs.2 _ (List.getElem_mem hn)).2.2
      · exact h0
end Go.Proofs.YtmcdnpooclelgaaDoor.PAll

namespace Go.Proofs.YtmcdnpooclelgaaDoor.PAll
open Go.RowKit Go.Proofs.YtmcdnpooclelgaaDoorW.PrintWords
theorem heapLine : Kd.Heap k83 := Kd.heap_iso _ (Kd.heap_pair Kd.heap_string (Kd.heap_slice _ Kd.heap_string))
theorem C_nil {α : Type} (d : Kd α) (w : World) (A : Option Addr) : d.C w A 0 [] := ⟨rfl, by omega, fun hp => absurd hp (by omega)⟩
def LinesV (w : World) (v : Value) (ls : List S83) : Prop := ∃ R d, v = .slice R ls.length d ∧ Kd.C k83 w R ls.length ls
set_option maxRecDepth 100000 in
set_option maxHeartbeats 4000000 in
theorem specGet_any (A : Option Addr) (c : Nat) (bs : List S62) (kind name key : ByteArray) (w : World) (hr : Kd.C k62 w A bs.length bs) (hc : bs.length ≤ c) (hs : smallBs bs) :
    Calls Tryd.prog 33 #[.agg #[.slice A bs.length c], .string kind, .string name, .string key] w fun e w' => ∃ v, e = .returned (.tuple #[v, .bool (getP bs kind name key).2]) ∧ LinesV w' v (getP bs kind name key).1 ∧ Below w.heap.size w w' := by
  obtain ⟨K1, hk1⟩ := (ev_l3Find kind name bs hs.1).rounds
  obtain ⟨K2, hk2⟩ := (ev_l2Rule kind key).rounds
  obtain ⟨K3, hk3⟩ := (ev_specValid bs (fits_small bs hs)).rounds
  have HF := Aside0.mk (fun w hC => spec_l3Find.calls K1 A c bs kind name (findB kind name bs 0) w hC hc hk1)
  have HU := Aside0.mk (fun w => spec_l2Rule.calls K2 kind key (placeL kind key) w hk2)
  have HV := Aside0.mk (fun w hC => spec_SheetValid.calls K3 A c bs (sheetOk bs) w hC hc hk3)
  have HR := Aside0.mk hr
  have HS := Aside0.mk hs
  have hgp : getP bs kind name key = if findB kind name bs 0 < 0 then ([], false) else if placeL kind key < 0 then ([], false) else if sheetOk bs = true then (getH kind key (rd_T62 bs (findB kind name bs 0)).f2, true) else ([], false) := rfl
  have hfi := findB_in kind name bs 0
  have hpl := placeL_le kind key
  have hlk := look_some kind key
  clear hk1 hk2 hk3 hr hs
  generalize getP bs kind name key = gp at *
  generalize findB kind name bs 0 = fb at *
  generalize hplk : placeL kind key = pl at *
  generalize sheetOk bs = so at *
  have HLK := Aside0.mk hlk
  have HGP := Aside0.mk hgp
  have HFI := Aside0.mk hfi
  have hfr : -1 ≤ fb ∧ fb < 1048577 := by
    have := HS.out.1
    rcases hfi with h | ⟨n, h, hn⟩ <;> omega
  clear hlk hfi hgp hplk
  have hbad : (so = false ∨ fb < 0 ∨ pl < 0) → gp = ([], false) := fun h => by
    rw [HGP.out]
    rcases h with h | h | h
    · rw [h]; simp only [Bool.false_eq_true, if_false, ite_self]
    · rw [if_pos h]
    · rw [if_pos h, ite_self]
  have HB0 := Aside0.mk hbad
  clear hbad
  go_enter Tryd.func33, Tryd.ntmps33
  go_wp2_with fail
  refine (HF.out _ (Kd.C_below HR.out ((Below.refl _ _).alloc (Nat.le_refl _) _))).mono ?_
  rintro e w1 ⟨rfl, hb1⟩
  have B1 := Aside0.mk (below_step ((Below.refl w.heap.size w).alloc (Nat.le_refl _) _) hb1)
  have x1 : w1.cell? ⟨w.heap.size, 0, none⟩ = some (.slice A bs.length c) := pw_cell_below hb1 (by go_simp)
  clear hb1
  go_wp2_with fail
  refine (HU.out w1).mono ?_
  rintro e w2 ⟨rfl, hb2⟩
  have B2 := Aside0.mk (B1.out.trans (hb2.mono B1.out.size))
  have x2 := pw_cell_below hb2 x1
  clear hb2 x1
  go_wp2_with fail
  refine (HV.out w2 (Kd.C_below HR.out B2.out)).mono ?_
  rintro e w3 ⟨rfl, hb3⟩
  have B3 := Aside0.mk (B2.out.trans (hb3.mono B2.out.size))
  have x3 := pw_cell_below hb3 x2
  clear hb3 x2 B1 B2 HF HU HV
  cases so with
  | false =>
    obtain rfl := HB0.out (.inl rfl)
    go_wp2
    go_ret2
    exact ⟨_, rfl, ⟨_, _, rfl, C_nil _ _ _⟩, B3.out.alloc B3.out.size _⟩
  | true =>
    by_cases h1 : fb < 0
    · obtain rfl := HB0.out (.inr (.inl h1))
      go_wp2
      go_ret2
      exact ⟨_, rfl, ⟨_, _, rfl, C_nil _ _ _⟩, B3.out.alloc B3.out.size _⟩
    by_cases h2 : pl < 0
    · obtain rfl := HB0.out (.inr (.inr h2))
      go_wp2
      go_ret2
      exact ⟨_, rfl, ⟨_, _, rfl, C_nil _ _ _⟩, B3.out.alloc B3.out.size _⟩
    obtain ⟨n, hfn, hn⟩ : ∃ n : Nat, fb = (n : Int) ∧ n < bs.length := by
      rcases HFI.out with h | ⟨n, h, hn⟩
      · omega
      · exact ⟨n, by omega, hn⟩
    subst hfn
    obtain ⟨r, q, l1, l2, l3, l4⟩ := HLK.out (by omega)
    subst l4
    have hq := (List.getElem?_eq_some_iff.1 l2).1
    have hrl := rulesL_len kind
    obtain ⟨ad, A1, c3, rfl, hx0, hx1, hx2, hl1, hC1⟩ := block_at (Kd.C_below HR.out B3.out) n bs[n] (List.getElem?_eq_getElem hn)
    have hsb := (HS.out.2 _ (List.getElem_mem hn)).2.2
    have hg2 : gp = (getH kind key bs[n].f2, true) := by rw [HGP.out, if_neg h1, if_neg h2, if_pos rfl, rdBlock hn]
    have hn63 : bs.length ≤ 1048576 := HS.out.1
    generalize bs[n] = bb at *
    obtain ⟨kk, nn, ls⟩ := bb
    simp only at *
    obtain ⟨K4, hk4⟩ := (ev_l5Of kk nn key ls hsb).rounds
    have HL := Aside0.mk (fun w A c hV => spec_l5Of.calls K4 kk nn (fun k => k < w.heap.size) A c ls key (ofKey key ls) w hV hk4)
    have HC1 := Aside0.mk hC1
    have HG2 := Aside0.mk hg2
    have L2 := Aside0.mk l2
    have hmany : manyL kind key = r.f2 := by unfold manyL; rw [l1]
    have hdef : defL kind key = r.f3 := by unfold defL; rw [l1]
    have hok := ofKey_small (key := key) hsb
    have hds := defL_small kind key
    rw [hdef] at hds
    have HGH : Aside0 (getH kind key ls = if (decide (((ofKey key ls).length : Int) = 0) && !r.f2) = true then [⟨key, r.f3⟩] else ofKey key ls) := ⟨by unfold getH; rw [hmany, hdef]⟩
    generalize ofKey key ls = ok at *
    generalize getH kind key ls = gh at *
    have hokl := hok.1
    clear hk4 hC1 hg2 l2 l1 l3 hmany hdef hok HLK HGP HFI HB0 hsb
    go_wp2_with fail
    refine (HL.out w3 A1 c3 ⟨A1, c3, rfl, hl1, Kd.C_F heapLine HC1.out⟩).mono ?_
    rintro e w4 ⟨v4, rfl, hN4, hb4⟩
    obtain ⟨A4, d4, rfl, hl4, hC4⟩ := Kd.N_reads hN4
    have B4 := Aside0.mk (B3.out.trans (hb4.mono B3.out.size))
    have HC4 := Aside0.mk hC4
    clear hb4 hN4 hC4 hx0 hx1 hx2 x3 HL HC1
    go_wp2_with fail
    refine (specRules_any kind w4).mono ?_
    rintro e w5 ⟨v5, rfl, hR5, hb5⟩
    obtain ⟨A5, d5, rfl⟩ := Kd.R_slice hR5
    obtain ⟨a5, A6, c6, A7, c7, rfl, hy0, hy1, hy2, hy3, _, _, hl7, hC7⟩ := at_T36 (Kd.R_reads' hR5).2.2 (q : Int) (by omega) (by omega)
    rw [rdRuleAt L2.out] at hy0 hy1 hy2 hy3 hl7 hC7
    rw [Int.toNat_natCast] at hy0 hy1 hy2 hy3
    have B5 := Aside0.mk (B4.out.trans (hb5.mono B4.out.size))
    have HC5 := Aside0.mk (Kd.C_below HC4.out hb5)
    have HC7 := Aside0.mk hC7
    clear hb5 HC4 hR5 hC7 L2
    obtain ⟨r0, r1, r2, r3⟩ := r
    simp only at *
    by_cases hz : ((ok.length : Nat) : Int) = 0
    · cases r2 with
      | true =>
        have HG : gh = ok := by rw [HGH.out]; simp
        go_wp2
        go_ret2
        rw [HG2.out, HG]
        exact ⟨_, rfl, ⟨_, _, rfl, Kd.C_below HC5.out ((Below.refl _ _).alloc (Nat.le_refl _) _)⟩, B5.out.alloc B5.out.size _⟩
      | false =>
        have HG : gh = [⟨key, r3⟩] := by rw [HGH.out, if_pos (by simp [hz])]
        have a6 : Below w5.heap.size w5 ((w5.alloc (.cells #[.string r0, .slice A6 r1.length c6, .bool false, .slice A7 r3.length c7] 36)).alloc (.cells #[] 9)) := ((Below.refl _ _).alloc (Nat.le_refl _) _).alloc (by simp) _
        have hown := (strs_ER.1 (ones_lit Value.string (fun _ => rfl) 9 (w5.alloc (.cells #[.string r0, .slice A6 r1.length c6, .bool false, .slice A7 r3.length c7] 36)) w5.heap.size [] (by simp) (by simp))).1
        have hsz : (w5.alloc (.cells #[.string r0, .slice A6 r1.length c6, .bool false, .slice A7 r3.length c7] 36)).heap.size = w5.heap.size + 1 := by simp
        rw [hsz] at hown
        obtain ⟨_, hA0, hnl, hcells, hone⟩ := strs_src (Kd.C_below HC7.out a6)
        go_wp2_with ((with_reducible refine gate_dst (N := 57) rfl ?_); apply ap_src (P := Tryd.prog) (w0 := w5) (base := w5.heap.size) (s := .tmp 54) (x := .tmp 56) (t := 27) (e := 9) (z := .string ⟨#[]⟩) (size := 1) (bytes := 16) (v := .slice (some ⟨w5.heap.size + 1, 0, none⟩) 0 0) (n := 0) (xs := []) (A := A7) (m := r3.length) (c := c7) (news := r3.map Value.string); (case hgd => rfl); (case ho => rfl); (case ht => exact Tryd.underlying27); (case hinfo => exact infoStr); (case hz => rfl); (case hs0 => decide); (case hb0 => decide); (case hs => first | rfl | (go_simp; done)); (case hx => first | rfl | (go_simp; done)); (case hA => exact hA0); (case hn => exact hnl); (case hnews => exact hcells); (case h1 => exact hone); (case HO => exact hown); (case HB => exact a6); (case hbase => exact a6.size); (case hl => omega); intro v1 w7 ho1 hb1 hg1 hat1; obtain ⟨B1, d1, rfl⟩ := own_shapeN ho1; rw [Nat.zero_add] at ho1; rw [Nat.zero_add]; have HO1 := Aside0.mk (strs_made ho1 rfl); have HB7 := Aside0.mk hb1; clear ho1 hb1 hg1 hat1)
        have B7 := Aside0.mk (B5.out.trans (HB7.out.mono B5.out.size))
        have E7 : Aside0 (Els lineS w7 w5.heap.size [[.string key, .slice B1 r3.length d1]] [⟨key, r3⟩] _) := ⟨⟨_, [], (List.append_nil _).symm, line_ow HO1.out, rfl, by simp⟩⟩
        go_ret2
        rw [HG2.out, HG]
        refine ⟨_, rfl, ?_, B7.out.alloc B7.out.size _⟩
        obtain ⟨A', c', hv, _, hC⟩ := linesS.ord (Sh.row_lit' (e := 83) E7.out HB7.out.size (by simp) (by rfl) (by rfl) (by rfl) (by rfl))
        injection hv with hv _
        exact ⟨_, _, hv, hC⟩
    · have HG : gh = ok := by rw [HGH.out, if_neg (by simp only [Bool.and_eq_true, decide_eq_true_eq]; intro h; exact hz h.1)]
      have hz2 : ¬ ok = [] := fun e => hz (by rw [e]; rfl)
      go_wp2
      go_ret2
      rw [HG2.out, HG]
      exact ⟨_, rfl, ⟨_, _, rfl, Kd.C_below HC5.out ((Below.refl _ _).alloc (Nat.le_refl _) _)⟩, B5.out.alloc B5.out.size _⟩
end Go.Proofs.YtmcdnpooclelgaaDoor.PAll

namespace Go.Proofs.YtmcdnpooclelgaaDoor.PAll
open Go.RowKit Go.Proofs.YtmcdnpooclelgaaDoorW.PrintWords
theorem szL_tot (xs : List ByteArray) (left : Int) (h : 0 ≤ szL xs left) : szL xs left + (xs.length : Int) ≤ left ∧ ∀ s ∈ xs, (s.size : Int) ≤ left := by
  unfold szL at h ⊢
  split at h
  · omega
  · rename_i q
    rw [if_neg q]
    obtain ⟨h1, h2⟩ := szS_le _ _ h
    exact ⟨by omega, fun s hs => by have := h2 s hs; omega⟩
theorem szLine_t (l : S155) (left : Int) (hb : LB l) (h0 : 0 ≤ left) (h9 : left ≤ 1048576) :
    ∃ r : Int, Ev (fun k => laws_szSheetLine.f k l.f0 l.f1 left) r ∧ (0 ≤ r → r + (l.f1.length : Int) ≤ left ∧ LF l) := by
  have e : wrap64 (left - (l.f0.size : Int)) = left - l.f0.size := by have := hb.1; exact w64 (by omega) (by omega)
  unfold laws_szSheetLine.f
  simp only [e]
  by_cases q : left - (l.f0.size : Int) < 0
  · simp only [if_pos q]
    exact ⟨-1, Ev.now _, fun h => by omega⟩
  · simp only [if_neg q]
    have hr := ev_szStringS l.f1 (left - l.f0.size) hb.2.1 hb.2.2 (by omega) (by omega)
    have hle := szL_tot l.f1 (left - l.f0.size)
    generalize szL l.f1 (left - (l.f0.size : Int)) = r at *
    by_cases q2 : r < 0
    · exact ⟨-1, Ev.bind hr (by simp only [if_pos q2]; exact Ev.now _), fun h => by omega⟩
    · obtain ⟨a1, a3⟩ := hle (by omega)
      exact ⟨r, Ev.bind hr (by simp only [if_neg q2]; exact Ev.now _), fun _ => ⟨by omega, by omega, by omega, fun s hs => by have := a3 s hs; omega⟩⟩
def lenL (l : S155) : Nat := l.f1.length
def lenB (b : S128) : Nat := b.f2.length + cntAll lenL b.f2
theorem szLines_l0t (ls : List S155) (hb : LBs ls) : ∀ (d i : Nat) (left : Int), i + d = ls.length → 0 ≤ left → left ≤ 1048576 →
    ∃ r : Int, Ev (fun k => laws_szSheetLineS.l0 k ls left i) r ∧ (0 ≤ r → r + (cntAll lenL (ls.drop i) : Int) ≤ left ∧ ∀ l ∈ ls.drop i, LF l)
  | 0, i, left, h, h0, h9 => ⟨left, Ev.unf (fun _ => some left) (fun k => by simp only [laws_szSheetLineS.l0]; rw [if_neg (by omega)]) (Ev.now _), fun _ => by rw [List.drop_eq_nil_of_le (by omega)]; simp [cntAll]⟩
  | d + 1, i, left, h, h0, h9 => by
    have hi : i < ls.length := by omega
    have hn := hb.1
    obtain ⟨r, hr, hle⟩ := szLine_t ls[i] left (hb.2 _ (List.getElem_mem hi)) h0 h9
    have st : ∀ R : Int, Ev (fun k => if r < 0 then some (-1) else laws_szSheetLineS.l0 k ls r ((i + 1 : Nat) : Int)) R → Ev (fun k => laws_szSheetLineS.l0 k ls left i) R := fun R hR => by
      refine Ev.unf (fun k => (laws_szSheetLine.f k ls[i].f0 ls[i].f1 left).bind fun t => if t < 0 then some (-1) else laws_szSheetLineS.l0 k ls t ((i + 1 : Nat) : Int)) (fun k => ?_) (Ev.bind hr hR)
      simp only [laws_szSheetLineS.l0]
      rw [if_pos (by omega), if_pos (by omega), rdLl hi, inc (by omega)]
    by_cases q : r < 0
    · exact ⟨-1, st _ (by simp only [if_pos q]; exact Ev.now _), fun h => by omega⟩
    · obtain ⟨a1, a2⟩ := hle (by omega)
      obtain ⟨R, hR, hRle⟩ := szLines_l0t ls hb d (i + 1) r (by omega) (by omega) (by omega)
      refine ⟨R, st _ (by simp only [if_neg q]; exact hR), fun h => ?_⟩
      obtain ⟨b1, b2⟩ := hRle h
      rw [List.drop_eq_getElem_cons hi]
      refine ⟨by simp only [cntAll, lenL] at *; omega, fun l hl => ?_⟩
      rcases List.mem_cons.1 hl with rfl | hl
      · exact a2
      · exact b2 l hl
theorem szBlock_t (b : S128) (left : Int) (hb : KB b) (h0 : 0 ≤ left) (h9 : left ≤ 1048576) :
    ∃ r : Int, Ev (fun k => laws_szSheetBlock.f k b.f0 b.f1 b.f2 left) r ∧ (0 ≤ r → r + (lenB b : Int) ≤ left ∧ KF b) := by
  have e1 : wrap64 (left - (b.f0.size : Int)) = left - b.f0.size := by have := hb.1; exact w64 (by omega) (by omega)
  have lines : ∀ left : Int, 0 ≤ left → left ≤ 1048576 → ∃ r : Int, Ev (fun k => laws_szSheetLineS.f k b.f2 left) r ∧ (0 ≤ r → r + (lenB b : Int) ≤ left ∧ LFs b.f2) := fun left h0 h9 => by
    have hn := hb.2.2.1
    have e : wrap64 (left - (b.f2.length : Int)) = left - b.f2.length := w64 (by omega) (by omega)
    unfold laws_szSheetLineS.f
    simp only [e]
    by_cases q : left - (b.f2.length : Int) < 0
    · simp only [if_pos q]; exact ⟨-1, Ev.now _, fun h => by omega⟩
    · simp only [if_neg q]
      obtain ⟨R, hR, hle⟩ := szLines_l0t b.f2 hb.2.2 b.f2.length 0 (left - b.f2.length) (by omega) (by omega) (by omega)
      refine ⟨R, hR, fun h => ?_⟩
      obtain ⟨h1, h2⟩ := hle h
      rw [List.drop_zero] at h1 h2
      exact ⟨by unfold lenB; omega, by omega, h2⟩
  unfold laws_szSheetBlock.f
  simp only [e1]
  by_cases q : left - (b.f0.size : Int) < 0
  · simp only [if_pos q]
    exact ⟨-1, Ev.now _, fun h => by omega⟩
  · simp only [if_neg q]
    have e2 : wrap64 (left - (b.f0.size : Int) - (b.f1.size : Int)) = left - b.f0.size - b.f1.size := by have := hb.2.1; exact w64 (by omega) (by omega)
    simp only [e2]
    by_cases q1 : left - (b.f0.size : Int) - (b.f1.size : Int) < 0
    · simp only [if_pos q1]
      exact ⟨-1, Ev.now _, fun h => by omega⟩
    · simp only [if_neg q1]
      obtain ⟨r, hr, hle⟩ := lines (left - b.f0.size - b.f1.size) (by omega) (by omega)
      by_cases q2 : r < 0
      · exact ⟨-1, Ev.bind hr (by simp only [if_pos q2]; exact Ev.now _), fun h => by omega⟩
      · obtain ⟨a1, a2⟩ := hle (by omega)
        exact ⟨r, Ev.bind hr (by simp only [if_neg q2]; exact Ev.now _), fun _ => ⟨by omega, by omega, by omega, a2⟩⟩
theorem szBlocks_l0t (bs : List S128) (hb : KBs bs) : ∀ (d i : Nat) (left : Int), i + d = bs.length → 0 ≤ left → left ≤ 1048576 →
    ∃ r : Int, Ev (fun k => laws_szSheetBlockS.l0 k bs left i) r ∧ (0 ≤ r → r + (cntAll lenB (bs.drop i) : Int) ≤ left ∧ ∀ b ∈ bs.drop i, KF b)
  | 0, i, left, h, h0, h9 => ⟨left, Ev.unf (fun _ => some left) (fun k => by simp only [laws_szSheetBlockS.l0]; rw [if_neg (by omega)]) (Ev.now _), fun _ => by rw [List.drop_eq_nil_of_le (by omega)]; simp [cntAll]⟩
  | d + 1, i, left, h, h0, h9 => by
    have hi : i < bs.length := by omega
    have hn := hb.1
    obtain ⟨r, hr, hle⟩ := szBlock_t bs[i] left (hb.2 _ (List.getElem_mem hi)) h0 h9
    have st : ∀ R : Int, Ev (fun k => if r < 0 then some (-1) else laws_szSheetBlockS.l0 k bs r ((i + 1 : Nat) : Int)) R → Ev (fun k => laws_szSheetBlockS.l0 k bs left i) R := fun R hR => by
      refine Ev.unf (fun k => (laws_szSheetBlock.f k bs[i].f0 bs[i].f1 bs[i].f2 left).bind fun t => if t < 0 then some (-1) else laws_szSheetBlockS.l0 k bs t ((i + 1 : Nat) : Int)) (fun k => ?_) (Ev.bind hr hR)
      simp only [laws_szSheetBlockS.l0]
      rw [if_pos (by omega), if_pos (by omega), rdBl hi, inc (by omega)]
    by_cases q : r < 0
    · exact ⟨-1, st _ (by simp only [if_pos q]; exact Ev.now _), fun h => by omega⟩
    · obtain ⟨a1, a2⟩ := hle (by omega)
      obtain ⟨R, hR, hRle⟩ := szBlocks_l0t bs hb d (i + 1) r (by omega) (by omega) (by omega)
      refine ⟨R, st _ (by simp only [if_neg q]; exact hR), fun h => ?_⟩
      obtain ⟨b1, b2⟩ := hRle h
      rw [List.drop_eq_getElem_cons hi]
      refine ⟨by simp only [cntAll]; omega, fun l hl => ?_⟩
      rcases List.mem_cons.1 hl with rfl | hl
      · exact a2
      · exact b2 l hl
theorem cnt_cvL : ∀ ls : List S155, cntAll cntLine (ls.map cvL) = ls.length + cntAll lenL ls
  | [] => rfl
  | l :: ls => by
    simp only [List.map_cons, cntAll, cnt_cvL ls, cntLine, cvL, lenL, List.length_cons]
    omega
theorem cnt_cvB : ∀ bs : List S128, cntAll cntBlock (cvBs bs) = 2 * bs.length + cntAll lenB bs
  | [] => rfl
  | b :: bs => by
    have ih := cnt_cvB bs
    unfold cvBs at ih ⊢
    simp only [List.map_cons, cntAll, ih, cntBlock, cvB, cnt_cvL, lenB, List.length_cons]
    omega
theorem szSheet_t (bs : List S128) (left : Int) (hb : KBs bs) (h0 : 0 ≤ left) (h9 : left ≤ 1048576) : ∃ r : Int, Ev (fun k => laws_szSheet.f k bs left) r ∧ (0 ≤ r → KFs bs ∧ cntAll cntBlock (cvBs bs) ≤ 2097152) := by
  have hn := hb.1
  have e : wrap64 (left - (bs.length : Int)) = left - bs.length := w64 (by omega) (by omega)
  have inner : ∃ r : Int, Ev (fun k => laws_szSheetBlockS.f k bs left) r ∧ (0 ≤ r → KFs bs ∧ cntAll cntBlock (cvBs bs) ≤ 2097152) := by
    unfold laws_szSheetBlockS.f
    simp only [e]
    by_cases q : left - (bs.length : Int) < 0
    · simp only [if_pos q]; exact ⟨-1, Ev.now _, fun h => by omega⟩
    · simp only [if_neg q]
      obtain ⟨R, hR, hle⟩ := szBlocks_l0t bs hb bs.length 0 (left - bs.length) (by omega) (by omega) (by omega)
      refine ⟨R, hR, fun h => ?_⟩
      obtain ⟨h1, h2⟩ := hle h
      rw [List.drop_zero] at h1 h2
      exact ⟨⟨by omega, h2⟩, by rw [cnt_cvB]; omega⟩
  obtain ⟨r, hr, hle⟩ := inner
  unfold laws_szSheet.f
  by_cases q2 : r < 0
  · exact ⟨-1, Ev.bind hr (by simp only [if_pos q2]; exact Ev.now _), fun h => by omega⟩
  · exact ⟨r, Ev.bind hr (by simp only [if_neg q2]; exact Ev.now _), fun h => hle h⟩
end Go.Proofs.YtmcdnpooclelgaaDoor.PAll

namespace Go.Proofs.YtmcdnpooclelgaaDoor.PAll
open Go.RowKit Go.Proofs.YtmcdnpooclelgaaDoorW.PrintWords
set_option maxRecDepth 100000 in
set_option maxHeartbeats 2000000 in
theorem heldLines_any (A : Option Addr) (c : Nat) (xs : List S83) (k : Int) (w : World) (hr : Kd.C k83 w A (markAll mkLine cntLine xs k).length (markAll mkLine cntLine xs k)) (hk : 0 ≤ k) (hk2 : k + cntAll cntLine xs ≤ 1099511627776) :
    Calls Tryd.prog 38 #[.slice A xs.length c, .int .i64 k] w fun e w' => e = .returned (.int .i64 (k + (cntAll cntLine xs : Int))) ∧ Below w.heap.size w w' := by
  have HR := Aside0.mk hr
  clear hr
  have hlen : xs.length ≤ 1099511627776 := by have := len_cnt cntLine cntLine_pos xs; omega
  go_enter Tryd.func38, Tryd.ntmps38
  go_wp2
  go_loopw [1, 5] (fun kv i wr => ∃ j : Nat, kv = .int .i64 (k + (cntAll cntLine (xs.take j) : Int)) ∧ i = .int .i64 j ∧ j ≤ xs.length ∧ Below w.heap.size w wr) (fun _ i _ => xs.length - (intOf i).toNat)
  case atStart => exact ⟨0, by simp [cntAll], rfl, Nat.zero_le _, Below.refl _ _⟩
  case round =>
    obtain ⟨j, rfl, rfl, hj, hB⟩ := hrel
    by_cases hlt : j < xs.length
    · have hct := cntAll_take cntLine xs j hlt
      have hle := cntAll_le cntLine xs (j + 1)
      have hget := markAll_get mkLine cntLine xs j k hlt
      obtain ⟨ad, A3, c3, rfl, hx0, hx1, hl3, hC3⟩ := line_at (Kd.C_below HR.out hB) j _ hget
      clear hget
      generalize xs[j] = x at *
      obtain ⟨s0, d0⟩ := x
      have HCT := Aside0.mk hct
      have hkk0 : 0 ≤ k + (cntAll cntLine (xs.take j) : Int) := by omega
      have hkk1 : k + (cntAll cntLine (xs.take j) : Int) + 1 + d0.length ≤ 1099511627776 := by
        have : cntLine ⟨s0, d0⟩ = 1 + d0.length := rfl
        omega
      clear hct hle
      generalize hkk : k + (cntAll cntLine (xs.take j) : Int) = kk at *
      have HKK := Aside0.mk hkk
      clear hkk
      simp only [mkLine] at hx0 hx1 hl3 hC3
      rw [marks_len] at hx1
      have N3 := Aside0.mk hl3
      have HC3 := Aside0.mk hC3
      clear hl3 hC3
      obtain ⟨t, ht⟩ : ∃ t, t = mtP kk := ⟨_, rfl⟩
      have Ht := Aside0.mk ht
      rw [← ht] at hx0
      clear ht
      go_wp2_with fail
      go_region_held3 (fun w' => w'.cell? (ad.add (j * 2)) = some (.string t)) (first | go_keep | exact (pw_cell_below hbl (by simpa using hx0))) (first | (go_at_call 57; refine (markText_any _ _ (by omega)).mono ?_; rw [← Ht.out]; rintro e w1 ⟨rfl, hbl⟩))
      all_goals
        have hbl0 := Aside0.mk ((below_drew (Below.refl wr.heap.size wr)).trans (hbl.mono (Nat.le_refl _)))
        have hB1 : Below w.heap.size w w1 := hB.trans (hbl0.out.mono hB.size)
        have hy1 := pw_cell_below hbl0.out hx1
        clear hx0 hx1 hbl hB
        go_wp2_with fail
        refine (heldStr_any A3 c3 d0.length (kk + 1) _ (Kd.C_below HC3.out hbl0.out) N3.out (by omega) (by omega)).mono ?_
        rintro e w3 ⟨rfl, hb3⟩
        have hB3 : Below w.heap.size w w3 := hB1.trans (hb3.mono hB1.size)
        have hkn : Aside0 (kk + 1 + (d0.length : Int) = k + (cntAll cntLine (xs.take (j + 1)) : Int)) := ⟨by rw [HCT.out, ← HKK.out]; show _ = k + ((_ + (1 + d0.length) : Nat) : Int); omega⟩
        go_wp2
        go_roundw
        case rel => exact ⟨j + 1, by rw [hkn.out], by go_num, hlt, hB3⟩
        case measure => simp [intOf]; omega
    · obtain rfl : j = xs.length := by omega
      have he : xs.take xs.length = xs := List.take_length
      rw [he]
      go_wp2
      go_ret
      exact ⟨rfl, hB⟩
set_option maxRecDepth 100000 in
set_option maxHeartbeats 2000000 in
theorem markSheet_any (A : Option Addr) (c : Nat) (xs : List S62) (F : List Nat) (b : Nat) (k : Int) (w : World) (ho : blocksS.ow w b [.slice A xs.length c] xs F) (hk : 0 ≤ k) (hk2 : k + cntAll cntBlock xs ≤ 1099511627776) :
    Calls Tryd.prog 36 #[.agg #[.slice A xs.length c], .int .i64 k] w fun e w' => e = .returned (.int .i64 (k + (cntAll cntBlock xs : Int))) ∧ Upd F w w' := by
  have HO := Aside0.mk ho
  clear ho
  go_enter Tryd.func36, Tryd.ntmps36
  go_wp2_with fail
  have a1 : Below w.heap.size w (w.alloc (.cells #[.slice A xs.length c] 47)) := (Below.refl _ _).alloc (Nat.le_refl _) _
  refine (markBlocks_any _ xs F b k _ (blocksS.obelow HO.out a1) hk hk2).mono ?_
  rintro e w1 ⟨rfl, _, hu⟩
  have U1 := Aside0.mk (upd_in (Upd.of_below a1 F) hu (fun _ hx => hx))
  clear hu a1
  go_wp2
  go_ret
  exact ⟨rfl, U1.out⟩
end Go.Proofs.YtmcdnpooclelgaaDoor.PAll

namespace Go.Proofs.YtmcdnpooclelgaaDoor
open Go.ChangeShapes Go.WideShapes Go.ChangeAt Go.RowKit
theorem deep_of_change {H : Type} {enc : TypeId × Value → H} {a : Assume} {C : Checked} {os : Os} {f : FuncId} {fn : Func} {s : ChangeSpec} {conds : List PathCond} {apart fresh handsOn again : Bool} {X : World → Array Value → Prop}
    (own : ownKnob C.prog.godebug = none) (started : os.Started) (noInit : C.prog.inits.idxOf? f = none) (hfn : C.prog.funcs[f]? = some fn)
    (witness : ∃ (w : World) (tape : Tape) (i : Input), w.os = os ∧ (w.forCall tape i).Shaped C.prog ∧ i.vars = [] ∧ Input.okWide C.prog (w.forCall tape i) .any w.heap.size f i ∧
      ((s.pre enc C.prog fn conds apart (w.forCall tape i).memory i.args ∧ X (w.forCall tape i).memory i.args) ∧ sizedMet enc C.prog fn (OpenSpec.ofChange s) apart (w.forCall tape i).memory i.args) ∧ a.holds C.prog (lone (Frame.enter C.prog f i.args .normal) [] (w.forCall tape i)))
    (contract : ∀ (W : World) (base : Nat) (args : Array Value) (ds gs : List (DataW H)) (before : List MemPlace),
      (∀ (j : Nat) t v, fn.params[j]? = some t → args[j]? = some v → Value.okWide C.prog W .any base t v) →
      DataW.Whole enc C.prog fn.params.toList s.vars apart W args.toList ds gs before →
      conds.all (PathCond.test C.prog ⟨fn.params.toList, ds, s.plain.varTypes C.prog, gs⟩) = true →
      (DataW.weightsEach C.prog (fn.params.toList ++ s.plain.varTypes C.prog) (ds ++ gs)).all (· ≤ reachBytes) = true →
      W.ShapedOpen C.prog →
      a.holds C.prog (lone (Frame.enter C.prog f args .normal) [] W) →
      Calls C.prog f args W fun e W' => ∃ v, e = .returned v ∧ s.post enc C.prog fn apart fresh handsOn again W args v W') :
    ReturnsInHanded a C os f .any (fun w args => (s.pre enc C.prog fn conds apart w args ∧ X w args) ∧ sizedMet enc C.prog fn (OpenSpec.ofChange s) apart w args) (s.post enc C.prog fn apart fresh handsOn again) := by
  refine returnsInHanded_of_calls own started noInit witness ?_
  intro w tape i _ hsh _ hok hpre hholds
  obtain ⟨_, _, _, fn', hfn', _, _, _, _, hval⟩ := hok
  have e : fn' = fn := Option.some.inj (hfn'.symm.trans hfn)
  subst e
  obtain ⟨⟨⟨ds, gs, before, hw, hc⟩, _⟩, hz⟩ := hpre
  have hw' := DataW.Whole.of_heap (w' := w.forCall tape i) (by rfl) hw
  refine (contract (w.forCall tape i) w.heap.size i.args ds gs before hval hw' hc (hz.weights hw) hsh hholds).mono fun e W' ⟨v, he, hp⟩ => ?_
  subst he
  exact ChangeSpec.post_blind hp
end Go.Proofs.YtmcdnpooclelgaaDoor
