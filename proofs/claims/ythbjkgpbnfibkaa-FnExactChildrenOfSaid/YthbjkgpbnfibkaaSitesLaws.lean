/- The laws of ActiveSites, LabelOf, ChildrenOf. -/
import Derived.Test.YthbjkgpbnfibkaaSites
import Derived.Test.YthbjkgpbnfibkaaLawSz
namespace Go.Proofs.Ythbjkgpbnfibkaa
open Go Go.RowKit
set_option maxRecDepth 100000

theorem lawC_FnExactActiveSites (a0 : Sl) (L0 : List (List Int)) (a1 : Sl) (L1 : List Int) (w : World) (ha0 : RowSS w a0 L0) (hbd0 : L0.length ≤ maxLen ∧ ∀ M ∈ L0, M.length ≤ maxLen ∧ ∀ x ∈ M, -9223372036854775808 ≤ x ∧ x ≤ 9223372036854775807) (ha1 : RowI w a1 L1) (hbd1 : ∀ x ∈ L1, -9223372036854775808 ≤ x ∧ x ≤ 9223372036854775807) :
    Calls PP F.laws_FnExactActiveSites #[a0.v, a1.v] w fun e w' => e = .returned (.bool true) ∧ Below w.heap.size w w' := by
  have han0 := ha0.n
  have han1 : a1.n = L1.length := by have := ha1.n; simpa using this
  refine laws_FnExactActiveSites.calls a0 a1 ?_
  rw [laws_FnExactActiveSites.E_s]
  have b_0_0 : Below w.heap.size w w := Below.refl _ _
  refine bif_dec (fun h => ⟨rfl, b_0_0⟩) (fun h1s => ?_)
  have hL1 : L1.length < 2 ^ 38 := by omega
  refine Quiet.call1 (s := .int .i64) (c_szIntSS (ha0.grow b_0_0) hbd0.1 (fun M hM => (hbd0.2 M hM).1) (left := 1048576) (by omega) (by omega)) ?_
  intro w1 hd1
  have s_0 : Below w.heap.size w w1 := hd1.below _
  have b_0_1 := b_0_0.trans (s_0.mono b_0_0.size)
  refine bif_dec (fun h => ⟨rfl, b_0_1⟩) (fun hsz0 => ?_)
  obtain ⟨hz0, ez0⟩ := szW_ok (LL := L0) (by omega) hsz0
  have hn0 : L0.length < 2^38 := by omega
  have htt0 : tot L0 < 2^38 := by omega
  have b_1_1 : Below w1.heap.size w1 w1 := Below.refl _ _
  refine (c_toIntSS (ha0.grow b_0_1) hn0 htt0).mono ?_
  rintro e w2 ⟨xw0, rfl, ⟨rsxw0, hxw0⟩, s_1⟩
  refine ⟨xw0, rfl, ?_⟩
  have b_0_2 := b_0_1.trans (s_1.mono b_0_1.size)
  have b_1_2 := b_1_1.trans (s_1.mono b_1_1.size)
  have b_2_2 : Below w2.heap.size w2 w2 := Below.refl _ _
  refine (c_toIntS (ha1.grow b_0_2) (by omega)).mono ?_
  rintro e w3 ⟨xw1, rfl, hxw1, s_2⟩
  refine ⟨xw1, rfl, ?_⟩
  have b_0_3 := b_0_2.trans (s_2.mono b_0_2.size)
  have b_1_3 := b_1_2.trans (s_2.mono b_1_2.size)
  have b_2_3 := b_2_2.trans (s_2.mono b_2_2.size)
  have b_3_3 : Below w3.heap.size w3 w3 := Below.refl _ _
  refine (c_specActiveSites (hxw0.row.grow b_2_3) (by omega) (by omega) (hxw1.row.grow b_3_3) (by omega)).mono ?_
  rintro e w4 ⟨w0, rfl, hw0, s_3⟩
  refine ⟨w0, rfl, ?_⟩
  have b_0_4 := b_0_3.trans (s_3.mono b_0_3.size)
  have b_1_4 := b_1_3.trans (s_3.mono b_1_3.size)
  have b_2_4 := b_2_3.trans (s_3.mono b_2_3.size)
  have b_3_4 := b_3_3.trans (s_3.mono b_3_3.size)
  have b_4_4 : Below w4.heap.size w4 w4 := Below.refl _ _
  refine (c_toIntSS (ha0.grow b_0_4) hn0 htt0).mono ?_
  rintro e w5 ⟨xx0, rfl, ⟨rsxx0, hxx0⟩, s_4⟩
  refine ⟨xx0, rfl, ?_⟩
  have b_0_5 := b_0_4.trans (s_4.mono b_0_4.size)
  have b_1_5 := b_1_4.trans (s_4.mono b_1_4.size)
  have b_2_5 := b_2_4.trans (s_4.mono b_2_4.size)
  have b_3_5 := b_3_4.trans (s_4.mono b_3_4.size)
  have b_4_5 := b_4_4.trans (s_4.mono b_4_4.size)
  have b_5_5 : Below w5.heap.size w5 w5 := Below.refl _ _
  refine (c_toIntS (ha1.grow b_0_5) (by omega)).mono ?_
  rintro e w6 ⟨xx1, rfl, hxx1, s_5⟩
  refine ⟨xx1, rfl, ?_⟩
  have b_0_6 := b_0_5.trans (s_5.mono b_0_5.size)
  have b_1_6 := b_1_5.trans (s_5.mono b_1_5.size)
  have b_2_6 := b_2_5.trans (s_5.mono b_2_5.size)
  have b_3_6 := b_3_5.trans (s_5.mono b_3_5.size)
  have b_4_6 := b_4_5.trans (s_5.mono b_4_5.size)
  have b_5_6 := b_5_5.trans (s_5.mono b_5_5.size)
  have b_6_6 : Below w6.heap.size w6 w6 := Below.refl _ _
  refine (c_implActiveSites (hxx0.row.grow b_5_6) (by omega) (by omega) (hxx1.row.grow b_6_6) (by omega)).mono ?_
  rintro e w7 ⟨g0, rfl, hg0, s_6⟩
  refine ⟨g0, rfl, ?_⟩
  have b_0_7 := b_0_6.trans (s_6.mono b_0_6.size)
  have b_1_7 := b_1_6.trans (s_6.mono b_1_6.size)
  have b_2_7 := b_2_6.trans (s_6.mono b_2_6.size)
  have b_3_7 := b_3_6.trans (s_6.mono b_3_6.size)
  have b_4_7 := b_4_6.trans (s_6.mono b_4_6.size)
  have b_5_7 := b_5_6.trans (s_6.mono b_5_6.size)
  have b_6_7 := b_6_6.trans (s_6.mono b_6_6.size)
  have b_7_7 : Below w7.heap.size w7 w7 := Below.refl _ _
  have hv0 : (ActiveSitesV L0 L1).length < 2^38 := ActiveSitesV_len L0 L1
  refine Quiet.call1 (s := .bool) (c_eqIntS (hg0.row.grow b_7_7) (hw0.grow b_4_7) (by omega)) ?_
  intro w8 hd8
  have s_7 : Below w7.heap.size w7 w8 := hd8.below _
  have b_0_8 := b_0_7.trans (s_7.mono b_0_7.size)
  have b_1_8 := b_1_7.trans (s_7.mono b_1_7.size)
  have b_2_8 := b_2_7.trans (s_7.mono b_2_7.size)
  have b_3_8 := b_3_7.trans (s_7.mono b_3_7.size)
  have b_4_8 := b_4_7.trans (s_7.mono b_4_7.size)
  have b_5_8 := b_5_7.trans (s_7.mono b_5_7.size)
  have b_6_8 := b_6_7.trans (s_7.mono b_6_7.size)
  have b_7_8 := b_7_7.trans (s_7.mono b_7_7.size)
  refine bif_f (by simp) ?_
  have b_8_8 : Below w8.heap.size w8 w8 := Below.refl _ _
  refine (c_toIntSS (ha0.grow b_0_8) hn0 htt0).mono ?_
  rintro e w9 ⟨y0, rfl, hy0, s_8⟩
  refine ⟨y0, rfl, ?_⟩
  have b_0_9 := b_0_8.trans (s_8.mono b_0_8.size)
  have b_1_9 := b_1_8.trans (s_8.mono b_1_8.size)
  have b_2_9 := b_2_8.trans (s_8.mono b_2_8.size)
  have b_3_9 := b_3_8.trans (s_8.mono b_3_8.size)
  have b_4_9 := b_4_8.trans (s_8.mono b_4_8.size)
  have b_5_9 := b_5_8.trans (s_8.mono b_5_8.size)
  have b_6_9 := b_6_8.trans (s_8.mono b_6_8.size)
  have b_7_9 := b_7_8.trans (s_8.mono b_7_8.size)
  have b_8_9 := b_8_8.trans (s_8.mono b_8_8.size)
  refine Quiet.call1 (s := .bool) (c_eqIntSS (hxx0.row.grow b_5_9) hy0.row (by omega) (by omega)) ?_
  intro w10 hd10
  have s_9 : Below w9.heap.size w9 w10 := hd10.below _
  have b_0_10 := b_0_9.trans (s_9.mono b_0_9.size)
  have b_1_10 := b_1_9.trans (s_9.mono b_1_9.size)
  have b_2_10 := b_2_9.trans (s_9.mono b_2_9.size)
  have b_3_10 := b_3_9.trans (s_9.mono b_3_9.size)
  have b_4_10 := b_4_9.trans (s_9.mono b_4_9.size)
  have b_5_10 := b_5_9.trans (s_9.mono b_5_9.size)
  have b_6_10 := b_6_9.trans (s_9.mono b_6_9.size)
  have b_7_10 := b_7_9.trans (s_9.mono b_7_9.size)
  have b_8_10 := b_8_9.trans (s_9.mono b_8_9.size)
  refine bif_f (by simp) ?_
  have b_10_10 : Below w10.heap.size w10 w10 := Below.refl _ _
  refine (c_toIntS (ha1.grow b_0_10) (by omega)).mono ?_
  rintro e w11 ⟨y1, rfl, hy1, s_10⟩
  refine ⟨y1, rfl, ?_⟩
  have b_0_11 := b_0_10.trans (s_10.mono b_0_10.size)
  have b_1_11 := b_1_10.trans (s_10.mono b_1_10.size)
  have b_2_11 := b_2_10.trans (s_10.mono b_2_10.size)
  have b_3_11 := b_3_10.trans (s_10.mono b_3_10.size)
  have b_4_11 := b_4_10.trans (s_10.mono b_4_10.size)
  have b_5_11 := b_5_10.trans (s_10.mono b_5_10.size)
  have b_6_11 := b_6_10.trans (s_10.mono b_6_10.size)
  have b_7_11 := b_7_10.trans (s_10.mono b_7_10.size)
  have b_8_11 := b_8_10.trans (s_10.mono b_8_10.size)
  have b_10_11 := b_10_10.trans (s_10.mono b_10_10.size)
  refine Quiet.call1 (s := .bool) (c_eqIntS (hxx1.row.grow b_6_11) hy1.row (by omega)) ?_
  intro w12 hd12
  have s_11 : Below w11.heap.size w11 w12 := hd12.below _
  have b_0_12 := b_0_11.trans (s_11.mono b_0_11.size)
  have b_1_12 := b_1_11.trans (s_11.mono b_1_11.size)
  have b_2_12 := b_2_11.trans (s_11.mono b_2_11.size)
  have b_3_12 := b_3_11.trans (s_11.mono b_3_11.size)
  have b_4_12 := b_4_11.trans (s_11.mono b_4_11.size)
  have b_5_12 := b_5_11.trans (s_11.mono b_5_11.size)
  have b_6_12 := b_6_11.trans (s_11.mono b_6_11.size)
  have b_7_12 := b_7_11.trans (s_11.mono b_7_11.size)
  have b_8_12 := b_8_11.trans (s_11.mono b_8_11.size)
  have b_10_12 := b_10_11.trans (s_11.mono b_10_11.size)
  refine bif_f (by simp) ?_
  have hxx0m := hxx0.grow b_5_12
  have hxx1m := hxx1.grow b_6_12
  have hg0m := hg0.grow b_7_12
  refine (c_markIntSS hxx0m (by omega) (by omega) (k := 1) (by omega) (by omega)).mono ?_
  rintro e w13 ⟨rfl, _, ks_13, hz_13⟩
  refine ⟨_, rfl, ?_⟩
  have lo_13 : ∀ g, (∃ r ∈ rsxx0, r.blk = some g) → w4.heap.size ≤ g := (fun g e => by obtain ⟨r, hr, e⟩ := e; exact (hxx0.lt hr e).1)
  have hi_13 : ∀ g, (∃ r ∈ rsxx0, r.blk = some g) → g < w5.heap.size := (fun g e => by obtain ⟨r, hr, e⟩ := e; exact (hxx0.lt hr e).2)
  have b_0_13 := b_0_12.trans (ks_13.below (B := w.heap.size) (fun g e => Nat.le_trans b_0_4.size (lo_13 g e)) b_0_12.size)
  have b_1_13 := b_1_12.trans (ks_13.below (B := w1.heap.size) (fun g e => Nat.le_trans b_1_4.size (lo_13 g e)) b_1_12.size)
  have b_2_13 := b_2_12.trans (ks_13.below (B := w2.heap.size) (fun g e => Nat.le_trans b_2_4.size (lo_13 g e)) b_2_12.size)
  have b_3_13 := b_3_12.trans (ks_13.below (B := w3.heap.size) (fun g e => Nat.le_trans b_3_4.size (lo_13 g e)) b_3_12.size)
  have b_4_13 := b_4_12.trans (ks_13.below (B := w4.heap.size) (fun g e => Nat.le_trans b_4_4.size (lo_13 g e)) b_4_12.size)
  have hxx1m := hxx1m.keeps ks_13 (fun g e1 e2 => by have := hi_13 g e2; have := (hxx1.lt g e1).1; have := b_5_5.size; omega)
  have hg0m := hg0m.keeps ks_13 (fun g e1 e2 => by have := hi_13 g e2; have := (hg0.lt g e1).1; have := b_5_6.size; omega)
  refine (c_markIntS hxx1m (by omega) (k := 1 + (tot L0 : Int)) (by omega) (by omega)).mono ?_
  rintro e w14 ⟨rfl, _, hg_14, hz_14⟩
  have ks_14 := keeps_grown hg_14
  refine ⟨_, rfl, ?_⟩
  have lo_14 : ∀ g, xx1.blk = some g → w5.heap.size ≤ g := (fun g e => (hxx1.lt g e).1)
  have hi_14 : ∀ g, xx1.blk = some g → g < w6.heap.size := (fun g e => (hxx1.lt g e).2)
  have b_0_14 := b_0_13.trans (ks_14.below (B := w.heap.size) (fun g e => Nat.le_trans b_0_5.size (lo_14 g e)) b_0_13.size)
  have b_1_14 := b_1_13.trans (ks_14.below (B := w1.heap.size) (fun g e => Nat.le_trans b_1_5.size (lo_14 g e)) b_1_13.size)
  have b_2_14 := b_2_13.trans (ks_14.below (B := w2.heap.size) (fun g e => Nat.le_trans b_2_5.size (lo_14 g e)) b_2_13.size)
  have b_3_14 := b_3_13.trans (ks_14.below (B := w3.heap.size) (fun g e => Nat.le_trans b_3_5.size (lo_14 g e)) b_3_13.size)
  have b_4_14 := b_4_13.trans (ks_14.below (B := w4.heap.size) (fun g e => Nat.le_trans b_4_5.size (lo_14 g e)) b_4_13.size)
  have hg0m := hg0m.keeps ks_14 (fun g e1 e2 => by have := hi_14 g e2; have := (hg0.lt g e1).1; have := b_6_6.size; omega)
  refine bif_dec (fun h => by omega) (fun h => ?_)
  have b_14_14 : Below w14.heap.size w14 w14 := Below.refl _ _
  have hg0 := hg0m
  refine Quiet.call1 (s := .bool) (c_eqIntS (hg0.row.grow b_14_14) (hw0.grow b_4_14) (by omega)) ?_
  intro w15 hd15
  have s_14 : Below w14.heap.size w14 w15 := hd15.below _
  have b_0_15 := b_0_14.trans (s_14.mono b_0_14.size)
  have b_1_15 := b_1_14.trans (s_14.mono b_1_14.size)
  have b_2_15 := b_2_14.trans (s_14.mono b_2_14.size)
  have b_3_15 := b_3_14.trans (s_14.mono b_3_14.size)
  have b_4_15 := b_4_14.trans (s_14.mono b_4_14.size)
  have b_14_15 := b_14_14.trans (s_14.mono b_14_14.size)
  refine bif_f (by simp) ?_
  have hg0p := hg0.grow b_14_15
  have b_15_15 : Below w15.heap.size w15 w15 := Below.refl _ _
  refine (c_markIntS hg0p (by omega) (k := 1) (by omega) (by omega)).mono ?_
  rintro e w16 ⟨rfl, hq0, hg_16, hz_16⟩
  have ks_16 := keeps_grown hg_16
  refine ⟨_, rfl, ?_⟩
  have lo_16 : ∀ g, g0.blk = some g → w6.heap.size ≤ g := (fun g e => (hg0p.lt g e).1)
  have b_0_16 := b_0_15.trans (ks_16.below (B := w.heap.size) (fun g e => Nat.le_trans b_0_6.size (lo_16 g e)) b_0_15.size)
  have b_1_16 := b_1_15.trans (ks_16.below (B := w1.heap.size) (fun g e => Nat.le_trans b_1_6.size (lo_16 g e)) b_1_15.size)
  have b_2_16 := b_2_15.trans (ks_16.below (B := w2.heap.size) (fun g e => Nat.le_trans b_2_6.size (lo_16 g e)) b_2_15.size)
  have b_3_16 := b_3_15.trans (ks_16.below (B := w3.heap.size) (fun g e => Nat.le_trans b_3_6.size (lo_16 g e)) b_3_15.size)
  have b_4_16 := b_4_15.trans (ks_16.below (B := w4.heap.size) (fun g e => Nat.le_trans b_4_6.size (lo_16 g e)) b_4_15.size)
  have b_16_16 : Below w16.heap.size w16 w16 := Below.refl _ _
  refine Quiet.call1 (s := .int .i64) (c_heldIntS (n := (ActiveSitesV L0 L1).length) (hq0.row.grow b_16_16) (by omega) (by omega) (by omega)) ?_
  intro w17 hd17
  have s_16 : Below w16.heap.size w16 w17 := hd17.below _
  have b_0_17 := b_0_16.trans (s_16.mono b_0_16.size)
  have b_1_17 := b_1_16.trans (s_16.mono b_1_16.size)
  have b_2_17 := b_2_16.trans (s_16.mono b_2_16.size)
  have b_3_17 := b_3_16.trans (s_16.mono b_3_16.size)
  have b_4_17 := b_4_16.trans (s_16.mono b_4_16.size)
  have b_16_17 := b_16_16.trans (s_16.mono b_16_16.size)
  refine bif_dec (fun h => by omega) (fun h => ?_)
  refine bif_f (by simp) ?_
  have b_17_17 : Below w17.heap.size w17 w17 := Below.refl _ _
  refine (c_toIntSS (ha0.grow b_0_17) hn0 htt0).mono ?_
  rintro e w18 ⟨xv0, rfl, ⟨rsxv0, hxv0⟩, s_17⟩
  refine ⟨xv0, rfl, ?_⟩
  have b_0_18 := b_0_17.trans (s_17.mono b_0_17.size)
  have b_1_18 := b_1_17.trans (s_17.mono b_1_17.size)
  have b_2_18 := b_2_17.trans (s_17.mono b_2_17.size)
  have b_3_18 := b_3_17.trans (s_17.mono b_3_17.size)
  have b_4_18 := b_4_17.trans (s_17.mono b_4_17.size)
  have b_16_18 := b_16_17.trans (s_17.mono b_16_17.size)
  have b_17_18 := b_17_17.trans (s_17.mono b_17_17.size)
  have b_18_18 : Below w18.heap.size w18 w18 := Below.refl _ _
  refine (c_toIntS (ha1.grow b_0_18) (by omega)).mono ?_
  rintro e w19 ⟨xv1, rfl, hxv1, s_18⟩
  refine ⟨xv1, rfl, ?_⟩
  have b_0_19 := b_0_18.trans (s_18.mono b_0_18.size)
  have b_1_19 := b_1_18.trans (s_18.mono b_1_18.size)
  have b_2_19 := b_2_18.trans (s_18.mono b_2_18.size)
  have b_3_19 := b_3_18.trans (s_18.mono b_3_18.size)
  have b_4_19 := b_4_18.trans (s_18.mono b_4_18.size)
  have b_16_19 := b_16_18.trans (s_18.mono b_16_18.size)
  have b_17_19 := b_17_18.trans (s_18.mono b_17_18.size)
  have b_18_19 := b_18_18.trans (s_18.mono b_18_18.size)
  have b_19_19 : Below w19.heap.size w19 w19 := Below.refl _ _
  refine (c_implActiveSites (hxv0.row.grow b_18_19) (by omega) (by omega) (hxv1.row.grow b_19_19) (by omega)).mono ?_
  rintro e w20 ⟨h0, rfl, hh0, s_19⟩
  refine ⟨h0, rfl, ?_⟩
  have b_0_20 := b_0_19.trans (s_19.mono b_0_19.size)
  have b_1_20 := b_1_19.trans (s_19.mono b_1_19.size)
  have b_2_20 := b_2_19.trans (s_19.mono b_2_19.size)
  have b_3_20 := b_3_19.trans (s_19.mono b_3_19.size)
  have b_4_20 := b_4_19.trans (s_19.mono b_4_19.size)
  have b_16_20 := b_16_19.trans (s_19.mono b_16_19.size)
  have b_17_20 := b_17_19.trans (s_19.mono b_17_19.size)
  have b_18_20 := b_18_19.trans (s_19.mono b_18_19.size)
  have b_19_20 := b_19_19.trans (s_19.mono b_19_19.size)
  have b_20_20 : Below w20.heap.size w20 w20 := Below.refl _ _
  refine Quiet.call1 (s := .bool) (c_eqIntS (hh0.row.grow b_20_20) (hw0.grow b_4_20) (by omega)) ?_
  intro w21 hd21
  have s_20 : Below w20.heap.size w20 w21 := hd21.below _
  have b_0_21 := b_0_20.trans (s_20.mono b_0_20.size)
  have b_1_21 := b_1_20.trans (s_20.mono b_1_20.size)
  have b_2_21 := b_2_20.trans (s_20.mono b_2_20.size)
  have b_3_21 := b_3_20.trans (s_20.mono b_3_20.size)
  have b_4_21 := b_4_20.trans (s_20.mono b_4_20.size)
  have b_16_21 := b_16_20.trans (s_20.mono b_16_20.size)
  have b_17_21 := b_17_20.trans (s_20.mono b_17_20.size)
  have b_18_21 := b_18_20.trans (s_20.mono b_18_20.size)
  have b_19_21 := b_19_20.trans (s_20.mono b_19_20.size)
  have b_20_21 := b_20_20.trans (s_20.mono b_20_20.size)
  refine bif_f (by simp) ?_
  refine Quiet.call1 (s := .int .i64) (c_heldIntS (n := (ActiveSitesV L0 L1).length) (hq0.row.grow b_16_21) (by omega) (by omega) (by omega)) ?_
  intro w22 hd22
  have s_21 : Below w21.heap.size w21 w22 := hd22.below _
  have b_0_22 := b_0_21.trans (s_21.mono b_0_21.size)
  have b_1_22 := b_1_21.trans (s_21.mono b_1_21.size)
  have b_2_22 := b_2_21.trans (s_21.mono b_2_21.size)
  have b_3_22 := b_3_21.trans (s_21.mono b_3_21.size)
  have b_4_22 := b_4_21.trans (s_21.mono b_4_21.size)
  have b_16_22 := b_16_21.trans (s_21.mono b_16_21.size)
  have b_17_22 := b_17_21.trans (s_21.mono b_17_21.size)
  have b_18_22 := b_18_21.trans (s_21.mono b_18_21.size)
  have b_19_22 := b_19_21.trans (s_21.mono b_19_21.size)
  have b_20_22 := b_20_21.trans (s_21.mono b_20_21.size)
  refine bif_dec (fun h => by omega) (fun h => ?_)
  refine bif_f (by simp) ?_
  exact ⟨rfl, b_0_22⟩

theorem lawC_FnExactLabelOf (a0 : Sl) (L0 : List (List Int)) (a1 : Sl) (L1 : List Int) (w : World) (ha0 : RowSS w a0 L0) (hbd0 : L0.length ≤ maxLen ∧ ∀ M ∈ L0, M.length ≤ maxLen ∧ ∀ x ∈ M, -9223372036854775808 ≤ x ∧ x ≤ 9223372036854775807) (ha1 : RowI w a1 L1) (hbd1 : ∀ x ∈ L1, -9223372036854775808 ≤ x ∧ x ≤ 9223372036854775807) :
    Calls PP F.laws_FnExactLabelOf #[a0.v, a1.v] w fun e w' => e = .returned (.bool true) ∧ Below w.heap.size w w' := by
  have han0 := ha0.n
  have han1 : a1.n = L1.length := by have := ha1.n; simpa using this
  refine laws_FnExactLabelOf.calls a0 a1 ?_
  rw [laws_FnExactLabelOf.E_s]
  have b_0_0 : Below w.heap.size w w := Below.refl _ _
  refine bif_dec (fun h => ⟨rfl, b_0_0⟩) (fun h1s => ?_)
  have hL1 : L1.length < 2 ^ 38 := by omega
  refine Quiet.call1 (s := .int .i64) (c_szIntSS (ha0.grow b_0_0) hbd0.1 (fun M hM => (hbd0.2 M hM).1) (left := 1048576) (by omega) (by omega)) ?_
  intro w1 hd1
  have s_0 : Below w.heap.size w w1 := hd1.below _
  have b_0_1 := b_0_0.trans (s_0.mono b_0_0.size)
  refine bif_dec (fun h => ⟨rfl, b_0_1⟩) (fun hsz0 => ?_)
  obtain ⟨hz0, ez0⟩ := szW_ok (LL := L0) (by omega) hsz0
  have hn0 : L0.length < 2^38 := by omega
  have htt0 : tot L0 < 2^38 := by omega
  have b_1_1 : Below w1.heap.size w1 w1 := Below.refl _ _
  refine (c_toIntSS (ha0.grow b_0_1) hn0 htt0).mono ?_
  rintro e w2 ⟨xw0, rfl, ⟨rsxw0, hxw0⟩, s_1⟩
  refine ⟨xw0, rfl, ?_⟩
  have b_0_2 := b_0_1.trans (s_1.mono b_0_1.size)
  have b_1_2 := b_1_1.trans (s_1.mono b_1_1.size)
  have b_2_2 : Below w2.heap.size w2 w2 := Below.refl _ _
  refine (c_toIntS (ha1.grow b_0_2) (by omega)).mono ?_
  rintro e w3 ⟨xw1, rfl, hxw1, s_2⟩
  refine ⟨xw1, rfl, ?_⟩
  have b_0_3 := b_0_2.trans (s_2.mono b_0_2.size)
  have b_1_3 := b_1_2.trans (s_2.mono b_1_2.size)
  have b_2_3 := b_2_2.trans (s_2.mono b_2_2.size)
  have b_3_3 : Below w3.heap.size w3 w3 := Below.refl _ _
  refine (c_specLabelOf (hxw0.row.grow b_2_3) (by omega) (by omega) (hxw1.row.grow b_3_3) (by omega)).mono ?_
  rintro e w4 ⟨rfl, s_3⟩
  refine ⟨_, rfl, ?_⟩
  have b_0_4 := b_0_3.trans (s_3.mono b_0_3.size)
  have b_1_4 := b_1_3.trans (s_3.mono b_1_3.size)
  have b_2_4 := b_2_3.trans (s_3.mono b_2_3.size)
  have b_3_4 := b_3_3.trans (s_3.mono b_3_3.size)
  have b_4_4 : Below w4.heap.size w4 w4 := Below.refl _ _
  refine (c_toIntSS (ha0.grow b_0_4) hn0 htt0).mono ?_
  rintro e w5 ⟨xx0, rfl, ⟨rsxx0, hxx0⟩, s_4⟩
  refine ⟨xx0, rfl, ?_⟩
  have b_0_5 := b_0_4.trans (s_4.mono b_0_4.size)
  have b_1_5 := b_1_4.trans (s_4.mono b_1_4.size)
  have b_2_5 := b_2_4.trans (s_4.mono b_2_4.size)
  have b_3_5 := b_3_4.trans (s_4.mono b_3_4.size)
  have b_4_5 := b_4_4.trans (s_4.mono b_4_4.size)
  have b_5_5 : Below w5.heap.size w5 w5 := Below.refl _ _
  refine (c_toIntS (ha1.grow b_0_5) (by omega)).mono ?_
  rintro e w6 ⟨xx1, rfl, hxx1, s_5⟩
  refine ⟨xx1, rfl, ?_⟩
  have b_0_6 := b_0_5.trans (s_5.mono b_0_5.size)
  have b_1_6 := b_1_5.trans (s_5.mono b_1_5.size)
  have b_2_6 := b_2_5.trans (s_5.mono b_2_5.size)
  have b_3_6 := b_3_5.trans (s_5.mono b_3_5.size)
  have b_4_6 := b_4_5.trans (s_5.mono b_4_5.size)
  have b_5_6 := b_5_5.trans (s_5.mono b_5_5.size)
  have b_6_6 : Below w6.heap.size w6 w6 := Below.refl _ _
  refine (c_implLabelOf (hxx0.row.grow b_5_6) (by omega) (by omega) (hxx1.row.grow b_6_6) (by omega)).mono ?_
  rintro e w7 ⟨rfl, s_6⟩
  refine ⟨_, rfl, ?_⟩
  have b_0_7 := b_0_6.trans (s_6.mono b_0_6.size)
  have b_1_7 := b_1_6.trans (s_6.mono b_1_6.size)
  have b_2_7 := b_2_6.trans (s_6.mono b_2_6.size)
  have b_3_7 := b_3_6.trans (s_6.mono b_3_6.size)
  have b_4_7 := b_4_6.trans (s_6.mono b_4_6.size)
  have b_5_7 := b_5_6.trans (s_6.mono b_5_6.size)
  have b_6_7 := b_6_6.trans (s_6.mono b_6_6.size)
  have b_7_7 : Below w7.heap.size w7 w7 := Below.refl _ _
  refine bif_f (by simp) ?_
  refine (c_toIntSS (ha0.grow b_0_7) hn0 htt0).mono ?_
  rintro e w8 ⟨y0, rfl, hy0, s_7⟩
  refine ⟨y0, rfl, ?_⟩
  have b_0_8 := b_0_7.trans (s_7.mono b_0_7.size)
  have b_1_8 := b_1_7.trans (s_7.mono b_1_7.size)
  have b_2_8 := b_2_7.trans (s_7.mono b_2_7.size)
  have b_3_8 := b_3_7.trans (s_7.mono b_3_7.size)
  have b_4_8 := b_4_7.trans (s_7.mono b_4_7.size)
  have b_5_8 := b_5_7.trans (s_7.mono b_5_7.size)
  have b_6_8 := b_6_7.trans (s_7.mono b_6_7.size)
  have b_7_8 := b_7_7.trans (s_7.mono b_7_7.size)
  refine Quiet.call1 (s := .bool) (c_eqIntSS (hxx0.row.grow b_5_8) hy0.row (by omega) (by omega)) ?_
  intro w9 hd9
  have s_8 : Below w8.heap.size w8 w9 := hd9.below _
  have b_0_9 := b_0_8.trans (s_8.mono b_0_8.size)
  have b_1_9 := b_1_8.trans (s_8.mono b_1_8.size)
  have b_2_9 := b_2_8.trans (s_8.mono b_2_8.size)
  have b_3_9 := b_3_8.trans (s_8.mono b_3_8.size)
  have b_4_9 := b_4_8.trans (s_8.mono b_4_8.size)
  have b_5_9 := b_5_8.trans (s_8.mono b_5_8.size)
  have b_6_9 := b_6_8.trans (s_8.mono b_6_8.size)
  have b_7_9 := b_7_8.trans (s_8.mono b_7_8.size)
  refine bif_f (by simp) ?_
  have b_9_9 : Below w9.heap.size w9 w9 := Below.refl _ _
  refine (c_toIntS (ha1.grow b_0_9) (by omega)).mono ?_
  rintro e w10 ⟨y1, rfl, hy1, s_9⟩
  refine ⟨y1, rfl, ?_⟩
  have b_0_10 := b_0_9.trans (s_9.mono b_0_9.size)
  have b_1_10 := b_1_9.trans (s_9.mono b_1_9.size)
  have b_2_10 := b_2_9.trans (s_9.mono b_2_9.size)
  have b_3_10 := b_3_9.trans (s_9.mono b_3_9.size)
  have b_4_10 := b_4_9.trans (s_9.mono b_4_9.size)
  have b_5_10 := b_5_9.trans (s_9.mono b_5_9.size)
  have b_6_10 := b_6_9.trans (s_9.mono b_6_9.size)
  have b_7_10 := b_7_9.trans (s_9.mono b_7_9.size)
  have b_9_10 := b_9_9.trans (s_9.mono b_9_9.size)
  refine Quiet.call1 (s := .bool) (c_eqIntS (hxx1.row.grow b_6_10) hy1.row (by omega)) ?_
  intro w11 hd11
  have s_10 : Below w10.heap.size w10 w11 := hd11.below _
  have b_0_11 := b_0_10.trans (s_10.mono b_0_10.size)
  have b_1_11 := b_1_10.trans (s_10.mono b_1_10.size)
  have b_2_11 := b_2_10.trans (s_10.mono b_2_10.size)
  have b_3_11 := b_3_10.trans (s_10.mono b_3_10.size)
  have b_4_11 := b_4_10.trans (s_10.mono b_4_10.size)
  have b_5_11 := b_5_10.trans (s_10.mono b_5_10.size)
  have b_6_11 := b_6_10.trans (s_10.mono b_6_10.size)
  have b_7_11 := b_7_10.trans (s_10.mono b_7_10.size)
  have b_9_11 := b_9_10.trans (s_10.mono b_9_10.size)
  refine bif_f (by simp) ?_
  exact ⟨rfl, b_0_11⟩

theorem lawC_FnExactChildrenOf (a0 : Sl) (L0 : List (List Int)) (a1 : Sl) (L1 : List Int) (w : World) (ha0 : RowSS w a0 L0) (hbd0 : L0.length ≤ maxLen ∧ ∀ M ∈ L0, M.length ≤ maxLen ∧ ∀ x ∈ M, -9223372036854775808 ≤ x ∧ x ≤ 9223372036854775807) (ha1 : RowI w a1 L1) (hbd1 : ∀ x ∈ L1, -9223372036854775808 ≤ x ∧ x ≤ 9223372036854775807) :
    Calls PP F.laws_FnExactChildrenOf #[a0.v, a1.v] w fun e w' => e = .returned (.bool true) ∧ Below w.heap.size w w' := by
  have han0 := ha0.n
  have han1 : a1.n = L1.length := by have := ha1.n; simpa using this
  refine laws_FnExactChildrenOf.calls a0 a1 ?_
  rw [laws_FnExactChildrenOf.E_s]
  have b_0_0 : Below w.heap.size w w := Below.refl _ _
  refine bif_dec (fun h => ⟨rfl, b_0_0⟩) (fun h1s => ?_)
  have hL1 : L1.length < 2 ^ 38 := by omega
  refine Quiet.call1 (s := .int .i64) (c_szIntSS (ha0.grow b_0_0) hbd0.1 (fun M hM => (hbd0.2 M hM).1) (left := 1048576) (by omega) (by omega)) ?_
  intro w1 hd1
  have s_0 : Below w.heap.size w w1 := hd1.below _
  have b_0_1 := b_0_0.trans (s_0.mono b_0_0.size)
  refine bif_dec (fun h => ⟨rfl, b_0_1⟩) (fun hsz0 => ?_)
  obtain ⟨hz0, ez0⟩ := szW_ok (LL := L0) (by omega) hsz0
  have hn0 : L0.length < 2^38 := by omega
  have htt0 : tot L0 < 2^38 := by omega
  have b_1_1 : Below w1.heap.size w1 w1 := Below.refl _ _
  refine (c_toIntSS (ha0.grow b_0_1) hn0 htt0).mono ?_
  rintro e w2 ⟨xw0, rfl, ⟨rsxw0, hxw0⟩, s_1⟩
  refine ⟨xw0, rfl, ?_⟩
  have b_0_2 := b_0_1.trans (s_1.mono b_0_1.size)
  have b_1_2 := b_1_1.trans (s_1.mono b_1_1.size)
  have b_2_2 : Below w2.heap.size w2 w2 := Below.refl _ _
  refine (c_toIntS (ha1.grow b_0_2) (by omega)).mono ?_
  rintro e w3 ⟨xw1, rfl, hxw1, s_2⟩
  refine ⟨xw1, rfl, ?_⟩
  have b_0_3 := b_0_2.trans (s_2.mono b_0_2.size)
  have b_1_3 := b_1_2.trans (s_2.mono b_1_2.size)
  have b_2_3 := b_2_2.trans (s_2.mono b_2_2.size)
  have b_3_3 : Below w3.heap.size w3 w3 := Below.refl _ _
  refine (c_specChildrenOf (hxw0.row.grow b_2_3) (by omega) (by omega) (hxw1.row.grow b_3_3) (by omega)).mono ?_
  rintro e w4 ⟨w0, rfl, hw0, s_3⟩
  refine ⟨w0, rfl, ?_⟩
  have b_0_4 := b_0_3.trans (s_3.mono b_0_3.size)
  have b_1_4 := b_1_3.trans (s_3.mono b_1_3.size)
  have b_2_4 := b_2_3.trans (s_3.mono b_2_3.size)
  have b_3_4 := b_3_3.trans (s_3.mono b_3_3.size)
  have b_4_4 : Below w4.heap.size w4 w4 := Below.refl _ _
  refine (c_toIntSS (ha0.grow b_0_4) hn0 htt0).mono ?_
  rintro e w5 ⟨xx0, rfl, ⟨rsxx0, hxx0⟩, s_4⟩
  refine ⟨xx0, rfl, ?_⟩
  have b_0_5 := b_0_4.trans (s_4.mono b_0_4.size)
  have b_1_5 := b_1_4.trans (s_4.mono b_1_4.size)
  have b_2_5 := b_2_4.trans (s_4.mono b_2_4.size)
  have b_3_5 := b_3_4.trans (s_4.mono b_3_4.size)
  have b_4_5 := b_4_4.trans (s_4.mono b_4_4.size)
  have b_5_5 : Below w5.heap.size w5 w5 := Below.refl _ _
  refine (c_toIntS (ha1.grow b_0_5) (by omega)).mono ?_
  rintro e w6 ⟨xx1, rfl, hxx1, s_5⟩
  refine ⟨xx1, rfl, ?_⟩
  have b_0_6 := b_0_5.trans (s_5.mono b_0_5.size)
  have b_1_6 := b_1_5.trans (s_5.mono b_1_5.size)
  have b_2_6 := b_2_5.trans (s_5.mono b_2_5.size)
  have b_3_6 := b_3_5.trans (s_5.mono b_3_5.size)
  have b_4_6 := b_4_5.trans (s_5.mono b_4_5.size)
  have b_5_6 := b_5_5.trans (s_5.mono b_5_5.size)
  have b_6_6 : Below w6.heap.size w6 w6 := Below.refl _ _
  refine (c_implChildrenOf (hxx0.row.grow b_5_6) (by omega) (by omega) (hxx1.row.grow b_6_6) (by omega)).mono ?_
  rintro e w7 ⟨g0, rfl, ⟨rsg0, hg0⟩, s_6⟩
  refine ⟨g0, rfl, ?_⟩
  have b_0_7 := b_0_6.trans (s_6.mono b_0_6.size)
  have b_1_7 := b_1_6.trans (s_6.mono b_1_6.size)
  have b_2_7 := b_2_6.trans (s_6.mono b_2_6.size)
  have b_3_7 := b_3_6.trans (s_6.mono b_3_6.size)
  have b_4_7 := b_4_6.trans (s_6.mono b_4_6.size)
  have b_5_7 := b_5_6.trans (s_6.mono b_5_6.size)
  have b_6_7 := b_6_6.trans (s_6.mono b_6_6.size)
  have b_7_7 : Below w7.heap.size w7 w7 := Below.refl _ _
  have hv0 := ChildrenOfV_len L0 L1
  refine Quiet.call1 (s := .bool) (c_eqIntSS (hg0.row.grow b_7_7) (hw0.grow b_4_7) (by omega) (by omega)) ?_
  intro w8 hd8
  have s_7 : Below w7.heap.size w7 w8 := hd8.below _
  have b_0_8 := b_0_7.trans (s_7.mono b_0_7.size)
  have b_1_8 := b_1_7.trans (s_7.mono b_1_7.size)
  have b_2_8 := b_2_7.trans (s_7.mono b_2_7.size)
  have b_3_8 := b_3_7.trans (s_7.mono b_3_7.size)
  have b_4_8 := b_4_7.trans (s_7.mono b_4_7.size)
  have b_5_8 := b_5_7.trans (s_7.mono b_5_7.size)
  have b_6_8 := b_6_7.trans (s_7.mono b_6_7.size)
  have b_7_8 := b_7_7.trans (s_7.mono b_7_7.size)
  refine bif_f (by simp) ?_
  have b_8_8 : Below w8.heap.size w8 w8 := Below.refl _ _
  refine (c_toIntSS (ha0.grow b_0_8) hn0 htt0).mono ?_
  rintro e w9 ⟨y0, rfl, hy0, s_8⟩
  refine ⟨y0, rfl, ?_⟩
  have b_0_9 := b_0_8.trans (s_8.mono b_0_8.size)
  have b_1_9 := b_1_8.trans (s_8.mono b_1_8.size)
  have b_2_9 := b_2_8.trans (s_8.mono b_2_8.size)
  have b_3_9 := b_3_8.trans (s_8.mono b_3_8.size)
  have b_4_9 := b_4_8.trans (s_8.mono b_4_8.size)
  have b_5_9 := b_5_8.trans (s_8.mono b_5_8.size)
  have b_6_9 := b_6_8.trans (s_8.mono b_6_8.size)
  have b_7_9 := b_7_8.trans (s_8.mono b_7_8.size)
  have b_8_9 := b_8_8.trans (s_8.mono b_8_8.size)
  refine Quiet.call1 (s := .bool) (c_eqIntSS (hxx0.row.grow b_5_9) hy0.row (by omega) (by omega)) ?_
  intro w10 hd10
  have s_9 : Below w9.heap.size w9 w10 := hd10.below _
  have b_0_10 := b_0_9.trans (s_9.mono b_0_9.size)
  have b_1_10 := b_1_9.trans (s_9.mono b_1_9.size)
  have b_2_10 := b_2_9.trans (s_9.mono b_2_9.size)
  have b_3_10 := b_3_9.trans (s_9.mono b_3_9.size)
  have b_4_10 := b_4_9.trans (s_9.mono b_4_9.size)
  have b_5_10 := b_5_9.trans (s_9.mono b_5_9.size)
  have b_6_10 := b_6_9.trans (s_9.mono b_6_9.size)
  have b_7_10 := b_7_9.trans (s_9.mono b_7_9.size)
  have b_8_10 := b_8_9.trans (s_9.mono b_8_9.size)
  refine bif_f (by simp) ?_
  have b_10_10 : Below w10.heap.size w10 w10 := Below.refl _ _
  refine (c_toIntS (ha1.grow b_0_10) (by omega)).mono ?_
  rintro e w11 ⟨y1, rfl, hy1, s_10⟩
  refine ⟨y1, rfl, ?_⟩
  have b_0_11 := b_0_10.trans (s_10.mono b_0_10.size)
  have b_1_11 := b_1_10.trans (s_10.mono b_1_10.size)
  have b_2_11 := b_2_10.trans (s_10.mono b_2_10.size)
  have b_3_11 := b_3_10.trans (s_10.mono b_3_10.size)
  have b_4_11 := b_4_10.trans (s_10.mono b_4_10.size)
  have b_5_11 := b_5_10.trans (s_10.mono b_5_10.size)
  have b_6_11 := b_6_10.trans (s_10.mono b_6_10.size)
  have b_7_11 := b_7_10.trans (s_10.mono b_7_10.size)
  have b_8_11 := b_8_10.trans (s_10.mono b_8_10.size)
  have b_10_11 := b_10_10.trans (s_10.mono b_10_10.size)
  refine Quiet.call1 (s := .bool) (c_eqIntS (hxx1.row.grow b_6_11) hy1.row (by omega)) ?_
  intro w12 hd12
  have s_11 : Below w11.heap.size w11 w12 := hd12.below _
  have b_0_12 := b_0_11.trans (s_11.mono b_0_11.size)
  have b_1_12 := b_1_11.trans (s_11.mono b_1_11.size)
  have b_2_12 := b_2_11.trans (s_11.mono b_2_11.size)
  have b_3_12 := b_3_11.trans (s_11.mono b_3_11.size)
  have b_4_12 := b_4_11.trans (s_11.mono b_4_11.size)
  have b_5_12 := b_5_11.trans (s_11.mono b_5_11.size)
  have b_6_12 := b_6_11.trans (s_11.mono b_6_11.size)
  have b_7_12 := b_7_11.trans (s_11.mono b_7_11.size)
  have b_8_12 := b_8_11.trans (s_11.mono b_8_11.size)
  have b_10_12 := b_10_11.trans (s_11.mono b_10_11.size)
  refine bif_f (by simp) ?_
  have hxx0m := hxx0.grow b_5_12
  have hxx1m := hxx1.grow b_6_12
  have hg0m := hg0.grow b_7_12
  refine (c_markIntSS hxx0m (by omega) (by omega) (k := 1) (by omega) (by omega)).mono ?_
  rintro e w13 ⟨rfl, _, ks_13, hz_13⟩
  refine ⟨_, rfl, ?_⟩
  have lo_13 : ∀ g, (∃ r ∈ rsxx0, r.blk = some g) → w4.heap.size ≤ g := (fun g e => by obtain ⟨r, hr, e⟩ := e; exact (hxx0.lt hr e).1)
  have hi_13 : ∀ g, (∃ r ∈ rsxx0, r.blk = some g) → g < w5.heap.size := (fun g e => by obtain ⟨r, hr, e⟩ := e; exact (hxx0.lt hr e).2)
  have b_0_13 := b_0_12.trans (ks_13.below (B := w.heap.size) (fun g e => Nat.le_trans b_0_4.size (lo_13 g e)) b_0_12.size)
  have b_1_13 := b_1_12.trans (ks_13.below (B := w1.heap.size) (fun g e => Nat.le_trans b_1_4.size (lo_13 g e)) b_1_12.size)
  have b_2_13 := b_2_12.trans (ks_13.below (B := w2.heap.size) (fun g e => Nat.le_trans b_2_4.size (lo_13 g e)) b_2_12.size)
  have b_3_13 := b_3_12.trans (ks_13.below (B := w3.heap.size) (fun g e => Nat.le_trans b_3_4.size (lo_13 g e)) b_3_12.size)
  have b_4_13 := b_4_12.trans (ks_13.below (B := w4.heap.size) (fun g e => Nat.le_trans b_4_4.size (lo_13 g e)) b_4_12.size)
  have hxx1m := hxx1m.keeps ks_13 (fun g e1 e2 => by have := hi_13 g e2; have := (hxx1.lt g e1).1; have := b_5_5.size; omega)
  have hg0m := hg0m.keepsLt ks_13 (fun g e => by have := hi_13 g e; have := b_5_6.size; omega)
  refine (c_markIntS hxx1m (by omega) (k := 1 + (tot L0 : Int)) (by omega) (by omega)).mono ?_
  rintro e w14 ⟨rfl, _, hg_14, hz_14⟩
  have ks_14 := keeps_grown hg_14
  refine ⟨_, rfl, ?_⟩
  have lo_14 : ∀ g, xx1.blk = some g → w5.heap.size ≤ g := (fun g e => (hxx1.lt g e).1)
  have hi_14 : ∀ g, xx1.blk = some g → g < w6.heap.size := (fun g e => (hxx1.lt g e).2)
  have b_0_14 := b_0_13.trans (ks_14.below (B := w.heap.size) (fun g e => Nat.le_trans b_0_5.size (lo_14 g e)) b_0_13.size)
  have b_1_14 := b_1_13.trans (ks_14.below (B := w1.heap.size) (fun g e => Nat.le_trans b_1_5.size (lo_14 g e)) b_1_13.size)
  have b_2_14 := b_2_13.trans (ks_14.below (B := w2.heap.size) (fun g e => Nat.le_trans b_2_5.size (lo_14 g e)) b_2_13.size)
  have b_3_14 := b_3_13.trans (ks_14.below (B := w3.heap.size) (fun g e => Nat.le_trans b_3_5.size (lo_14 g e)) b_3_13.size)
  have b_4_14 := b_4_13.trans (ks_14.below (B := w4.heap.size) (fun g e => Nat.le_trans b_4_5.size (lo_14 g e)) b_4_13.size)
  have hg0m := hg0m.keepsLt ks_14 (fun g e => by have := hi_14 g e; have := b_6_6.size; omega)
  refine bif_dec (fun h => by omega) (fun h => ?_)
  have b_14_14 : Below w14.heap.size w14 w14 := Below.refl _ _
  have hg0 := hg0m
  refine Quiet.call1 (s := .bool) (c_eqIntSS (hg0.row.grow b_14_14) (hw0.grow b_4_14) (by omega) (by omega)) ?_
  intro w15 hd15
  have s_14 : Below w14.heap.size w14 w15 := hd15.below _
  have b_0_15 := b_0_14.trans (s_14.mono b_0_14.size)
  have b_1_15 := b_1_14.trans (s_14.mono b_1_14.size)
  have b_2_15 := b_2_14.trans (s_14.mono b_2_14.size)
  have b_3_15 := b_3_14.trans (s_14.mono b_3_14.size)
  have b_4_15 := b_4_14.trans (s_14.mono b_4_14.size)
  have b_14_15 := b_14_14.trans (s_14.mono b_14_14.size)
  refine bif_f (by simp) ?_
  have hg0p := hg0.grow b_14_15
  have b_15_15 : Below w15.heap.size w15 w15 := Below.refl _ _
  refine (c_markIntSS hg0p (by omega) (by omega) (k := 1) (by omega) (by omega)).mono ?_
  rintro e w16 ⟨rfl, hq0, ks_16, hz_16⟩
  refine ⟨_, rfl, ?_⟩
  have lo_16 : ∀ g, (∃ r ∈ rsg0, r.blk = some g) → w6.heap.size ≤ g := (fun g e => by obtain ⟨r, hr, e⟩ := e; exact (hg0p.lt hr e).1)
  have b_0_16 := b_0_15.trans (ks_16.below (B := w.heap.size) (fun g e => Nat.le_trans b_0_6.size (lo_16 g e)) b_0_15.size)
  have b_1_16 := b_1_15.trans (ks_16.below (B := w1.heap.size) (fun g e => Nat.le_trans b_1_6.size (lo_16 g e)) b_1_15.size)
  have b_2_16 := b_2_15.trans (ks_16.below (B := w2.heap.size) (fun g e => Nat.le_trans b_2_6.size (lo_16 g e)) b_2_15.size)
  have b_3_16 := b_3_15.trans (ks_16.below (B := w3.heap.size) (fun g e => Nat.le_trans b_3_6.size (lo_16 g e)) b_3_15.size)
  have b_4_16 := b_4_15.trans (ks_16.below (B := w4.heap.size) (fun g e => Nat.le_trans b_4_6.size (lo_16 g e)) b_4_15.size)
  have b_16_16 : Below w16.heap.size w16 w16 := Below.refl _ _
  refine Quiet.call1 (s := .int .i64) (c_heldIntSS (LL := ChildrenOfV L0 L1) (hq0.row.grow b_16_16) (by omega) (by omega) (by omega) (by omega)) ?_
  intro w17 hd17
  have s_16 : Below w16.heap.size w16 w17 := hd17.below _
  have b_0_17 := b_0_16.trans (s_16.mono b_0_16.size)
  have b_1_17 := b_1_16.trans (s_16.mono b_1_16.size)
  have b_2_17 := b_2_16.trans (s_16.mono b_2_16.size)
  have b_3_17 := b_3_16.trans (s_16.mono b_3_16.size)
  have b_4_17 := b_4_16.trans (s_16.mono b_4_16.size)
  have b_16_17 := b_16_16.trans (s_16.mono b_16_16.size)
  refine bif_dec (fun h => by omega) (fun h => ?_)
  refine bif_f (by simp) ?_
  have b_17_17 : Below w17.heap.size w17 w17 := Below.refl _ _
  refine (c_toIntSS (ha0.grow b_0_17) hn0 htt0).mono ?_
  rintro e w18 ⟨xv0, rfl, ⟨rsxv0, hxv0⟩, s_17⟩
  refine ⟨xv0, rfl, ?_⟩
  have b_0_18 := b_0_17.trans (s_17.mono b_0_17.size)
  have b_1_18 := b_1_17.trans (s_17.mono b_1_17.size)
  have b_2_18 := b_2_17.trans (s_17.mono b_2_17.size)
  have b_3_18 := b_3_17.trans (s_17.mono b_3_17.size)
  have b_4_18 := b_4_17.trans (s_17.mono b_4_17.size)
  have b_16_18 := b_16_17.trans (s_17.mono b_16_17.size)
  have b_17_18 := b_17_17.trans (s_17.mono b_17_17.size)
  have b_18_18 : Below w18.heap.size w18 w18 := Below.refl _ _
  refine (c_toIntS (ha1.grow b_0_18) (by omega)).mono ?_
  rintro e w19 ⟨xv1, rfl, hxv1, s_18⟩
  refine ⟨xv1, rfl, ?_⟩
  have b_0_19 := b_0_18.trans (s_18.mono b_0_18.size)
  have b_1_19 := b_1_18.trans (s_18.mono b_1_18.size)
  have b_2_19 := b_2_18.trans (s_18.mono b_2_18.size)
  have b_3_19 := b_3_18.trans (s_18.mono b_3_18.size)
  have b_4_19 := b_4_18.trans (s_18.mono b_4_18.size)
  have b_16_19 := b_16_18.trans (s_18.mono b_16_18.size)
  have b_17_19 := b_17_18.trans (s_18.mono b_17_18.size)
  have b_18_19 := b_18_18.trans (s_18.mono b_18_18.size)
  have b_19_19 : Below w19.heap.size w19 w19 := Below.refl _ _
  refine (c_implChildrenOf (hxv0.row.grow b_18_19) (by omega) (by omega) (hxv1.row.grow b_19_19) (by omega)).mono ?_
  rintro e w20 ⟨h0, rfl, ⟨rsh0, hh0⟩, s_19⟩
  refine ⟨h0, rfl, ?_⟩
  have b_0_20 := b_0_19.trans (s_19.mono b_0_19.size)
  have b_1_20 := b_1_19.trans (s_19.mono b_1_19.size)
  have b_2_20 := b_2_19.trans (s_19.mono b_2_19.size)
  have b_3_20 := b_3_19.trans (s_19.mono b_3_19.size)
  have b_4_20 := b_4_19.trans (s_19.mono b_4_19.size)
  have b_16_20 := b_16_19.trans (s_19.mono b_16_19.size)
  have b_17_20 := b_17_19.trans (s_19.mono b_17_19.size)
  have b_18_20 := b_18_19.trans (s_19.mono b_18_19.size)
  have b_19_20 := b_19_19.trans (s_19.mono b_19_19.size)
  have b_20_20 : Below w20.heap.size w20 w20 := Below.refl _ _
  refine Quiet.call1 (s := .bool) (c_eqIntSS (hh0.row.grow b_20_20) (hw0.grow b_4_20) (by omega) (by omega)) ?_
  intro w21 hd21
  have s_20 : Below w20.heap.size w20 w21 := hd21.below _
  have b_0_21 := b_0_20.trans (s_20.mono b_0_20.size)
  have b_1_21 := b_1_20.trans (s_20.mono b_1_20.size)
  have b_2_21 := b_2_20.trans (s_20.mono b_2_20.size)
  have b_3_21 := b_3_20.trans (s_20.mono b_3_20.size)
  have b_4_21 := b_4_20.trans (s_20.mono b_4_20.size)
  have b_16_21 := b_16_20.trans (s_20.mono b_16_20.size)
  have b_17_21 := b_17_20.trans (s_20.mono b_17_20.size)
  have b_18_21 := b_18_20.trans (s_20.mono b_18_20.size)
  have b_19_21 := b_19_20.trans (s_20.mono b_19_20.size)
  have b_20_21 := b_20_20.trans (s_20.mono b_20_20.size)
  refine bif_f (by simp) ?_
  refine Quiet.call1 (s := .int .i64) (c_heldIntSS (LL := ChildrenOfV L0 L1) (hq0.row.grow b_16_21) (by omega) (by omega) (by omega) (by omega)) ?_
  intro w22 hd22
  have s_21 : Below w21.heap.size w21 w22 := hd22.below _
  have b_0_22 := b_0_21.trans (s_21.mono b_0_21.size)
  have b_1_22 := b_1_21.trans (s_21.mono b_1_21.size)
  have b_2_22 := b_2_21.trans (s_21.mono b_2_21.size)
  have b_3_22 := b_3_21.trans (s_21.mono b_3_21.size)
  have b_4_22 := b_4_21.trans (s_21.mono b_4_21.size)
  have b_16_22 := b_16_21.trans (s_21.mono b_16_21.size)
  have b_17_22 := b_17_21.trans (s_21.mono b_17_21.size)
  have b_18_22 := b_18_21.trans (s_21.mono b_18_21.size)
  have b_19_22 := b_19_21.trans (s_21.mono b_19_21.size)
  have b_20_22 := b_20_21.trans (s_21.mono b_20_21.size)
  refine bif_dec (fun h => by omega) (fun h => ?_)
  refine bif_f (by simp) ?_
  exact ⟨rfl, b_0_22⟩

end Go.Proofs.Ythbjkgpbnfibkaa
