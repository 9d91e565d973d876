/- PermOfTableaux: the law, written by a program (lawgen.py). -/
import Derived.Test.YtfainpmcdfckkaaPotI
import Derived.Test.YtfainpmcdfckkaaLawSs
import Derived.Test.YtfainpmcdfckkaaLawSz
import Derived.Test.YtfainpmcdfckkaaLaw2
namespace Go.Proofs.Ytfainpmcdfckkaa
open Go Go.RowKit
set_option maxRecDepth 100000

theorem lawC_FnExactPermOfTableaux (a0 : Sl) (L0 : List (List Int)) (a1 : Sl) (L1 : List (List Int)) (w : World) (ha0 : RowSS w a0 L0) (hbd0 : L0.length ≤ maxLen ∧ ∀ M ∈ L0, M.length ≤ maxLen ∧ ∀ x ∈ M, -9223372036854775808 ≤ x ∧ x ≤ 9223372036854775807) (ha1 : RowSS w a1 L1) (hbd1 : L1.length ≤ maxLen ∧ ∀ M ∈ L1, M.length ≤ maxLen ∧ ∀ x ∈ M, -9223372036854775808 ≤ x ∧ x ≤ 9223372036854775807) :
    Calls PP F.laws_FnExactPermOfTableaux #[a0.v, a1.v] w fun e w' => e = .returned (.bool true) ∧ Below w.heap.size w w' := by
  have han0 := ha0.n
  have han1 := ha1.n
  refine laws_FnExactPermOfTableaux.calls a0 a1 ?_
  rw [laws_FnExactPermOfTableaux.E_s]
  have b_0_0 : Below w.heap.size w w := Below.refl _ _
  refine Quiet.call1 (s := .int .i64) (c_szIntSS (ha0.grow b_0_0) hbd0.1 (fun M hM => (hbd0.2 M hM).1) (left := 1048576) (by omega) (by omega)) ?_
  intro w1 hd1
  have s_0 : Below w.heap.size w w1 := hd1.below _
  have b_0_1 := b_0_0.trans (s_0.mono b_0_0.size)
  refine bif_dec (fun h => ⟨rfl, b_0_1⟩) (fun hsz0 => ?_)
  obtain ⟨hz0, ez0⟩ := szW_ok (LL := L0) (by omega) hsz0
  rw [ez0]
  have hn0 : L0.length < 2^38 := by omega
  have htt0 : tot L0 < 2^38 := by omega
  refine Quiet.call1 (s := .int .i64) (c_szIntSS (ha1.grow b_0_1) hbd1.1 (fun M hM => (hbd1.2 M hM).1) (left := (1048576 - ((L0.length : Int) + tot L0))) (by omega) (by omega)) ?_
  intro w2 hd2
  have s_1 : Below w1.heap.size w1 w2 := hd2.below _
  have b_0_2 := b_0_1.trans (s_1.mono b_0_1.size)
  refine bif_dec (fun h => ⟨rfl, b_0_2⟩) (fun hsz1 => ?_)
  obtain ⟨hz1, ez1⟩ := szW_ok (LL := L1) (by omega) hsz1
  have hn1 : L1.length < 2^38 := by omega
  have htt1 : tot L1 < 2^38 := by omega
  have b_2_2 : Below w2.heap.size w2 w2 := Below.refl _ _
  refine (c_toIntSS (ha0.grow b_0_2) hn0 htt0).mono ?_
  rintro e w3 ⟨xw0, rfl, ⟨rsxw0, hxw0⟩, s_2⟩
  refine ⟨xw0, rfl, ?_⟩
  have b_0_3 := b_0_2.trans (s_2.mono b_0_2.size)
  have b_2_3 := b_2_2.trans (s_2.mono b_2_2.size)
  have b_3_3 : Below w3.heap.size w3 w3 := Below.refl _ _
  refine (c_toIntSS (ha1.grow b_0_3) hn1 htt1).mono ?_
  rintro e w4 ⟨xw1, rfl, ⟨rsxw1, hxw1⟩, s_3⟩
  refine ⟨xw1, rfl, ?_⟩
  have b_0_4 := b_0_3.trans (s_3.mono b_0_3.size)
  have b_2_4 := b_2_3.trans (s_3.mono b_2_3.size)
  have b_3_4 := b_3_3.trans (s_3.mono b_3_3.size)
  have b_4_4 : Below w4.heap.size w4 w4 := Below.refl _ _
  refine (c_specPermOfTableaux (hxw0.row.grow b_3_4) (by omega) (by omega) (hxw1.row.grow b_4_4) (by omega) (by omega)).mono ?_
  rintro e w5 ⟨u0, rfl, hu0, s_4⟩
  refine ⟨u0, _, rfl, ?_⟩
  have b_0_5 := b_0_4.trans (s_4.mono b_0_4.size)
  have b_2_5 := b_2_4.trans (s_4.mono b_2_4.size)
  have b_3_5 := b_3_4.trans (s_4.mono b_3_4.size)
  have b_4_5 := b_4_4.trans (s_4.mono b_4_4.size)
  have b_5_5 : Below w5.heap.size w5 w5 := Below.refl _ _
  refine (c_toIntSS (ha0.grow b_0_5) hn0 htt0).mono ?_
  rintro e w6 ⟨xx0, rfl, ⟨rsxx0, hxx0⟩, s_5⟩
  refine ⟨xx0, rfl, ?_⟩
  have b_0_6 := b_0_5.trans (s_5.mono b_0_5.size)
  have b_2_6 := b_2_5.trans (s_5.mono b_2_5.size)
  have b_3_6 := b_3_5.trans (s_5.mono b_3_5.size)
  have b_4_6 := b_4_5.trans (s_5.mono b_4_5.size)
  have b_5_6 := b_5_5.trans (s_5.mono b_5_5.size)
  have b_6_6 : Below w6.heap.size w6 w6 := Below.refl _ _
  refine (c_toIntSS (ha1.grow b_0_6) hn1 htt1).mono ?_
  rintro e w7 ⟨xx1, rfl, ⟨rsxx1, hxx1⟩, s_6⟩
  refine ⟨xx1, rfl, ?_⟩
  have b_0_7 := b_0_6.trans (s_6.mono b_0_6.size)
  have b_2_7 := b_2_6.trans (s_6.mono b_2_6.size)
  have b_3_7 := b_3_6.trans (s_6.mono b_3_6.size)
  have b_4_7 := b_4_6.trans (s_6.mono b_4_6.size)
  have b_5_7 := b_5_6.trans (s_6.mono b_5_6.size)
  have b_6_7 := b_6_6.trans (s_6.mono b_6_6.size)
  have b_7_7 : Below w7.heap.size w7 w7 := Below.refl _ _
  refine (c_implPermOfTableaux (hxx0.row.grow b_6_7) (by omega) (by omega) (hxx1.row.grow b_7_7) (by omega) (by omega)).mono ?_
  rintro e w8 ⟨g0, rfl, hg0, s_7⟩
  refine ⟨g0, _, rfl, ?_⟩
  have b_0_8 := b_0_7.trans (s_7.mono b_0_7.size)
  have b_2_8 := b_2_7.trans (s_7.mono b_2_7.size)
  have b_3_8 := b_3_7.trans (s_7.mono b_3_7.size)
  have b_4_8 := b_4_7.trans (s_7.mono b_4_7.size)
  have b_5_8 := b_5_7.trans (s_7.mono b_5_7.size)
  have b_6_8 := b_6_7.trans (s_7.mono b_6_7.size)
  have b_7_8 := b_7_7.trans (s_7.mono b_7_7.size)
  have b_8_8 : Below w8.heap.size w8 w8 := Below.refl _ _
  have hv0 : (PermOfTableauxV L0 L1).length < 2^38 := PermOfTableauxV_len L0 L1
  refine Quiet.call1 (s := .bool) (c_eqIntS (hg0.row.grow b_8_8) (hu0.grow b_5_8) (by omega)) ?_
  intro w9 hd9
  have s_8 : Below w8.heap.size w8 w9 := hd9.below _
  have b_0_9 := b_0_8.trans (s_8.mono b_0_8.size)
  have b_2_9 := b_2_8.trans (s_8.mono b_2_8.size)
  have b_3_9 := b_3_8.trans (s_8.mono b_3_8.size)
  have b_4_9 := b_4_8.trans (s_8.mono b_4_8.size)
  have b_5_9 := b_5_8.trans (s_8.mono b_5_8.size)
  have b_6_9 := b_6_8.trans (s_8.mono b_6_8.size)
  have b_7_9 := b_7_8.trans (s_8.mono b_7_8.size)
  have b_8_9 := b_8_8.trans (s_8.mono b_8_8.size)
  refine bif_f (by simp) ?_
  refine bif_f (by simp) ?_
  have b_9_9 : Below w9.heap.size w9 w9 := Below.refl _ _
  refine (c_toIntSS (ha0.grow b_0_9) hn0 htt0).mono ?_
  rintro e w10 ⟨y0, rfl, hy0, s_9⟩
  refine ⟨y0, rfl, ?_⟩
  have b_0_10 := b_0_9.trans (s_9.mono b_0_9.size)
  have b_2_10 := b_2_9.trans (s_9.mono b_2_9.size)
  have b_3_10 := b_3_9.trans (s_9.mono b_3_9.size)
  have b_4_10 := b_4_9.trans (s_9.mono b_4_9.size)
  have b_5_10 := b_5_9.trans (s_9.mono b_5_9.size)
  have b_6_10 := b_6_9.trans (s_9.mono b_6_9.size)
  have b_7_10 := b_7_9.trans (s_9.mono b_7_9.size)
  have b_8_10 := b_8_9.trans (s_9.mono b_8_9.size)
  have b_9_10 := b_9_9.trans (s_9.mono b_9_9.size)
  refine Quiet.call1 (s := .bool) (c_eqIntSS (hxx0.row.grow b_6_10) hy0.row (by omega) (by omega)) ?_
  intro w11 hd11
  have s_10 : Below w10.heap.size w10 w11 := hd11.below _
  have b_0_11 := b_0_10.trans (s_10.mono b_0_10.size)
  have b_2_11 := b_2_10.trans (s_10.mono b_2_10.size)
  have b_3_11 := b_3_10.trans (s_10.mono b_3_10.size)
  have b_4_11 := b_4_10.trans (s_10.mono b_4_10.size)
  have b_5_11 := b_5_10.trans (s_10.mono b_5_10.size)
  have b_6_11 := b_6_10.trans (s_10.mono b_6_10.size)
  have b_7_11 := b_7_10.trans (s_10.mono b_7_10.size)
  have b_8_11 := b_8_10.trans (s_10.mono b_8_10.size)
  have b_9_11 := b_9_10.trans (s_10.mono b_9_10.size)
  refine bif_f (by simp) ?_
  have b_11_11 : Below w11.heap.size w11 w11 := Below.refl _ _
  refine (c_toIntSS (ha1.grow b_0_11) hn1 htt1).mono ?_
  rintro e w12 ⟨y1, rfl, hy1, s_11⟩
  refine ⟨y1, rfl, ?_⟩
  have b_0_12 := b_0_11.trans (s_11.mono b_0_11.size)
  have b_2_12 := b_2_11.trans (s_11.mono b_2_11.size)
  have b_3_12 := b_3_11.trans (s_11.mono b_3_11.size)
  have b_4_12 := b_4_11.trans (s_11.mono b_4_11.size)
  have b_5_12 := b_5_11.trans (s_11.mono b_5_11.size)
  have b_6_12 := b_6_11.trans (s_11.mono b_6_11.size)
  have b_7_12 := b_7_11.trans (s_11.mono b_7_11.size)
  have b_8_12 := b_8_11.trans (s_11.mono b_8_11.size)
  have b_9_12 := b_9_11.trans (s_11.mono b_9_11.size)
  have b_11_12 := b_11_11.trans (s_11.mono b_11_11.size)
  refine Quiet.call1 (s := .bool) (c_eqIntSS (hxx1.row.grow b_7_12) hy1.row (by omega) (by omega)) ?_
  intro w13 hd13
  have s_12 : Below w12.heap.size w12 w13 := hd13.below _
  have b_0_13 := b_0_12.trans (s_12.mono b_0_12.size)
  have b_2_13 := b_2_12.trans (s_12.mono b_2_12.size)
  have b_3_13 := b_3_12.trans (s_12.mono b_3_12.size)
  have b_4_13 := b_4_12.trans (s_12.mono b_4_12.size)
  have b_5_13 := b_5_12.trans (s_12.mono b_5_12.size)
  have b_6_13 := b_6_12.trans (s_12.mono b_6_12.size)
  have b_7_13 := b_7_12.trans (s_12.mono b_7_12.size)
  have b_8_13 := b_8_12.trans (s_12.mono b_8_12.size)
  have b_9_13 := b_9_12.trans (s_12.mono b_9_12.size)
  have b_11_13 := b_11_12.trans (s_12.mono b_11_12.size)
  refine bif_f (by simp) ?_
  have hxx0m := hxx0.grow b_6_13
  have hxx1m := hxx1.grow b_7_13
  have hg0m := hg0.grow b_8_13
  refine (c_markIntSS hxx0m (by omega) (by omega) (k := 1) (by omega) (by omega)).mono ?_
  rintro e w14 ⟨rfl, _, ks_14, hz_14⟩
  refine ⟨_, rfl, ?_⟩
  have lo_14 : ∀ g, (∃ r ∈ rsxx0, r.blk = some g) → w5.heap.size ≤ g := (fun g e => by obtain ⟨r, hr, e⟩ := e; exact (hxx0.lt hr e).1)
  have hi_14 : ∀ g, (∃ r ∈ rsxx0, r.blk = some g) → g < w6.heap.size := (fun g e => by obtain ⟨r, hr, e⟩ := e; exact (hxx0.lt hr e).2)
  have b_0_14 := b_0_13.trans (ks_14.below (B := w.heap.size) (fun g e => Nat.le_trans b_0_5.size (lo_14 g e)) b_0_13.size)
  have b_2_14 := b_2_13.trans (ks_14.below (B := w2.heap.size) (fun g e => Nat.le_trans b_2_5.size (lo_14 g e)) b_2_13.size)
  have b_3_14 := b_3_13.trans (ks_14.below (B := w3.heap.size) (fun g e => Nat.le_trans b_3_5.size (lo_14 g e)) b_3_13.size)
  have b_4_14 := b_4_13.trans (ks_14.below (B := w4.heap.size) (fun g e => Nat.le_trans b_4_5.size (lo_14 g e)) b_4_13.size)
  have b_5_14 := b_5_13.trans (ks_14.below (B := w5.heap.size) (fun g e => Nat.le_trans b_5_5.size (lo_14 g e)) b_5_13.size)
  have hxx1m := hxx1m.keepsLt ks_14 (fun g e => by have := hi_14 g e; have := b_6_6.size; omega)
  have hg0m := hg0m.keeps ks_14 (fun g e1 e2 => by have := hi_14 g e2; have := (hg0.lt g e1).1; have := b_6_7.size; omega)
  refine (c_markIntSS hxx1m (by omega) (by omega) (k := 1 + (tot L0 : Int)) (by omega) (by omega)).mono ?_
  rintro e w15 ⟨rfl, _, ks_15, hz_15⟩
  refine ⟨_, rfl, ?_⟩
  have lo_15 : ∀ g, (∃ r ∈ rsxx1, r.blk = some g) → w6.heap.size ≤ g := (fun g e => by obtain ⟨r, hr, e⟩ := e; exact (hxx1.lt hr e).1)
  have hi_15 : ∀ g, (∃ r ∈ rsxx1, r.blk = some g) → g < w7.heap.size := (fun g e => by obtain ⟨r, hr, e⟩ := e; exact (hxx1.lt hr e).2)
  have b_0_15 := b_0_14.trans (ks_15.below (B := w.heap.size) (fun g e => Nat.le_trans b_0_6.size (lo_15 g e)) b_0_14.size)
  have b_2_15 := b_2_14.trans (ks_15.below (B := w2.heap.size) (fun g e => Nat.le_trans b_2_6.size (lo_15 g e)) b_2_14.size)
  have b_3_15 := b_3_14.trans (ks_15.below (B := w3.heap.size) (fun g e => Nat.le_trans b_3_6.size (lo_15 g e)) b_3_14.size)
  have b_4_15 := b_4_14.trans (ks_15.below (B := w4.heap.size) (fun g e => Nat.le_trans b_4_6.size (lo_15 g e)) b_4_14.size)
  have b_5_15 := b_5_14.trans (ks_15.below (B := w5.heap.size) (fun g e => Nat.le_trans b_5_6.size (lo_15 g e)) b_5_14.size)
  have hg0m := hg0m.keeps ks_15 (fun g e1 e2 => by have := hi_15 g e2; have := (hg0.lt g e1).1; have := b_7_7.size; omega)
  refine bif_dec (fun h => by omega) (fun h => ?_)
  have b_15_15 : Below w15.heap.size w15 w15 := Below.refl _ _
  have hg0 := hg0m
  refine Quiet.call1 (s := .bool) (c_eqIntS (hg0.row.grow b_15_15) (hu0.grow b_5_15) (by omega)) ?_
  intro w16 hd16
  have s_15 : Below w15.heap.size w15 w16 := hd16.below _
  have b_0_16 := b_0_15.trans (s_15.mono b_0_15.size)
  have b_2_16 := b_2_15.trans (s_15.mono b_2_15.size)
  have b_3_16 := b_3_15.trans (s_15.mono b_3_15.size)
  have b_4_16 := b_4_15.trans (s_15.mono b_4_15.size)
  have b_5_16 := b_5_15.trans (s_15.mono b_5_15.size)
  have b_15_16 := b_15_15.trans (s_15.mono b_15_15.size)
  refine bif_f (by simp) ?_
  refine bif_f (by simp) ?_
  have hg0p := hg0.grow b_15_16
  have b_16_16 : Below w16.heap.size w16 w16 := Below.refl _ _
  refine (c_markIntS hg0p (by omega) (k := 1) (by omega) (by omega)).mono ?_
  rintro e w17 ⟨rfl, hq0, hg_17, hz_17⟩
  have ks_17 := keeps_grown hg_17
  refine ⟨_, rfl, ?_⟩
  have lo_17 : ∀ g, g0.blk = some g → w7.heap.size ≤ g := (fun g e => (hg0p.lt g e).1)
  have b_0_17 := b_0_16.trans (ks_17.below (B := w.heap.size) (fun g e => Nat.le_trans b_0_7.size (lo_17 g e)) b_0_16.size)
  have b_2_17 := b_2_16.trans (ks_17.below (B := w2.heap.size) (fun g e => Nat.le_trans b_2_7.size (lo_17 g e)) b_2_16.size)
  have b_3_17 := b_3_16.trans (ks_17.below (B := w3.heap.size) (fun g e => Nat.le_trans b_3_7.size (lo_17 g e)) b_3_16.size)
  have b_4_17 := b_4_16.trans (ks_17.below (B := w4.heap.size) (fun g e => Nat.le_trans b_4_7.size (lo_17 g e)) b_4_16.size)
  have b_5_17 := b_5_16.trans (ks_17.below (B := w5.heap.size) (fun g e => Nat.le_trans b_5_7.size (lo_17 g e)) b_5_16.size)
  have b_17_17 : Below w17.heap.size w17 w17 := Below.refl _ _
  refine Quiet.call1 (s := .int .i64) (c_heldIntS (n := (PermOfTableauxV L0 L1).length) (hq0.row.grow b_17_17) (by omega) (by omega) (by omega)) ?_
  intro w18 hd18
  have s_17 : Below w17.heap.size w17 w18 := hd18.below _
  have b_0_18 := b_0_17.trans (s_17.mono b_0_17.size)
  have b_2_18 := b_2_17.trans (s_17.mono b_2_17.size)
  have b_3_18 := b_3_17.trans (s_17.mono b_3_17.size)
  have b_4_18 := b_4_17.trans (s_17.mono b_4_17.size)
  have b_5_18 := b_5_17.trans (s_17.mono b_5_17.size)
  have b_17_18 := b_17_17.trans (s_17.mono b_17_17.size)
  refine bif_dec (fun h => by omega) (fun h => ?_)
  refine bif_f (by simp) ?_
  have b_18_18 : Below w18.heap.size w18 w18 := Below.refl _ _
  refine (c_toIntSS (ha0.grow b_0_18) hn0 htt0).mono ?_
  rintro e w19 ⟨xv0, rfl, ⟨rsxv0, hxv0⟩, s_18⟩
  refine ⟨xv0, rfl, ?_⟩
  have b_0_19 := b_0_18.trans (s_18.mono b_0_18.size)
  have b_2_19 := b_2_18.trans (s_18.mono b_2_18.size)
  have b_3_19 := b_3_18.trans (s_18.mono b_3_18.size)
  have b_4_19 := b_4_18.trans (s_18.mono b_4_18.size)
  have b_5_19 := b_5_18.trans (s_18.mono b_5_18.size)
  have b_17_19 := b_17_18.trans (s_18.mono b_17_18.size)
  have b_18_19 := b_18_18.trans (s_18.mono b_18_18.size)
  have b_19_19 : Below w19.heap.size w19 w19 := Below.refl _ _
  refine (c_toIntSS (ha1.grow b_0_19) hn1 htt1).mono ?_
  rintro e w20 ⟨xv1, rfl, ⟨rsxv1, hxv1⟩, s_19⟩
  refine ⟨xv1, rfl, ?_⟩
  have b_0_20 := b_0_19.trans (s_19.mono b_0_19.size)
  have b_2_20 := b_2_19.trans (s_19.mono b_2_19.size)
  have b_3_20 := b_3_19.trans (s_19.mono b_3_19.size)
  have b_4_20 := b_4_19.trans (s_19.mono b_4_19.size)
  have b_5_20 := b_5_19.trans (s_19.mono b_5_19.size)
  have b_17_20 := b_17_19.trans (s_19.mono b_17_19.size)
  have b_18_20 := b_18_19.trans (s_19.mono b_18_19.size)
  have b_19_20 := b_19_19.trans (s_19.mono b_19_19.size)
  have b_20_20 : Below w20.heap.size w20 w20 := Below.refl _ _
  refine (c_implPermOfTableaux (hxv0.row.grow b_19_20) (by omega) (by omega) (hxv1.row.grow b_20_20) (by omega) (by omega)).mono ?_
  rintro e w21 ⟨h0, rfl, hh0, s_20⟩
  refine ⟨h0, _, rfl, ?_⟩
  have b_0_21 := b_0_20.trans (s_20.mono b_0_20.size)
  have b_2_21 := b_2_20.trans (s_20.mono b_2_20.size)
  have b_3_21 := b_3_20.trans (s_20.mono b_3_20.size)
  have b_4_21 := b_4_20.trans (s_20.mono b_4_20.size)
  have b_5_21 := b_5_20.trans (s_20.mono b_5_20.size)
  have b_17_21 := b_17_20.trans (s_20.mono b_17_20.size)
  have b_18_21 := b_18_20.trans (s_20.mono b_18_20.size)
  have b_19_21 := b_19_20.trans (s_20.mono b_19_20.size)
  have b_20_21 := b_20_20.trans (s_20.mono b_20_20.size)
  have b_21_21 : Below w21.heap.size w21 w21 := Below.refl _ _
  refine Quiet.call1 (s := .bool) (c_eqIntS (hh0.row.grow b_21_21) (hu0.grow b_5_21) (by omega)) ?_
  intro w22 hd22
  have s_21 : Below w21.heap.size w21 w22 := hd22.below _
  have b_0_22 := b_0_21.trans (s_21.mono b_0_21.size)
  have b_2_22 := b_2_21.trans (s_21.mono b_2_21.size)
  have b_3_22 := b_3_21.trans (s_21.mono b_3_21.size)
  have b_4_22 := b_4_21.trans (s_21.mono b_4_21.size)
  have b_5_22 := b_5_21.trans (s_21.mono b_5_21.size)
  have b_17_22 := b_17_21.trans (s_21.mono b_17_21.size)
  have b_18_22 := b_18_21.trans (s_21.mono b_18_21.size)
  have b_19_22 := b_19_21.trans (s_21.mono b_19_21.size)
  have b_20_22 := b_20_21.trans (s_21.mono b_20_21.size)
  have b_21_22 := b_21_21.trans (s_21.mono b_21_21.size)
  refine bif_f (by simp) ?_
  refine bif_f (by simp) ?_
  refine Quiet.call1 (s := .int .i64) (c_heldIntS (n := (PermOfTableauxV L0 L1).length) (hq0.row.grow b_17_22) (by omega) (by omega) (by omega)) ?_
  intro w23 hd23
  have s_22 : Below w22.heap.size w22 w23 := hd23.below _
  have b_0_23 := b_0_22.trans (s_22.mono b_0_22.size)
  have b_2_23 := b_2_22.trans (s_22.mono b_2_22.size)
  have b_3_23 := b_3_22.trans (s_22.mono b_3_22.size)
  have b_4_23 := b_4_22.trans (s_22.mono b_4_22.size)
  have b_5_23 := b_5_22.trans (s_22.mono b_5_22.size)
  have b_17_23 := b_17_22.trans (s_22.mono b_17_22.size)
  have b_18_23 := b_18_22.trans (s_22.mono b_18_22.size)
  have b_19_23 := b_19_22.trans (s_22.mono b_19_22.size)
  have b_20_23 := b_20_22.trans (s_22.mono b_20_22.size)
  have b_21_23 := b_21_22.trans (s_22.mono b_21_22.size)
  refine bif_dec (fun h => by omega) (fun h => ?_)
  refine bif_f (by simp) ?_
  exact ⟨rfl, b_0_23⟩
end Go.Proofs.Ytfainpmcdfckkaa
