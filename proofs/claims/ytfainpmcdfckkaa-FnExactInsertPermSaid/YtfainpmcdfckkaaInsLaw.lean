/- InsertPerm: the law, written by a program (lawgen.py). -/
import Derived.Test.YtfainpmcdfckkaaInsI
import Derived.Test.YtfainpmcdfckkaaLawSs
import Derived.Test.YtfainpmcdfckkaaLaw2
namespace Go.Proofs.Ytfainpmcdfckkaa
open Go Go.RowKit
set_option maxRecDepth 100000

theorem lawC_FnExactInsertPerm (a0 : Sl) (L0 : List Int) (w : World) (ha0 : RowI w a0 L0) (hbd0 : ∀ x ∈ L0, -9223372036854775808 ≤ x ∧ x ≤ 9223372036854775807) :
    Calls PP F.laws_FnExactInsertPerm #[a0.v] w fun e w' => e = .returned (.bool true) ∧ Below w.heap.size w w' := by
  have han0 : a0.n = L0.length := by have := ha0.n; simpa using this
  refine laws_FnExactInsertPerm.calls a0 ?_
  rw [laws_FnExactInsertPerm.E_s]
  have b_0_0 : Below w.heap.size w w := Below.refl _ _
  refine bif_dec (fun h => ⟨rfl, b_0_0⟩) (fun h0s => ?_)
  have hL0 : L0.length < 2 ^ 38 := by omega
  refine (c_toIntS (ha0.grow b_0_0) (by omega)).mono ?_
  rintro e w1 ⟨xw0, rfl, hxw0, s_0⟩
  refine ⟨xw0, rfl, ?_⟩
  have b_0_1 := b_0_0.trans (s_0.mono b_0_0.size)
  have b_1_1 : Below w1.heap.size w1 w1 := Below.refl _ _
  refine (c_specInsertPerm (hxw0.row.grow b_1_1) (by omega)).mono ?_
  rintro e w2 ⟨u0, u1, rfl, hu0, hu1, s_1⟩
  refine ⟨u0, u1, _, rfl, ?_⟩
  have b_0_2 := b_0_1.trans (s_1.mono b_0_1.size)
  have b_1_2 := b_1_1.trans (s_1.mono b_1_1.size)
  have b_2_2 : Below w2.heap.size w2 w2 := Below.refl _ _
  refine (c_toIntS (ha0.grow b_0_2) (by omega)).mono ?_
  rintro e w3 ⟨xx0, rfl, hxx0, s_2⟩
  refine ⟨xx0, rfl, ?_⟩
  have b_0_3 := b_0_2.trans (s_2.mono b_0_2.size)
  have b_1_3 := b_1_2.trans (s_2.mono b_1_2.size)
  have b_2_3 := b_2_2.trans (s_2.mono b_2_2.size)
  have b_3_3 : Below w3.heap.size w3 w3 := Below.refl _ _
  refine (c_implInsertPerm (hxx0.row.grow b_3_3) (by omega)).mono ?_
  rintro e w4 ⟨g0, g1, rsg0, rsg1, rfl, hg0, hg1, hap, s_3⟩
  refine ⟨g0, g1, _, rfl, ?_⟩
  have b_0_4 := b_0_3.trans (s_3.mono b_0_3.size)
  have b_1_4 := b_1_3.trans (s_3.mono b_1_3.size)
  have b_2_4 := b_2_3.trans (s_3.mono b_2_3.size)
  have b_3_4 := b_3_3.trans (s_3.mono b_3_3.size)
  have b_4_4 : Below w4.heap.size w4 w4 := Below.refl _ _
  have hv0 := InsertPermV_len L0
  have hv1 := InsertPermV_len1 L0
  refine Quiet.call1 (s := .bool) (c_eqIntSS (hg0.row.grow b_4_4) (hu0.grow b_2_4) (by omega) (by omega)) ?_
  intro w5 hd5
  have s_4 : Below w4.heap.size w4 w5 := hd5.below _
  have b_0_5 := b_0_4.trans (s_4.mono b_0_4.size)
  have b_1_5 := b_1_4.trans (s_4.mono b_1_4.size)
  have b_2_5 := b_2_4.trans (s_4.mono b_2_4.size)
  have b_3_5 := b_3_4.trans (s_4.mono b_3_4.size)
  have b_4_5 := b_4_4.trans (s_4.mono b_4_4.size)
  refine bif_f (by simp) ?_
  refine Quiet.call1 (s := .bool) (c_eqIntSS (hg1.row.grow b_4_5) (hu1.grow b_2_5) (by omega) (by omega)) ?_
  intro w6 hd6
  have s_5 : Below w5.heap.size w5 w6 := hd6.below _
  have b_0_6 := b_0_5.trans (s_5.mono b_0_5.size)
  have b_1_6 := b_1_5.trans (s_5.mono b_1_5.size)
  have b_2_6 := b_2_5.trans (s_5.mono b_2_5.size)
  have b_3_6 := b_3_5.trans (s_5.mono b_3_5.size)
  have b_4_6 := b_4_5.trans (s_5.mono b_4_5.size)
  refine bif_f (by simp) ?_
  refine bif_f (by simp) ?_
  have b_6_6 : Below w6.heap.size w6 w6 := Below.refl _ _
  refine (c_toIntS (ha0.grow b_0_6) (by omega)).mono ?_
  rintro e w7 ⟨y0, rfl, hy0, s_6⟩
  refine ⟨y0, rfl, ?_⟩
  have b_0_7 := b_0_6.trans (s_6.mono b_0_6.size)
  have b_1_7 := b_1_6.trans (s_6.mono b_1_6.size)
  have b_2_7 := b_2_6.trans (s_6.mono b_2_6.size)
  have b_3_7 := b_3_6.trans (s_6.mono b_3_6.size)
  have b_4_7 := b_4_6.trans (s_6.mono b_4_6.size)
  have b_6_7 := b_6_6.trans (s_6.mono b_6_6.size)
  refine Quiet.call1 (s := .bool) (c_eqIntS (hxx0.row.grow b_3_7) hy0.row (by omega)) ?_
  intro w8 hd8
  have s_7 : Below w7.heap.size w7 w8 := hd8.below _
  have b_0_8 := b_0_7.trans (s_7.mono b_0_7.size)
  have b_1_8 := b_1_7.trans (s_7.mono b_1_7.size)
  have b_2_8 := b_2_7.trans (s_7.mono b_2_7.size)
  have b_3_8 := b_3_7.trans (s_7.mono b_3_7.size)
  have b_4_8 := b_4_7.trans (s_7.mono b_4_7.size)
  have b_6_8 := b_6_7.trans (s_7.mono b_6_7.size)
  refine bif_f (by simp) ?_
  have hxx0m := hxx0.grow b_3_8
  have hg0m := hg0.grow b_4_8
  have hg1m := hg1.grow b_4_8
  refine (c_markIntS hxx0m (by omega) (k := 1) (by omega) (by omega)).mono ?_
  rintro e w9 ⟨rfl, _, hg_9, hz_9⟩
  have ks_9 := keeps_grown hg_9
  refine ⟨_, rfl, ?_⟩
  have lo_9 : ∀ g, xx0.blk = some g → w2.heap.size ≤ g := (fun g e => (hxx0.lt g e).1)
  have hi_9 : ∀ g, xx0.blk = some g → g < w3.heap.size := (fun g e => (hxx0.lt g e).2)
  have b_0_9 := b_0_8.trans (ks_9.below (B := w.heap.size) (fun g e => Nat.le_trans b_0_2.size (lo_9 g e)) b_0_8.size)
  have b_1_9 := b_1_8.trans (ks_9.below (B := w1.heap.size) (fun g e => Nat.le_trans b_1_2.size (lo_9 g e)) b_1_8.size)
  have b_2_9 := b_2_8.trans (ks_9.below (B := w2.heap.size) (fun g e => Nat.le_trans b_2_2.size (lo_9 g e)) b_2_8.size)
  have hg0m := hg0m.keepsLt ks_9 (fun g e => by have := hi_9 g e; have := b_3_3.size; omega)
  have hg1m := hg1m.keepsLt ks_9 (fun g e => by have := hi_9 g e; have := b_3_3.size; omega)
  refine bif_dec (fun h => by omega) (fun h => ?_)
  have b_9_9 : Below w9.heap.size w9 w9 := Below.refl _ _
  have hg0 := hg0m
  have hg1 := hg1m
  refine Quiet.call1 (s := .bool) (c_eqIntSS (hg0.row.grow b_9_9) (hu0.grow b_2_9) (by omega) (by omega)) ?_
  intro w10 hd10
  have s_9 : Below w9.heap.size w9 w10 := hd10.below _
  have b_0_10 := b_0_9.trans (s_9.mono b_0_9.size)
  have b_1_10 := b_1_9.trans (s_9.mono b_1_9.size)
  have b_2_10 := b_2_9.trans (s_9.mono b_2_9.size)
  have b_9_10 := b_9_9.trans (s_9.mono b_9_9.size)
  refine bif_f (by simp) ?_
  refine Quiet.call1 (s := .bool) (c_eqIntSS (hg1.row.grow b_9_10) (hu1.grow b_2_10) (by omega) (by omega)) ?_
  intro w11 hd11
  have s_10 : Below w10.heap.size w10 w11 := hd11.below _
  have b_0_11 := b_0_10.trans (s_10.mono b_0_10.size)
  have b_1_11 := b_1_10.trans (s_10.mono b_1_10.size)
  have b_2_11 := b_2_10.trans (s_10.mono b_2_10.size)
  have b_9_11 := b_9_10.trans (s_10.mono b_9_10.size)
  refine bif_f (by simp) ?_
  refine bif_f (by simp) ?_
  have hg0p := hg0.grow b_9_11
  have hg1p := hg1.grow b_9_11
  have b_11_11 : Below w11.heap.size w11 w11 := Below.refl _ _
  refine (c_markIntSS hg0p (by omega) (by omega) (k := 1) (by omega) (by omega)).mono ?_
  rintro e w12 ⟨rfl, hq0, ks_12, hz_12⟩
  refine ⟨_, rfl, ?_⟩
  have lo_12 : ∀ g, (∃ r ∈ rsg0, r.blk = some g) → w3.heap.size ≤ g := (fun g e => by obtain ⟨r, hr, e⟩ := e; exact (hg0p.lt hr e).1)
  have b_0_12 := b_0_11.trans (ks_12.below (B := w.heap.size) (fun g e => Nat.le_trans b_0_3.size (lo_12 g e)) b_0_11.size)
  have b_1_12 := b_1_11.trans (ks_12.below (B := w1.heap.size) (fun g e => Nat.le_trans b_1_3.size (lo_12 g e)) b_1_11.size)
  have b_2_12 := b_2_11.trans (ks_12.below (B := w2.heap.size) (fun g e => Nat.le_trans b_2_3.size (lo_12 g e)) b_2_11.size)
  have hg1p := hg1p.keepsF ks_12 fun g h1 h2 => hap g (.inr h2) h1
  refine (c_markIntSS hg1p (by omega) (by omega) (k := 1 + tot (InsertPermV L0)) (by omega) (by omega)).mono ?_
  rintro e w13 ⟨rfl, hq1, ks_13, hz_13⟩
  refine ⟨_, rfl, ?_⟩
  have lo_13 : ∀ g, (∃ r ∈ rsg1, r.blk = some g) → w3.heap.size ≤ g := (fun g e => by obtain ⟨r, hr, e⟩ := e; exact (hg1p.lt hr e).1)
  have b_0_13 := b_0_12.trans (ks_13.below (B := w.heap.size) (fun g e => Nat.le_trans b_0_3.size (lo_13 g e)) b_0_12.size)
  have b_1_13 := b_1_12.trans (ks_13.below (B := w1.heap.size) (fun g e => Nat.le_trans b_1_3.size (lo_13 g e)) b_1_12.size)
  have b_2_13 := b_2_12.trans (ks_13.below (B := w2.heap.size) (fun g e => Nat.le_trans b_2_3.size (lo_13 g e)) b_2_12.size)
  have hq0 := hq0.keepsF ks_13 fun g h1 h2 => hap g h1 (.inr h2)
  have b_13_13 : Below w13.heap.size w13 w13 := Below.refl _ _
  refine Quiet.call1 (s := .int .i64) (c_heldIntSS (LL := InsertPermV L0) (hq0.row.grow b_13_13) (by omega) (by omega) (by omega) (by omega)) ?_
  intro w14 hd14
  have s_13 : Below w13.heap.size w13 w14 := hd14.below _
  have b_0_14 := b_0_13.trans (s_13.mono b_0_13.size)
  have b_1_14 := b_1_13.trans (s_13.mono b_1_13.size)
  have b_2_14 := b_2_13.trans (s_13.mono b_2_13.size)
  have b_13_14 := b_13_13.trans (s_13.mono b_13_13.size)
  refine bif_dec (fun h => by omega) (fun h => ?_)
  refine Quiet.call1 (s := .int .i64) (c_heldIntSS (LL := InsertPermV1 L0) (hq1.row.grow b_13_14) (by omega) (by omega) (by omega) (by omega)) ?_
  intro w15 hd15
  have s_14 : Below w14.heap.size w14 w15 := hd15.below _
  have b_0_15 := b_0_14.trans (s_14.mono b_0_14.size)
  have b_1_15 := b_1_14.trans (s_14.mono b_1_14.size)
  have b_2_15 := b_2_14.trans (s_14.mono b_2_14.size)
  have b_13_15 := b_13_14.trans (s_14.mono b_13_14.size)
  refine bif_dec (fun h => by omega) (fun h => ?_)
  refine bif_f (by simp) ?_
  have b_15_15 : Below w15.heap.size w15 w15 := Below.refl _ _
  refine (c_toIntS (ha0.grow b_0_15) (by omega)).mono ?_
  rintro e w16 ⟨xv0, rfl, hxv0, s_15⟩
  refine ⟨xv0, rfl, ?_⟩
  have b_0_16 := b_0_15.trans (s_15.mono b_0_15.size)
  have b_1_16 := b_1_15.trans (s_15.mono b_1_15.size)
  have b_2_16 := b_2_15.trans (s_15.mono b_2_15.size)
  have b_13_16 := b_13_15.trans (s_15.mono b_13_15.size)
  have b_15_16 := b_15_15.trans (s_15.mono b_15_15.size)
  have b_16_16 : Below w16.heap.size w16 w16 := Below.refl _ _
  refine (c_implInsertPerm (hxv0.row.grow b_16_16) (by omega)).mono ?_
  rintro e w17 ⟨h0, h1, rsh0, rsh1, rfl, hh0, hh1, hap, s_16⟩
  refine ⟨h0, h1, _, rfl, ?_⟩
  have b_0_17 := b_0_16.trans (s_16.mono b_0_16.size)
  have b_1_17 := b_1_16.trans (s_16.mono b_1_16.size)
  have b_2_17 := b_2_16.trans (s_16.mono b_2_16.size)
  have b_13_17 := b_13_16.trans (s_16.mono b_13_16.size)
  have b_15_17 := b_15_16.trans (s_16.mono b_15_16.size)
  have b_16_17 := b_16_16.trans (s_16.mono b_16_16.size)
  have b_17_17 : Below w17.heap.size w17 w17 := Below.refl _ _
  refine Quiet.call1 (s := .bool) (c_eqIntSS (hh0.row.grow b_17_17) (hu0.grow b_2_17) (by omega) (by omega)) ?_
  intro w18 hd18
  have s_17 : Below w17.heap.size w17 w18 := hd18.below _
  have b_0_18 := b_0_17.trans (s_17.mono b_0_17.size)
  have b_1_18 := b_1_17.trans (s_17.mono b_1_17.size)
  have b_2_18 := b_2_17.trans (s_17.mono b_2_17.size)
  have b_13_18 := b_13_17.trans (s_17.mono b_13_17.size)
  have b_15_18 := b_15_17.trans (s_17.mono b_15_17.size)
  have b_16_18 := b_16_17.trans (s_17.mono b_16_17.size)
  have b_17_18 := b_17_17.trans (s_17.mono b_17_17.size)
  refine bif_f (by simp) ?_
  refine Quiet.call1 (s := .bool) (c_eqIntSS (hh1.row.grow b_17_18) (hu1.grow b_2_18) (by omega) (by omega)) ?_
  intro w19 hd19
  have s_18 : Below w18.heap.size w18 w19 := hd19.below _
  have b_0_19 := b_0_18.trans (s_18.mono b_0_18.size)
  have b_1_19 := b_1_18.trans (s_18.mono b_1_18.size)
  have b_2_19 := b_2_18.trans (s_18.mono b_2_18.size)
  have b_13_19 := b_13_18.trans (s_18.mono b_13_18.size)
  have b_15_19 := b_15_18.trans (s_18.mono b_15_18.size)
  have b_16_19 := b_16_18.trans (s_18.mono b_16_18.size)
  have b_17_19 := b_17_18.trans (s_18.mono b_17_18.size)
  refine bif_f (by simp) ?_
  refine bif_f (by simp) ?_
  refine Quiet.call1 (s := .int .i64) (c_heldIntSS (LL := InsertPermV L0) (hq0.row.grow b_13_19) (by omega) (by omega) (by omega) (by omega)) ?_
  intro w20 hd20
  have s_19 : Below w19.heap.size w19 w20 := hd20.below _
  have b_0_20 := b_0_19.trans (s_19.mono b_0_19.size)
  have b_1_20 := b_1_19.trans (s_19.mono b_1_19.size)
  have b_2_20 := b_2_19.trans (s_19.mono b_2_19.size)
  have b_13_20 := b_13_19.trans (s_19.mono b_13_19.size)
  have b_15_20 := b_15_19.trans (s_19.mono b_15_19.size)
  have b_16_20 := b_16_19.trans (s_19.mono b_16_19.size)
  have b_17_20 := b_17_19.trans (s_19.mono b_17_19.size)
  refine bif_dec (fun h => by omega) (fun h => ?_)
  refine Quiet.call1 (s := .int .i64) (c_heldIntSS (LL := InsertPermV1 L0) (hq1.row.grow b_13_20) (by omega) (by omega) (by omega) (by omega)) ?_
  intro w21 hd21
  have s_20 : Below w20.heap.size w20 w21 := hd21.below _
  have b_0_21 := b_0_20.trans (s_20.mono b_0_20.size)
  have b_1_21 := b_1_20.trans (s_20.mono b_1_20.size)
  have b_2_21 := b_2_20.trans (s_20.mono b_2_20.size)
  have b_13_21 := b_13_20.trans (s_20.mono b_13_20.size)
  have b_15_21 := b_15_20.trans (s_20.mono b_15_20.size)
  have b_16_21 := b_16_20.trans (s_20.mono b_16_20.size)
  have b_17_21 := b_17_20.trans (s_20.mono b_17_20.size)
  refine bif_dec (fun h => by omega) (fun h => ?_)
  refine bif_f (by simp) ?_
  exact ⟨rfl, b_0_21⟩
end Go.Proofs.Ytfainpmcdfckkaa
