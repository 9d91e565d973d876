/- IsTwicePattern: the law, written by a program (lawgen.py). -/
import Derived.Test.YtmhgjfahgemblaaTw
namespace Go.Proofs.Ytmhgjfahgemblaa
open Go Go.RowKit
set_option maxRecDepth 100000

theorem lawC_FnExactIsTwicePattern (a0 : Sl) (L0 : List Int) (w : World) (ha0 : RowI w a0 L0) (hbd0 : ∀ x ∈ L0, -9223372036854775808 ≤ x ∧ x ≤ 9223372036854775807) :
    Calls PP F.laws_FnExactIsTwicePattern #[a0.v] w fun e w' => e = .returned (.bool true) ∧ Below w.heap.size w w' := by
  have han0 : a0.n = L0.length := by have := ha0.n; simpa using this
  refine laws_FnExactIsTwicePattern.calls a0 ?_
  rw [laws_FnExactIsTwicePattern.E_s]
  have b_0_0 : Below w.heap.size w w := Below.refl _ _
  refine bif_dec (fun h => ⟨rfl, b_0_0⟩) (fun h0s => ?_)
  have hL0 : L0.length < 2 ^ 38 := by omega
  refine (c_toIntS (ha0.grow b_0_0) (by omega)).mono ?_
  rintro e w1 ⟨xw0, rfl, hxw0, s_0⟩
  refine ⟨xw0, rfl, ?_⟩
  have b_0_1 := b_0_0.trans (s_0.mono b_0_0.size)
  have b_1_1 : Below w1.heap.size w1 w1 := Below.refl _ _
  refine (c_specIsTwicePattern (hxw0.row.grow b_1_1) (by omega)).mono ?_
  rintro e w2 ⟨rfl, s_1⟩
  refine ⟨_, rfl, ?_⟩
  have b_0_2 := b_0_1.trans (s_1.mono b_0_1.size)
  have b_1_2 := b_1_1.trans (s_1.mono b_1_1.size)
  have b_2_2 : Below w2.heap.size w2 w2 := Below.refl _ _
  refine (c_toIntS (ha0.grow b_0_2) (by omega)).mono ?_
  rintro e w3 ⟨xx0, rfl, hxx0, s_2⟩
  refine ⟨xx0, rfl, ?_⟩
  have b_0_3 := b_0_2.trans (s_2.mono b_0_2.size)
  have b_1_3 := b_1_2.trans (s_2.mono b_1_2.size)
  have b_2_3 := b_2_2.trans (s_2.mono b_2_2.size)
  have b_3_3 : Below w3.heap.size w3 w3 := Below.refl _ _
  refine (c_implIsTwicePattern (hxx0.row.grow b_3_3) (by omega)).mono ?_
  rintro e w4 ⟨rfl, s_3⟩
  refine ⟨_, rfl, ?_⟩
  have b_0_4 := b_0_3.trans (s_3.mono b_0_3.size)
  have b_1_4 := b_1_3.trans (s_3.mono b_1_3.size)
  have b_2_4 := b_2_3.trans (s_3.mono b_2_3.size)
  have b_3_4 := b_3_3.trans (s_3.mono b_3_3.size)
  have b_4_4 : Below w4.heap.size w4 w4 := Below.refl _ _
  refine bif_f (by simp) ?_
  refine (c_toIntS (ha0.grow b_0_4) (by omega)).mono ?_
  rintro e w5 ⟨y0, rfl, hy0, s_4⟩
  refine ⟨y0, rfl, ?_⟩
  have b_0_5 := b_0_4.trans (s_4.mono b_0_4.size)
  have b_1_5 := b_1_4.trans (s_4.mono b_1_4.size)
  have b_2_5 := b_2_4.trans (s_4.mono b_2_4.size)
  have b_3_5 := b_3_4.trans (s_4.mono b_3_4.size)
  have b_4_5 := b_4_4.trans (s_4.mono b_4_4.size)
  refine Quiet.call1 (s := .bool) (c_eqIntS (hxx0.row.grow b_3_5) hy0.row (by omega)) ?_
  intro w6 hd6
  have s_5 : Below w5.heap.size w5 w6 := hd6.below _
  have b_0_6 := b_0_5.trans (s_5.mono b_0_5.size)
  have b_1_6 := b_1_5.trans (s_5.mono b_1_5.size)
  have b_2_6 := b_2_5.trans (s_5.mono b_2_5.size)
  have b_3_6 := b_3_5.trans (s_5.mono b_3_5.size)
  have b_4_6 := b_4_5.trans (s_5.mono b_4_5.size)
  refine bif_f (by simp) ?_
  exact ⟨rfl, b_0_6⟩
end Go.Proofs.Ytmhgjfahgemblaa
