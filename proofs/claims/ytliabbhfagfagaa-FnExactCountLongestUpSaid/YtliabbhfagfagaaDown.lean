/- The longest descending pattern and HasLongRun: both texts, and the laws. -/
import Derived.Test.YtliabbhfagfagaaLongUp
import Derived.Test.YtliabbhfagfagaaSl1
namespace Go.Proofs.Ytliabbhfagfagaa
open Go Go.RowKit
set_option maxRecDepth 100000

theorem c_reverse {w : World} {a : Sl} {L : List Int} (ha : RowI w a L) (hL : L.length < 2^38) :
    Calls PP F.impl_reverse #[a.v] w fun e w' => ∃ s : Sl, e = .returned s.v ∧ OwnI w' w.heap.size s L.reverse ∧ Below w.heap.size w w' := by
  refine impl_reverse.calls a ?_
  rw [impl_reverse.E_s]
  refine (c_Clone ha hL).mono ?_
  rintro e w1 ⟨s, rfl, hs, hb⟩
  refine ⟨s, rfl, ?_⟩
  refine (c_Reverse hs hL).mono ?_
  rintro e w2 ⟨rfl, hs2, hg, _⟩
  exact ⟨rfl, s, rfl, hs2, hb.grown hg hb.size (fun g hg => (hs.lt g hg).1)⟩

theorem c_l3Reverse {w : World} {a : Sl} {L : List Int} (ha : RowI w a L) (hL : L.length < 2^38) :
    Calls PP F.spec_l3Reverse #[a.v] w fun e w' => ∃ s : Sl, e = .returned s.v ∧ OwnI w' w.heap.size s L.reverse ∧ Below w.heap.size w w' := by
  have han : a.n = L.length := by have := ha.n; simpa using this
  refine spec_l3Reverse.calls a ?_
  rw [spec_l3Reverse.E_s]
  refine lit0 oneInt (B := w.heap.size) (Nat.le_refl _) ?_
  intro t0 w1 hown hg _
  rw [han, w64_id (by omega) (by omega)]
  refine spec_l3Reverse.L3_rule _ _ _ _ _ (I := fun t k w' => -1 ≤ k ∧ k < L.length ∧ OwnI w' w.heap.size t (tab (L.length - 1 - k).toNat fun j => L.getD (L.length - 1 - j) 0) ∧ Below w.heap.size w w') (μ := fun _ k _ => (k + 1).toNat)
    ⟨by omega, by omega, ?_, below_of_grow hg⟩ ?_
  · rw [show ((L.length : Int) - 1 - ((L.length : Int) - 1)).toNat = 0 by omega]; exact hown
  rintro t k w' ⟨h0, hk, ht, hb⟩
  rw [spec_l3Reverse.B3_s]
  refine bif_dec (fun h3 => ?_) (fun h3 => ?_)
  · refine RowI.get (ha.grow hb) h3 (by omega) ?_
    refine append_int ht hb.size (by rw [tab_length]; omega) ?_
    intro t' w2 ht2 hg2 _
    refine ⟨t', k - 1, by rw [w64_id (by omega) (by omega)], ⟨by omega, by omega, ?_, hb.grown hg2 hb.size (fun g hg => (ht.lt g hg).1)⟩, by omega⟩
    rw [show ((L.length : Int) - 1 - (k - 1)).toNat = ((L.length : Int) - 1 - k).toNat + 1 by omega, tab_succ]
    rw [show L.length - 1 - ((L.length : Int) - 1 - k).toNat = k.toNat by omega]
    exact ht2
  · rw [spec_l3Reverse.A3_0_s]
    rw [show ((L.length : Int) - 1 - k).toNat = L.length by omega, tab_reverse] at ht
    exact ⟨t, rfl, ht, hb⟩

theorem rev_ne {L : List Int} (hp : ∀ i j, i < j → j < L.length → L.getD i 0 ≠ L.getD j 0) : ∀ i j, i < j → j < L.reverse.length → L.reverse.getD i 0 ≠ L.reverse.getD j 0 := by
  intro i j hij hj
  rw [List.length_reverse] at hj
  rw [← tab_reverse, tab_getD _ (by omega), tab_getD _ hj]
  exact fun e => hp (L.length - 1 - j) (L.length - 1 - i) (by omega) (by omega) e.symm

open Classical in
noncomputable def LongestDownV (L : List Int) : Int := if IsP L then luV L.reverse else -1
theorem c_implLongestDown {w : World} {a : Sl} {L : List Int} (ha : RowI w a L) (hL : L.length < 2^38) :
    Calls PP F.impl_LongestDown #[a.v] w fun e w' => e = .returned (vI (LongestDownV L)) ∧ Below w.heap.size w w' := by
  refine impl_LongestDown.calls a ?_
  rw [impl_LongestDown.E_s]
  refine (c_implIsPerm ha hL).mono ?_
  rintro e w1 ⟨rfl, hb⟩
  refine ⟨_, rfl, ?_⟩
  refine bif_intro (fun h => ?_) (fun h => ?_)
  · have h : ¬ IsP L := by simpa using h
    exact ⟨by rw [LongestDownV, if_neg h], hb⟩
  · have h : IsP L := by simpa using h
    refine (c_reverse (ha.grow hb) hL).mono ?_
    rintro e w2 ⟨s, rfl, hs, hb2⟩
    refine ⟨s, rfl, ?_⟩
    have hb12 := hb.trans (hb2.mono hb.size)
    refine (c_longestUp hs.row (by simpa using hL) (rev_ne h.2.ne)).mono ?_
    rintro e w3 ⟨rfl, hb3⟩
    exact ⟨_, rfl, by rw [LongestDownV, if_pos h], hb12.trans (hb3.mono hb12.size)⟩
theorem c_specLongestDown {w : World} {a : Sl} {L : List Int} (ha : RowI w a L) (hL : L.length < 2^38) :
    Calls PP F.spec_LongestDown #[a.v] w fun e w' => e = .returned (vI (LongestDownV L)) ∧ Below w.heap.size w w' := by
  refine spec_LongestDown.calls a ?_
  rw [spec_LongestDown.E_s]
  refine Quiet.call1 (s := .bool) (c_specIsPerm ha hL) ?_
  intro w1 hd
  have hb : Below w.heap.size w w1 := hd.below _
  refine bif_intro (fun h => ?_) (fun h => ?_)
  · have h : ¬ IsP L := by simpa using h
    exact ⟨by rw [LongestDownV, if_neg h], hb⟩
  · have h : IsP L := by simpa using h
    refine (c_l3Reverse (ha.grow hb) hL).mono ?_
    rintro e w2 ⟨s, rfl, hs, hb2⟩
    refine ⟨s, rfl, ?_⟩
    have hb12 := hb.trans (hb2.mono hb.size)
    refine (c_l20Up hs.row (by simpa using hL)).mono ?_
    rintro e w3 ⟨rfl, hb3⟩
    exact ⟨_, rfl, by rw [LongestDownV, if_pos h], hb12.trans (hb3.mono hb12.size)⟩

open Classical in
noncomputable def HasLongRunV (L : List Int) (k m : Int) : Bool := decide (IsP L) && (decide (luV L > k) || decide (luV L.reverse > m))
theorem c_implHasLongRun {w : World} {a : Sl} {L : List Int} (ha : RowI w a L) (hL : L.length < 2^38) (k m : Int) :
    Calls PP F.impl_HasLongRun #[a.v, vI k, vI m] w fun e w' => e = .returned (.bool (HasLongRunV L k m)) ∧ Below w.heap.size w w' := by
  refine impl_HasLongRun.calls a k m ?_
  rw [impl_HasLongRun.E_s]
  refine (c_implIsPerm ha hL).mono ?_
  rintro e w1 ⟨rfl, hb⟩
  refine ⟨_, rfl, ?_⟩
  refine bif_intro (fun h => ?_) (fun h => ?_)
  · have h : IsP L := by simpa using h
    refine (c_longestUp (ha.grow hb) hL h.2.ne).mono ?_
    rintro e w2 ⟨rfl, hb2⟩
    have hb12 := hb.trans (hb2.mono hb.size)
    refine ⟨_, rfl, ?_⟩
    refine bif_dec (fun h2 => ⟨by simp [HasLongRunV, h, h2], hb12⟩) (fun h2 => ?_)
    refine (c_reverse (ha.grow hb12) hL).mono ?_
    rintro e w3 ⟨s, rfl, hs, hb3⟩
    refine ⟨s, rfl, ?_⟩
    have hb13 := hb12.trans (hb3.mono hb12.size)
    refine (c_longestUp hs.row (by simpa using hL) (rev_ne h.2.ne)).mono ?_
    rintro e w4 ⟨rfl, hb4⟩
    exact ⟨_, rfl, by simp [HasLongRunV, h, h2], hb13.trans (hb4.mono hb13.size)⟩
  · have h : ¬ IsP L := by simpa using h
    exact ⟨by simp [HasLongRunV, h], hb⟩
theorem c_specHasLongRun {w : World} {a : Sl} {L : List Int} (ha : RowI w a L) (hL : L.length < 2^38) (k m : Int) :
    Calls PP F.spec_HasLongRun #[a.v, vI k, vI m] w fun e w' => e = .returned (.bool (HasLongRunV L k m)) ∧ Below w.heap.size w w' := by
  refine spec_HasLongRun.calls a k m ?_
  rw [spec_HasLongRun.E_s]
  refine Quiet.call1 (s := .bool) (c_specIsPerm ha hL) ?_
  intro w1 hd
  have hb : Below w.heap.size w w1 := hd.below _
  refine bif_intro (fun h => ?_) (fun h => ?_)
  · have h : IsP L := by simpa using h
    refine (c_l20Up (ha.grow hb) hL).mono ?_
    rintro e w2 ⟨rfl, hb2⟩
    have hb12 := hb.trans (hb2.mono hb.size)
    refine ⟨_, rfl, ?_⟩
    refine bif_dec (fun h2 => ⟨by simp [HasLongRunV, h, h2], hb12⟩) (fun h2 => ?_)
    refine (c_l3Reverse (ha.grow hb12) hL).mono ?_
    rintro e w3 ⟨s, rfl, hs, hb3⟩
    refine ⟨s, rfl, ?_⟩
    have hb13 := hb12.trans (hb3.mono hb12.size)
    refine (c_l20Up hs.row (by simpa using hL)).mono ?_
    rintro e w4 ⟨rfl, hb4⟩
    exact ⟨_, rfl, by simp [HasLongRunV, h, h2], hb13.trans (hb4.mono hb13.size)⟩
  · have h : ¬ IsP L := by simpa using h
    exact ⟨by simp [HasLongRunV, h], hb⟩

theorem lawC_FnExactLongestDown (a : Sl) (L : List Int) (w : World) (ha : RowI w a L) (hbd : ∀ x ∈ L, -9223372036854775808 ≤ x ∧ x ≤ 9223372036854775807) :
    Calls PP F.laws_FnExactLongestDown #[a.v] w fun e w' => e = .returned (.bool true) ∧ Below w.heap.size w w' := by
  have han : a.n = L.length := by have := ha.n; simpa using this
  refine laws_FnExactLongestDown.calls a ?_
  rw [laws_FnExactLongestDown.E_s]
  refine bif_dec (fun h => ⟨rfl, Below.refl _ _⟩) (fun h => ?_)
  have hL : L.length < 2 ^ 38 := by omega
  refine (c_toIntS ha (by omega)).mono ?_
  rintro e w1 ⟨s1, rfl, ho1, hb1⟩
  refine ⟨s1, rfl, ?_⟩
  refine (c_specLongestDown ho1.row hL).mono ?_
  rintro e w2 ⟨rfl, hd2⟩
  refine ⟨_, rfl, ?_⟩
  have hb2 : Below w.heap.size w w2 := hb1.trans (hd2.mono hb1.size)
  refine (c_toIntS (ha.grow hb2) (by omega)).mono ?_
  rintro e w3 ⟨s3, rfl, ho3, hb3⟩
  refine ⟨s3, rfl, ?_⟩
  refine (c_implLongestDown ho3.row hL).mono ?_
  rintro e w4 ⟨rfl, hd4⟩
  refine ⟨_, rfl, ?_⟩
  have hb23 := hb2.trans (hb3.mono hb2.size)
  have hb4 : Below w.heap.size w w4 := hb23.trans (hd4.mono hb23.size)
  refine bif_f (by simp) ?_
  refine (c_toIntS (ha.grow hb4) (by omega)).mono ?_
  rintro e w5 ⟨s5, rfl, ho5, hb5⟩
  refine ⟨s5, rfl, ?_⟩
  have hr3 : RowI w5 s3 L := (Row.grow ho3.row hd4).grow hb5
  refine Quiet.call1 (s := .bool) (c_eqIntS hr3 ho5.row (by omega)) ?_
  intro w6 hd6
  refine bif_f (by simp) ?_
  exact ⟨rfl, (hb4.trans (hb5.mono hb4.size)).trans (hd6.below _)⟩

theorem lawC_FnExactHasLongRun (a : Sl) (L : List Int) (k0 : Int) (_ : -9223372036854775808 ≤ k0 ∧ k0 ≤ 9223372036854775807) (k1 : Int) (_ : -9223372036854775808 ≤ k1 ∧ k1 ≤ 9223372036854775807) (w : World) (ha : RowI w a L) (hbd : ∀ x ∈ L, -9223372036854775808 ≤ x ∧ x ≤ 9223372036854775807) :
    Calls PP F.laws_FnExactHasLongRun #[a.v, vI k0, vI k1] w fun e w' => e = .returned (.bool true) ∧ Below w.heap.size w w' := by
  have han : a.n = L.length := by have := ha.n; simpa using this
  refine laws_FnExactHasLongRun.calls a k0 k1 ?_
  rw [laws_FnExactHasLongRun.E_s]
  refine bif_dec (fun h => ⟨rfl, Below.refl _ _⟩) (fun h => ?_)
  have hL : L.length < 2 ^ 38 := by omega
  refine (c_toIntS ha (by omega)).mono ?_
  rintro e w1 ⟨s1, rfl, ho1, hb1⟩
  refine ⟨s1, rfl, ?_⟩
  refine (c_specHasLongRun ho1.row hL k0 k1).mono ?_
  rintro e w2 ⟨rfl, hd2⟩
  refine ⟨_, rfl, ?_⟩
  have hb2 : Below w.heap.size w w2 := hb1.trans (hd2.mono hb1.size)
  refine (c_toIntS (ha.grow hb2) (by omega)).mono ?_
  rintro e w3 ⟨s3, rfl, ho3, hb3⟩
  refine ⟨s3, rfl, ?_⟩
  refine (c_implHasLongRun ho3.row hL k0 k1).mono ?_
  rintro e w4 ⟨rfl, hd4⟩
  refine ⟨_, rfl, ?_⟩
  have hb23 := hb2.trans (hb3.mono hb2.size)
  have hb4 : Below w.heap.size w w4 := hb23.trans (hd4.mono hb23.size)
  refine bif_f (by simp) ?_
  refine (c_toIntS (ha.grow hb4) (by omega)).mono ?_
  rintro e w5 ⟨s5, rfl, ho5, hb5⟩
  refine ⟨s5, rfl, ?_⟩
  have hr3 : RowI w5 s3 L := (Row.grow ho3.row hd4).grow hb5
  refine Quiet.call1 (s := .bool) (c_eqIntS hr3 ho5.row (by omega)) ?_
  intro w6 hd6
  refine bif_f (by simp) ?_
  exact ⟨rfl, (hb4.trans (hb5.mono hb4.size)).trans (hd6.below _)⟩

end Go.Proofs.Ytliabbhfagfagaa
