/- SameLows: both texts, and the law. -/
import Derived.Test.YthbjkgpbnfibkaaCodeSL
import Derived.Test.YthbjkgpbnfibkaaFuI
import Derived.Test.YthbjkgpbnfibkaaLows
import Derived.Test.YthbjkgpbnfibkaaSame
import Derived.Test.YthbjkgpbnfibkaaEq
import Derived.Test.YthbjkgpbnfibkaaLaw2
namespace Go.Proofs.Ythbjkgpbnfibkaa
open Go Go.RowKit
set_option maxRecDepth 100000

def atW (L : List Int) (pl : List Int) : List Int := pl.map fun i => L.getD (i - 1).toNat 0
theorem c_l7At {w : World} {p a : Sl} {P H : List Int} (hp : RowI w p P) (ha : RowI w a H) (hP : P.length < 2^38) (hH : H.length < 2^38) (hpl : ∀ x ∈ H, 1 ≤ x ∧ x ≤ P.length) :
    Calls PP F.spec_l7At #[p.v, a.v] w fun e w' => ∃ s : Sl, e = .returned s.v ∧ OwnI w' w.heap.size s (atW P H) ∧ Below w.heap.size w w' := by
  have han : a.n = H.length := by have := ha.n; simpa using this
  refine spec_l7At.calls p a ?_
  rw [spec_l7At.E_s]
  refine lit0 oneInt (B := w.heap.size) (Nat.le_refl _) ?_
  intro o0 w1 ho0 hg1 _
  refine spec_l7At.L3_rule _ _ _ _ _ _ (I := fun o k w' => 0 ≤ k ∧ k ≤ H.length ∧ OwnI w' w.heap.size o (atW P (H.take k.toNat)) ∧ Below w.heap.size w w') (μ := fun _ k _ => (H.length - k).toNat) ⟨by omega, by omega, ho0, below_of_grow hg1⟩ ?_
  rintro o k w' ⟨h0, hk, ho, hb⟩
  rw [spec_l7At.B3_s, han]
  refine bif_dec (fun h3 => ?_) (fun h3 => ?_)
  · have hlt : k.toNat < H.length := by omega
    refine RowI.get (ha.grow hb) h0 (by omega) ?_
    have hx := hpl H[k.toNat] (List.getElem_mem hlt)
    rw [getD_lt hlt, w64_id (n := H[k.toNat] - 1) (by omega) (by omega)]
    refine RowI.get (hp.grow hb) (by omega) (by omega) ?_
    refine append_int ho hb.size (by simp [atW]; omega) ?_
    intro o' w2 ho2 hg2 _
    refine ⟨o', k + 1, by rw [w64_succ h0 (by omega)], ⟨by omega, by omega, ?_, hb.grown hg2 hb.size (fun g hg => (ho.lt g hg).1)⟩, by omega⟩
    rw [show (k + 1).toNat = k.toNat + 1 by omega, List.take_succ_eq_append_getElem hlt, atW, List.map_append]
    exact ho2
  · rw [spec_l7At.A3_0_s]
    rw [show k.toNat = H.length by omega, List.take_length] at ho
    exact ⟨o, rfl, ho, hb⟩
def SameOk (L M : List Int) : Prop := IsP L ∧ IsP M ∧ L.length = M.length ∧ lowsT L L.length = lowsT M M.length ∧ atW L (lowsT L L.length) = atW M (lowsT L L.length)
open Classical in
noncomputable def SameLowsV (L M : List Int) : Bool := decide (SameOk L M)
open Classical in
theorem c_implSameLows {w : World} {a b : Sl} {L M : List Int} (ha : RowI w a L) (hL : L.length < 2^38) (hb : RowI w b M) (hM : M.length < 2^38) :
    Calls PP F.impl_SameLows #[a.v, b.v] w fun e w' => e = .returned (.bool (SameLowsV L M)) ∧ Below w.heap.size w w' := by
  have han : a.n = L.length := by have := ha.n; simpa using this
  have hbn : b.n = M.length := by have := hb.n; simpa using this
  refine impl_SameLows.calls a b ?_
  rw [impl_SameLows.E_s]
  refine new_one ?_
  intro p w1 hp hb1
  refine new_one ?_
  intro q w2 hq hb12
  have hp2 := cell_grow hp hb12
  have hb2 := hb1.trans (hb12.mono hb1.size)
  have no : ∀ w', Below w.heap.size w w' → ¬ SameOk L M → (Ending.returned (.bool false)) = .returned (.bool (SameLowsV L M)) ∧ Below w.heap.size w w' := fun w' hb hn => ⟨by simp [SameLowsV, hn], hb⟩
  refine load_sl hp2 ?_
  refine (c_implIsPerm (ha.grow hb2) hL).mono ?_
  rintro e w3 ⟨rfl, hb23⟩
  refine ⟨_, rfl, ?_⟩
  have hb3 := hb2.trans (hb23.mono hb2.size)
  refine bif_intro (fun h => ?_) (fun h => ?_)
  · exact no w3 hb3 fun hh => by have := hh.1; simp [this] at h
  have h1 : IsP L := by simpa using h
  refine load_sl (cell_grow hq hb23) ?_
  refine (c_implIsPerm (hb.grow hb3) hM).mono ?_
  rintro e w4 ⟨rfl, hb34⟩
  refine ⟨_, rfl, ?_⟩
  have hb4 := hb3.trans (hb34.mono hb3.size)
  refine bif_intro (fun h => ?_) (fun h => ?_)
  · exact no w4 hb4 fun hh => by have := hh.2.1; simp [this] at h
  have h2 : IsP M := by simpa using h
  have hb24 := hb23.trans (hb34.mono hb23.size)
  have hp4 := cell_grow hp2 hb24
  have hq4 := cell_grow hq hb24
  refine load_sl hp4 ?_
  refine load_sl hq4 ?_
  rw [han, hbn]
  refine bif_intro (fun h => ?_) (fun h => ?_)
  · exact no w4 hb4 fun hh => by have := hh.2.2.1; simp [this] at h
  have h3 : L.length = M.length := by simp at h; omega
  refine load_sl hp4 ?_
  refine (c_implLowsOf (ha.grow hb4) hL).mono ?_
  rintro e w5 ⟨s, rfl, hs, hb45⟩
  refine ⟨s, rfl, ?_⟩
  have hb5 := hb4.trans (hb45.mono hb4.size)
  refine load_sl (cell_grow hq4 hb45) ?_
  refine (c_implLowsOf (hb.grow hb5) hM).mono ?_
  rintro e w6 ⟨t, rfl, ht, hb56⟩
  refine ⟨t, rfl, ?_⟩
  have hb6 := hb5.trans (hb56.mono hb5.size)
  have e1 : LowsV L = lowsT L L.length := by rw [LowsV, if_pos h1]
  have e2 : LowsV M = lowsT M M.length := by rw [LowsV, if_pos h2]
  rw [e1] at hs
  rw [e2] at ht
  have hll := lowsT_length L L.length
  have hs6 := hs.grow hb56
  refine Quiet.call1 (s := .bool) (c_Equal hs6.row ht.row (by omega)) ?_
  intro w7 hd7
  have hb67 : Below w6.heap.size w6 w7 := hd7.below _
  have hb7 := hb6.trans (hb67.mono hb6.size)
  refine bif_dec (fun h4 => ?_) (fun h4 => ?_)
  · have hb47 := (hb45.trans (hb56.mono hb45.size)).trans (hb67.mono (Nat.le_trans hb45.size hb56.size))
    have hp7 := cell_grow hp4 hb47
    have hq7 := cell_grow hq4 hb47
    have hs7 := hs6.grow hb67
    refine (c_ContainsFuncI (φ := fun i => L.getD (i - 1).toNat 0 != M.getD (i - 1).toNat 0) hs7.row (by omega) (fun x hx => ?_)).mono ?_
    · intro w8 hb8
      have hx := mem_lowsT.1 hx
      refine ⟨_, _, _, rfl, by kernel_rfl, ?_⟩
      show Calls PP F.impl_SameLowsL1 #[vI x, .pointer (some p), .pointer (some q)] w8 _
      refine impl_SameLowsL1.calls x p q ?_
      rw [impl_SameLowsL1.E_s]
      refine load_sl (cell_grow hp7 hb8) ?_
      rw [w64_id (n := x - 1) (by omega) (by omega)]
      refine RowI.get ((ha.grow hb7).grow hb8) (by omega) (by omega) ?_
      refine load_sl (cell_grow hq7 hb8) ?_
      refine RowI.get ((hb.grow hb7).grow hb8) (by omega) (by omega) ?_
      refine drew_intro fun w9 hd9 => ?_
      exact ⟨rfl, hd9.below _⟩
    · rintro e w8 ⟨rfl, hb8⟩
      refine ⟨_, rfl, ?_, hb7.trans (hb8.mono hb7.size)⟩
      congr 2
      have hiff : SameOk L M ↔ (lowsT L L.length).any (fun i => L.getD (i - 1).toNat 0 != M.getD (i - 1).toNat 0) = false := by
        rw [List.any_eq_false]
        constructor
        · rintro ⟨_, _, _, _, h5⟩ x hx
          rw [atW, atW, List.map_inj_left] at h5
          simpa using h5 x hx
        · intro h5
          refine ⟨h1, h2, h3, h4, ?_⟩
          rw [atW, atW, List.map_inj_left]
          intro x hx
          simpa using h5 x hx
      rw [SameLowsV]
      cases hc : (lowsT L L.length).any (fun i => L.getD (i - 1).toNat 0 != M.getD (i - 1).toNat 0)
      · rw [decide_eq_true (hiff.2 hc)]; rfl
      · rw [decide_eq_false (fun h => by rw [hiff.1 h] at hc; cases hc)]; rfl
  · exact no w7 hb7 fun hh => h4 hh.2.2.2.1
open Classical in
theorem c_specSameLows {w : World} {a b : Sl} {L M : List Int} (ha : RowI w a L) (hL : L.length < 2^38) (hb : RowI w b M) (hM : M.length < 2^38) :
    Calls PP F.spec_SameLows #[a.v, b.v] w fun e w' => e = .returned (.bool (SameLowsV L M)) ∧ Below w.heap.size w w' := by
  have han : a.n = L.length := by have := ha.n; simpa using this
  have hbn : b.n = M.length := by have := hb.n; simpa using this
  refine spec_SameLows.calls a b ?_
  rw [spec_SameLows.E_s, han, hbn]
  have no : ∀ w', Below w.heap.size w w' → ¬ SameOk L M → (Ending.returned (.bool false)) = .returned (.bool (SameLowsV L M)) ∧ Below w.heap.size w w' := fun w' hb hn => ⟨by simp [SameLowsV, hn], hb⟩
  refine Quiet.call1 (s := .bool) (c_specIsPerm ha hL) ?_
  intro w1 hd1
  have hb1 : Below w.heap.size w w1 := hd1.below _
  refine bif_intro (fun h => ?_) (fun h => ?_)
  · exact no w1 hb1 fun hh => by have := hh.1; simp [this] at h
  have h1 : IsP L := by simpa using h
  refine Quiet.call1 (s := .bool) (c_specIsPerm (hb.grow hb1) hM) ?_
  intro w2 hd2
  have hb2 := hb1.trans (hd2.below _)
  refine bif_intro (fun h => ?_) (fun h => ?_)
  · exact no w2 hb2 fun hh => by have := hh.2.1; simp [this] at h
  have h2 : IsP M := by simpa using h
  refine bif_intro (fun h => ?_) (fun h => ?_)
  · exact no w2 hb2 fun hh => by have := hh.2.2.1; simp [this] at h
  have h3 : L.length = M.length := by simp at h; omega
  have h8 := h1.1
  refine (c_specLowsOf (ha.grow hb2) hL).mono ?_
  rintro e w3 ⟨s, rfl, hs, hb23⟩
  refine ⟨s, rfl, ?_⟩
  have hb3 := hb2.trans (hb23.mono hb2.size)
  refine (c_specLowsOf (hb.grow hb3) hM).mono ?_
  rintro e w4 ⟨t, rfl, ht, hb34⟩
  refine ⟨t, rfl, ?_⟩
  have hb4 := hb3.trans (hb34.mono hb3.size)
  have e1 : LowsV L = lowsT L L.length := by rw [LowsV, if_pos h1]
  have e2 : LowsV M = lowsT M M.length := by rw [LowsV, if_pos h2]
  rw [e1] at hs
  rw [e2] at ht
  have hll := lowsT_length L L.length
  have hs4 := hs.grow hb34
  refine Quiet.call1 (s := .bool) (c_l2Same hs4.row ht.row (by omega)) ?_
  intro w5 hd5
  have hb45 : Below w4.heap.size w4 w5 := hd5.below _
  have hb5 := hb4.trans (hb45.mono hb4.size)
  refine bif_dec (fun h4 => ?_) (fun h4 => ?_)
  · have hs5 := hs4.grow hb45
    have hpl : ∀ x ∈ lowsT L L.length, 1 ≤ x ∧ x ≤ L.length := fun x hx => by have := mem_lowsT.1 hx; omega
    refine (c_l7At (ha.grow hb5) hs5.row hL (by omega) hpl).mono ?_
    rintro e w6 ⟨u, rfl, hu, hb56⟩
    refine ⟨u, rfl, ?_⟩
    have hb6 := hb5.trans (hb56.mono hb5.size)
    refine (c_l7At (hb.grow hb6) (hs5.grow hb56).row hM (by omega) (fun x hx => by have := hpl x hx; omega)).mono ?_
    rintro e w7 ⟨v, rfl, hv, hb67⟩
    refine ⟨v, rfl, ?_⟩
    have hb7 := hb6.trans (hb67.mono hb6.size)
    refine Quiet.call1 (s := .bool) (c_l2Same (hu.grow hb67).row hv.row (by simp [atW]; omega)) ?_
    intro w8 hd8
    refine ⟨?_, hb7.trans (hd8.below _)⟩
    congr 2
    rw [SameLowsV]
    by_cases h5 : atW L (lowsT L L.length) = atW M (lowsT L L.length)
    · rw [decide_eq_true h5, decide_eq_true (show SameOk L M from ⟨h1, h2, h3, h4, h5⟩)]
    · rw [decide_eq_false h5, decide_eq_false (fun h : SameOk L M => h5 h.2.2.2.2)]
  · exact no w5 hb5 fun hh => h4 hh.2.2.2.1
theorem lawC_FnExactSameLows (a0 : Sl) (L0 : List Int) (a1 : Sl) (L1 : List Int) (w : World) (ha0 : RowI w a0 L0) (hbd0 : ∀ x ∈ L0, -9223372036854775808 ≤ x ∧ x ≤ 9223372036854775807) (ha1 : RowI w a1 L1) (hbd1 : ∀ x ∈ L1, -9223372036854775808 ≤ x ∧ x ≤ 9223372036854775807) :
    Calls PP F.laws_FnExactSameLows #[a0.v, a1.v] w fun e w' => e = .returned (.bool true) ∧ Below w.heap.size w w' := by
  have han0 : a0.n = L0.length := by have := ha0.n; simpa using this
  have han1 : a1.n = L1.length := by have := ha1.n; simpa using this
  refine laws_FnExactSameLows.calls a0 a1 ?_
  rw [laws_FnExactSameLows.E_s]
  have b_0_0 : Below w.heap.size w w := Below.refl _ _
  refine bif_dec (fun h => ⟨rfl, b_0_0⟩) (fun h0s => ?_)
  have hL0 : L0.length < 2 ^ 38 := by omega
  refine bif_dec (fun h => ⟨rfl, b_0_0⟩) (fun h1s => ?_)
  have hL1 : L1.length < 2 ^ 38 := by omega
  refine (c_toIntS (ha0.grow b_0_0) (by omega)).mono ?_
  rintro e w1 ⟨xw0, rfl, hxw0, s_0⟩
  refine ⟨xw0, rfl, ?_⟩
  have b_0_1 := b_0_0.trans (s_0.mono b_0_0.size)
  have b_1_1 : Below w1.heap.size w1 w1 := Below.refl _ _
  refine (c_toIntS (ha1.grow b_0_1) (by omega)).mono ?_
  rintro e w2 ⟨xw1, rfl, hxw1, s_1⟩
  refine ⟨xw1, rfl, ?_⟩
  have b_0_2 := b_0_1.trans (s_1.mono b_0_1.size)
  have b_1_2 := b_1_1.trans (s_1.mono b_1_1.size)
  have b_2_2 : Below w2.heap.size w2 w2 := Below.refl _ _
  refine (c_specSameLows (hxw0.row.grow b_1_2) hL0 (hxw1.row.grow b_2_2) hL1).mono ?_
  rintro e w3 ⟨rfl, s_2⟩
  refine ⟨_, rfl, ?_⟩
  have b_0_3 := b_0_2.trans (s_2.mono b_0_2.size)
  have b_1_3 := b_1_2.trans (s_2.mono b_1_2.size)
  have b_2_3 := b_2_2.trans (s_2.mono b_2_2.size)
  have b_3_3 : Below w3.heap.size w3 w3 := Below.refl _ _
  refine (c_toIntS (ha0.grow b_0_3) (by omega)).mono ?_
  rintro e w4 ⟨xx0, rfl, hxx0, s_3⟩
  refine ⟨xx0, rfl, ?_⟩
  have b_0_4 := b_0_3.trans (s_3.mono b_0_3.size)
  have b_1_4 := b_1_3.trans (s_3.mono b_1_3.size)
  have b_2_4 := b_2_3.trans (s_3.mono b_2_3.size)
  have b_3_4 := b_3_3.trans (s_3.mono b_3_3.size)
  have b_4_4 : Below w4.heap.size w4 w4 := Below.refl _ _
  refine (c_toIntS (ha1.grow b_0_4) (by omega)).mono ?_
  rintro e w5 ⟨xx1, rfl, hxx1, s_4⟩
  refine ⟨xx1, rfl, ?_⟩
  have b_0_5 := b_0_4.trans (s_4.mono b_0_4.size)
  have b_1_5 := b_1_4.trans (s_4.mono b_1_4.size)
  have b_2_5 := b_2_4.trans (s_4.mono b_2_4.size)
  have b_3_5 := b_3_4.trans (s_4.mono b_3_4.size)
  have b_4_5 := b_4_4.trans (s_4.mono b_4_4.size)
  have b_5_5 : Below w5.heap.size w5 w5 := Below.refl _ _
  refine (c_implSameLows (hxx0.row.grow b_4_5) hL0 (hxx1.row.grow b_5_5) hL1).mono ?_
  rintro e w6 ⟨rfl, s_5⟩
  refine ⟨_, rfl, ?_⟩
  have b_0_6 := b_0_5.trans (s_5.mono b_0_5.size)
  have b_1_6 := b_1_5.trans (s_5.mono b_1_5.size)
  have b_2_6 := b_2_5.trans (s_5.mono b_2_5.size)
  have b_3_6 := b_3_5.trans (s_5.mono b_3_5.size)
  have b_4_6 := b_4_5.trans (s_5.mono b_4_5.size)
  have b_5_6 := b_5_5.trans (s_5.mono b_5_5.size)
  have b_6_6 : Below w6.heap.size w6 w6 := Below.refl _ _
  refine bif_f (by simp) ?_
  refine (c_toIntS (ha0.grow b_0_6) (by omega)).mono ?_
  rintro e w7 ⟨y0, rfl, hy0, s_6⟩
  refine ⟨y0, rfl, ?_⟩
  have b_0_7 := b_0_6.trans (s_6.mono b_0_6.size)
  have b_1_7 := b_1_6.trans (s_6.mono b_1_6.size)
  have b_2_7 := b_2_6.trans (s_6.mono b_2_6.size)
  have b_3_7 := b_3_6.trans (s_6.mono b_3_6.size)
  have b_4_7 := b_4_6.trans (s_6.mono b_4_6.size)
  have b_5_7 := b_5_6.trans (s_6.mono b_5_6.size)
  have b_6_7 := b_6_6.trans (s_6.mono b_6_6.size)
  refine Quiet.call1 (s := .bool) (c_eqIntS (hxx0.row.grow b_4_7) hy0.row (by omega)) ?_
  intro w8 hd8
  have s_7 : Below w7.heap.size w7 w8 := hd8.below _
  have b_0_8 := b_0_7.trans (s_7.mono b_0_7.size)
  have b_1_8 := b_1_7.trans (s_7.mono b_1_7.size)
  have b_2_8 := b_2_7.trans (s_7.mono b_2_7.size)
  have b_3_8 := b_3_7.trans (s_7.mono b_3_7.size)
  have b_4_8 := b_4_7.trans (s_7.mono b_4_7.size)
  have b_5_8 := b_5_7.trans (s_7.mono b_5_7.size)
  have b_6_8 := b_6_7.trans (s_7.mono b_6_7.size)
  refine bif_f (by simp) ?_
  have b_8_8 : Below w8.heap.size w8 w8 := Below.refl _ _
  refine (c_toIntS (ha1.grow b_0_8) (by omega)).mono ?_
  rintro e w9 ⟨y1, rfl, hy1, s_8⟩
  refine ⟨y1, rfl, ?_⟩
  have b_0_9 := b_0_8.trans (s_8.mono b_0_8.size)
  have b_1_9 := b_1_8.trans (s_8.mono b_1_8.size)
  have b_2_9 := b_2_8.trans (s_8.mono b_2_8.size)
  have b_3_9 := b_3_8.trans (s_8.mono b_3_8.size)
  have b_4_9 := b_4_8.trans (s_8.mono b_4_8.size)
  have b_5_9 := b_5_8.trans (s_8.mono b_5_8.size)
  have b_6_9 := b_6_8.trans (s_8.mono b_6_8.size)
  have b_8_9 := b_8_8.trans (s_8.mono b_8_8.size)
  refine Quiet.call1 (s := .bool) (c_eqIntS (hxx1.row.grow b_5_9) hy1.row (by omega)) ?_
  intro w10 hd10
  have s_9 : Below w9.heap.size w9 w10 := hd10.below _
  have b_0_10 := b_0_9.trans (s_9.mono b_0_9.size)
  have b_1_10 := b_1_9.trans (s_9.mono b_1_9.size)
  have b_2_10 := b_2_9.trans (s_9.mono b_2_9.size)
  have b_3_10 := b_3_9.trans (s_9.mono b_3_9.size)
  have b_4_10 := b_4_9.trans (s_9.mono b_4_9.size)
  have b_5_10 := b_5_9.trans (s_9.mono b_5_9.size)
  have b_6_10 := b_6_9.trans (s_9.mono b_6_9.size)
  have b_8_10 := b_8_9.trans (s_9.mono b_8_9.size)
  refine bif_f (by simp) ?_
  exact ⟨rfl, b_0_10⟩
end Go.Proofs.Ythbjkgpbnfibkaa
