/- StackPass, IsStackSorted, StackTimes: both texts, and the laws. -/
import Derived.Test.YtliabbhfagfagaaPass
import Derived.Test.YtliabbhfagfagaaRise
namespace Go.Proofs.Ytliabbhfagfagaa
open Go Go.RowKit
set_option maxRecDepth 100000

open Classical in
noncomputable def StackPassV (L : List Int) : List Int := if IsP L then passV L else []
theorem StackPassV_len (L : List Int) : (StackPassV L).length < 2^38 := by
  unfold StackPassV
  split
  · rename_i h; rw [passV_length]; have := h.1; omega
  · simp
theorem c_implStackPass {w : World} {a : Sl} {L : List Int} (ha : RowI w a L) (hL : L.length < 2^38) :
    Calls PP F.impl_StackPass #[a.v] w fun e w' => ∃ s : Sl, e = .returned s.v ∧ OwnI w' w.heap.size s (StackPassV L) ∧ Below w.heap.size w w' := by
  refine impl_StackPass.calls a ?_
  rw [impl_StackPass.E_s]
  refine (c_implIsPerm ha hL).mono ?_
  rintro e w1 ⟨rfl, hb⟩
  refine ⟨_, rfl, ?_⟩
  refine bif_intro (fun h => ?_) (fun h => ?_)
  · have h : ¬ IsP L := by simpa using h
    exact ⟨Sl.nil, rfl, by rw [StackPassV, if_neg h]; exact Own.nil _ _ _, hb⟩
  · have h : IsP L := by simpa using h
    refine (c_stackPass (ha.grow hb) hL).mono ?_
    rintro e w2 ⟨s, rfl, hs, hb2⟩
    refine ⟨s, rfl, s, rfl, ?_, hb.trans (hb2.mono hb.size)⟩
    rw [StackPassV, if_pos h]; exact hs.mono hb.size
theorem c_specStackPass {w : World} {a : Sl} {L : List Int} (ha : RowI w a L) (hL : L.length < 2^38) :
    Calls PP F.spec_StackPass #[a.v] w fun e w' => ∃ s : Sl, e = .returned s.v ∧ RowI w' s (StackPassV L) ∧ Below w.heap.size w w' := by
  refine spec_StackPass.calls a ?_
  rw [spec_StackPass.E_s]
  refine Quiet.call1 (s := .bool) (c_specIsPerm ha hL) ?_
  intro w1 hd
  have hb : Below w.heap.size w w1 := hd.below _
  refine bif_intro (fun h => ?_) (fun h => ?_)
  · have h : ¬ IsP L := by simpa using h
    refine lit0 oneInt (B := w.heap.size) hb.size ?_
    intro s w2 hs hg _
    exact ⟨s, rfl, by rw [StackPassV, if_neg h]; exact hs.row, hb.grown hg hb.size (by simp)⟩
  · have h : IsP L := by simpa using h
    refine (c_l21Pass (ha.grow hb) hL).mono ?_
    rintro e w2 ⟨s, rfl, hs, hb2⟩
    refine ⟨s, rfl, s, rfl, ?_, hb.trans (hb2.mono hb.size)⟩
    rw [StackPassV, if_pos h]; exact hs.row

open Classical in
noncomputable def IsStackSortedV (L : List Int) : Bool := decide (IsP L) && decide (Rising (passV L))
theorem isP_pass {L : List Int} (h : IsP L) : IsP (passV L) := isP_of_perm (passV_perm L) h
theorem c_implIsStackSorted {w : World} {a : Sl} {L : List Int} (ha : RowI w a L) (hL : L.length < 2^38) :
    Calls PP F.impl_IsStackSorted #[a.v] w fun e w' => e = .returned (.bool (IsStackSortedV L)) ∧ Below w.heap.size w w' := by
  refine impl_IsStackSorted.calls a ?_
  rw [impl_IsStackSorted.E_s]
  refine (c_implIsPerm ha hL).mono ?_
  rintro e w1 ⟨rfl, hb⟩
  refine ⟨_, rfl, ?_⟩
  refine bif_intro (fun h => ?_) (fun h => ?_)
  · have h : IsP L := by simpa using h
    refine (c_stackPass (ha.grow hb) hL).mono ?_
    rintro e w2 ⟨s, rfl, hs, hb2⟩
    refine ⟨s, rfl, ?_⟩
    have hb12 := hb.trans (hb2.mono hb.size)
    refine Quiet.call1 (s := .bool) (c_isRising hs.row (by rw [passV_length]; omega)) ?_
    intro w3 hd
    exact ⟨by simp [IsStackSortedV, h], hb12.trans (hd.below _)⟩
  · have h : ¬ IsP L := by simpa using h
    exact ⟨by simp [IsStackSortedV, h], hb⟩
theorem c_specIsStackSorted {w : World} {a : Sl} {L : List Int} (ha : RowI w a L) (hL : L.length < 2^38) :
    Calls PP F.spec_IsStackSorted #[a.v] w fun e w' => e = .returned (.bool (IsStackSortedV L)) ∧ Below w.heap.size w w' := by
  refine spec_IsStackSorted.calls a ?_
  rw [spec_IsStackSorted.E_s]
  refine Quiet.call1 (s := .bool) (c_specIsPerm ha hL) ?_
  intro w1 hd
  have hb : Below w.heap.size w w1 := hd.below _
  refine bif_intro (fun h => ?_) (fun h => ?_)
  · have h : IsP L := by simpa using h
    refine (c_l21Pass (ha.grow hb) hL).mono ?_
    rintro e w2 ⟨s, rfl, hs, hb2⟩
    refine ⟨s, rfl, ?_⟩
    have hb12 := hb.trans (hb2.mono hb.size)
    refine (c_l13Straight hs.row (by rw [passV_length]; exact h.1)).mono ?_
    rintro e w3 ⟨rfl, hb3⟩
    exact ⟨_, rfl, by simp [IsStackSortedV, h, (isP_pass h).rising], hb12.trans (hb3.mono hb12.size)⟩
  · have h : ¬ IsP L := by simpa using h
    exact ⟨by simp [IsStackSortedV, h], hb⟩

open Classical in
noncomputable def StackTimesV (L : List Int) : Int := if IsP L then (tmV L : Int) else -1
theorem isP_it {L : List Int} (h : IsP L) (k : Nat) : IsP (itW k L) := isP_of_perm (itW_perm L k) h
theorem bodied_stackPass : bodied PP F.impl_stackPass = true := by kernel_rfl
theorem c_timesOf {w : World} {a : Sl} {L : List Int} (ha : RowI w a L) (h : IsP L) :
    Calls PP F.impl_timesOf #[a.v, .func (.func F.impl_stackPass) #[] #[]] w fun e w' => e = .returned (vI (tmV L)) ∧ Below w.heap.size w w' := by
  refine impl_timesOf.calls a _ ?_
  rw [impl_timesOf.E_s]
  refine impl_timesOf.L2_rule _ _ _ _ _ (I := fun p many w' => ∃ k : Nat, many = k ∧ RowI w' p (itW k L) ∧ Below w.heap.size w w' ∧ ∀ j, j < k → ¬ Rising (itW j L)) (μ := fun _ many _ => (9 - many).toNat)
    ⟨0, rfl, ha, Below.refl _ _, fun j hj => by omega⟩ ?_
  rintro p many w' ⟨k, rfl, hp, hb, hall⟩
  have hk := it_not h hall
  have h8 := h.1
  rw [impl_timesOf.B2_s]
  refine Quiet.call1 (s := .bool) (c_isRising hp (by rw [(itW_perm L k).length_eq]; omega)) ?_
  intro w2 hd
  have hb2 := hb.trans (hd.below _)
  refine bif_intro (fun h4 => ?_) (fun h4 => ?_)
  · have h4 : ¬ Rising (itW k L) := by simpa using h4
    refine ⟨F.impl_stackPass, #[], #[], rfl, bodied_stackPass, ?_⟩
    refine (c_stackPass (hp.heap hd.heap') (by rw [(itW_perm L k).length_eq]; omega)).mono ?_
    rintro e w3 ⟨s, rfl, hs, hb3⟩
    refine ⟨s, rfl, s, ((k + 1 : Nat) : Int), by rw [w64_succ (by omega) (by omega)]; rfl, ⟨k + 1, rfl, hs.row, hb2.trans (hb3.mono hb2.size), fun j hj => ?_⟩, by omega⟩
    by_cases e : j = k
    · rw [e]; exact h4
    · exact hall j (by omega)
  · have h4 : Rising (itW k L) := by simpa using h4
    rw [impl_timesOf.A2_0_s]
    exact ⟨by rw [Tm.eq ⟨h4, hall⟩], hb2⟩
theorem c_implStackTimes {w : World} {a : Sl} {L : List Int} (ha : RowI w a L) (hL : L.length < 2^38) :
    Calls PP F.impl_StackTimes #[a.v] w fun e w' => e = .returned (vI (StackTimesV L)) ∧ Below w.heap.size w w' := by
  refine impl_StackTimes.calls a ?_
  rw [impl_StackTimes.E_s]
  refine (c_implIsPerm ha hL).mono ?_
  rintro e w1 ⟨rfl, hb⟩
  refine ⟨_, rfl, ?_⟩
  refine bif_intro (fun h => ?_) (fun h => ?_)
  · have h : ¬ IsP L := by simpa using h
    exact ⟨by rw [StackTimesV, if_neg h], hb⟩
  · have h : IsP L := by simpa using h
    refine (c_timesOf (ha.grow hb) h).mono ?_
    rintro e w2 ⟨rfl, hb2⟩
    exact ⟨_, rfl, by rw [StackTimesV, if_pos h], hb.trans (hb2.mono hb.size)⟩
theorem c_specStackTimes {w : World} {a : Sl} {L : List Int} (ha : RowI w a L) (hL : L.length < 2^38) :
    Calls PP F.spec_StackTimes #[a.v] w fun e w' => e = .returned (vI (StackTimesV L)) ∧ Below w.heap.size w w' := by
  refine spec_StackTimes.calls a ?_
  rw [spec_StackTimes.E_s]
  refine Quiet.call1 (s := .bool) (c_specIsPerm ha hL) ?_
  intro w1 hd
  have hb1 : Below w.heap.size w w1 := hd.below _
  refine bif_intro (fun h => ?_) (fun h => ?_)
  · have h : ¬ IsP L := by simpa using h
    exact ⟨by rw [StackTimesV, if_neg h], hb1⟩
  · have h : IsP L := by simpa using h
    have h8 := h.1
    refine spec_StackTimes.L4_rule _ _ _ _ (I := fun p many w' => ∃ k : Nat, many = k ∧ RowI w' p (itW k L) ∧ Below w.heap.size w w' ∧ ∀ j, j < k → ¬ Rising (itW j L)) (μ := fun _ many _ => (9 - many).toNat)
      ⟨0, rfl, ha.grow hb1, hb1, fun j hj => by omega⟩ ?_
    rintro p many w' ⟨k, rfl, hp, hb, hall⟩
    have hk := it_not h hall
    rw [spec_StackTimes.B4_s]
    refine (c_l13Straight hp (by rw [(itW_perm L k).length_eq]; exact h8)).mono ?_
    rintro e w2 ⟨rfl, hb2⟩
    refine ⟨_, rfl, ?_⟩
    have hb12 := hb.trans (hb2.mono hb.size)
    have hri := (isP_it h k).rising
    refine bif_intro (fun h4 => ?_) (fun h4 => ?_)
    · have h4 : ¬ Rising (itW k L) := by rw [hri]; simpa using h4
      refine (c_l21Pass (hp.grow hb2) (by rw [(itW_perm L k).length_eq]; omega)).mono ?_
      rintro e w3 ⟨s, rfl, hs, hb3⟩
      refine ⟨s, rfl, s, ((k + 1 : Nat) : Int), by rw [w64_succ (by omega) (by omega)]; rfl, ⟨k + 1, rfl, hs.row, hb12.trans (hb3.mono hb12.size), fun j hj => ?_⟩, by omega⟩
      by_cases e : j = k
      · rw [e]; exact h4
      · exact hall j (by omega)
    · have h4 : Rising (itW k L) := by rw [hri]; simpa using h4
      rw [spec_StackTimes.A4_0_s]
      exact ⟨by rw [StackTimesV, if_pos h, Tm.eq ⟨h4, hall⟩], hb12⟩
theorem lawC_FnExactStackPass (a0 : Sl) (L0 : List Int) (w : World) (ha0 : RowI w a0 L0) (hbd0 : ∀ x ∈ L0, -9223372036854775808 ≤ x ∧ x ≤ 9223372036854775807) :
    Calls PP F.laws_FnExactStackPass #[a0.v] w fun e w' => e = .returned (.bool true) ∧ Below w.heap.size w w' := by
  have han0 : a0.n = L0.length := by have := ha0.n; simpa using this
  refine laws_FnExactStackPass.calls a0 ?_
  rw [laws_FnExactStackPass.E_s]
  have b_0_0 : Below w.heap.size w w := Below.refl _ _
  refine bif_dec (fun h => ⟨rfl, b_0_0⟩) (fun h0s => ?_)
  have hL0 : L0.length < 2 ^ 38 := by omega
  refine (c_toIntS (ha0.grow b_0_0) (by omega)).mono ?_
  rintro e w1 ⟨xw0, rfl, hxw0, s_0⟩
  refine ⟨xw0, rfl, ?_⟩
  have b_0_1 := b_0_0.trans (s_0.mono b_0_0.size)
  have b_1_1 : Below w1.heap.size w1 w1 := Below.refl _ _
  refine (c_specStackPass (hxw0.row.grow b_1_1) hL0).mono ?_
  rintro e w2 ⟨w0, rfl, hw0, s_1⟩
  refine ⟨w0, rfl, ?_⟩
  have b_0_2 := b_0_1.trans (s_1.mono b_0_1.size)
  have b_1_2 := b_1_1.trans (s_1.mono b_1_1.size)
  have b_2_2 : Below w2.heap.size w2 w2 := Below.refl _ _
  refine (c_toIntS (ha0.grow b_0_2) (by omega)).mono ?_
  rintro e w3 ⟨xx0, rfl, hxx0, s_2⟩
  refine ⟨xx0, rfl, ?_⟩
  have b_0_3 := b_0_2.trans (s_2.mono b_0_2.size)
  have b_1_3 := b_1_2.trans (s_2.mono b_1_2.size)
  have b_2_3 := b_2_2.trans (s_2.mono b_2_2.size)
  have b_3_3 : Below w3.heap.size w3 w3 := Below.refl _ _
  refine (c_implStackPass (hxx0.row.grow b_3_3) hL0).mono ?_
  rintro e w4 ⟨g0, rfl, hg0, s_3⟩
  refine ⟨g0, rfl, ?_⟩
  have b_0_4 := b_0_3.trans (s_3.mono b_0_3.size)
  have b_1_4 := b_1_3.trans (s_3.mono b_1_3.size)
  have b_2_4 := b_2_3.trans (s_3.mono b_2_3.size)
  have b_3_4 := b_3_3.trans (s_3.mono b_3_3.size)
  have b_4_4 : Below w4.heap.size w4 w4 := Below.refl _ _
  have hv0 : (StackPassV L0).length < 2^38 := StackPassV_len L0
  refine Quiet.call1 (s := .bool) (c_eqIntS (hg0.row.grow b_4_4) (hw0.grow b_2_4) (by omega)) ?_
  intro w5 hd5
  have s_4 : Below w4.heap.size w4 w5 := hd5.below _
  have b_0_5 := b_0_4.trans (s_4.mono b_0_4.size)
  have b_1_5 := b_1_4.trans (s_4.mono b_1_4.size)
  have b_2_5 := b_2_4.trans (s_4.mono b_2_4.size)
  have b_3_5 := b_3_4.trans (s_4.mono b_3_4.size)
  have b_4_5 := b_4_4.trans (s_4.mono b_4_4.size)
  refine bif_f (by simp) ?_
  have b_5_5 : Below w5.heap.size w5 w5 := Below.refl _ _
  refine (c_toIntS (ha0.grow b_0_5) (by omega)).mono ?_
  rintro e w6 ⟨y0, rfl, hy0, s_5⟩
  refine ⟨y0, rfl, ?_⟩
  have b_0_6 := b_0_5.trans (s_5.mono b_0_5.size)
  have b_1_6 := b_1_5.trans (s_5.mono b_1_5.size)
  have b_2_6 := b_2_5.trans (s_5.mono b_2_5.size)
  have b_3_6 := b_3_5.trans (s_5.mono b_3_5.size)
  have b_4_6 := b_4_5.trans (s_5.mono b_4_5.size)
  have b_5_6 := b_5_5.trans (s_5.mono b_5_5.size)
  refine Quiet.call1 (s := .bool) (c_eqIntS (hxx0.row.grow b_3_6) hy0.row (by omega)) ?_
  intro w7 hd7
  have s_6 : Below w6.heap.size w6 w7 := hd7.below _
  have b_0_7 := b_0_6.trans (s_6.mono b_0_6.size)
  have b_1_7 := b_1_6.trans (s_6.mono b_1_6.size)
  have b_2_7 := b_2_6.trans (s_6.mono b_2_6.size)
  have b_3_7 := b_3_6.trans (s_6.mono b_3_6.size)
  have b_4_7 := b_4_6.trans (s_6.mono b_4_6.size)
  have b_5_7 := b_5_6.trans (s_6.mono b_5_6.size)
  refine bif_f (by simp) ?_
  have hxx0m := hxx0.grow b_3_7
  have hg0m := hg0.grow b_4_7
  refine (c_markIntS hxx0m (by omega) (k := 1) (by omega) (by omega)).mono ?_
  rintro e w8 ⟨rfl, _, hg_8, hz_8⟩
  have ks_8 := keeps_grown hg_8
  refine ⟨_, rfl, ?_⟩
  have lo_8 : ∀ g, _ → w2.heap.size ≤ g := (fun g e => (hxx0.lt g e).1)
  have hi_8 : ∀ g, _ → g < w3.heap.size := (fun g e => (hxx0.lt g e).2)
  have b_0_8 := b_0_7.trans (ks_8.below (B := w.heap.size) (fun g e => Nat.le_trans b_0_2.size (lo_8 g e)) b_0_7.size)
  have b_1_8 := b_1_7.trans (ks_8.below (B := w1.heap.size) (fun g e => Nat.le_trans b_1_2.size (lo_8 g e)) b_1_7.size)
  have b_2_8 := b_2_7.trans (ks_8.below (B := w2.heap.size) (fun g e => Nat.le_trans b_2_2.size (lo_8 g e)) b_2_7.size)
  have hg0m := hg0m.keeps ks_8 (fun g e1 e2 => by have := hi_8 g e2; have := (hg0.lt g e1).1; have := b_3_3.size; omega)
  refine bif_dec (fun h => by omega) (fun h => ?_)
  have b_8_8 : Below w8.heap.size w8 w8 := Below.refl _ _
  have hg0 := hg0m
  refine Quiet.call1 (s := .bool) (c_eqIntS (hg0.row.grow b_8_8) (hw0.grow b_2_8) (by omega)) ?_
  intro w9 hd9
  have s_8 : Below w8.heap.size w8 w9 := hd9.below _
  have b_0_9 := b_0_8.trans (s_8.mono b_0_8.size)
  have b_1_9 := b_1_8.trans (s_8.mono b_1_8.size)
  have b_2_9 := b_2_8.trans (s_8.mono b_2_8.size)
  have b_8_9 := b_8_8.trans (s_8.mono b_8_8.size)
  refine bif_f (by simp) ?_
  have hg0p := hg0.grow b_8_9
  have b_9_9 : Below w9.heap.size w9 w9 := Below.refl _ _
  refine (c_markIntS hg0p (by omega) (k := 1) (by omega) (by omega)).mono ?_
  rintro e w10 ⟨rfl, hq0, hg_10, hz_10⟩
  have ks_10 := keeps_grown hg_10
  refine ⟨_, rfl, ?_⟩
  have lo_10 : ∀ g, _ → w3.heap.size ≤ g := (fun g e => (hg0p.lt g e).1)
  have b_0_10 := b_0_9.trans (ks_10.below (B := w.heap.size) (fun g e => Nat.le_trans b_0_3.size (lo_10 g e)) b_0_9.size)
  have b_1_10 := b_1_9.trans (ks_10.below (B := w1.heap.size) (fun g e => Nat.le_trans b_1_3.size (lo_10 g e)) b_1_9.size)
  have b_2_10 := b_2_9.trans (ks_10.below (B := w2.heap.size) (fun g e => Nat.le_trans b_2_3.size (lo_10 g e)) b_2_9.size)
  have b_10_10 : Below w10.heap.size w10 w10 := Below.refl _ _
  refine Quiet.call1 (s := .int .i64) (c_heldIntS (n := (StackPassV L0).length) (hq0.row.grow b_10_10) (by omega) (by omega) (by omega)) ?_
  intro w11 hd11
  have s_10 : Below w10.heap.size w10 w11 := hd11.below _
  have b_0_11 := b_0_10.trans (s_10.mono b_0_10.size)
  have b_1_11 := b_1_10.trans (s_10.mono b_1_10.size)
  have b_2_11 := b_2_10.trans (s_10.mono b_2_10.size)
  have b_10_11 := b_10_10.trans (s_10.mono b_10_10.size)
  refine bif_dec (fun h => by omega) (fun h => ?_)
  refine bif_f (by simp) ?_
  have b_11_11 : Below w11.heap.size w11 w11 := Below.refl _ _
  refine (c_toIntS (ha0.grow b_0_11) (by omega)).mono ?_
  rintro e w12 ⟨xv0, rfl, hxv0, s_11⟩
  refine ⟨xv0, rfl, ?_⟩
  have b_0_12 := b_0_11.trans (s_11.mono b_0_11.size)
  have b_1_12 := b_1_11.trans (s_11.mono b_1_11.size)
  have b_2_12 := b_2_11.trans (s_11.mono b_2_11.size)
  have b_10_12 := b_10_11.trans (s_11.mono b_10_11.size)
  have b_11_12 := b_11_11.trans (s_11.mono b_11_11.size)
  have b_12_12 : Below w12.heap.size w12 w12 := Below.refl _ _
  refine (c_implStackPass (hxv0.row.grow b_12_12) hL0).mono ?_
  rintro e w13 ⟨h0, rfl, hh0, s_12⟩
  refine ⟨h0, rfl, ?_⟩
  have b_0_13 := b_0_12.trans (s_12.mono b_0_12.size)
  have b_1_13 := b_1_12.trans (s_12.mono b_1_12.size)
  have b_2_13 := b_2_12.trans (s_12.mono b_2_12.size)
  have b_10_13 := b_10_12.trans (s_12.mono b_10_12.size)
  have b_11_13 := b_11_12.trans (s_12.mono b_11_12.size)
  have b_12_13 := b_12_12.trans (s_12.mono b_12_12.size)
  have b_13_13 : Below w13.heap.size w13 w13 := Below.refl _ _
  refine Quiet.call1 (s := .bool) (c_eqIntS (hh0.row.grow b_13_13) (hw0.grow b_2_13) (by omega)) ?_
  intro w14 hd14
  have s_13 : Below w13.heap.size w13 w14 := hd14.below _
  have b_0_14 := b_0_13.trans (s_13.mono b_0_13.size)
  have b_1_14 := b_1_13.trans (s_13.mono b_1_13.size)
  have b_2_14 := b_2_13.trans (s_13.mono b_2_13.size)
  have b_10_14 := b_10_13.trans (s_13.mono b_10_13.size)
  have b_11_14 := b_11_13.trans (s_13.mono b_11_13.size)
  have b_12_14 := b_12_13.trans (s_13.mono b_12_13.size)
  have b_13_14 := b_13_13.trans (s_13.mono b_13_13.size)
  refine bif_f (by simp) ?_
  refine Quiet.call1 (s := .int .i64) (c_heldIntS (n := (StackPassV L0).length) (hq0.row.grow b_10_14) (by omega) (by omega) (by omega)) ?_
  intro w15 hd15
  have s_14 : Below w14.heap.size w14 w15 := hd15.below _
  have b_0_15 := b_0_14.trans (s_14.mono b_0_14.size)
  have b_1_15 := b_1_14.trans (s_14.mono b_1_14.size)
  have b_2_15 := b_2_14.trans (s_14.mono b_2_14.size)
  have b_10_15 := b_10_14.trans (s_14.mono b_10_14.size)
  have b_11_15 := b_11_14.trans (s_14.mono b_11_14.size)
  have b_12_15 := b_12_14.trans (s_14.mono b_12_14.size)
  have b_13_15 := b_13_14.trans (s_14.mono b_13_14.size)
  refine bif_dec (fun h => by omega) (fun h => ?_)
  refine bif_f (by simp) ?_
  exact ⟨rfl, b_0_15⟩

theorem lawC_FnExactIsStackSorted (a0 : Sl) (L0 : List Int) (w : World) (ha0 : RowI w a0 L0) (hbd0 : ∀ x ∈ L0, -9223372036854775808 ≤ x ∧ x ≤ 9223372036854775807) :
    Calls PP F.laws_FnExactIsStackSorted #[a0.v] w fun e w' => e = .returned (.bool true) ∧ Below w.heap.size w w' := by
  have han0 : a0.n = L0.length := by have := ha0.n; simpa using this
  refine laws_FnExactIsStackSorted.calls a0 ?_
  rw [laws_FnExactIsStackSorted.E_s]
  have b_0_0 : Below w.heap.size w w := Below.refl _ _
  refine bif_dec (fun h => ⟨rfl, b_0_0⟩) (fun h0s => ?_)
  have hL0 : L0.length < 2 ^ 38 := by omega
  refine (c_toIntS (ha0.grow b_0_0) (by omega)).mono ?_
  rintro e w1 ⟨xw0, rfl, hxw0, s_0⟩
  refine ⟨xw0, rfl, ?_⟩
  have b_0_1 := b_0_0.trans (s_0.mono b_0_0.size)
  have b_1_1 : Below w1.heap.size w1 w1 := Below.refl _ _
  refine (c_specIsStackSorted (hxw0.row.grow b_1_1) hL0).mono ?_
  rintro e w2 ⟨rfl, s_1⟩
  refine ⟨_, rfl, ?_⟩
  have b_0_2 := b_0_1.trans (s_1.mono b_0_1.size)
  have b_1_2 := b_1_1.trans (s_1.mono b_1_1.size)
  have b_2_2 : Below w2.heap.size w2 w2 := Below.refl _ _
  refine (c_toIntS (ha0.grow b_0_2) (by omega)).mono ?_
  rintro e w3 ⟨xx0, rfl, hxx0, s_2⟩
  refine ⟨xx0, rfl, ?_⟩
  have b_0_3 := b_0_2.trans (s_2.mono b_0_2.size)
  have b_1_3 := b_1_2.trans (s_2.mono b_1_2.size)
  have b_2_3 := b_2_2.trans (s_2.mono b_2_2.size)
  have b_3_3 : Below w3.heap.size w3 w3 := Below.refl _ _
  refine (c_implIsStackSorted (hxx0.row.grow b_3_3) hL0).mono ?_
  rintro e w4 ⟨rfl, s_3⟩
  refine ⟨_, rfl, ?_⟩
  have b_0_4 := b_0_3.trans (s_3.mono b_0_3.size)
  have b_1_4 := b_1_3.trans (s_3.mono b_1_3.size)
  have b_2_4 := b_2_3.trans (s_3.mono b_2_3.size)
  have b_3_4 := b_3_3.trans (s_3.mono b_3_3.size)
  have b_4_4 : Below w4.heap.size w4 w4 := Below.refl _ _
  refine bif_f (by simp) ?_
  refine (c_toIntS (ha0.grow b_0_4) (by omega)).mono ?_
  rintro e w5 ⟨y0, rfl, hy0, s_4⟩
  refine ⟨y0, rfl, ?_⟩
  have b_0_5 := b_0_4.trans (s_4.mono b_0_4.size)
  have b_1_5 := b_1_4.trans (s_4.mono b_1_4.size)
  have b_2_5 := b_2_4.trans (s_4.mono b_2_4.size)
  have b_3_5 := b_3_4.trans (s_4.mono b_3_4.size)
  have b_4_5 := b_4_4.trans (s_4.mono b_4_4.size)
  refine Quiet.call1 (s := .bool) (c_eqIntS (hxx0.row.grow b_3_5) hy0.row (by omega)) ?_
  intro w6 hd6
  have s_5 : Below w5.heap.size w5 w6 := hd6.below _
  have b_0_6 := b_0_5.trans (s_5.mono b_0_5.size)
  have b_1_6 := b_1_5.trans (s_5.mono b_1_5.size)
  have b_2_6 := b_2_5.trans (s_5.mono b_2_5.size)
  have b_3_6 := b_3_5.trans (s_5.mono b_3_5.size)
  have b_4_6 := b_4_5.trans (s_5.mono b_4_5.size)
  refine bif_f (by simp) ?_
  exact ⟨rfl, b_0_6⟩

theorem lawC_FnExactStackTimes (a0 : Sl) (L0 : List Int) (w : World) (ha0 : RowI w a0 L0) (hbd0 : ∀ x ∈ L0, -9223372036854775808 ≤ x ∧ x ≤ 9223372036854775807) :
    Calls PP F.laws_FnExactStackTimes #[a0.v] w fun e w' => e = .returned (.bool true) ∧ Below w.heap.size w w' := by
  have han0 : a0.n = L0.length := by have := ha0.n; simpa using this
  refine laws_FnExactStackTimes.calls a0 ?_
  rw [laws_FnExactStackTimes.E_s]
  have b_0_0 : Below w.heap.size w w := Below.refl _ _
  refine bif_dec (fun h => ⟨rfl, b_0_0⟩) (fun h0s => ?_)
  have hL0 : L0.length < 2 ^ 38 := by omega
  refine (c_toIntS (ha0.grow b_0_0) (by omega)).mono ?_
  rintro e w1 ⟨xw0, rfl, hxw0, s_0⟩
  refine ⟨xw0, rfl, ?_⟩
  have b_0_1 := b_0_0.trans (s_0.mono b_0_0.size)
  have b_1_1 : Below w1.heap.size w1 w1 := Below.refl _ _
  refine (c_specStackTimes (hxw0.row.grow b_1_1) hL0).mono ?_
  rintro e w2 ⟨rfl, s_1⟩
  refine ⟨_, rfl, ?_⟩
  have b_0_2 := b_0_1.trans (s_1.mono b_0_1.size)
  have b_1_2 := b_1_1.trans (s_1.mono b_1_1.size)
  have b_2_2 : Below w2.heap.size w2 w2 := Below.refl _ _
  refine (c_toIntS (ha0.grow b_0_2) (by omega)).mono ?_
  rintro e w3 ⟨xx0, rfl, hxx0, s_2⟩
  refine ⟨xx0, rfl, ?_⟩
  have b_0_3 := b_0_2.trans (s_2.mono b_0_2.size)
  have b_1_3 := b_1_2.trans (s_2.mono b_1_2.size)
  have b_2_3 := b_2_2.trans (s_2.mono b_2_2.size)
  have b_3_3 : Below w3.heap.size w3 w3 := Below.refl _ _
  refine (c_implStackTimes (hxx0.row.grow b_3_3) hL0).mono ?_
  rintro e w4 ⟨rfl, s_3⟩
  refine ⟨_, rfl, ?_⟩
  have b_0_4 := b_0_3.trans (s_3.mono b_0_3.size)
  have b_1_4 := b_1_3.trans (s_3.mono b_1_3.size)
  have b_2_4 := b_2_3.trans (s_3.mono b_2_3.size)
  have b_3_4 := b_3_3.trans (s_3.mono b_3_3.size)
  have b_4_4 : Below w4.heap.size w4 w4 := Below.refl _ _
  refine bif_f (by simp) ?_
  refine (c_toIntS (ha0.grow b_0_4) (by omega)).mono ?_
  rintro e w5 ⟨y0, rfl, hy0, s_4⟩
  refine ⟨y0, rfl, ?_⟩
  have b_0_5 := b_0_4.trans (s_4.mono b_0_4.size)
  have b_1_5 := b_1_4.trans (s_4.mono b_1_4.size)
  have b_2_5 := b_2_4.trans (s_4.mono b_2_4.size)
  have b_3_5 := b_3_4.trans (s_4.mono b_3_4.size)
  have b_4_5 := b_4_4.trans (s_4.mono b_4_4.size)
  refine Quiet.call1 (s := .bool) (c_eqIntS (hxx0.row.grow b_3_5) hy0.row (by omega)) ?_
  intro w6 hd6
  have s_5 : Below w5.heap.size w5 w6 := hd6.below _
  have b_0_6 := b_0_5.trans (s_5.mono b_0_5.size)
  have b_1_6 := b_1_5.trans (s_5.mono b_1_5.size)
  have b_2_6 := b_2_5.trans (s_5.mono b_2_5.size)
  have b_3_6 := b_3_5.trans (s_5.mono b_3_5.size)
  have b_4_6 := b_4_5.trans (s_5.mono b_4_5.size)
  refine bif_f (by simp) ?_
  exact ⟨rfl, b_0_6⟩

end Go.Proofs.Ytliabbhfagfagaa
