/- Is a row in ascending order: both texts; equality of rows; the identity. -/
import Derived.Test.YtliabbhfagfagaaDown
import Derived.Test.YtliabbhfagfagaaSs
import Derived.Test.YtliabbhfagfagaaPermMath
namespace Go.Proofs.Ytliabbhfagfagaa
open Go Go.RowKit
set_option maxRecDepth 100000

theorem c_isNaN (n : Int) : Pure F.cmp_isNaN_int_ #[vI n] (.bool false) := by
  intro w
  refine cmp_isNaN_int_.calls n ?_
  rw [cmp_isNaN_int_.E_s]
  exact ⟨by simp, rfl⟩
theorem c_Less (a b : Int) : Pure F.cmp_Less_int_ #[vI a, vI b] (.bool (decide (a < b))) := by
  intro w
  refine cmp_Less_int_.calls a b ?_
  rw [cmp_Less_int_.E_s]
  refine Pure.pcall1 (s := .bool) (c_isNaN a) ?_
  exact bif_f rfl ⟨rfl, rfl⟩
open Classical in
theorem c_IsSorted {w : World} {a : Sl} {L : List Int} (ha : RowI w a L) (hL : L.length < 2^38) : Quiet F.slices_IsSorted___int_int_ #[a.v] w (.bool (decide (Rising L))) := by
  intro w1 hd
  have han : a.n = L.length := by have := ha.n; simpa using this
  refine slices_IsSorted___int_int_.calls a ?_
  rw [slices_IsSorted___int_int_.E_s, han, w64_id (by omega) (by omega)]
  refine slices_IsSorted___int_int_.L2_rule _ _ _ _ (I := fun i w' => Drew w1 w' ∧ i < L.length ∧ -1 ≤ i ∧ ∀ j : Nat, i ≤ j → j + 1 < L.length → L.getD j 0 ≤ L.getD (j + 1) 0) (μ := fun i _ => (i + 1).toNat)
    ⟨Drew.refl _, by omega, by omega, fun j h1 h2 => by omega⟩ ?_
  rintro i w' ⟨hd2, hi, h0, hall⟩
  rw [slices_IsSorted___int_int_.B2_s]
  refine bif_dec (fun h3 => ?_) (fun h3 => ?_)
  · refine RowI.get (ha.heap (hd.trans hd2).heap') (by omega) (by omega) ?_
    rw [w64_id (n := i - 1) (by omega) (by omega)]
    refine RowI.get (ha.heap (hd.trans hd2).heap') (by omega) (by omega) ?_
    refine Pure.pcall1 (s := .bool) (c_Less _ _) ?_
    refine drew_intro fun w2 hd3 => ?_
    have e1 : i.toNat = (i - 1).toNat + 1 := by omega
    refine bif_dec (fun h4 => ?_) (fun h4 => ?_)
    · rw [slices_IsSorted___int_int_.R2_s]
      have : ¬ Rising L := fun h => by
        have := h (i - 1).toNat (by omega)
        rw [e1] at h4; omega
      exact ⟨by simp [this], hd2.trans hd3⟩
    · refine ⟨i - 1, rfl, ⟨hd2.trans hd3, by omega, by omega, fun j h1 h2 => ?_⟩, by omega⟩
      by_cases h5 : i ≤ j
      · exact hall j h5 h2
      · have : j = (i - 1).toNat := by omega
        rw [this, ← e1]; omega
  · rw [slices_IsSorted___int_int_.A2_0_s]
    have : Rising L := fun j h => hall j (by omega) h
    exact ⟨by simp [this], hd2⟩
open Classical in
theorem c_isRising {w : World} {a : Sl} {L : List Int} (ha : RowI w a L) (hL : L.length < 2^38) : Quiet F.impl_isRising #[a.v] w (.bool (decide (Rising L))) := by
  intro w1 hd
  refine impl_isRising.calls a ?_
  rw [impl_isRising.E_s]
  refine (c_IsSorted ha hL w1 hd).mono ?_
  rintro e w2 ⟨rfl, hd2⟩
  exact ⟨_, rfl, rfl, hd2⟩

theorem c_l2Same {w : World} {a b : Sl} {L M : List Int} (ha : RowI w a L) (hb : RowI w b M) (hL : L.length < 2^39) : Quiet F.spec_l2Same #[a.v, b.v] w (.bool (decide (L = M))) := by
  intro w1 hd
  have han : a.n = L.length := by have := ha.n; simpa using this
  have hbn : b.n = M.length := by have := hb.n; simpa using this
  refine spec_l2Same.calls a b ?_
  rw [spec_l2Same.E_s]
  refine bif_intro (fun h => ?_) (fun h => ?_)
  · have : L.length ≠ M.length := by simp at h; omega
    have : L ≠ M := fun e => this (by rw [e])
    exact ⟨by simp [this], Drew.refl _⟩
  have hlen : L.length = M.length := by simp at h; omega
  refine spec_l2Same.L4_rule _ _ _ _ _ (I := fun i w' => 0 ≤ i ∧ i ≤ L.length ∧ (∀ k, k < i.toNat → L[k]? = M[k]?) ∧ Drew w1 w') (μ := fun i _ => (L.length - i).toNat)
    ⟨by omega, by omega, fun k hk => by simp at hk, Drew.refl _⟩ ?_
  rintro i w' ⟨h0, hi, hall, hd2⟩
  have hh : w'.heap = w.heap := (hd.trans hd2).heap'
  rw [spec_l2Same.B4_s]
  refine bif_dec (fun h3 => ?_) (fun h3 => ?_)
  · have hlt : i.toNat < L.length := by omega
    have hlt2 : i.toNat < M.length := by omega
    refine RowI.get (ha.heap hh) h0 (by omega) ?_
    refine RowI.get (hb.heap hh) h0 (by omega) ?_
    refine drew_intro fun w3 hd3 => ?_
    rw [getD_eq hlt, getD_eq hlt2]
    refine bif_intro (fun h4 => ?_) (fun h4 => ?_)
    · have : L ≠ M := fun e => by subst e; simp at h4
      rw [spec_l2Same.R4_s]
      exact ⟨by simp [this], hd2.trans hd3⟩
    · have h4 : L[i.toNat] = M[i.toNat] := by simpa using h4
      refine ⟨i + 1, by rw [w64_succ h0 (by omega)], ⟨by omega, by omega, fun k hk => ?_, hd2.trans hd3⟩, by omega⟩
      by_cases hk2 : k < i.toNat
      · exact hall k hk2
      · have : k = i.toNat := by omega
        subst this
        rw [List.getElem?_eq_getElem hlt, List.getElem?_eq_getElem hlt2, h4]
  · rw [spec_l2Same.A4_0_s]
    have : L = M := by
      apply List.ext_getElem?
      intro k
      by_cases hk : k < L.length
      · exact hall k (by omega)
      · rw [List.getElem?_eq_none (by omega), List.getElem?_eq_none (by omega)]
    exact ⟨by simp [this], hd2⟩

theorem c_IdentityPerm {w : World} (n : Nat) (hn : n ≤ 8) :
    Calls PP F.spec_IdentityPerm #[vI n] w fun e w' => ∃ s : Sl, e = .returned s.v ∧ OwnI w' w.heap.size s (idn n) ∧ Below w.heap.size w w' := by
  refine spec_IdentityPerm.calls n ?_
  rw [spec_IdentityPerm.E_s]
  refine lit0 oneInt (B := w.heap.size) (Nat.le_refl _) ?_
  intro t0 w1 hown hg _
  refine spec_IdentityPerm.L3_rule _ _ _ _ _ (I := fun t k w' => 1 ≤ k ∧ k ≤ n + 1 ∧ OwnI w' w.heap.size t (idn (k - 1).toNat) ∧ Below w.heap.size w w') (μ := fun _ k _ => (n + 1 - k).toNat)
    ⟨by omega, by omega, hown, below_of_grow hg⟩ ?_
  rintro t k w' ⟨h1, hk, ht, hb⟩
  rw [spec_IdentityPerm.B3_s]
  refine bif_dec (fun h3 => ?_) (fun h3 => ?_)
  · refine bif_dec (fun h4 => ?_) (fun h4 => by omega)
    refine append_int ht hb.size (by rw [idn_length]; omega) ?_
    intro t' w2 ht2 hg2 _
    refine ⟨t', k + 1, by rw [w64_succ (by omega) (by omega)], ⟨by omega, by omega, ?_, hb.grown hg2 hb.size (fun g hg => (ht.lt g hg).1)⟩, by omega⟩
    rw [show (k + 1 - 1).toNat = (k - 1).toNat + 1 by omega, idn_succ, show (((k - 1).toNat : Nat) : Int) + 1 = k by omega]
    exact ht2
  · rw [spec_IdentityPerm.A3_0_s]
    rw [show (k - 1).toNat = n by omega] at ht
    exact ⟨t, rfl, ht, hb⟩
open Classical in
theorem c_l13Straight {w : World} {a : Sl} {L : List Int} (ha : RowI w a L) (hL : L.length ≤ 8) :
    Calls PP F.spec_l13Straight #[a.v] w fun e w' => e = .returned (.bool (decide (L = idn L.length))) ∧ Below w.heap.size w w' := by
  have han : a.n = L.length := by have := ha.n; simpa using this
  refine spec_l13Straight.calls a ?_
  rw [spec_l13Straight.E_s, han]
  refine (c_IdentityPerm L.length hL).mono ?_
  rintro e w1 ⟨s, rfl, hs, hb⟩
  refine ⟨s, rfl, ?_⟩
  refine Quiet.call1 (s := .bool) (c_l2Same (ha.grow hb) hs.row (by omega)) ?_
  intro w2 hd
  exact ⟨by congr, hb.trans (hd.below _)⟩
end Go.Proofs.Ytliabbhfagfagaa
