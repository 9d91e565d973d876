/- Forms of tableaux: both tests answer alike. -/
import Derived.Test.YtfainpmcdfckkaaL1
import Derived.Test.YtfainpmcdfckkaaLaw1
namespace Go.Proofs.Ytfainpmcdfckkaa
open Go Go.RowKit
set_option maxRecDepth 100000

/-- The sum of the first k numbers. -/
def sm (L : List Int) : Nat → Int
  | 0 => 0
  | k + 1 => sm L k + L.getD k 0
def fOk (L : List Int) (most : Int) (j : Nat) : Prop := 1 ≤ L.getD j 0 ∧ sm L j + L.getD j 0 ≤ most ∧ (0 < j → L.getD j 0 ≤ L.getD (j - 1) 0)
def FormOk (L : List Int) (most : Int) : Prop := ∀ j, j < L.length → fOk L most j
theorem sm_ge {L : List Int} {k : Nat} (h : ∀ j, j < k → 1 ≤ L.getD j 0) : (k : Int) ≤ sm L k := by
  induction k with
  | zero => simp [sm]
  | succ k ih =>
    have := ih (fun j hj => h j (by omega))
    have := h k (by omega)
    simp only [sm]; omega
theorem sm_mono {L : List Int} {k n : Nat} (hkn : k ≤ n) (h : ∀ j, j < n → 1 ≤ L.getD j 0) : sm L k ≤ sm L n := by
  induction n with
  | zero => have : k = 0 := by omega
            subst this; exact Int.le_refl _
  | succ n ih =>
    rcases Nat.lt_or_ge n k with h1 | h1
    · have : k = n + 1 := by omega
      subst this; exact Int.le_refl _
    · have := ih h1 (fun j hj => h j (by omega))
      have := h n (by omega)
      simp only [sm]; omega
open Classical in
theorem c_isForm {w : World} {a : Sl} {L : List Int} (ha : RowI w a L) (hL : L.length < 2^39) (hbd : ∀ x ∈ L, -9223372036854775808 ≤ x ∧ x ≤ 9223372036854775807) {most : Int} (hm : 0 ≤ most) (hm2 : most ≤ 100) :
    Quiet F.impl_isForm #[a.v, vI most] w (.bool (decide (FormOk L most))) := by
  intro w1 hd
  have han : a.n = L.length := by have := ha.n; simpa using this
  refine impl_isForm.calls a most ?_
  rw [impl_isForm.E_s]
  refine impl_isForm.L3_rule _ _ _ _ _ _ _ _ (I := fun sum k w' => w' = w1 ∧ 0 ≤ k ∧ k ≤ L.length ∧ sum = sm L k.toNat ∧ 0 ≤ sum ∧ sum ≤ most ∧ ∀ j, j < k.toNat → fOk L most j) (μ := fun _ k _ => (L.length - k).toNat)
    ⟨rfl, by omega, by omega, rfl, by omega, hm, fun j hj => by simp at hj⟩ ?_
  rintro sum k w' ⟨rfl, h0, hk, hs, hs0, hsm, hall⟩
  have hsucc : (k + 1).toNat = k.toNat + 1 := by omega
  have bad : k < L.length → ¬ fOk L most k.toNat → impl_isForm.q1 std (fun e w'' => e = .returned (.bool (decide (FormOk L most))) ∧ Drew w' w'') .ret [(4, .bool false)] w' := by
    intro hk3 hb
    rw [impl_isForm.R3_s]
    have : ¬ FormOk L most := fun h => hb (h k.toNat (by omega))
    exact ⟨by simp [this], Drew.refl _⟩
  have good : k < L.length → fOk L most k.toNat → ∃ sum_5_n t10_n, impl_isForm.emb3 a most (w64 (sum + L.getD k.toNat 0)) a (a.n : Int) (w64 (k + 1)) = impl_isForm.emb3 a most sum_5_n a (a.n : Int) t10_n ∧
      (w' = w' ∧ 0 ≤ t10_n ∧ t10_n ≤ L.length ∧ sum_5_n = sm L t10_n.toNat ∧ 0 ≤ sum_5_n ∧ sum_5_n ≤ most ∧ ∀ j, j < t10_n.toNat → fOk L most j) ∧ (L.length - t10_n).toNat < (L.length - k).toNat := by
    intro hk3 hg
    obtain ⟨g1, g2, g3⟩ := hg
    refine ⟨sm L (k.toNat + 1), k + 1, ?_, ⟨rfl, by omega, by omega, by rw [hsucc], ?_, ?_, fun j hj => ?_⟩, by omega⟩
    · rw [w64_succ h0 (by omega), w64_id (by omega) (by omega), hs]; rfl
    · simp only [sm]; omega
    · simp only [sm]; omega
    · by_cases hj2 : j < k.toNat
      · exact hall j hj2
      · have : j = k.toNat := by omega
        subst this; exact ⟨g1, g2, g3⟩
  rw [impl_isForm.B3_s]
  refine bif_dec (fun h3 => ?_) (fun h3 => ?_)
  · have hlt : k.toNat < L.length := by omega
    refine RowI.get (ha.heap hd.heap') h0 (by omega) ?_
    refine bif_dec (fun h4 => bad (by omega) fun hg => by have := hg.1; omega) (fun h4 => ?_)
    rw [w64_id (n := most - sum) (by omega) (by omega)]
    refine bif_dec (fun h5 => bad (by omega) fun hg => by have := hg.2.1; omega) (fun h5 => ?_)
    refine bif_dec (fun h6 => ?_) (fun h6 => ?_)
    · rw [w64_id (n := k - 1) (by omega) (by omega)]
      refine RowI.get (ha.heap hd.heap') (by omega) (by omega) ?_
      have e1 : (k - 1).toNat = k.toNat - 1 := by omega
      rw [e1]
      refine bif_dec (fun h7 => bad (by omega) fun hg => by have := hg.2.2 (by omega); omega) (fun h7 => ?_)
      exact good (by omega) ⟨by omega, by omega, fun _ => by omega⟩
    · exact good (by omega) ⟨by omega, by omega, fun h => by omega⟩
  · rw [impl_isForm.A3_0_s]
    have : FormOk L most := fun j hj => hall j (by omega)
    exact ⟨by simp [this], Drew.refl _⟩

open Classical in
theorem c_l19Form {w : World} {a : Sl} {L : List Int} (ha : RowI w a L) (hL : L.length < 2^39) {most : Int} (hm : 0 ≤ most) (hm2 : most ≤ 100) :
    Quiet F.spec_l19Form #[a.v, vI most] w (.bool (decide (FormOk L most))) := by
  intro w1 hd
  have han : a.n = L.length := by have := ha.n; simpa using this
  refine spec_l19Form.calls a most ?_
  rw [spec_l19Form.E_s]
  refine spec_l19Form.L3_rule _ _ _ _ _ _ (I := fun sum k w' => Drew w1 w' ∧ 0 ≤ k ∧ k ≤ L.length ∧ k ≤ most ∧ sum = sm L k.toNat ∧ 0 ≤ sum ∧ sum ≤ k * 100 ∧
      ∀ j, j < k.toNat → 1 ≤ L.getD j 0 ∧ (0 < j → L.getD j 0 ≤ L.getD (j - 1) 0)) (μ := fun _ k _ => (L.length - k).toNat)
    ⟨Drew.refl _, by omega, by omega, hm, rfl, by omega, by omega, fun j hj => by simp at hj⟩ ?_
  rintro sum k w' ⟨hd2, h0, hk, hkm, hs, hs0, hsm, hall⟩
  have hh : w'.heap = w.heap := (hd.trans hd2).heap'
  have hsucc : (k + 1).toNat = k.toNat + 1 := by omega
  have bad : ∀ w2, Drew w' w2 → k < L.length → ¬ (FormOk L most) → spec_l19Form.q1 std (fun e w'' => e = .returned (.bool (decide (FormOk L most))) ∧ Drew w1 w'') .ret [(4, .bool false)] w2 := by
    intro w2 hd3 hk3 this
    rw [spec_l19Form.R3_s]
    exact ⟨by simp [this], hd2.trans hd3⟩
  have good : ∀ w2, Drew w' w2 → k < L.length → k < most → 1 ≤ L.getD k.toNat 0 → L.getD k.toNat 0 ≤ most → (0 < k.toNat → L.getD k.toNat 0 ≤ L.getD (k.toNat - 1) 0) →
     ∃ sum_5_n k_6_n, spec_l19Form.emb3 a most (w64 (sum + L.getD k.toNat 0)) (w64 (k + 1)) = spec_l19Form.emb3 a most sum_5_n k_6_n ∧
      (Drew w1 w2 ∧ 0 ≤ k_6_n ∧ k_6_n ≤ L.length ∧ k_6_n ≤ most ∧ sum_5_n = sm L k_6_n.toNat ∧ 0 ≤ sum_5_n ∧ sum_5_n ≤ k_6_n * 100 ∧ ∀ j, j < k_6_n.toNat → 1 ≤ L.getD j 0 ∧ (0 < j → L.getD j 0 ≤ L.getD (j - 1) 0)) ∧ (L.length - k_6_n).toNat < (L.length - k).toNat := by
    intro w2 hd3 hk3 hkm2 g1 g2 g3
    refine ⟨sm L (k.toNat + 1), k + 1, ?_, ⟨hd2.trans hd3, by omega, by omega, by omega, by rw [hsucc], ?_, ?_, fun j hj => ?_⟩, by omega⟩
    · rw [w64_succ h0 (by omega), w64_id (by omega) (by omega), hs]; rfl
    · simp only [sm]; omega
    · simp only [sm]; omega
    · by_cases hj2 : j < k.toNat
      · exact hall j hj2
      · have : j = k.toNat := by omega
        subst this; exact ⟨g1, g3⟩
  rw [spec_l19Form.B3_s]
  refine bif_dec (fun h3 => ?_) (fun h3 => ?_)
  · have hlt : k.toNat < L.length := by omega
    have nb : ¬ fOk L most k.toNat → ¬ FormOk L most := fun hb h => hb (h k.toNat hlt)
    have toobig : ¬ k < most → ¬ FormOk L most := fun hb h => by
      have h1 := sm_ge (L := L) (k := k.toNat) (fun j hj => (hall j hj).1)
      have h2 := (h k.toNat hlt)
      have h3 := h2.1
      have h4 := h2.2.1
      omega
    refine RowI.get (ha.heap hh) h0 (by omega) ?_
    refine bif_dec (fun h4 => drew_intro fun w2 hd3 => bad w2 hd3 (by omega) (nb fun hg => by have := hg.1; omega)) (fun h4 => ?_)
    refine RowI.get (ha.heap hh) h0 (by omega) ?_
    refine bif_dec (fun h5 => drew_intro fun w2 hd3 => bad w2 hd3 (by omega) (nb fun hg => by have := hg.2.1; omega)) (fun h5 => ?_)
    refine bif_dec (fun h6 => ?_) (fun h6 => ?_)
    · refine RowI.get (ha.heap hh) h0 (by omega) ?_
      rw [w64_id (n := k - 1) (by omega) (by omega)]
      refine RowI.get (ha.heap hh) (by omega) (by omega) ?_
      have e1 : (k - 1).toNat = k.toNat - 1 := by omega
      rw [e1]
      refine bif_dec (fun h7 => drew_intro fun w2 hd3 => bad w2 hd3 (by omega) (nb fun hg => by have := hg.2.2 (by omega); omega)) (fun h7 => ?_)
      refine drew_intro fun w2 hd3 => ?_
      refine bif_dec (fun h8 => bad w2 hd3 (by omega) (toobig (by omega))) (fun h8 => ?_)
      refine RowI.get (ha.heap (hd3.heap'.trans hh)) h0 (by omega) ?_
      exact good w2 hd3 (by omega) (by omega) (by omega) (by omega) (fun _ => by omega)
    · refine drew_intro fun w2 hd3 => ?_
      refine bif_dec (fun h8 => bad w2 hd3 (by omega) (toobig (by omega))) (fun h8 => ?_)
      refine RowI.get (ha.heap (hd3.heap'.trans hh)) h0 (by omega) ?_
      exact good w2 hd3 (by omega) (by omega) (by omega) (by omega) (fun h => by omega)
  · rw [spec_l19Form.A3_0_s]
    have e : k.toNat = L.length := by omega
    rw [e] at hs hall
    have : sum ≤ most ↔ FormOk L most := by
      constructor
      · intro h j hj
        have h1 := sm_mono (L := L) (k := j + 1) (n := L.length) (by omega) (fun j hj => (hall j hj).1)
        simp only [sm] at h1
        exact ⟨(hall j hj).1, by omega, (hall j hj).2⟩
      · intro h
        rw [hs]
        rcases Nat.eq_zero_or_pos L.length with h1 | h1
        · rw [h1]; exact hm
        · have h2 := (h (L.length - 1) (by omega)).2.1
          have : L.length = (L.length - 1) + 1 := by omega
          rw [this]; exact h2
    exact ⟨by simp [this], hd2⟩
end Go.Proofs.Ytfainpmcdfckkaa
