/- The walks of the two Schroeder functions, and the law. -/
import Derived.Test.YtjnikeemcbhmkaaPath
namespace Go.Proofs.Ytjnikeemcbhmkaa
open Go Go.RowKit

def scIn (L : List Int) (m : Int) (x : Int) : Nat → Int
  | 0 => x
  | k + 1 => w64 (scIn L m x k + w64 (L.getD k 0 * L.getD (m - 1 - k).toNat 0))
def scL : Nat → List Int
  | 0 => [1]
  | m + 1 => scL m ++ [scIn (scL m) (m + 1) ((scL m).getD m 0) (m + 1)]
theorem scL_length : ∀ m, (scL m).length = m + 1
  | 0 => rfl
  | m + 1 => by simp [scL, scL_length m]
def scV (n : Int) : Int := if n < 0 ∨ 15 < n then -1 else (scL n.toNat).getD n.toNat 0

theorem c_implSchroeder (n : Int) (w : World) : Calls PP F.impl_SchroederNumber #[vI n] w fun e w' => e = .returned (vI (scV n)) ∧ Below w.heap.size w w' := by
  refine impl_SchroederNumber.calls n ?_
  rw [impl_SchroederNumber.E_s]
  refine bif_dec (fun h => ?_) (fun h1 => bif_dec (fun h => ?_) (fun h2 => ?_))
  · exact ⟨by rw [scV, if_pos (.inl h)], Below.refl _ _⟩
  · exact ⟨by rw [scV, if_pos (.inr h)], Below.refl _ _⟩
  refine lit1 oneInt (B := w.heap.size) (Nat.le_refl _) (One.int 1) ?_
  intro t0 w1 hown hg _
  refine impl_SchroederNumber.L5_rule _ _ _ _ _ (I := fun t m w' => 1 ≤ m ∧ m ≤ n + 1 ∧ OwnI w' w.heap.size t (scL (m.toNat - 1)) ∧ Below w.heap.size w w') (μ := fun _ m _ => (n + 1 - m).toNat)
    ⟨by omega, by omega, hown, below_of_grow hg⟩ ?_
  rintro t m w' ⟨h0, hm, hown, hb⟩
  rw [impl_SchroederNumber.B5_s]
  obtain ⟨m', rfl⟩ : ∃ m' : Nat, m = m' + 1 := ⟨m.toNat - 1, by omega⟩
  rw [show ((m' : Int) + 1).toNat - 1 = m' by omega] at hown
  have em : w64 ((m' : Int) + 1 - 1) = m' := by rw [w64_id (by omega) (by omega)]; omega
  refine bif_dec (fun h3 => ?_) (fun h3 => ?_)
  · rw [em]
    refine RowI.get hown.row (by omega) (by rw [scL_length]; omega) ?_
    refine impl_SchroederNumber.L9_rule _ _ _ _ _ _ _ _ (I := fun x k w2 => 0 ≤ k ∧ k ≤ m' + 1 ∧ x = scIn (scL m') (m' + 1) ((scL m').getD m' 0) k.toNat ∧ Drew w' w2) (μ := fun _ k _ => (m' + 1 - k).toNat)
      ⟨by omega, by omega, rfl, ⟨0, rfl⟩⟩ ?_
    rintro x k w2 ⟨hk0, hk, hx, hd⟩
    have hown2 : OwnI w2 w.heap.size t (scL m') := hown.heap hd.heap'
    rw [impl_SchroederNumber.B9_s]
    refine bif_dec (fun h4 => ?_) (fun h4 => ?_)
    · refine RowI.get hown2.row hk0 (by rw [scL_length]; omega) ?_
      rw [em, w64_id (n := (m' : Int) - k) (by omega) (by omega)]
      refine RowI.get hown2.row (by omega) (by rw [scL_length]; omega) ?_
      refine drew_intro fun w3 hd3 => ?_
      refine ⟨_, k + 1, by rw [w64_succ hk0 (by omega)], ⟨by omega, by omega, ?_, hd.trans hd3⟩, by omega⟩
      rw [show (k + 1).toNat = k.toNat + 1 by omega, scIn, ← hx]
      rw [show ((m' : Int) + 1 - 1 - (k.toNat : Int)) = m' - k by omega]
    · rw [impl_SchroederNumber.A9_2_s]
      have hke : k.toNat = m' + 1 := by omega
      rw [hke] at hx
      have hs2 : w2.heap.size = w'.heap.size := by rw [hd.heap']
      have hb2 : Below w.heap.size w w2 := hb.trans (hd.below _)
      refine append_int hown2 hb2.size (by rw [scL_length]; omega) ?_
      intro t' w3 h7 h8 h9
      refine ⟨t', m' + 1 + 1, by rw [w64_succ (by omega) (by omega)], ⟨by omega, by omega, ?_, hb2.grown h8 hb2.size (fun g hg => (hown2.lt g hg).1)⟩, by omega⟩
      rw [show ((m' : Int) + 1 + 1).toNat - 1 = m' + 1 by omega, scL, ← hx]
      exact h7
  · rw [impl_SchroederNumber.A5_0_s]
    have : m' = n.toNat := by omega
    subst this
    refine RowI.get hown.row (by omega) (by rw [scL_length]; omega) ?_
    exact ⟨by rw [scV, if_neg (by omega)], hb⟩

theorem c_specSchroeder (n : Int) (w : World) : Calls PP F.spec_SchroederNumber #[vI n] w fun e w' => e = .returned (vI (scV n)) ∧ Below w.heap.size w w' := by
  refine spec_SchroederNumber.calls n ?_
  rw [spec_SchroederNumber.E_s]
  refine Pure.pcall1 (s := .bool) (c_l1In n 0 15) ?_
  refine bif_intro (fun h => ?_) (fun h1 => ?_)
  · have : n < 0 ∨ 15 < n := by simp at h; omega
    exact ⟨by rw [scV, if_pos this], Below.refl _ _⟩
  have h1 : 0 ≤ n ∧ n ≤ 15 := by simpa using h1
  refine lit1 oneInt (B := w.heap.size) (Nat.le_refl _) (One.int 1) ?_
  intro t0 w1 hown hg _
  refine spec_SchroederNumber.L5_rule _ _ _ _ _ (I := fun t m w' => 1 ≤ m ∧ m ≤ n + 1 ∧ OwnI w' w.heap.size t (scL (m.toNat - 1)) ∧ Below w.heap.size w w') (μ := fun _ m _ => (n + 1 - m).toNat)
    ⟨by omega, by omega, hown, below_of_grow hg⟩ ?_
  rintro t m w' ⟨h0, hm, hown, hb⟩
  rw [spec_SchroederNumber.B5_s]
  obtain ⟨m', rfl⟩ : ∃ m' : Nat, m = m' + 1 := ⟨m.toNat - 1, by omega⟩
  rw [show ((m' : Int) + 1).toNat - 1 = m' by omega] at hown
  have em : w64 ((m' : Int) + 1 - 1) = m' := by rw [w64_id (by omega) (by omega)]; omega
  refine bif_dec (fun h3 => ?_) (fun h3 => ?_)
  · rw [em]
    refine RowI.get hown.row (by omega) (by rw [scL_length]; omega) ?_
    refine spec_SchroederNumber.L9_rule _ _ _ _ _ _ _ (I := fun x k w2 => 0 ≤ k ∧ k ≤ m' + 1 ∧ x = scIn (scL m') (m' + 1) ((scL m').getD m' 0) k.toNat ∧ Drew w' w2) (μ := fun _ k _ => (m' + 1 - k).toNat)
      ⟨by omega, by omega, rfl, ⟨0, rfl⟩⟩ ?_
    rintro x k w2 ⟨hk0, hk, hx, hd⟩
    have hown2 : OwnI w2 w.heap.size t (scL m') := hown.heap hd.heap'
    rw [spec_SchroederNumber.B9_s]
    refine bif_dec (fun h4 => ?_) (fun h4 => ?_)
    · refine RowI.get hown2.row hk0 (by rw [scL_length]; omega) ?_
      rw [em, w64_id (n := (m' : Int) - k) (by omega) (by omega)]
      refine RowI.get hown2.row (by omega) (by rw [scL_length]; omega) ?_
      refine drew_intro fun w3 hd3 => ?_
      refine ⟨_, k + 1, by rw [w64_succ hk0 (by omega)], ⟨by omega, by omega, ?_, hd.trans hd3⟩, by omega⟩
      rw [show (k + 1).toNat = k.toNat + 1 by omega, scIn, ← hx]
      rw [show ((m' : Int) + 1 - 1 - (k.toNat : Int)) = m' - k by omega]
    · rw [spec_SchroederNumber.A9_2_s]
      have hke : k.toNat = m' + 1 := by omega
      rw [hke] at hx
      have hb2 : Below w.heap.size w w2 := hb.trans (hd.below _)
      refine append_int hown2 hb2.size (by rw [scL_length]; omega) ?_
      intro t' w3 h7 h8 h9
      refine ⟨t', m' + 1 + 1, by rw [w64_succ (by omega) (by omega)], ⟨by omega, by omega, ?_, hb2.grown h8 hb2.size (fun g hg => (hown2.lt g hg).1)⟩, by omega⟩
      rw [show ((m' : Int) + 1 + 1).toNat - 1 = m' + 1 by omega, scL, ← hx]
      exact h7
  · rw [spec_SchroederNumber.A5_0_s]
    have : m' = n.toNat := by omega
    subst this
    refine RowI.get hown.row (by omega) (by rw [scL_length]; omega) ?_
    exact ⟨by rw [scV, if_neg (by omega)], hb⟩

theorem lawC_FnExactSchroederNumber (n : Int) (_ : -9223372036854775808 ≤ n ∧ n ≤ 9223372036854775807) (w : World) : Calls PP F.laws_FnExactSchroederNumber #[vI n] w fun e w' => e = .returned (.bool true) ∧ Below w.heap.size w w' := by
  refine laws_FnExactSchroederNumber.calls n ?_
  rw [laws_FnExactSchroederNumber.E_s]
  refine (c_specSchroeder n w).mono ?_
  rintro e w1 ⟨rfl, hb1⟩
  refine ⟨_, rfl, ?_⟩
  refine (c_implSchroeder n w1).mono ?_
  rintro e w2 ⟨rfl, hb2⟩
  refine ⟨_, rfl, ?_⟩
  simp [hb1.trans (hb2.mono hb1.size)]
end Go.Proofs.Ytjnikeemcbhmkaa
