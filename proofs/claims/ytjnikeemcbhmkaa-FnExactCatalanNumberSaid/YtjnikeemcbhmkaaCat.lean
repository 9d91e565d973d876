/- The walks of Choose and of the two Catalan functions, and the law. -/
import Derived.Test.YtjnikeemcbhmkaaFib
namespace Go.Proofs.Ytjnikeemcbhmkaa
open Go Go.RowKit

def chP (n : Int) : Nat → Int
  | 0 => 1
  | k + 1 => w64 ((w64 (chP n k * w64 (n - k))).tdiv (w64 ((k : Int) + 1)))
def chV (n k : Int) : Int := if n < 0 ∨ 40 < n ∨ k < 0 ∨ n < k then 0 else chP n k.toNat

theorem c_implChoose (n k : Int) : Pure F.impl_Choose #[vI n, vI k] (vI (chV n k)) := by
  intro w
  refine impl_Choose.calls n k ?_
  rw [impl_Choose.E_eq std]
  refine bif_dec (fun h => ?_) (fun h1 => bif_dec (fun h => ?_) (fun h2 => bif_dec (fun h => ?_) (fun h3 => bif_dec (fun h => ?_) (fun h4 => ?_))))
  · simp [chV, h]
  · have h : 40 < n := h
    simp [chV, h]
  · simp [chV, h]
  · have h : n < k := h
    simp [chV, h]
  refine impl_Choose.L5_rule _ _ _ _ _ _ (I := fun s w' => w' = w ∧ 0 ≤ s.2 ∧ s.2 ≤ k ∧ s.1 = chP n s.2.toNat) (μ := fun s _ => (k - s.2).toNat) ⟨rfl, by simp only; omega, by simp only; omega, rfl⟩ ?_
  rintro ⟨a, i⟩ w' ⟨rfl, h0, hk, he⟩
  simp only at h0 hk he
  rw [impl_Choose.B5_eq std]
  refine bif_dec (fun h5 => ?_) (fun h5 => ?_)
  · simp only at h5
    refine ⟨by simp only; rw [w64_succ h0 (by omega)]; omega, (w64 ((w64 (a * w64 (n - i))).tdiv (i + 1)), i + 1), by simp only [w64_succ h0 (by omega : i < 2^62)], ⟨rfl, by simp only; omega, by simp only; omega, ?_⟩, by simp only; omega⟩
    have : (i + 1).toNat = i.toNat + 1 := by omega
    simp only [this, chP, ← he]
    rw [Int.toNat_of_nonneg h0, w64_succ h0 (by omega)]
  · simp only at h5
    rw [impl_Choose.A5_0_eq std]
    have : i = k := by omega
    subst this
    refine ⟨?_, rfl⟩
    rw [he, chV, if_neg (by omega)]

theorem c_specChoose (n k : Int) : Pure F.spec_Choose #[vI n, vI k] (vI (chV n k)) := by
  intro w
  refine spec_Choose.calls n k ?_
  rw [spec_Choose.E_eq std]
  refine Pure.pcall1 (s := .bool) (c_l1In n 0 40) ?_
  refine bif_intro (fun h => ?_) (fun h1 => ?_)
  · have : n < 0 ∨ 40 < n ∨ k < 0 ∨ n < k := by simp at h; omega
    simp [chV, this]
  have h1 : 0 ≤ n ∧ n ≤ 40 := by simpa using h1
  refine Pure.pcall1 (s := .bool) (c_l1In k 0 n) ?_
  refine bif_intro (fun h => ?_) (fun h2 => ?_)
  · have : n < 0 ∨ 40 < n ∨ k < 0 ∨ n < k := by simp at h; omega
    simp [chV, this]
  have h2 : 0 ≤ k ∧ k ≤ n := by simpa using h2
  refine spec_Choose.L5_rule _ _ _ _ _ _ (I := fun s w' => w' = w ∧ 0 ≤ s.2 ∧ s.2 ≤ k ∧ s.1 = chP n s.2.toNat) (μ := fun s _ => (k - s.2).toNat) ⟨rfl, by simp only; omega, by simp only; omega, rfl⟩ ?_
  rintro ⟨a, i⟩ w' ⟨rfl, h0, hk, he⟩
  simp only at h0 hk he
  rw [spec_Choose.B5_eq std]
  refine bif_dec (fun h5 => ?_) (fun h5 => ?_)
  · simp only at h5
    refine ⟨by simp only; rw [w64_succ h0 (by omega)]; omega, (w64 ((w64 (a * w64 (n - i))).tdiv (i + 1)), i + 1), by simp only [w64_succ h0 (by omega : i < 2^62)], ⟨rfl, by simp only; omega, by simp only; omega, ?_⟩, by simp only; omega⟩
    have : (i + 1).toNat = i.toNat + 1 := by omega
    simp only [this, chP, ← he]
    rw [Int.toNat_of_nonneg h0, w64_succ h0 (by omega)]
  · simp only at h5
    rw [spec_Choose.A5_0_eq std]
    have : i = k := by omega
    subst this
    refine ⟨?_, rfl⟩
    rw [he, chV, if_neg (by omega)]

def caV (n : Int) : Int := if n < 0 ∨ 20 < n then -1 else w64 ((chV (w64 (2 * n)) n).tdiv (w64 (n + 1)))
theorem c_implCatalan (n : Int) : Pure F.impl_CatalanNumber #[vI n] (vI (caV n)) := by
  intro w
  refine impl_CatalanNumber.calls n ?_
  rw [impl_CatalanNumber.E_eq std]
  refine bif_dec (fun h => ?_) (fun h1 => bif_dec (fun h => ?_) (fun h2 => ?_))
  · simp [caV, h]
  · have h : 20 < n := h
    simp [caV, h]
  refine Pure.call1 (s := .int .i64) (c_implChoose _ n) ?_
  refine ⟨by rw [w64_succ (by omega) (by omega)]; omega, ?_, rfl⟩
  rw [caV, if_neg (by omega)]
theorem c_specCatalan (n : Int) : Pure F.spec_CatalanNumber #[vI n] (vI (caV n)) := by
  intro w
  refine spec_CatalanNumber.calls n ?_
  rw [spec_CatalanNumber.E_eq std]
  refine Pure.pcall1 (s := .bool) (c_l1In n 0 20) ?_
  refine bif_intro (fun h => ?_) (fun h1 => ?_)
  · have : n < 0 ∨ 20 < n := by simp at h; omega
    simp [caV, this]
  have h1 : 0 ≤ n ∧ n ≤ 20 := by simpa using h1
  refine Pure.call1 (s := .int .i64) (c_specChoose _ n) ?_
  refine ⟨by rw [w64_succ (by omega) (by omega)]; omega, ?_, rfl⟩
  rw [caV, if_neg (by omega)]

theorem lawC_FnExactCatalanNumber (n : Int) (_ : -9223372036854775808 ≤ n ∧ n ≤ 9223372036854775807) (w : World) : Calls PP F.laws_FnExactCatalanNumber #[vI n] w fun e w' => e = .returned (.bool true) ∧ Below w.heap.size w w' := by
  refine laws_FnExactCatalanNumber.calls n ?_
  rw [laws_FnExactCatalanNumber.E_eq std]
  refine Pure.call1 (s := .int .i64) (c_specCatalan n) ?_
  refine Pure.call1 (s := .int .i64) (c_implCatalan n) ?_
  simp [Below.refl]
end Go.Proofs.Ytjnikeemcbhmkaa
