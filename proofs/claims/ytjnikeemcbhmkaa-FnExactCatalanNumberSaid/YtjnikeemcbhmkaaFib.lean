/- The walks of the two Fibonacci functions and the law. -/
import Derived.Test.YtjnikeemcbhmkaaCode
import Derived.Test.YtjnikeemcbhmkaaLib
namespace Go.Proofs.Ytjnikeemcbhmkaa
open Go Go.RowKit

theorem c_l1In (n lo hi : Int) : Pure F.spec_l1In #[vI n, vI lo, vI hi] (.bool (decide (lo ≤ n) && decide (n ≤ hi))) := by
  intro w
  refine spec_l1In.calls n lo hi ?_
  rw [spec_l1In.E_eq std]
  refine bif_dec (fun h => ?_) (fun h => ?_)
  · have h' : lo ≤ n := h
    simp [h']
  · have h' : ¬ lo ≤ n := h
    simp [h']

def fibP : Nat → Int × Int
  | 0 => (1, 1)
  | k + 1 => ((fibP k).2, w64 ((fibP k).1 + (fibP k).2))
def fibV (n : Int) : Int := if n < 0 ∨ 40 < n then -1 else (fibP n.toNat).1

theorem c_implFib (n : Int) : Pure F.impl_FibonacciNumber #[vI n] (vI (fibV n)) := by
  intro w
  refine impl_FibonacciNumber.calls n ?_
  rw [impl_FibonacciNumber.E_eq std]
  refine bif_dec (fun h => ?_) (fun h => bif_dec (fun h2 => ?_) (fun h2 => ?_))
  · simp [fibV, h]
  · have : ¬ n < 0 := h
    simp [fibV, h2]
  refine impl_FibonacciNumber.L5_rule _ _ _ _ _ _ (I := fun s w' => w' = w ∧ 0 ≤ s.2.2 ∧ s.2.2 ≤ n ∧ (s.1, s.2.1) = fibP s.2.2.toNat) (μ := fun s _ => (n - s.2.2).toNat) ⟨rfl, by simp only; omega, by simp only; omega, rfl⟩ ?_
  rintro ⟨a, b, k⟩ w' ⟨rfl, h0, hk, he⟩
  simp only at h0 hk he
  rw [impl_FibonacciNumber.B5_eq std]
  refine bif_dec (fun h3 => ?_) (fun h3 => ?_)
  · simp only at h3
    refine ⟨(b, w64 (a + b), k + 1), ?_, ⟨rfl, by simp only; omega, by simp only; omega, ?_⟩, by simp only; omega⟩
    · simp only [w64_succ h0 (by omega)]
    · have : (k + 1).toNat = k.toNat + 1 := by omega
      simp only [this, fibP, ← he]
  · simp only at h3
    rw [impl_FibonacciNumber.A5_0_eq std]
    have : k = n := by omega
    subst this
    have h4 : ¬ k < 0 := h
    simp only [fibV, ← he]
    simp; omega

theorem c_specFib (n : Int) : Pure F.spec_FibonacciNumber #[vI n] (vI (fibV n)) := by
  intro w
  refine spec_FibonacciNumber.calls n ?_
  rw [spec_FibonacciNumber.E_eq std]
  refine Pure.pcall1 (s := .bool) (c_l1In n 0 40) ?_
  refine bif_intro (fun h => ?_) (fun h => ?_)
  · have : n < 0 ∨ 40 < n := by simp at h; omega
    simp [fibV, this]
  have h : 0 ≤ n ∧ n ≤ 40 := by simpa using h
  refine spec_FibonacciNumber.L6_rule _ _ _ _ _ _ (I := fun s w' => w' = w ∧ 1 ≤ s.2.2 ∧ (s.2.2 ≤ n ∨ s.2.2 = 1) ∧ (s.1, s.2.1) = fibP (s.2.2.toNat - 1)) (μ := fun s _ => (n - s.2.2).toNat) ⟨rfl, by simp only; omega, by simp, rfl⟩ ?_
  rintro ⟨a, b, k⟩ w' ⟨rfl, h0, hk, he⟩
  simp only at h0 hk he
  rw [spec_FibonacciNumber.B6_eq std]
  refine bif_dec (fun h3 => ?_) (fun h3 => ?_)
  · simp only at h3
    refine ⟨(b, w64 (a + b), k + 1), ?_, ⟨rfl, by simp only; omega, by simp only; omega, ?_⟩, by simp only; omega⟩
    · simp only [w64_succ (by omega : 0 ≤ k) (by omega)]
    · have : (k + 1).toNat - 1 = (k.toNat - 1) + 1 := by omega
      simp only [this, fibP, ← he]
  · simp only at h3
    rw [spec_FibonacciNumber.A6_0_eq std]
    have hn : ¬ (n < 0 ∨ 40 < n) := by omega
    refine ⟨?_, rfl⟩
    simp only [fibV, if_neg hn]
    rcases Nat.lt_or_ge 0 n.toNat with h5 | h5
    · have : k.toNat - 1 + 1 = n.toNat := by omega
      rw [← this, fibP, ← he]
    · have : n.toNat = 0 ∧ k.toNat - 1 = 0 := by omega
      rw [this.2] at he
      rw [this.1]
      simp only [fibP] at *
      simp_all

theorem lawC_FnExactFibonacciNumber (n : Int) (_ : -9223372036854775808 ≤ n ∧ n ≤ 9223372036854775807) (w : World) : Calls PP F.laws_FnExactFibonacciNumber #[vI n] w fun e w' => e = .returned (.bool true) ∧ Below w.heap.size w w' := by
  refine laws_FnExactFibonacciNumber.calls n ?_
  rw [laws_FnExactFibonacciNumber.E_eq std]
  refine Pure.call1 (s := .int .i64) (c_specFib n) ?_
  refine Pure.call1 (s := .int .i64) (c_implFib n) ?_
  simp [Below.refl]
end Go.Proofs.Ytjnikeemcbhmkaa
