/- Peaks: the library's count of two letters is a sum over neighbours. -/
import Derived.Lib.CountLaws
namespace Go.Proofs.Ytfainpmcdfckkaa
open Go Go.Lib

def UD : List UInt8 := [85, 68]
theorem count_skip {b : UInt8} {l : List UInt8} (h : UD.isPrefixOf (b :: l) = false) : count (b :: l) UD = count l UD := by
  have hne : UD ≠ [] := by simp [UD]
  rcases index_spec l UD with ⟨h1, _⟩ | ⟨i, h1, _⟩
  · rw [count_miss h1, count_miss]
    rw [index, h, h1]; rfl
  · have h2 : index (b :: l) UD = ((i + 1 : Nat) : Int) := by
      rw [index, h, h1]
      have : ((i : Int) == -1) = false := by
        rw [beq_eq_false_iff_ne]; omega
      simp only [this, Bool.false_eq_true, if_false]
      omega
    rw [count_hit hne h1, count_hit hne h2]
    congr 2
theorem count_take {l : List UInt8} : count (85 :: 68 :: l) UD = 1 + count l UD := by
  have hne : UD ≠ [] := by simp [UD]
  have h2 : index (85 :: 68 :: l) UD = ((0 : Nat) : Int) := by
    rw [index]
    have : UD.isPrefixOf (85 :: 68 :: l) = true := by simp [UD, List.isPrefixOf]
    rw [if_pos this]; rfl
  rw [count_hit hne h2]
  rfl
/-- A peak at place i? -/
def pkAt (l : List UInt8) (i : Nat) : Bool := l.getD i 0 == 85 && l.getD (i + 1) 0 == 68
def pkN' (l : List UInt8) (n : Nat) : Nat := (List.range n).countP (pkAt l)
theorem pkN_cons (b : UInt8) (l : List UInt8) (n : Nat) : pkN' (b :: l) (n + 1) = (if pkAt (b :: l) 0 = true then 1 else 0) + pkN' l n := by
  unfold pkN'
  rw [List.range_succ_eq_map, List.countP_cons, List.countP_map, Nat.add_comm]
  congr 1
theorem count_pk : ∀ (m : Nat) (l : List UInt8), l.length ≤ m → count l UD = pkN' l l.length
  | 0, l, h => by
    obtain rfl : l = [] := List.eq_nil_of_length_eq_zero (by omega)
    rfl
  | m + 1, [], h => rfl
  | m + 1, [b], h => by
    rw [count_skip (by simp [UD, List.isPrefixOf])]
    rw [show [b].length = 0 + 1 from rfl, pkN_cons]
    have : pkAt [b] 0 = false := by simp [pkAt]
    rw [this]
    rfl
  | m + 1, b :: c :: r, h => by
    rw [List.length_cons, pkN_cons]
    have hc := count_pk m (c :: r) (by simp at h ⊢; omega)
    by_cases hh : b = 85 ∧ c = 68
    · obtain ⟨rfl, rfl⟩ := hh
      have h1 : pkAt (85 :: 68 :: r) 0 = true := by simp [pkAt]
      rw [h1, count_take, ← hc, count_skip]
      · rfl
      · simp [UD, List.isPrefixOf]
    · have h1 : pkAt (b :: c :: r) 0 = false := by
        cases hp : pkAt (b :: c :: r) 0
        · rfl
        · simp [pkAt] at hp; exact absurd hp hh
      have h2 : UD.isPrefixOf (b :: c :: r) = false := by
        cases hp : UD.isPrefixOf (b :: c :: r)
        · rfl
        · simp [UD, List.isPrefixOf] at hp
          exact absurd ⟨hp.1.symm, hp.2.symm⟩ hh
      rw [h1, count_skip h2, hc]
      simp
end Go.Proofs.Ytfainpmcdfckkaa
