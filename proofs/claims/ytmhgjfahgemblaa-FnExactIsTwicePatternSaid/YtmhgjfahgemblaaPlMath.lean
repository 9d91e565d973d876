/- Ascending lists of places, patterns of lists. No program in sight. -/
import Derived.Test.YtmhgjfahgemblaaFindMath
import Derived.Test.YtmhgjfahgemblaaTabFn
namespace Go.Proofs.Ytmhgjfahgemblaa
open Go
set_option maxRecDepth 100000

def plExt (n : Nat) (l : List Int) : List (List Int) := (seqI (lastD l + 1) ((n : Int) - lastD l).toNat).map fun x => l ++ [x]
def plN (n : Nat) : Nat → List (List Int)
  | 0 => [[]]
  | k + 1 => (plN n k).flatMap (plExt n)
theorem lastD_bd {n : Nat} {l : List Int} (h : ∀ x ∈ l, 1 ≤ x ∧ x ≤ (n : Int)) : 0 ≤ lastD l ∧ lastD l ≤ n := by
  by_cases e : l = []
  · subst e; rw [lastD_nil]; omega
  · have := h _ (lastD_mem e); omega
theorem plN_facts (n : Nat) : ∀ k, ∀ l ∈ plN n k, l.length = k ∧ ∀ x ∈ l, 1 ≤ x ∧ x ≤ (n : Int)
  | 0, l, h => by simp [plN] at h; subst h; simp
  | k + 1, l, h => by
    rw [plN, List.mem_flatMap] at h
    obtain ⟨m, hm, h⟩ := h
    obtain ⟨h1, h2⟩ := plN_facts n k m hm
    rw [plExt, List.mem_map] at h
    obtain ⟨x, hx, rfl⟩ := h
    rw [mem_seqI] at hx
    have hl := lastD_bd h2
    refine ⟨by simp [h1], fun y hy => ?_⟩
    rcases List.mem_append.1 hy with hy | hy
    · exact h2 y hy
    · simp at hy; subst hy; omega
theorem plExt_len {n : Nat} {l : List Int} (h : ∀ x ∈ l, 1 ≤ x ∧ x ≤ (n : Int)) : (plExt n l).length ≤ n := by
  have := lastD_bd h
  rw [plExt, List.length_map, seqI_length]; omega
theorem plN_len (n : Nat) : ∀ k, (plN n k).length ≤ n ^ k
  | 0 => by simp [plN]
  | k + 1 => by
    rw [plN, Nat.pow_succ]
    exact Nat.le_trans (length_flatMap_le _ _ n fun l hl => plExt_len (plN_facts n k l hl).2) (Nat.mul_le_mul_right _ (plN_len n k))
/-- How many of the first m numbers are less. -/
def lessN (L : List Int) (x : Int) : Nat → Int
  | 0 => 0
  | m + 1 => lessN L x m + if L.getD m 0 < x then 1 else 0
theorem lessN_bd (L : List Int) (x : Int) : ∀ m, 0 ≤ lessN L x m ∧ lessN L x m ≤ m
  | 0 => by simp [lessN]
  | m + 1 => by have := lessN_bd L x m; rw [lessN]; split <;> omega
def patV (L : List Int) : List Int := tab L.length fun k => 1 + lessN L (L.getD k 0) L.length
def atV (P l : List Int) : List Int := l.map fun i => P.getD (i - 1).toNat 0
def occV (P Q : List Int) : List (List Int) := (plN P.length Q.length).filter fun l => decide (patV (atV P l) = Q)
theorem lessN_mono (L : List Int) {x y : Int} (h : x ≤ y) : ∀ m, lessN L x m ≤ lessN L y m
  | 0 => Int.le_refl _
  | m + 1 => by
    have := lessN_mono L h m
    rw [lessN, lessN]
    split <;> split <;> omega
theorem lessN_lt (L : List Int) {x y : Int} (h : x < y) {i : Nat} (hi : L.getD i 0 = x) : ∀ m, i < m → lessN L x m < lessN L y m
  | 0, hm => by omega
  | m + 1, hm => by
    rw [lessN, lessN]
    by_cases e : i = m
    · subst e
      have := lessN_mono L (Int.le_of_lt h) i
      rw [if_neg (by omega), if_pos (by omega)]; omega
    · have := lessN_lt L h hi m (by omega)
      split <;> split <;> omega
/-- A list has a pattern if and only if both ascend alike. -/
theorem patV_iso {L Q : List Int} (hl : L.length = Q.length) (hQ : patV Q = Q) : patV L = Q ↔ ∀ i j, i < Q.length → j < Q.length → (L.getD i 0 < L.getD j 0 ↔ Q.getD i 0 < Q.getD j 0) := by
  constructor
  · intro h i j hi hj
    have e : ∀ k, k < Q.length → Q.getD k 0 = 1 + lessN L (L.getD k 0) L.length := fun k hk => by
      conv => lhs; rw [← h, patV]
      exact tab_getD _ (by omega)
    rw [e i hi, e j hj]
    constructor
    · intro h1
      have := lessN_lt L h1 rfl L.length (by omega : i < L.length)
      omega
    · intro h1
      rcases Int.lt_or_le (L.getD i 0) (L.getD j 0) with h2 | h2
      · exact h2
      · have := lessN_mono L h2 L.length; omega
  · intro h
    have e : ∀ k, k < Q.length → ∀ m, m ≤ Q.length → lessN L (L.getD k 0) m = lessN Q (Q.getD k 0) m := fun k hk m => by
      induction m with
      | zero => intro _; rfl
      | succ m ih =>
        intro hm
        rw [lessN, lessN, ih (by omega)]
        have := h m k (by omega) hk
        by_cases h1 : L.getD m 0 < L.getD k 0
        · rw [if_pos h1, if_pos (this.1 h1)]
        · rw [if_neg h1, if_neg fun h2 => h1 (this.2 h2)]
    rw [← hQ, patV, patV, hl]
    exact tab_congr fun k hk => by rw [e k hk Q.length (Nat.le_refl _)]
end Go.Proofs.Ytmhgjfahgemblaa
