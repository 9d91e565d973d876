/- Classes: what the functions answer, as lists. -/
import Derived.Test.YtmhgjfahgemblaaCmpMath
import Derived.Test.YtmhgjfahgemblaaPermsMath
namespace Go.Proofs.Ytmhgjfahgemblaa
open Go
set_option maxRecDepth 100000

def classT (LL : List (List Int)) (l : List (List Int)) : List (List Int) := l.filter (avoidsV LL)
def classV (LL : List (List Int)) (n : Nat) : List (List Int) := classT LL (permsV n)
theorem classT_snoc (LL l : List (List Int)) (p : List Int) : classT LL (l ++ [p]) = if avoidsV LL p = true then classT LL l ++ [p] else classT LL l := by
  unfold classT
  rw [List.filter_append]
  split
  · rename_i h; simp [h]
  · rename_i h; simp [h]
theorem perms_len6 {n : Nat} (hn : n ≤ 6) : (permsV n).length ≤ 46656 := Nat.le_trans (permsV_length n) (Nat.le_trans (Nat.pow_le_pow_left hn n) (Nat.pow_le_pow_right (by omega) hn))
theorem classV_len {LL : List (List Int)} {n : Nat} (hn : n ≤ 6) : (classV LL n).length ≤ 46656 := Nat.le_trans (List.length_filter_le _ _) (perms_len6 hn)
theorem classV_mem {LL : List (List Int)} {n : Nat} {p : List Int} (h : p ∈ classV LL n) : p ∈ permsV n ∧ avoidsV LL p = true := by
  rw [classV, classT, List.mem_filter] at h; exact h
def InCl (LL : List (List Int)) (P : List Int) : Prop := BasisOk LL ∧ IsP P ∧ avoidsV LL P = true
end Go.Proofs.Ytmhgjfahgemblaa
