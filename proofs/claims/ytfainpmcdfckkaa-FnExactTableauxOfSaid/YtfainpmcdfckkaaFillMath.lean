/- All tableaux of a form, as lists. -/
import Derived.Test.YtfainpmcdfckkaaS3b
import Derived.Test.YtfainpmcdfckkaaForm
import Derived.Test.YtfainpmcdfckkaaCopy
import Derived.Test.YtfainpmcdfckkaaPotMath
namespace Go.Proofs.Ytfainpmcdfckkaa
open Go Go.RowKit
set_option maxRecDepth 100000

def okR (F : List Int) (T : List (List Int)) (r : Nat) : Prop := ((T.getD r []).length : Int) < F.getD r 0 ∧ (r = 0 ∨ (T.getD r []).length < (T.getD (r - 1) []).length)
open Classical in
noncomputable def fillV (F : List Int) : Nat → List (List Int) → Int → List (List (List Int))
  | 0, T, _ => [T]
  | m + 1, T, n => (List.range F.length).flatMap fun r => if okR F T r then fillV F m (T.set r (T.getD r [] ++ [n])) (n + 1) else []
open Classical in
noncomputable def fillR (F : List Int) (m : Nat) (T : List (List Int)) (n : Int) (r : Nat) : List (List (List Int)) := (List.range r).flatMap fun r => if okR F T r then fillV F m (T.set r (T.getD r [] ++ [n])) (n + 1) else []
theorem fillV_succ (F : List Int) (m : Nat) (T : List (List Int)) (n : Int) : fillV F (m + 1) T n = fillR F m T n F.length := rfl
open Classical in
theorem fillR_succ (F : List Int) (m : Nat) (T : List (List Int)) (n : Int) (r : Nat) : fillR F m T n (r + 1) = fillR F m T n r ++ if okR F T r then fillV F m (T.set r (T.getD r [] ++ [n])) (n + 1) else [] := by
  rw [fillR, List.range_succ, List.flatMap_append]; simp [fillR]
mutual
theorem fillV_len (F : List Int) : ∀ (m : Nat) (T : List (List Int)) (n : Int), (fillV F m T n).length ≤ F.length ^ m
  | 0, _, _ => by simp [fillV]
  | m + 1, T, n => by
    rw [fillV_succ]
    have := fillR_len F m T n F.length
    rw [Nat.pow_succ, Nat.mul_comm]; exact this
theorem fillR_len (F : List Int) (m : Nat) (T : List (List Int)) (n : Int) : ∀ r, (fillR F m T n r).length ≤ r * F.length ^ m
  | 0 => by simp [fillR]
  | r + 1 => by
    have h1 := fillR_len F m T n r
    rw [fillR_succ, List.length_append]
    have h2 : (r + 1) * F.length ^ m = r * F.length ^ m + F.length ^ m := by rw [Nat.add_mul, Nat.one_mul]
    split
    · have := fillV_len F m (T.set r (T.getD r [] ++ [n])) (n + 1); omega
    · simp; omega
end
theorem tot_set {T : List (List Int)} {r : Nat} (h : r < T.length) (L : List Int) : tot (T.set r L) + (T.getD r []).length = tot T + L.length := by
  have h1 : T = T.take r ++ T.getD r [] :: T.drop (r + 1) := by rw [getD_SS h]; simp
  rw [List.set_eq_take_append_cons_drop, if_pos h]
  conv => rhs; rw [h1]
  rw [tot_append, tot_append, tot_cons, tot_cons]; omega
theorem fill_shape (F : List Int) : ∀ (m : Nat) (T : List (List Int)) (n : Int), T.length = F.length → ∀ U ∈ fillV F m T n, U.length = F.length ∧ tot U = tot T + m
  | 0, T, _, h, U, hU => by simp [fillV] at hU; subst hU; exact ⟨h, rfl⟩
  | m + 1, T, n, h, U, hU => by
    classical
    rw [fillV, List.mem_flatMap] at hU
    obtain ⟨r, hr, hU⟩ := hU
    rw [List.mem_range] at hr
    split at hU
    · obtain ⟨h1, h2⟩ := fill_shape F m _ _ (by rw [List.length_set]; exact h) U hU
      have h3 := tot_set (T := T) (r := r) (by omega) (T.getD r [] ++ [n])
      rw [List.length_append, List.length_singleton] at h3
      exact ⟨h1, by omega⟩
    · cases hU
theorem tot3_le_of {G : List (List (List Int))} {c : Nat} (h : ∀ U ∈ G, U.length + tot U ≤ c) : tot3 G ≤ G.length * c := by
  induction G with
  | nil => simp [tot3]
  | cons U G ih =>
    have e : tot3 (U :: G) = (U.length + tot U) + tot3 G := by simp [tot3]
    have h1 := h U (by simp)
    have h2 := ih fun V hV => h V (by simp [hV])
    rw [e, List.length_cons, Nat.add_mul, Nat.one_mul]; omega
end Go.Proofs.Ytfainpmcdfckkaa
