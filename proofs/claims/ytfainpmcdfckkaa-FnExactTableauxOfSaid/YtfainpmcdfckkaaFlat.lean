/- A number changed in a table. No program in sight. -/
import Derived.Test.YtfainpmcdfckkaaPermMath
namespace Go.Proofs.Ytfainpmcdfckkaa
open Go
set_option maxRecDepth 100000

theorem flat_set {T : List (List Int)} {r c : Nat} {x : Int} (hr : r < T.length) (hc : c < (T.getD r []).length) : ((T.getD r []).getD c 0 :: (T.set r ((T.getD r []).set c x)).flatten).Perm (x :: T.flatten) := by
  have h1 : T = T.take r ++ T.getD r [] :: T.drop (r + 1) := by rw [List.getD_eq_getElem?_getD, List.getElem?_eq_getElem hr]; simp
  have h2 : T.set r ((T.getD r []).set c x) = T.take r ++ (T.getD r []).set c x :: T.drop (r + 1) := by rw [List.set_eq_take_append_cons_drop, if_pos hr]
  rw [h2]
  conv => rhs; rw [h1]
  generalize hR : T.getD r [] = R at *
  have h3 : R = R.take c ++ R.getD c 0 :: R.drop (c + 1) := by rw [getD_lt hc]; simp
  have h4 : R.set c x = R.take c ++ x :: R.drop (c + 1) := by rw [List.set_eq_take_append_cons_drop, if_pos hc]
  rw [h4]
  conv => rhs; rw [h3]
  generalize R.getD c 0 = m
  generalize R.take c = A
  generalize R.drop (c + 1) = D
  generalize T.take r = U
  generalize T.drop (r + 1) = V
  simp only [List.flatten_append, List.flatten_cons, List.append_assoc, List.cons_append]
  rw [← List.append_assoc U.flatten A, ← List.append_assoc U.flatten A]
  refine (List.Perm.cons m List.perm_middle).trans ?_
  refine (List.Perm.swap x m _).trans ?_
  exact List.Perm.cons x List.perm_middle.symm
end Go.Proofs.Ytfainpmcdfckkaa
