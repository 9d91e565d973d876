/- Insertion of a whole permutation, with the tableau that keeps the order. No program in sight. -/
import Derived.Test.YtfainpmcdfckkaaRs
namespace Go.Proofs.Ytfainpmcdfckkaa
open Go
set_option maxRecDepth 100000

theorem tabIns_length : ∀ (T : List (List Int)) (v : Int), tabRow T v ≤ T.length ∧ (tabIns T v).length = if tabRow T v < T.length then T.length else T.length + 1
  | [], v => by simp [tabRow, tabIns]
  | R :: T, v => by
    have ih := tabIns_length T (R.getD (rpos R v) 0)
    rw [tabRow, tabIns]
    split
    · rw [List.length_cons, List.length_cons, ih.2]
      refine ⟨by omega, ?_⟩
      split <;> split <;> omega
    · simp
/-- One step of a row. -/
theorem tabIns_step {T1 : List (List Int)} {r : Nat} {n : Int} (hr : r < T1.length) (hp : rpos (T1.getD r []) n < (T1.getD r []).length) :
    T1.take r ++ tabIns (T1.drop r) n = (T1.set r ((T1.getD r []).set (rpos (T1.getD r []) n) n)).take (r + 1) ++ tabIns ((T1.set r ((T1.getD r []).set (rpos (T1.getD r []) n) n)).drop (r + 1)) ((T1.getD r []).getD (rpos (T1.getD r []) n) 0) ∧
    tabRow (T1.drop r) n = tabRow ((T1.set r ((T1.getD r []).set (rpos (T1.getD r []) n) n)).drop (r + 1)) ((T1.getD r []).getD (rpos (T1.getD r []) n) 0) + 1 := by
  have hd : T1.drop r = T1.getD r [] :: T1.drop (r + 1) := by
    rw [List.drop_eq_getElem_cons hr]; simp [List.getD_eq_getElem?_getD, List.getElem?_eq_getElem hr]
  have h1 : (T1.set r ((T1.getD r []).set (rpos (T1.getD r []) n) n)).drop (r + 1) = T1.drop (r + 1) := by rw [List.drop_set_of_lt (by omega)]
  have h2 : (T1.set r ((T1.getD r []).set (rpos (T1.getD r []) n) n)).take (r + 1) = T1.take r ++ [(T1.getD r []).set (rpos (T1.getD r []) n) n] := by
    rw [List.take_succ_eq_append_getElem (by simpa using hr), List.getElem_set_self, List.take_set_of_le (by omega)]
  rw [h1, h2, hd, tabIns, if_pos hp, tabRow, if_pos hp]
  simp
theorem tabIns_last {T1 : List (List Int)} {r : Nat} {n : Int} (hr : r < T1.length) (hp : ¬ rpos (T1.getD r []) n < (T1.getD r []).length) :
    T1.take r ++ tabIns (T1.drop r) n = T1.set r (T1.getD r [] ++ [n]) ∧ tabRow (T1.drop r) n = 0 := by
  have hd : T1.drop r = T1.getD r [] :: T1.drop (r + 1) := by
    rw [List.drop_eq_getElem_cons hr]; simp [List.getD_eq_getElem?_getD, List.getElem?_eq_getElem hr]
  rw [hd, tabIns, if_neg hp, tabRow, if_neg hp]
  refine ⟨?_, rfl⟩
  rw [List.set_eq_take_append_cons_drop, if_pos hr]
/-- A number put behind a row, or in a new one. -/
def addAt (Q : List (List Int)) (r : Nat) (x : Int) : List (List Int) := if r < Q.length then Q.set r (Q.getD r [] ++ [x]) else Q ++ [[x]]
def insQ (w : List Int) : Nat → List (List Int)
  | 0 => []
  | k + 1 => addAt (insQ w k) (tabRow (insP (w.take k)) (w.getD k 0)) ((k : Int) + 1)
theorem insQ_length (w : List Int) : ∀ k, k ≤ w.length → (insQ w k).length = (insP (w.take k)).length
  | 0, _ => rfl
  | k + 1, hk => by
    have ih := insQ_length w k (by omega)
    have h1 := tabIns_length (insP (w.take k)) (w.getD k 0)
    have e : w.take (k + 1) = w.take k ++ [w.getD k 0] := by rw [getD_lt (by omega)]; simp
    rw [insQ, addAt, e, insP_snoc, h1.2, ih]
    split <;> simp [ih]
theorem flat_tab {T : List (List Int)} {R : List Int} (h : R ∈ T) : R.length ≤ T.flatten.length := by
  induction T with
  | nil => cases h
  | cons S T ih =>
    rw [List.flatten_cons, List.length_append]
    rcases List.mem_cons.1 h with rfl | h
    · omega
    · have := ih h; omega
theorem insP_flat (w : List Int) : (insP w).flatten.length = w.length := by
  suffices H : ∀ k, k ≤ w.length → (insP (w.take k)).flatten.length = k by
    have := H w.length (Nat.le_refl _)
    rwa [List.take_length] at this
  intro k hk
  induction k with
  | zero => rfl
  | succ k ih =>
    have e : w.take (k + 1) = w.take k ++ [w[k]'(by omega)] := by simp
    rw [e, insP_snoc, (tabIns_perm _ _).length_eq, List.length_cons, ih (by omega)]
end Go.Proofs.Ytfainpmcdfckkaa
