/- InsertPerm: what it answers. -/
import Derived.Test.YtmhgjfahgemblaaInsMath
import Derived.Test.YtmhgjfahgemblaaPerm
import Derived.Test.YtmhgjfahgemblaaSs
namespace Go.Proofs.Ytmhgjfahgemblaa
open Go Go.RowKit
set_option maxRecDepth 100000

open Classical in
noncomputable def InsertPermV (L : List Int) : List (List Int) := if IsP L then insP L else []
open Classical in
noncomputable def InsertPermV1 (L : List Int) : List (List Int) := if IsP L then insQ L L.length else []
open Classical in
noncomputable def InsertPermV2 (L : List Int) : Bool := decide (IsP L)
theorem insP_tot {L : List Int} (h : IsP L) : (InsertPermV L).length < 2^38 ∧ tot (InsertPermV L) < 2^38 := by
  rw [InsertPermV, if_pos h]
  have h1 := insP_flat L
  rw [List.length_flatten] at h1
  have h2 : (insP L).length = (insQ L L.length).length := by rw [insQ_length L _ (Nat.le_refl _), List.take_length]
  have h3 : ∀ m, (insQ L m).length ≤ m := by
    intro m
    induction m with
    | zero => simp [insQ]
    | succ m ih => rw [insQ, addAt]; split <;> simp <;> omega
  have := h3 L.length
  have := h.1
  exact ⟨by omega, by unfold tot; omega⟩
end Go.Proofs.Ytmhgjfahgemblaa
