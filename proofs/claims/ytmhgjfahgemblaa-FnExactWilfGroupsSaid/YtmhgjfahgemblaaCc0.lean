/- Small things that the counts of classes share. -/
import Derived.Test.YtmhgjfahgemblaaClass
namespace Go.Proofs.Ytmhgjfahgemblaa
open Go Go.RowKit
set_option maxRecDepth 100000

theorem oneSSint : OneT T_SSSint T_SSint Sl.nil.v := oneT_of (by kernel_rfl) (by kernel_rfl) rfl
theorem ne_SS_S : T_SSint ≠ T_Sint := by decide
theorem ne_SS_int : T_SSint ≠ T_int := by decide
theorem flat_snoc' {α β : Type} (l : List α) (x : α) (f : α → List β) : (l ++ [x]).flatMap f = l.flatMap f ++ f x := by simp
theorem avoids_nil {LL : List (List Int)} (h : BasisOk LL) : avoidsV LL [] = true := by
  have : (LL.any fun q => hasP [] q) = false := by
    rw [List.any_eq_false]
    intro q hq hh
    obtain ⟨i, hi, rfl⟩ := List.getElem_of_mem hq
    have hne := (h.2 i hi).ne
    rw [getD_SS hi] at hne
    have := hasB_room _ _ (Places.nil []) hh
    have h0 : 0 < LL[i].length := List.length_pos_iff.2 hne
    have h5 : lastD [] = 0 := rfl
    rw [h5] at this
    simp only [List.length_nil] at this
    omega
  simp [avoidsV, this]
theorem OwnSS.one_nil {w w2 : World} {B : Nat} {s0 t0 : Sl} (h0 : OwnI w B s0 []) (ht0 : Own w2 B T_Sint t0 [s0.v]) (hg : w.grownBy w2 Option.none) : OwnSS w2 B t0 [[]] := by
  refine ⟨[s0], ht0, rfl, fun i r L e1 e2 => ?_, fun i j r t hij e1 e2 => ?_⟩
  · cases i with
    | zero => simp at e1 e2; subst e1 e2; exact h0.kept hg (fun _ _ => by simp)
    | succ i => simp at e1
  · cases i with
    | zero => cases j with
      | zero => exact absurd rfl hij
      | succ j => simp at e2
    | succ i => simp at e1
def CntOk (LL : List (List Int)) (n : Int) : Prop := BasisOk LL ∧ 0 ≤ n ∧ n ≤ 6
theorem c_six {n : Int} {K : Bool → Prop} (hk : K (decide (0 ≤ n) && decide (n ≤ 6))) : pcall1 .bool PP F.impl_isSix #[vI n] K := Pure.pcall1 (s := .bool) (c_isSix' n) hk
end Go.Proofs.Ytmhgjfahgemblaa
