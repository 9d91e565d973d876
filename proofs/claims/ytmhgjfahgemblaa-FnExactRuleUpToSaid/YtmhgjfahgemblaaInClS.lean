/- InClass: the model text. -/
import Derived.Test.YtmhgjfahgemblaaClass
namespace Go.Proofs.Ytmhgjfahgemblaa
open Go Go.RowKit
set_option maxRecDepth 100000

/-! ### InClass -/
open Classical in
noncomputable def InClassV (LL : List (List Int)) (P : List Int) : Bool := decide (InCl LL P)
open Classical in
theorem c_specInClass {w : World} {l p : Sl} {LL : List (List Int)} {P : List Int} (hl : RowSS w l LL) (hL : LL.length < 2^38) (ht : tot LL < 2^37) (hp : RowI w p P) (hP : P.length < 2^37) :
    Calls PP F.spec_InClass #[l.v, p.v] w fun e w' => e = .returned (.bool (InClassV LL P)) ∧ Below w.heap.size w w' := by
  have no : ∀ w', Below w.heap.size w w' → ¬ InCl LL P → (Ending.returned (.bool false)) = .returned (.bool (InClassV LL P)) ∧ Below w.heap.size w w' := fun w' hb hn => ⟨by simp [InClassV, hn], hb⟩
  refine spec_InClass.calls l p ?_
  rw [spec_InClass.E_s]
  refine (c_specIsBasis hl hL ht).mono ?_
  rintro e w1 ⟨rfl, hb1⟩
  refine ⟨_, rfl, ?_⟩
  refine bif_intro (fun h => ?_) (fun h => ?_)
  · have hB : BasisOk LL := by simpa [IsBasisV] using h
    refine Quiet.call1 (s := .bool) (c_specIsPerm (hp.grow hb1) (by omega)) ?_
    intro w2 hd
    have hb2 := hb1.trans (hd.below _)
    refine bif_intro (fun h2 => ?_) (fun h2 => ?_)
    · have h2 : IsP P := by simpa using h2
      refine (c_l12Avoids (hl.grow hb2) (hp.grow hb2) h2.1 hL hB.len).mono ?_
      rintro e w3 ⟨rfl, hb23⟩
      refine ⟨_, rfl, ?_, hb2.trans (hb23.mono hb2.size)⟩
      congr 2
      rw [InClassV]
      cases hv : avoidsV LL P
      · rw [decide_eq_false (fun h => by rw [h.2.2] at hv; cases hv)]
      · rw [decide_eq_true ⟨hB, h2, hv⟩]
    · have h2 : ¬ IsP P := by simpa using h2
      exact no w2 hb2 fun hh => h2 hh.2.1
  · have h : ¬ BasisOk LL := by simpa [IsBasisV] using h
    exact no w1 hb1 fun hh => h hh.1
end Go.Proofs.Ytmhgjfahgemblaa
