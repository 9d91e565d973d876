/- The library's ContainsFunc over rows of rows. -/
import Derived.Test.YtmhgjfahgemblaaFuS
namespace Go.Proofs.Ytmhgjfahgemblaa
open Go Go.RowKit
set_option maxRecDepth 100000

theorem c_ContainsFuncS {w : World} {a : Sl} {LL : List (List Int)} (ha : RowSS w a LL) (hL : LL.length < 2^38) {f : Value} {φ : List Int → Bool} (hf : ∀ L ∈ LL, ∀ r, RowI w r L → FnB w f [r.v] (φ L)) :
    Calls PP F.slices_ContainsFunc_____int___int_ #[a.v, f] w fun e w' => e = .returned (.bool (LL.any φ)) ∧ Below w.heap.size w w' := by
  refine slices_ContainsFunc_____int___int_.calls a f ?_
  rw [slices_ContainsFunc_____int___int_.E_s]
  refine (c_IndexFuncS ha hL hf).mono ?_
  rintro e w1 ⟨rfl, hb⟩
  exact ⟨_, rfl, by rw [idxF_nonneg], hb⟩
end Go.Proofs.Ytmhgjfahgemblaa
