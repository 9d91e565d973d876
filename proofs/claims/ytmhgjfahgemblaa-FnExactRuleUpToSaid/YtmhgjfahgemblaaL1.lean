/- Small helpers of the model text. -/
import Derived.Test.YtmhgjfahgemblaaCode
import Derived.Test.YtmhgjfahgemblaaMem
namespace Go.Proofs.Ytmhgjfahgemblaa
open Go Go.RowKit
set_option maxRecDepth 100000

theorem c_l1In (n lo hi : Int) : Pure F.spec_l1In #[vI n, vI lo, vI hi] (.bool (decide (lo ≤ n) && decide (n ≤ hi))) := by
  intro w
  refine spec_l1In.calls n lo hi ?_
  rw [spec_l1In.E_s]
  refine bif_dec (fun h => ?_) (fun h => ?_)
  · have h' : lo ≤ n := h
    simp [h']
  · have h' : ¬ lo ≤ n := h
    simp [h']
theorem c_l1Bit (b : Bool) : Pure F.spec_l1Bit #[.bool b] (vI (if b then 1 else 0)) := by
  intro w
  refine spec_l1Bit.calls b ?_
  rw [spec_l1Bit.E_s]
  cases b <;> simp
end Go.Proofs.Ytmhgjfahgemblaa
