/- Small helpers of the model text. -/
import Derived.Test.YtjojajnkofgfpaaCode
import Derived.Test.YtjojajnkofgfpaaMem
namespace Go.Proofs.Ytjojajnkofgfpaa
open Go Go.RowKit
set_option maxRecDepth 100000

theorem c_l1In (n lo hi : Int) : Pure F.spec_l1In #[vI n, vI lo, vI hi] (.bool (decide (lo ≤ n) && decide (n ≤ hi))) := by
  intro w
  refine spec_l1In.calls n lo hi ?_
  rw [spec_l1In.E_s]
  refine bif_dec (fun h => ?_) (fun h => ?_)
  · have h' : lo ≤ n := h
    simp [h']
  · have h' : ¬ lo ≤ n := h
    simp [h']
end Go.Proofs.Ytjojajnkofgfpaa
