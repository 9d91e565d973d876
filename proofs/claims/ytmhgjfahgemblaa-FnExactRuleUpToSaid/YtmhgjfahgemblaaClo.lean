/- The library's Clone of a row of ints. -/
import Derived.Test.YtmhgjfahgemblaaCodeCl
import Derived.Test.YtmhgjfahgemblaaTabFn
namespace Go.Proofs.Ytmhgjfahgemblaa
open Go Go.RowKit
set_option maxRecDepth 100000

theorem c_Clone {w : World} {a : Sl} {L : List Int} (ha : RowI w a L) (hL : L.length < 2^38) :
    Calls PP F.slices_Clone___int_int_ #[a.v] w fun e w' => ∃ s : Sl, e = .returned s.v ∧ OwnI w' w.heap.size s L ∧ Below w.heap.size w w' := by
  refine slices_Clone___int_int_.calls a ?_
  rw [slices_Clone___int_int_.E_s]
  refine bif_intro (fun h => ?_) (fun h => ?_)
  · have : L = [] := by
      cases L with
      | nil => rfl
      | cons x r => obtain ⟨b, hb, _⟩ := ha.cell 0 (vI x) rfl; rw [hb] at h; cases h
    subst this
    exact ⟨Sl.nil, rfl, Own.nil _ _ _, Below.refl _ _⟩
  · refine lit0 oneInt (B := w.heap.size) (Nat.le_refl _) ?_
    intro t w1 ht hg _
    have hb := below_of_grow hg
    refine append_row oneInt ht hb.size (ha.grow hb) (fun v hv => by obtain ⟨x, _, rfl⟩ := List.mem_map.1 hv; exact One.int x) (by simp; omega) ?_
    intro s w2 hs hg2 _ _
    exact ⟨s, rfl, by simpa using hs, hb.grown hg2 hb.size (fun g hg => (ht.lt g hg).1)⟩
end Go.Proofs.Ytmhgjfahgemblaa
