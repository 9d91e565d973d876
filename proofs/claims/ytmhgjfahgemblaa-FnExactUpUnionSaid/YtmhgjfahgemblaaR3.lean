/- The model text's reverse. -/
import Derived.Test.YtmhgjfahgemblaaCodeL20
import Derived.Test.YtmhgjfahgemblaaTabFn
namespace Go.Proofs.Ytmhgjfahgemblaa
open Go Go.RowKit
set_option maxRecDepth 100000

theorem c_l3Reverse {w : World} {a : Sl} {L : List Int} (ha : RowI w a L) (hL : L.length < 2^38) :
    Calls PP F.spec_l3Reverse #[a.v] w fun e w' => ∃ s : Sl, e = .returned s.v ∧ OwnI w' w.heap.size s L.reverse ∧ Below w.heap.size w w' := by
  have han : a.n = L.length := by have := ha.n; simpa using this
  refine spec_l3Reverse.calls a ?_
  rw [spec_l3Reverse.E_s]
  refine lit0 oneInt (B := w.heap.size) (Nat.le_refl _) ?_
  intro t0 w1 hown hg _
  rw [han, w64_id (by omega) (by omega)]
  refine spec_l3Reverse.L3_rule _ _ _ _ _ (I := fun t k w' => -1 ≤ k ∧ k < L.length ∧ OwnI w' w.heap.size t (tab (L.length - 1 - k).toNat fun j => L.getD (L.length - 1 - j) 0) ∧ Below w.heap.size w w') (μ := fun _ k _ => (k + 1).toNat)
    ⟨by omega, by omega, ?_, below_of_grow hg⟩ ?_
  · rw [show ((L.length : Int) - 1 - ((L.length : Int) - 1)).toNat = 0 by omega]; exact hown
  rintro t k w' ⟨h0, hk, ht, hb⟩
  rw [spec_l3Reverse.B3_s]
  refine bif_dec (fun h3 => ?_) (fun h3 => ?_)
  · refine RowI.get (ha.grow hb) h3 (by omega) ?_
    refine append_int ht hb.size (by rw [tab_length]; omega) ?_
    intro t' w2 ht2 hg2 _
    refine ⟨t', k - 1, by rw [w64_id (by omega) (by omega)], ⟨by omega, by omega, ?_, hb.grown hg2 hb.size (fun g hg => (ht.lt g hg).1)⟩, by omega⟩
    rw [show ((L.length : Int) - 1 - (k - 1)).toNat = ((L.length : Int) - 1 - k).toNat + 1 by omega, tab_succ]
    rw [show L.length - 1 - ((L.length : Int) - 1 - k).toNat = k.toNat by omega]
    exact ht2
  · rw [spec_l3Reverse.A3_0_s]
    rw [show ((L.length : Int) - 1 - k).toNat = L.length by omega, tab_reverse] at ht
    exact ⟨t, rfl, ht, hb⟩

theorem rev_ne {L : List Int} (hp : ∀ i j, i < j → j < L.length → L.getD i 0 ≠ L.getD j 0) : ∀ i j, i < j → j < L.reverse.length → L.reverse.getD i 0 ≠ L.reverse.getD j 0 := by
  intro i j hij hj
  rw [List.length_reverse] at hj
  rw [← tab_reverse, tab_getD _ (by omega), tab_getD _ hj]
  exact fun e => hp (L.length - 1 - j) (L.length - 1 - i) (by omega) (by omega) e.symm

end Go.Proofs.Ytmhgjfahgemblaa
