/- The library's IndexFunc over rows of ints. -/
import Derived.Test.YtmhgjfahgemblaaCodeFu
import Derived.Test.YtmhgjfahgemblaaFnVal
import Derived.Test.YtmhgjfahgemblaaLaw1
namespace Go.Proofs.Ytmhgjfahgemblaa
open Go Go.RowKit
set_option maxRecDepth 100000

theorem c_IndexFuncI {w : World} {a : Sl} {L : List Int} (ha : RowI w a L) (hL : L.length < 2^38) {f : Value} {φ : Int → Bool} (hf : ∀ x ∈ L, FnB w f [vI x] (φ x)) :
    Calls PP F.slices_IndexFunc___int_int_ #[a.v, f] w fun e w' => e = .returned (vI (idxF φ L)) ∧ Below w.heap.size w w' := by
  have han : a.n = L.length := by have := ha.n; simpa using this
  refine slices_IndexFunc___int_int_.calls a f ?_
  rw [slices_IndexFunc___int_int_.E_s, han]
  refine slices_IndexFunc___int_int_.L2_rule _ _ _ _ _ _ (I := fun k w' => 0 ≤ k ∧ k ≤ L.length ∧ Below w.heap.size w w' ∧ ∀ j (hj : j < L.length), j < k.toNat → φ L[j] = false) (μ := fun k _ => (L.length - k).toNat)
    ⟨by omega, by omega, Below.refl _ _, fun j _ hj => by simp at hj⟩ ?_
  rintro k w' ⟨h0, hk, hb, hall⟩
  rw [slices_IndexFunc___int_int_.B2_s]
  refine bif_dec (fun h3 => ?_) (fun h3 => ?_)
  · have hlt : k.toNat < L.length := by omega
    refine RowI.get (ha.grow hb) h0 (by omega) ?_
    rw [getD_eq hlt]
    refine (hf _ (List.getElem_mem hlt)).callV1 hb ?_
    intro w2 hb2
    refine bif_intro (fun h4 => ?_) (fun h4 => ?_)
    · rw [slices_IndexFunc___int_int_.R2_s]
      refine ⟨?_, hb.trans (hb2.mono hb.size)⟩
      rw [idxF_at hlt h4 (fun j hj => hall j (by omega) hj)]
      congr 2; omega
    · refine ⟨k + 1, by rw [w64_succ h0 (by omega)], ⟨by omega, by omega, hb.trans (hb2.mono hb.size), fun j hj1 hj => ?_⟩, by omega⟩
      by_cases e : j = k.toNat
      · subst e; exact h4
      · exact hall j hj1 (by omega)
  · rw [slices_IndexFunc___int_int_.A2_0_s]
    exact ⟨by rw [idxF_none (fun j hj => hall j hj (by omega))], hb⟩
end Go.Proofs.Ytmhgjfahgemblaa
