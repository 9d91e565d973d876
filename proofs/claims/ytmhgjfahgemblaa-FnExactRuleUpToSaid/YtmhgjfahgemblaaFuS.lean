/- The library's IndexFunc over rows of rows. -/
import Derived.Test.YtmhgjfahgemblaaCodeFs
import Derived.Test.YtmhgjfahgemblaaFnVal
namespace Go.Proofs.Ytmhgjfahgemblaa
open Go Go.RowKit
set_option maxRecDepth 100000

theorem c_IndexFuncS {w : World} {a : Sl} {LL : List (List Int)} (ha : RowSS w a LL) (hL : LL.length < 2^38) {f : Value} {φ : List Int → Bool} (hf : ∀ L ∈ LL, ∀ r, RowI w r L → FnB w f [r.v] (φ L)) :
    Calls PP F.slices_IndexFunc_____int___int_ #[a.v, f] w fun e w' => e = .returned (vI (idxF φ LL)) ∧ Below w.heap.size w w' := by
  have han := ha.n
  refine slices_IndexFunc_____int___int_.calls a f ?_
  rw [slices_IndexFunc_____int___int_.E_s, han]
  refine slices_IndexFunc_____int___int_.L2_rule _ _ _ _ _ _ (I := fun k w' => 0 ≤ k ∧ k ≤ LL.length ∧ Below w.heap.size w w' ∧ ∀ j (hj : j < LL.length), j < k.toNat → φ LL[j] = false) (μ := fun k _ => (LL.length - k).toNat)
    ⟨by omega, by omega, Below.refl _ _, fun j _ hj => by simp at hj⟩ ?_
  rintro k w' ⟨h0, hk, hb, hall⟩
  rw [slices_IndexFunc_____int___int_.B2_s]
  refine bif_dec (fun h3 => ?_) (fun h3 => ?_)
  · have hlt : k.toNat < LL.length := by omega
    refine RowSS.getB ha hb h0 (by omega) fun r hr => ?_
    rw [getD_SS hlt] at hr
    refine (hf _ (List.getElem_mem hlt) r hr).callV1 hb ?_
    intro w2 hb2
    refine bif_intro (fun h4 => ?_) (fun h4 => ?_)
    · rw [slices_IndexFunc_____int___int_.R2_s]
      refine ⟨?_, hb.trans (hb2.mono hb.size)⟩
      rw [idxF_at hlt h4 (fun j hj => hall j (by omega) hj)]
      congr 2; omega
    · refine ⟨k + 1, by rw [w64_succ h0 (by omega)], ⟨by omega, by omega, hb.trans (hb2.mono hb.size), fun j hj1 hj => ?_⟩, by omega⟩
      by_cases e : j = k.toNat
      · subst e; exact h4
      · exact hall j hj1 (by omega)
  · rw [slices_IndexFunc_____int___int_.A2_0_s]
    exact ⟨by rw [idxF_none (fun j hj => hall j hj (by omega))], hb⟩
end Go.Proofs.Ytmhgjfahgemblaa
