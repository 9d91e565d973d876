/- What the statement hands in: an argument's reading as a row. -/
import Derived.Test.YtmhgjfahgemblaaMem
import Derived.ChangeSlices
import Derived.WideShapes
namespace Go.Proofs.Ytmhgjfahgemblaa
open Go Go.RowKit Go.ChangeShapes Go.WideShapes

theorem trod_ints {P : Program} {H : Type} {enc : TypeId × Value → H} {W : World} {r : Reach} {b0 : Nat} {t e : TypeId} {v : Value} {d : DataW H} {ps : List MemPlace} (ht : P.underlying t = some (.slice e)) (he : P.underlying e = some (.int .i64)) (hc : P.cellsOf e = 1)
    (hval : Value.okWide P W r b0 t v) (h : DataW.Trod enc P W 0 (fun _ => true) true t v d ps) :
    ∃ (s : Sl) (L : List Int), v = s.v ∧ RowI W s L ∧ (∀ x ∈ L, -9223372036854775808 ≤ x ∧ x ≤ 9223372036854775807) := by
  obtain ⟨a, len, cap, rfl⟩ := okWide_slice ht hval
  obtain ⟨fuel, hf⟩ := h
  rcases open_ints ht he hc hf with ⟨hcs, hx⟩ | ⟨ad, len', cap', zs, hcs, _, hl, hm, hz, hx, hcell, hw⟩
  · simp [Value.cells] at hcs
    obtain ⟨rfl, rfl, rfl⟩ := hcs
    exact ⟨Sl.nil, [], rfl, ⟨rfl, Nat.le_refl _, fun i v hv => by simp at hv⟩, fun x hx => by simp at hx⟩
  · simp [Value.cells] at hcs
    obtain ⟨rfl, rfl, rfl⟩ := hcs
    have hzl : zs.length = cap := by simpa using hz
    refine ⟨⟨some ad, len, cap⟩, zs.take len, rfl, ⟨by simp; omega, hl, fun i u hu => ⟨ad, rfl, ?_⟩⟩, fun x hx => ?_⟩
    · rw [List.getElem?_map, List.getElem?_take] at hu
      split at hu
      · rename_i hi
        have := hcell i (by omega)
        rw [this]
        rw [List.getElem?_eq_getElem (by omega)] at hu
        simp at hu
        rw [← hu]
        simp [List.getD_eq_getElem?_getD, List.getElem?_eq_getElem (show i < zs.length by omega)]
      · simp at hu
    · have := hw x (List.mem_of_mem_take hx)
      simpa [Lit.wf, IntKind.min, IntKind.max, IntKind.signed, IntKind.bits] using this
end Go.Proofs.Ytmhgjfahgemblaa
