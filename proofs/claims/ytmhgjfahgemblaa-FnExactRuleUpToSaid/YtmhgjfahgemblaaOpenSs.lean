/- What the statement hands in: an argument's reading as rows of rows. -/
import Derived.Test.YtmhgjfahgemblaaOpen
import Derived.Test.YtmhgjfahgemblaaSs
import Derived.Deep.Matrix
namespace Go.Proofs.Ytmhgjfahgemblaa
open Go Go.RowKit Go.ChangeShapes Go.WideShapes
set_option maxRecDepth 100000

theorem trod_rows {P : Program} {H : Type} {enc : TypeId × Value → H} {W : World} {r : Reach} {b0 : Nat} {t e q : TypeId} {v : Value} {d : DataW H} {ps : List MemPlace} (ht : P.underlying t = some (.slice e)) (he : P.underlying e = some (.slice q)) (hq : P.underlying q = some (.int .i64)) (ce : P.cellsOf e = 1) (cq : P.cellsOf q = 1)
    (hval : Value.okWide P W r b0 t v) (h : DataW.Trod enc P W 0 (fun _ => true) true t v d ps) :
    ∃ (s : Sl) (LL : List (List Int)), v = s.v ∧ RowSS W s LL ∧ (LL.length ≤ maxLen ∧ ∀ M ∈ LL, M.length ≤ maxLen ∧ ∀ x ∈ M, -9223372036854775808 ≤ x ∧ x ≤ 9223372036854775807) := by
  obtain ⟨a, len, cap, rfl⟩ := okWide_slice ht hval
  obtain ⟨fuel, hf⟩ := h
  rcases Go.Deep.open_int_rows ht he hq ce cq hf with ⟨hcs, hx⟩ | ⟨ad, len', cap', A, L, C, Z, hcs, _, hl, hm, hx, hall⟩
  · simp [Value.cells] at hcs
    obtain ⟨rfl, rfl, rfl⟩ := hcs
    exact ⟨Sl.nil, [], rfl, ⟨[], ⟨rfl, Nat.le_refl _, fun i v hv => by simp at hv⟩, rfl, fun i r L e1 => by simp at e1⟩, by simp, fun M hM => by simp at hM⟩
  · simp [Value.cells] at hcs
    obtain ⟨rfl, rfl, rfl⟩ := hcs
    refine ⟨⟨some ad, len, cap⟩, (List.range len).map fun i => (Z i).take (L i), rfl, ⟨(List.range len).map fun i => ⟨A i, L i, C i⟩, ⟨by simp, hl, fun i u hu => ⟨ad, rfl, ?_⟩⟩, by simp, fun i r M e1 e2 => ?_⟩, by simp; omega, fun M hM => ?_⟩
    · rw [List.getElem?_map, List.getElem?_map] at hu
      by_cases hi : i < len
      · rw [List.getElem?_range hi] at hu
        simp only [Option.map_some, Option.some.injEq] at hu
        rw [← hu]
        exact (hall i (by omega)).1
      · rw [List.getElem?_eq_none (by simpa using hi)] at hu; simp at hu
    · by_cases hi : i < len
      · rw [List.getElem?_map, List.getElem?_range hi] at e1 e2
        simp only [Option.map_some, Option.some.injEq] at e1 e2
        subst e1 e2
        obtain ⟨h1, h2, h3, h4, h5, h6, h7⟩ := hall i (by omega)
        refine ⟨by simp; omega, h2, fun j u hu => ?_⟩
        rw [List.getElem?_map, List.getElem?_take] at hu
        split at hu
        · rename_i hj
          have hjc : j < C i := by omega
          cases hA : A i with
          | none => have := h6 hA; omega
          | some a' =>
            refine ⟨a', rfl, ?_⟩
            rw [(h7 a' hA).2 j hjc]
            rw [List.getElem?_eq_getElem (by omega)] at hu
            simp at hu
            rw [← hu]
            simp [List.getD_eq_getElem?_getD, List.getElem?_eq_getElem (show j < (Z i).length by omega)]
        · simp at hu
      · rw [List.getElem?_map, List.getElem?_eq_none (by simpa using hi)] at e1; simp at e1
    · simp only [List.mem_map, List.mem_range] at hM
      obtain ⟨i, hi, rfl⟩ := hM
      obtain ⟨h1, h2, h3, h4, h5, h6, h7⟩ := hall i (by omega)
      refine ⟨by simp; omega, fun x hx => ?_⟩
      have := h5 x (List.mem_of_mem_take hx)
      simpa [Lit.wf, IntKind.min, IntKind.max, IntKind.signed, IntKind.bits] using this
end Go.Proofs.Ytmhgjfahgemblaa
