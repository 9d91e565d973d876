/- slices.Sort at []int: the shelf's contract in this proof's words. -/
import Derived.Test.YtmhgjfahgemblaaMem
import Derived.Test.YtmhgjfahgemblaaShelf
import Derived.Sort.OwnSortedInts
namespace Go.Proofs.Ytmhgjfahgemblaa
open Go Go.RowKit
set_option maxRecDepth 100000

def sortI (L : List Int) : List Int := L.mergeSort fun x y => decide (x ≤ y)
theorem sortI_length (L : List Int) : (sortI L).length = L.length := List.length_mergeSort L
theorem sortI_perm (L : List Int) : (sortI L).Perm L := List.mergeSort_perm L _
theorem sortI_sorted (L : List Int) : (sortI L).Pairwise (· ≤ ·) := by
  have := List.pairwise_mergeSort (le := fun x y : Int => decide (x ≤ y)) (fun a b c h1 h2 => by simp at h1 h2 ⊢; omega) (fun a b => by simp; omega) L
  exact this.imp fun h => by simpa using h
theorem c_Sort {w : World} {B : Nat} {s : Sl} {L : List Int} (h : OwnI w B s L) (hL : L.length < 2^40) {K : World → Prop} (hk : ∀ w', OwnI w' B s (sortI L) → w.grownBy w' s.blk → K w') :
    call0 PP F.slices_Sort___int_int_ #[s.v] w K := by
  have hn : s.n = L.length := by have := h.n; simpa using this
  have hnc := h.nc
  have hcm := h.cm
  rcases h.at_ with hc | ⟨g, cur, ha, hBg, hg, hsz, ht⟩
  · have h0 : L.length = 0 := by omega
    obtain rfl : L = [] := List.eq_nil_of_length_eq_zero h0
    have e : s.v = .slice s.a 0 s.c := by rw [Sl.v, hn]; rfl
    rw [e]
    refine (Try.slices_Sort_int_none s.a s.c w).mono ?_
    rintro e w' ⟨rfl, rfl⟩
    exact ⟨rfl, hk _ (by simpa [sortI] using h) ⟨rfl, rfl, rfl, Nat.le_refl _, fun _ _ _ => rfl⟩⟩
  · have hglt : g < w.heap.size := (Array.getElem?_eq_some_iff.1 hg).1
    have e : s.v = .slice (some ⟨g, 0, none⟩) L.length s.c := by rw [Sl.v, hn, ha]
    rw [e]
    rw [hn] at ht
    refine (Try.slices_Sort_int g 0 s.c L w (holds_of_blockI hg ht) hglt (by omega)).mono ?_
    rintro e w' ⟨rfl, n, os, rfl⟩
    have hl : (sortI L).length = L.length := sortI_length L
    refine ⟨rfl, hk _ ⟨by rw [List.length_map, hl, hn], hnc, hcm, .inr ⟨g, _, ha, hBg, heap_sortedI _ hg, by simp [Go.Sort.putCells, hsz], ?_⟩⟩ ?_⟩
    · rw [hn, ← hl]
      exact take_putCellsI cur (sortI L) (by omega)
    · by_cases hc0 : s.c = 0
      · have : L.length = 0 := by omega
        obtain rfl : L = [] := List.eq_nil_of_length_eq_zero this
        have hb : s.blk = none := by rw [Sl.blk, if_pos hc0]
        rw [hb]
        refine ⟨rfl, rfl, rfl, by simp, fun k hk _ => ?_⟩
        rw [Go.Sort.heap_grow_old _ _ (by simpa using hk)]
        by_cases e : k = g
        · subst e
          have := heap_sortedI (n := n) (os := os) (#[] : Array Int) hg
          rw [Go.Sort.heap_grow_old _ _ (by simpa using hk)] at this
          have h5 : ([] : List Int).mergeSort (fun x y => decide (x ≤ y)) = [] := by simp
          rw [h5, this, hg]
          congr 1
          have : cur = #[] := Array.eq_empty_of_size_eq_zero (by omega)
          subst this
          rfl
        · have := (grownBy_sortedI (w := w) (g := g) (n := n) (os := os) (([] : List Int).mergeSort fun x y => decide (x ≤ y)).toArray).block k hk (fun e2 => e (by simpa using e2))
          rw [Go.Sort.heap_grow_old _ _ (by simpa using hk)] at this
          exact this
      · have hb : s.blk = some g := by rw [Sl.blk, if_neg hc0, ha]; rfl
        rw [hb]
        exact grownBy_sortedI _
end Go.Proofs.Ytmhgjfahgemblaa
