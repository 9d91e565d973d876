/- Permutations as lists: plain facts, no program in sight. -/
import Derived.Test.YtmhgjfahgemblaaPerm
namespace Go.Proofs.Ytmhgjfahgemblaa
open Go
set_option maxRecDepth 100000

/-- 1, 2, .., n -/
def idn (n : Nat) : List Int := (List.range n).map fun (i : Nat) => (i : Int) + 1
theorem idn_length (n : Nat) : (idn n).length = n := by simp [idn]
theorem idn_succ (n : Nat) : idn (n + 1) = idn n ++ [(n : Int) + 1] := by simp [idn, List.range_succ]
theorem mem_idn {n : Nat} {x : Int} : x ∈ idn n ↔ 1 ≤ x ∧ x ≤ n := by
  simp only [idn, List.mem_map, List.mem_range]
  constructor
  · rintro ⟨i, hi, rfl⟩; omega
  · rintro ⟨h1, h2⟩; exact ⟨(x - 1).toNat, by omega, by omega⟩
theorem idn_nodup (n : Nat) : (idn n).Nodup := by
  simp only [idn, List.nodup_iff_pairwise_ne, List.pairwise_map]
  exact List.Pairwise.imp (fun h e => h (by omega)) (List.nodup_iff_pairwise_ne.1 List.nodup_range)
theorem idn_getD {n i : Nat} (h : i < n) : (idn n).getD i 0 = (i : Int) + 1 := by simp [idn, List.getD_eq_getElem?_getD, h]
theorem getD_lt {L : List Int} {i : Nat} (h : i < L.length) : L.getD i 0 = L[i] := by simp [List.getD_eq_getElem?_getD, List.getElem?_eq_getElem h]
theorem ext_getD {L M : List Int} (h : L.length = M.length) (hh : ∀ i, i < L.length → L.getD i 0 = M.getD i 0) : L = M := by
  apply List.ext_getElem h
  intro i h1 h2
  have := hh i h1
  rw [getD_lt h1, getD_lt h2] at this
  exact this
theorem permOk_iff {L : List Int} : PermOk L ↔ L.Nodup ∧ ∀ x ∈ L, 1 ≤ x ∧ x ≤ L.length := by
  constructor
  · intro h
    refine ⟨?_, fun x hx => ?_⟩
    · rw [List.nodup_iff_pairwise_ne, List.pairwise_iff_getElem]
      intro i j hi hj hij e
      have := (h j hj).2.2 i hij
      rw [getD_lt hi, getD_lt hj] at this
      exact this e
    · obtain ⟨i, hi, rfl⟩ := List.getElem_of_mem hx
      have := h i hi
      unfold pOk at this
      rw [getD_lt hi] at this
      exact ⟨this.1, this.2.1⟩
  · rintro ⟨h1, h2⟩ j hj
    have h3 := h2 L[j] (List.getElem_mem hj)
    unfold pOk
    rw [getD_lt hj]
    refine ⟨h3.1, h3.2, fun i hij e => ?_⟩
    rw [List.nodup_iff_pairwise_ne, List.pairwise_iff_getElem] at h1
    rw [getD_lt (by omega)] at e
    exact h1 i j (by omega) hj hij e
theorem perm_of_nodup : ∀ {n : Nat} {L : List Int}, L.Nodup → (∀ x ∈ L, 1 ≤ x ∧ x ≤ n) → L.length = n → L.Perm (idn n)
  | 0, L, _, _, hl => by
    have : L = [] := List.eq_nil_of_length_eq_zero hl
    subst this; exact List.Perm.refl _
  | n + 1, L, h1, h2, hl => by
    by_cases hm : ((n : Int) + 1) ∈ L
    · have hp := List.perm_cons_erase hm
      have h3 : (L.erase ((n : Int) + 1)).Perm (idn n) := by
        refine perm_of_nodup (h1.erase _) (fun x hx => ?_) (by rw [List.length_erase_of_mem hm]; omega)
        rw [List.Nodup.mem_erase_iff h1] at hx
        have := h2 x hx.2
        have hne := hx.1
        omega
      rw [idn_succ]
      exact hp.trans ((List.Perm.cons _ h3).trans (List.perm_append_singleton _ _).symm)
    · have : L.length ≤ (idn n).length := List.Nodup.length_le_of_subset h1 (fun x hx => by
        have := h2 x hx
        have hne : x ≠ (n : Int) + 1 := fun e => hm (e ▸ hx)
        rw [mem_idn]; omega)
      rw [idn_length] at this
      omega
theorem permOk_perm {L : List Int} : PermOk L ↔ L.Perm (idn L.length) := by
  rw [permOk_iff]
  constructor
  · rintro ⟨h1, h2⟩; exact perm_of_nodup h1 h2 rfl
  · intro h
    refine ⟨h.nodup_iff.2 (idn_nodup _), fun x hx => ?_⟩
    have := h.mem_iff.1 hx
    rwa [mem_idn] at this
theorem IsP.perm {L : List Int} (h : IsP L) : L.Perm (idn L.length) := permOk_perm.1 h.2
theorem IsP.nodup {L : List Int} (h : IsP L) : L.Nodup := (permOk_iff.1 h.2).1
theorem IsP.mem {L : List Int} (h : IsP L) {x : Int} : x ∈ L ↔ 1 ≤ x ∧ x ≤ L.length := by rw [h.perm.mem_iff, mem_idn]
theorem isP_of_perm {L M : List Int} (h : M.Perm L) (hL : IsP L) : IsP M := by
  have hl := h.length_eq
  refine ⟨by rw [hl]; exact hL.1, permOk_perm.2 ?_⟩
  rw [hl]; exact h.trans hL.perm
theorem isP_of {n : Nat} {M : List Int} (h : M.Perm (idn n)) (hn : n ≤ 8) : IsP M := by
  have hl : M.length = n := by rw [h.length_eq, idn_length]
  refine ⟨by omega, permOk_perm.2 ?_⟩
  rw [hl]; exact h
/-- Ascending (not strictly), by neighbours. -/
def Rising (L : List Int) : Prop := ∀ i, i + 1 < L.length → L.getD i 0 ≤ L.getD (i + 1) 0
theorem Rising.all {L : List Int} (h : Rising L) : ∀ j, ∀ i, i ≤ j → j < L.length → L.getD i 0 ≤ L.getD j 0 := by
  intro j
  induction j with
  | zero => intro i hi hj; have : i = 0 := by omega
            subst this; exact Int.le_refl _
  | succ j ih =>
    intro i hi hj
    by_cases e : i = j + 1
    · subst e; exact Int.le_refl _
    · exact Int.le_trans (ih i (by omega) (by omega)) (h j hj)
theorem rising_pairwise {L : List Int} (h : Rising L) : L.Pairwise (· ≤ ·) := by
  rw [List.pairwise_iff_getElem]
  intro i j hi hj hij
  have := h.all j i (by omega) hj
  rwa [getD_lt hi, getD_lt hj] at this
theorem idn_pairwise (n : Nat) : (idn n).Pairwise (· ≤ ·) := by
  simp only [idn, List.pairwise_map]
  exact List.Pairwise.imp (fun h => by omega) List.pairwise_lt_range
theorem rising_idn (n : Nat) : Rising (idn n) := fun i hi => by
  rw [idn_length] at hi
  rw [idn_getD (by omega), idn_getD hi]; omega
theorem IsP.rising {L : List Int} (h : IsP L) : Rising L ↔ L = idn L.length := by
  constructor
  · intro hr
    exact List.Perm.eq_of_pairwise (fun a b _ _ h1 h2 => Int.le_antisymm h1 h2) (rising_pairwise hr) (idn_pairwise _) h.perm
  · intro e; rw [e]; exact rising_idn _
theorem isP_idn {n : Nat} (hn : n ≤ 8) : IsP (idn n) := isP_of (List.Perm.refl _) hn
theorem isP_nil : IsP [] := isP_idn (n := 0) (by omega)
end Go.Proofs.Ytmhgjfahgemblaa
