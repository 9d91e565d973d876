/- The rests: what both texts compute, as lists. -/
import Derived.Test.YtjojajnkofgfpaaLows
import Derived.Test.YtjojajnkofgfpaaIns15
namespace Go.Proofs.Ytjojajnkofgfpaa
open Go
set_option maxRecDepth 100000

def nonL (L : List Int) : Nat → List Int
  | 0 => []
  | k + 1 => if isLow L k = true then nonL L k else nonL L k ++ [L.getD k 0]
def lastLow (L : List Int) : Nat → Int
  | 0 => 0
  | k + 1 => if isLow L k = true then L.getD k 0 else lastLow L k
def stR (pk : List Int → Int → Nat) (L : List Int) : Nat → List Int
  | 0 => sortI (nonL L L.length)
  | k + 1 => if isLow L k = true then stR pk L k else (stR pk L k).eraseIdx (pk (stR pk L k) (lastLow L k))
def stO (pk : List Int → Int → Nat) (L : List Int) : Nat → List Int
  | 0 => []
  | k + 1 => stO pk L k ++ [if isLow L k = true then L.getD k 0 else (stR pk L k).getD (pk (stR pk L k) (lastLow L k)) 0]
def PkOk (pk : List Int → Int → Nat) (L : List Int) : Prop := ∀ k, k < L.length → isLow L k = false → pk (stR pk L k) (lastLow L k) < (stR pk L k).length
theorem stO_length (pk : List Int → Int → Nat) (L : List Int) : ∀ k, (stO pk L k).length = k
  | 0 => rfl
  | k + 1 => by simp [stO, stO_length pk L k]
theorem nonL_prefix (L : List Int) : ∀ {n k : Nat}, k ≤ n → ∃ M, nonL L n = nonL L k ++ M
  | 0, k, h => ⟨[], by have : k = 0 := by omega
                       subst this; simp⟩
  | n + 1, k, h => by
    by_cases e : k = n + 1
    · subst e; exact ⟨[], by simp⟩
    · obtain ⟨M, hM⟩ := nonL_prefix L (n := n) (k := k) (by omega)
      rw [nonL]
      split
      · exact ⟨M, hM⟩
      · exact ⟨M ++ [L.getD n 0], by rw [hM, List.append_assoc]⟩
theorem nonL_le (L : List Int) {n k : Nat} (h : k ≤ n) : (nonL L k).length ≤ (nonL L n).length := by
  obtain ⟨M, hM⟩ := nonL_prefix L h
  rw [hM, List.length_append]; omega
theorem nonL_len (L : List Int) : ∀ k, (nonL L k).length ≤ k
  | 0 => by simp [nonL]
  | k + 1 => by
    have := nonL_len L k
    rw [nonL]
    split
    · omega
    · rw [List.length_append, List.length_singleton]; omega
theorem mem_nonL {L : List Int} : ∀ {k : Nat} {x : Int}, x ∈ nonL L k → ∃ j, j < k ∧ isLow L j = false ∧ x = L.getD j 0
  | 0, x, h => by simp [nonL] at h
  | k + 1, x, h => by
    rw [nonL] at h
    split at h
    · obtain ⟨j, h1, h2, h3⟩ := mem_nonL h
      exact ⟨j, by omega, h2, h3⟩
    · rename_i h5
      rcases List.mem_append.1 h with h | h
      · obtain ⟨j, h1, h2, h3⟩ := mem_nonL h
        exact ⟨j, by omega, h2, h3⟩
      · exact ⟨k, by omega, by simpa using h5, by simpa using h⟩
theorem isLow_zero (L : List Int) : isLow L 0 = true := isLow_iff.2 fun j hj => by omega
theorem nonlow_ex {L : List Int} {k : Nat} (h : isLow L k = false) : ∃ j, j < k ∧ L.getD j 0 < L.getD k 0 := by
  apply Classical.byContradiction
  intro hc
  have : isLow L k = true := isLow_iff.2 fun j hj hlt => hc ⟨j, hj, hlt⟩
  rw [this] at h; cases h
theorem lastLow_le {L : List Int} : ∀ {k i : Nat}, i < k → lastLow L k ≤ L.getD i 0
  | k + 1, i, h => by
    rw [lastLow]
    split
    · rename_i h5
      by_cases e : i = k
      · subst e; omega
      · have := isLow_iff.1 h5 i (by omega); omega
    · rename_i h5
      by_cases e : i = k
      · subst e
        obtain ⟨j, hj, hlt⟩ := nonlow_ex (by simpa using h5)
        have := lastLow_le (L := L) hj; omega
      · exact lastLow_le (by omega)
theorem lastLow_at {L : List Int} : ∀ {k : Nat}, 1 ≤ k → ∃ i, i < k ∧ isLow L i = true ∧ lastLow L k = L.getD i 0
  | k + 1, _ => by
    rw [lastLow]
    split
    · rename_i h5; exact ⟨k, by omega, h5, rfl⟩
    · rename_i h5
      have : 1 ≤ k := by
        rcases Nat.eq_zero_or_pos k with e | e
        · subst e; exact absurd (isLow_zero L) h5
        · exact e
      obtain ⟨i, h1, h2, h3⟩ := lastLow_at this
      exact ⟨i, by omega, h2, h3⟩
theorem stR_len {pk : List Int → Int → Nat} {L : List Int} : ∀ k, (∀ j, j < k → isLow L j = false → pk (stR pk L j) (lastLow L j) < (stR pk L j).length) → (stR pk L k).length + (nonL L k).length = (nonL L L.length).length
  | 0, _ => by simp [stR, nonL, sortI_length]
  | k + 1, h => by
    have ih := stR_len k (fun j hj => h j (by omega))
    rw [stR, nonL]
    split
    · exact ih
    · rename_i h5
      have := h k (by omega) (by simpa using h5)
      rw [List.length_eraseIdx, if_pos this, List.length_append, List.length_singleton]
      omega
theorem stR_sub {pk : List Int → Int → Nat} {L : List Int} : ∀ {k : Nat} {x : Int}, x ∈ stR pk L k → x ∈ nonL L L.length
  | 0, x, h => (sortI_perm _).mem_iff.1 h
  | k + 1, x, h => by
    rw [stR] at h
    split at h
    · exact stR_sub h
    · exact stR_sub (List.mem_of_mem_eraseIdx h)
theorem stR_sorted {pk : List Int → Int → Nat} {L : List Int} : ∀ k, (stR pk L k).Pairwise (· ≤ ·)
  | 0 => sortI_sorted _
  | k + 1 => by
    rw [stR]
    split
    · exact stR_sorted k
    · exact (stR_sorted k).sublist (List.eraseIdx_sublist _ _)
def pkD (R : List Int) (_ : Int) : Nat := R.length - 1
def pkN (R : List Int) (low : Int) : Nat := R.findIdx fun v => decide (v > low)
theorem pkOk_of {pk : List Int → Int → Nat} {L : List Int} (h : ∀ k, k < L.length → isLow L k = false → (∀ j, j < k → isLow L j = false → pk (stR pk L j) (lastLow L j) < (stR pk L j).length) → pk (stR pk L k) (lastLow L k) < (stR pk L k).length) : PkOk pk L := by
  have : ∀ n k, k < n → k < L.length → isLow L k = false → pk (stR pk L k) (lastLow L k) < (stR pk L k).length := by
    intro n
    induction n with
    | zero => intro k hk; omega
    | succ n ih => exact fun k hk hkL hl => h k hkL hl fun j hj hjl => ih j (by omega) (by omega) hjl
  exact fun k hk hl => this (k + 1) k (by omega) hk hl
theorem nonL_lt {L : List Int} {k : Nat} (hk : k < L.length) (hl : isLow L k = false) : (nonL L k).length + 1 ≤ (nonL L L.length).length := by
  have := nonL_le L (n := L.length) (k := k + 1) (by omega)
  rw [nonL, if_neg (by rw [hl]; simp), List.length_append, List.length_singleton] at this
  omega
theorem pkOk_D (L : List Int) : PkOk pkD L := pkOk_of fun k hk hl hj => by
  have h1 := stR_len k hj
  have h2 := nonL_lt hk hl
  unfold pkD
  unfold pkD at h1
  omega
theorem countP_eraseIdx (p : Int → Bool) : ∀ (l : List Int) (i : Nat), l.countP p ≤ (l.eraseIdx i).countP p + 1
  | [], i => by simp
  | x :: r, 0 => by
    rw [List.eraseIdx_cons_zero, List.countP_cons]; split <;> omega
  | x :: r, i + 1 => by
    have := countP_eraseIdx p r i
    rw [List.eraseIdx_cons_succ, List.countP_cons, List.countP_cons]; omega
theorem stR_count {pk : List Int → Int → Nat} {L : List Int} (p : Int → Bool) : ∀ k, (nonL L L.length).countP p ≤ (stR pk L k).countP p + (nonL L k).length
  | 0 => by rw [stR, nonL, (sortI_perm _).countP_eq]; simp
  | k + 1 => by
    have ih := stR_count (pk := pk) (L := L) p k
    rw [stR, nonL]
    split
    · exact ih
    · have := countP_eraseIdx p (stR pk L k) (pk (stR pk L k) (lastLow L k))
      rw [List.length_append, List.length_singleton]; omega
theorem greater_ex {pk : List Int → Int → Nat} {L : List Int} {k : Nat} (hk : k < L.length) (hl : isLow L k = false) : ∃ v ∈ stR pk L k, v > lastLow L k := by
  have h1 := stR_count (pk := pk) (L := L) (fun v => decide (v > lastLow L k)) k
  obtain ⟨M, hM⟩ := nonL_prefix L (n := L.length) (k := k + 1) (by omega)
  have h2 : (nonL L (k + 1)).countP (fun v => decide (v > lastLow L k)) = (nonL L (k + 1)).length := by
    rw [List.countP_eq_length]
    intro x hx
    obtain ⟨j, hj, hjl, rfl⟩ := mem_nonL hx
    obtain ⟨i, hi, hlt⟩ := nonlow_ex hjl
    have := lastLow_le (L := L) (k := k) (i := i) (by omega)
    simp only [gt_iff_lt, decide_eq_true_eq]; omega
  rw [hM, List.countP_append, h2] at h1
  rw [nonL, if_neg (by rw [hl]; simp), List.length_append, List.length_singleton] at h1
  have h3 : 0 < (stR pk L k).countP (fun v => decide (v > lastLow L k)) := by omega
  obtain ⟨v, hv, hp⟩ := List.countP_pos_iff.1 h3
  exact ⟨v, hv, by simpa using hp⟩
theorem pkOk_N (L : List Int) : PkOk pkN L := fun k hk hl => by
  obtain ⟨v, hv, hp⟩ := greater_ex (pk := pkN) hk hl
  exact List.findIdx_lt_length.2 ⟨v, hv, by simpa using hp⟩
theorem low_notin {pk : List Int → Int → Nat} {L : List Int} (h : IsP L) {k : Nat} (hk : k < L.length) (hl : isLow L k = false) : lastLow L k ∉ stR pk L k := by
  intro hm
  have h0 : 1 ≤ k := by
    rcases Nat.eq_zero_or_pos k with e | e
    · subst e; rw [isLow_zero] at hl; cases hl
    · exact e
  obtain ⟨i, hi, hil, he⟩ := lastLow_at (L := L) h0
  obtain ⟨j, hj, hjl, he2⟩ := mem_nonL (stR_sub hm)
  rw [he] at he2
  have hn := h.nodup
  have : i = j := by
    rw [getD_lt (by omega), getD_lt hj] at he2
    exact (List.getElem_inj hn).1 he2
  subst this
  rw [hil] at hjl; cases hjl
end Go.Proofs.Ytjojajnkofgfpaa
