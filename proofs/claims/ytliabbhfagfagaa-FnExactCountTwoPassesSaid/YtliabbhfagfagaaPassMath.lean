/- A pass through a stack, as lists: plain facts. -/
import Derived.Test.YtliabbhfagfagaaPermMath
namespace Go.Proofs.Ytliabbhfagfagaa
open Go
set_option maxRecDepth 100000

/-- The stack stands with its top first. -/
def popW (v : Int) : List Int → List Int → List Int × List Int
  | o, [] => (o, [])
  | o, x :: r => if x < v then popW v (o ++ [x]) r else (o, x :: r)
def stpW (s : List Int × List Int) (v : Int) : List Int × List Int := ((popW v s.1 s.2).1, v :: (popW v s.1 s.2).2)
def runW (L : List Int) : List Int × List Int := L.foldl stpW ([], [])
def passV (L : List Int) : List Int := (runW L).1 ++ (runW L).2
theorem runW_snoc (L : List Int) (v : Int) : runW (L ++ [v]) = stpW (runW L) v := by simp [runW, List.foldl_append]
theorem popW_perm (v : Int) : ∀ (r o : List Int), (popW v o r).1 ++ (popW v o r).2 = o ++ r
  | [], o => by simp [popW]
  | x :: r, o => by
    simp only [popW]
    split
    · rw [popW_perm v r (o ++ [x])]; simp
    · rfl
theorem passV_perm (L : List Int) : (passV L).Perm L := by
  suffices h : ∀ n, ∀ L : List Int, L.length = n → (passV L).Perm L from h _ L rfl
  intro n
  induction n with
  | zero => intro L hL; have : L = [] := List.eq_nil_of_length_eq_zero hL
            subst this; exact List.Perm.refl _
  | succ n ih =>
    intro L hL
    obtain ⟨M, v, rfl⟩ : ∃ M v, L = M ++ [v] := ⟨L.dropLast, L.getLast (by rintro rfl; simp at hL), (List.dropLast_concat_getLast _).symm⟩
    have h1 := ih M (by simpa using hL)
    unfold passV at h1 ⊢
    rw [runW_snoc]
    simp only [stpW]
    have h2 := popW_perm v (runW M).2 (runW M).1
    rw [← h2] at h1
    exact List.perm_middle.trans ((List.Perm.cons v h1).trans (List.perm_append_singleton v M).symm)
theorem passV_length (L : List Int) : (passV L).length = L.length := (passV_perm L).length_eq
theorem popW_all (v : Int) : ∀ (r o : List Int), (∀ x ∈ r, x < v) → popW v o r = (o ++ r, [])
  | [], o, _ => by simp [popW]
  | x :: r, o, h => by
    rw [popW, if_pos (h x (by simp)), popW_all v r _ (fun y hy => h y (by simp [hy]))]
    simp
/-- A number greater than all before it comes last. -/
theorem passV_great {M : List Int} {v : Int} (h : ∀ x ∈ M, x < v) : passV (M ++ [v]) = passV M ++ [v] := by
  have h1 : ∀ x ∈ (runW M).2, x < v := fun x hx => h x ((passV_perm M).mem_iff.1 (by unfold passV; simp [hx]))
  unfold passV
  rw [runW_snoc, stpW, popW_all v _ _ h1]
theorem passV_tail {A : List Int} : ∀ (n : Nat) (T : List Int), T.length = n → (∀ x ∈ A, ∀ y ∈ T, x < y) → T.Pairwise (· < ·) → passV (A ++ T) = passV A ++ T := by
  intro n
  induction n with
  | zero => intro T hT _ _; have : T = [] := List.eq_nil_of_length_eq_zero hT
            subst this; simp
  | succ n ih =>
    intro T hT h1 h2
    obtain ⟨M, v, rfl⟩ : ∃ M v, T = M ++ [v] := ⟨T.dropLast, T.getLast (by rintro rfl; simp at hT), (List.dropLast_concat_getLast _).symm⟩
    rw [List.pairwise_append] at h2
    rw [← List.append_assoc, passV_great, ih M (by simpa using hT) (fun x hx y hy => h1 x hx y (by simp [hy])) h2.1, List.append_assoc]
    intro x hx
    rcases List.mem_append.1 hx with h3 | h3
    · exact h1 x h3 v (by simp)
    · exact h2.2.2 x h3 v (by simp)
/-- What stands at the bottom of the stack stays there while only lesser numbers come. -/
theorem popW_keep (v m : Int) (hv : ¬ m < v) : ∀ (r o : List Int), ∃ r', (popW v o (r ++ [m])).2 = r' ++ [m]
  | [], o => ⟨[], by simp [popW, hv]⟩
  | x :: r, o => by
    simp only [List.cons_append, popW]
    split
    · exact popW_keep v m hv r _
    · exact ⟨x :: r, rfl⟩
theorem fold_keep (m : Int) : ∀ (C : List Int), (∀ x ∈ C, ¬ m < x) → ∀ o r, ∃ r', (C.foldl stpW (o, r ++ [m])).2 = r' ++ [m]
  | [], _, o, r => ⟨r, rfl⟩
  | v :: C, h, o, r => by
    obtain ⟨r', hr⟩ := popW_keep v m (h v (by simp)) r o
    rw [List.foldl_cons]
    have e : stpW (o, r ++ [m]) v = ((popW v o (r ++ [m])).1, (v :: r') ++ [m]) := by simp [stpW, hr]
    rw [e]
    exact fold_keep m C (fun x hx => h x (by simp [hx])) _ _
theorem passV_max {M : List Int} {m : Int} (hm : m ∈ M) (hn : M.Nodup) (h : ∀ x ∈ M, x ≤ m) : ∃ M', passV M = M' ++ [m] := by
  obtain ⟨A, C, rfl⟩ := List.append_of_mem hm
  have h1 : ∀ x ∈ A, x < m := fun x hx => by
    have h2 := h x (by simp [hx])
    have h3 : x ≠ m := by
      rintro rfl
      rw [List.nodup_iff_pairwise_ne, List.pairwise_append] at hn
      exact hn.2.2 x hx x (by simp) rfl
    omega
  have h4 : runW (A ++ m :: C) = C.foldl stpW (stpW (runW A) m) := by simp [runW, List.foldl_append]
  have h5 : ∀ x ∈ (runW A).2, x < m := fun x hx => h1 x ((passV_perm A).mem_iff.1 (by unfold passV; simp [hx]))
  have e : stpW (runW A) m = ((runW A).1 ++ (runW A).2, [] ++ [m]) := by rw [stpW, popW_all m _ _ h5]; rfl
  obtain ⟨r', hr⟩ := fold_keep m C (fun x hx => by have := h x (by simp [hx]); omega) ((runW A).1 ++ (runW A).2) []
  unfold passV
  rw [h4, e, hr]
  exact ⟨_, (List.append_assoc _ _ _).symm⟩

def itW : Nat → List Int → List Int
  | 0, L => L
  | k + 1, L => passV (itW k L)
theorem itW_perm (L : List Int) : ∀ k, (itW k L).Perm L
  | 0 => List.Perm.refl _
  | k + 1 => (passV_perm _).trans (itW_perm L k)
/-- k+1, .., n -/
def seg (k n : Nat) : List Int := (List.range (n - k)).map fun (i : Nat) => (k : Int) + i + 1
theorem mem_seg {k n : Nat} {x : Int} : x ∈ seg k n ↔ (k : Int) < x ∧ x ≤ n := by
  simp only [seg, List.mem_map, List.mem_range]
  constructor
  · rintro ⟨i, hi, rfl⟩; omega
  · rintro ⟨h1, h2⟩; exact ⟨(x - k - 1).toNat, by omega, by omega⟩
theorem seg_pairwise (k n : Nat) : (seg k n).Pairwise (· < ·) := by
  simp only [seg, List.pairwise_map]
  exact List.Pairwise.imp (fun h => by omega) List.pairwise_lt_range
theorem seg_pred {k n : Nat} (h : k < n) : seg k n = ((k : Int) + 1) :: seg (k + 1) n := by
  have : n - k = (n - (k + 1)) + 1 := by omega
  unfold seg
  rw [this, List.range_succ_eq_map, List.map_cons, List.map_map]
  simp only [List.cons.injEq]
  refine ⟨by omega, ?_⟩
  apply List.map_congr_left
  intro i _
  simp only [Function.comp_apply]
  omega
theorem it_shape {L : List Int} {n : Nat} (h : L.Perm (idn n)) : ∀ k, k ≤ n → ∃ M, itW k L = M ++ seg (n - k) n ∧ M.Perm (idn (n - k))
  | 0, _ => ⟨L, by simp [itW, seg], by simpa using h⟩
  | k + 1, hk => by
    obtain ⟨M, h1, h2⟩ := it_shape h k (by omega)
    have hmem : ∀ x, x ∈ M ↔ 1 ≤ x ∧ x ≤ ((n - k : Nat) : Int) := fun x => by rw [h2.mem_iff, mem_idn]
    obtain ⟨M', h3⟩ := passV_max (M := M) (m := ((n - k : Nat) : Int)) ((hmem _).2 (by omega)) (h2.nodup_iff.2 (idn_nodup _)) (fun x hx => ((hmem x).1 hx).2)
    refine ⟨M', ?_, ?_⟩
    · rw [itW, h1, passV_tail _ (seg (n - k) n) rfl (fun x hx y hy => by
        have := (hmem x).1 hx; rw [mem_seg] at hy; omega) (seg_pairwise _ _), h3, List.append_assoc]
      congr 1
      rw [show n - k = (n - (k + 1)) + 1 by omega]
      have := seg_pred (k := n - (k + 1)) (n := n) (by omega)
      rw [this]
      simp
    · have h4 : (M' ++ [((n - k : Nat) : Int)]).Perm (idn (n - k)) := by rw [← h3]; exact (passV_perm M).trans h2
      rw [show n - k = (n - (k + 1)) + 1 by omega, idn_succ] at h4
      have h5 := (List.perm_append_singleton _ _).symm.trans (h4.trans (List.perm_append_singleton _ _))
      rw [show (((n - (k + 1) + 1 : Nat)) : Int) = ((n - (k + 1) : Nat) : Int) + 1 by omega] at h5
      exact List.Perm.cons_inv h5
theorem it_last {L : List Int} (h : IsP L) : itW L.length L = idn L.length := by
  obtain ⟨M, h1, h2⟩ := it_shape h.perm L.length (Nat.le_refl _)
  have : M = [] := by have := h2.length_eq; rw [idn_length] at this; exact List.eq_nil_of_length_eq_zero (by omega)
  subst this
  rw [h1]
  simp [seg, idn]
/-- How often it has to be applied. -/
def Tm (L : List Int) (m : Nat) : Prop := Rising (itW m L) ∧ ∀ j, j < m → ¬ Rising (itW j L)
theorem Tm.unique {L : List Int} {m k : Nat} (h : Tm L m) (h' : Tm L k) : m = k := by
  rcases Nat.lt_trichotomy m k with h1 | h1 | h1
  · exact absurd h.1 (h'.2 m h1)
  · exact h1
  · exact absurd h'.1 (h.2 k h1)
open Classical in
noncomputable def tmV (L : List Int) : Nat := if h : ∃ m, Tm L m then h.choose else 0
theorem Tm.eq {L : List Int} {m : Nat} (h : Tm L m) : tmV L = m := by
  have he : ∃ m, Tm L m := ⟨m, h⟩
  unfold tmV
  rw [dif_pos he]
  exact he.choose_spec.unique h
theorem it_not {L : List Int} (h : IsP L) {k : Nat} (hk : ∀ j, j < k → ¬ Rising (itW j L)) : k ≤ L.length := by
  rcases Nat.lt_or_ge L.length k with h1 | h1
  · exact absurd (by rw [it_last h]; exact rising_idn _) (hk L.length h1)
  · exact h1
end Go.Proofs.Ytliabbhfagfagaa
