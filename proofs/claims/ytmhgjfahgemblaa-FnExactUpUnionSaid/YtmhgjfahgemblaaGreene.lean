/- Greene: of the word of a tableau, k colours colour as many places as its first k rows have. No program in sight. -/
import Derived.Test.YtmhgjfahgemblaaRs
namespace Go.Proofs.Ytmhgjfahgemblaa
open Go
set_option maxRecDepth 100000

def tots (T : List (List Int)) : Nat := (T.map List.length).sum
theorem tots_cons (R : List Int) (T : List (List Int)) : tots (R :: T) = R.length + tots T := by simp [tots]
theorem Tab.tail {R : List Int} {T : List (List Int)} (h : Tab (R :: T)) : Tab T := h.2.2.2
theorem Under.trans {R S U : List Int} (h : Under R S) (k : Under S U) : Under R U := ⟨Nat.le_trans k.1 h.1, fun j hj => by have := h.2 j (by have := k.1; omega); have := k.2 j hj; omega⟩
theorem Tab.under : ∀ {T : List (List Int)}, Tab T → T.Pairwise Under
  | [], _ => List.Pairwise.nil
  | R :: T, h => by
    have ih := Tab.under h.tail
    refine List.Pairwise.cons (fun S hS => ?_) ih
    cases T with
    | nil => cases hS
    | cons U T =>
      have h1 := h.2.2.1 U rfl
      rcases List.mem_cons.1 hS with rfl | hS
      · exact h1
      · exact h1.trans ((List.pairwise_cons.1 ih).1 S hS)
theorem Tab.inc {T : List (List Int)} (h : Tab T) : ∀ R ∈ T, Inc R := by
  induction T with
  | nil => intro R hR; cases hR
  | cons S T ih =>
    intro R hR
    rcases List.mem_cons.1 hR with rfl | hR
    · exact h.2.1
    · exact ih h.tail R hR

/-! ### No fewer -/
def paint (k i : Nat) (R : List Int) : List (Int × Nat) := R.map fun x => (x, if i < k then i + 1 else 0)
def paints (k : Nat) : Nat → List (List Int) → List (Int × Nat)
  | _, [] => []
  | i, R :: T => paints k (i + 1) T ++ paint k i R
theorem paints_wd (k : Nat) : ∀ (i : Nat) (T : List (List Int)), wd (paints k i T) = tword T
  | _, [] => rfl
  | i, R :: T => by
    have e : wd (paint k i R) = R := by
      simp only [wd, paint, List.map_map]
      exact List.map_id'' (fun _ => rfl) R
    rw [paints, wd_append, paints_wd k (i + 1) T, tword, e]
theorem paints_col (k : Nat) : ∀ (i : Nat) (T : List (List Int)), ∀ x ∈ paints k i T, x.2 ≤ k ∧ (x.2 ≠ 0 → i < x.2)
  | _, [], x, h => by cases h
  | i, R :: T, x, h => by
    rw [paints] at h
    rcases List.mem_append.1 h with h | h
    · have := paints_col k (i + 1) T x h; omega
    · simp only [paint, List.mem_map] at h
      obtain ⟨y, _, rfl⟩ := h
      simp only
      split <;> omega
theorem paints_asc (k : Nat) : ∀ (i : Nat) {T : List (List Int)}, (∀ R ∈ T, Inc R) → AscW (paints k i T)
  | _, [], _ => List.Pairwise.nil
  | i, R :: T, h => by
    rw [paints, AscW, List.pairwise_append]
    refine ⟨paints_asc k (i + 1) fun S hS => h S (by simp [hS]), ?_, fun x hx y hy e1 e2 => ?_⟩
    · rw [paint, List.pairwise_map]
      exact (h R (by simp)).imp fun hab _ _ => hab
    · have := (paints_col k (i + 1) T x hx).2 e2
      simp only [paint, List.mem_map] at hy
      obtain ⟨z, _, rfl⟩ := hy
      simp only at e1
      split at e1 <;> omega
theorem paints_cnt (k : Nat) : ∀ (i : Nat) (T : List (List Int)), cnt (paints k i T) = tots (T.take (k - i))
  | i, [] => by simp [paints, cnt, tots]
  | i, R :: T => by
    rw [paints, cnt_append, paints_cnt k (i + 1) T]
    by_cases h : i < k
    · rw [show k - i = (k - (i + 1)) + 1 by omega, List.take_succ_cons, tots_cons]
      have : cnt (paint k i R) = R.length := by
        simp only [cnt, paint, h, if_true]
        rw [List.filter_eq_self.2 (by simp)]
        simp
      omega
    · rw [show k - i = 0 by omega, show k - (i + 1) = 0 by omega]
      have : cnt (paint k i R) = 0 := by
        simp [cnt, paint, h]
      rw [this]; rfl
theorem greene_lower {T : List (List Int)} (h : ∀ R ∈ T, Inc R) (k : Nat) : Reach k (tword T) (tots (T.take k)) :=
  ⟨paints k 0 T, paints_wd k 0 T, paints_asc k 0 h, fun x hx => (paints_col k 0 T x hx).1, paints_cnt k 0 T⟩

/-! ### No more -/
/-- Different colours: at most k. -/
theorem cnt_distinct : ∀ (k : Nat) {W : List (Int × Nat)}, (∀ x ∈ W, x.2 ≤ k) → W.Pairwise (fun x y => x.2 = y.2 → x.2 = 0) → cnt W ≤ k
  | 0, W, h, _ => by
    have : W.filter (fun x => decide (x.2 ≠ 0)) = [] := by
      rw [List.filter_eq_nil_iff]
      intro x hx; have := h x hx; simp only [ne_eq, decide_eq_true_eq]; omega
    rw [cnt, this]; exact Nat.le_refl _
  | k + 1, W, h, hp => by
    have ih := cnt_distinct k (W := W.filter fun x => decide (x.2 ≠ k + 1)) (fun x hx => by
      have h1 := List.mem_filter.1 hx
      have := h x h1.1
      have h2 : x.2 ≠ k + 1 := by simpa using h1.2
      omega) (hp.sublist List.filter_sublist)
    have key : ∀ V : List (Int × Nat), V.Pairwise (fun x y => x.2 = y.2 → x.2 = 0) → cnt V ≤ cnt (V.filter fun x => decide (x.2 ≠ k + 1)) + 1 := by
      intro V hV
      induction V with
      | nil => simp [cnt]
      | cons x V ih2 =>
        rw [List.pairwise_cons] at hV
        by_cases hx : x.2 = k + 1
        · have : (x :: V).filter (fun x => decide (x.2 ≠ k + 1)) = V := by
            rw [List.filter_cons_of_neg (by simp [hx]), List.filter_eq_self]
            intro y hy
            have := hV.1 y hy
            simp only [ne_eq, decide_eq_true_eq]
            intro e; have := this (by omega); omega
          rw [this, cnt_cons]; split <;> omega
        · rw [List.filter_cons_of_pos (by simp [hx]), cnt_cons, cnt_cons]
          have := ih2 hV.2
          omega
    have := key W hp
    omega
/-- A coloured tableau: its rows, and the word. -/
def cword : List (List (Int × Nat)) → List (Int × Nat)
  | [] => []
  | R :: C => cword C ++ R
theorem split_word : ∀ {T : List (List Int)} {W : List (Int × Nat)}, wd W = tword T → ∃ C, C.map wd = T ∧ cword C = W
  | [], W, h => by
    have : W = [] := by simpa [wd, tword] using h
    exact ⟨[], rfl, this.symm⟩
  | R :: T, W, h => by
    rw [tword, wd] at h
    obtain ⟨U, V, rfl, h1, h2⟩ := List.map_eq_append_iff.1 h
    obtain ⟨C, h3, h4⟩ := split_word (T := T) (W := U) h1
    exact ⟨V :: C, by rw [List.map_cons, h3]; simp only [wd, h2], by rw [cword, h4]⟩
def UnderC (R S : List (Int × Nat)) : Prop := S.length ≤ R.length ∧ ∀ (j : Nat) (x y : Int × Nat), R[j]? = some x → S[j]? = some y → x.1 < y.1
theorem underC_of {R S : List (Int × Nat)} (h : Under (wd R) (wd S)) : UnderC R S := by
  refine ⟨by simpa [wd] using h.1, fun j x y h1 h2 => ?_⟩
  have hj : j < S.length := (List.getElem?_eq_some_iff.1 h2).1
  have := h.2 j (by simpa [wd] using hj)
  simpa [wd, List.getD_eq_getElem?_getD, h1, h2] using this
theorem UnderC.tail {R S : List (Int × Nat)} (h : UnderC R S) : UnderC R.tail S.tail :=
  ⟨by simp; have := h.1; omega, fun j x y h1 h2 => h.2 (j + 1) x y (by simpa using h1) (by simpa using h2)⟩
def firsts (C : List (List (Int × Nat))) : List (Int × Nat) := C.filterMap List.head?
def full (C : List (List (Int × Nat))) : Nat := (C.filter fun R => !R.isEmpty).length
theorem firsts_length (C : List (List (Int × Nat))) : (firsts C).length = full C := by
  induction C with
  | nil => rfl
  | cons R C ih =>
    cases R with
    | nil => exact ih
    | cons x R => exact congrArg (· + 1) ih
theorem cword_cnt (C : List (List (Int × Nat))) : cnt (cword C) = cnt (firsts C) + cnt (cword (C.map List.tail)) := by
  induction C with
  | nil => rfl
  | cons R C ih =>
    rw [cword, cnt_append, ih]
    cases R with
    | nil => simp only [List.map_cons, List.tail_nil, cword, cnt_append]; rw [show firsts ([] :: C) = firsts C from rfl]; simp [cnt]
    | cons x R =>
      simp only [List.map_cons, List.tail_cons, cword, cnt_append]
      rw [show firsts ((x :: R) :: C) = x :: firsts C from rfl, cnt_cons, cnt_cons]; omega
def totc (C : List (List (Int × Nat))) : Nat := (C.map List.length).sum
theorem totc_tail (C : List (List (Int × Nat))) : totc C = full C + totc (C.map List.tail) := by
  induction C with
  | nil => rfl
  | cons R C ih =>
    cases R with
    | nil => simp [totc, full] at ih ⊢; exact ih
    | cons x R => simp [totc, full] at ih ⊢; omega
theorem cword_tail_sub (C : List (List (Int × Nat))) : (cword (C.map List.tail)).Sublist (cword C) := by
  induction C with
  | nil => exact List.Sublist.refl _
  | cons R C ih => exact ih.append (List.tail_sublist R)
theorem firsts_mem {C : List (List (Int × Nat))} {x : Int × Nat} (h : x ∈ firsts C) : ∃ R ∈ C, R[0]? = some x := by
  simp only [firsts, List.mem_filterMap] at h
  obtain ⟨R, h1, h2⟩ := h
  exact ⟨R, h1, by rw [← List.head?_eq_getElem?]; exact h2⟩
theorem cword_mem {C : List (List (Int × Nat))} {x : Int × Nat} : x ∈ cword C ↔ ∃ R ∈ C, x ∈ R := by
  induction C with
  | nil => simp [cword]
  | cons R C ih => rw [cword, List.mem_append, ih]; simp; rw [or_comm]
theorem firsts_diff {C : List (List (Int × Nat))} (hu : C.Pairwise UnderC) (ha : AscW (cword C)) : (firsts C).Pairwise fun x y => x.2 = y.2 → x.2 = 0 := by
  induction C with
  | nil => exact List.Pairwise.nil
  | cons R C ih =>
    rw [List.pairwise_cons] at hu
    rw [cword, AscW, List.pairwise_append] at ha
    have ih' := ih hu.2 ha.1
    cases R with
    | nil => exact ih'
    | cons x R =>
      refine List.Pairwise.cons (fun y hy e => ?_) ih'
      obtain ⟨S, hS, h0⟩ := firsts_mem hy
      have hlt := (hu.1 S hS).2 0 x y rfl h0
      have hmem : y ∈ cword C := cword_mem.2 ⟨S, hS, List.mem_of_getElem? h0⟩
      rcases Nat.eq_zero_or_pos x.2 with h1 | h1
      · exact h1
      · have := ha.2.2 y hmem x (by simp) e.symm (by omega)
        omega
theorem full_take {C : List (List (Int × Nat))} (hu : C.Pairwise UnderC) (k : Nat) : full (C.take k) = min k (full C) := by
  induction C generalizing k with
  | nil => simp [full]
  | cons R C ih =>
    rw [List.pairwise_cons] at hu
    cases k with
    | zero => simp [full]
    | succ k =>
      rw [List.take_succ_cons]
      cases R with
      | nil =>
        have h0 : ∀ n, full (C.take n) = 0 := fun n => by
          unfold full
          rw [List.filter_eq_nil_iff.2]
          · rfl
          · intro S hS
            have h1 := (hu.1 S (List.mem_of_mem_take hS)).1
            have : S = [] := List.eq_nil_of_length_eq_zero (by simpa using h1)
            simp [this]
        have h1 : full C = 0 := by have := h0 C.length; rwa [List.take_length] at this
        have e : ∀ D, full ([] :: D) = full D := fun D => rfl
        rw [e, e, h0, h1]; omega
      | cons x R =>
        have e : ∀ D, full ((x :: R) :: D) = full D + 1 := fun D => by simp [full]
        rw [e, e, ih hu.2 k]; omega
theorem upper_aux (k : Nat) : ∀ (n : Nat) (C : List (List (Int × Nat))), (∀ R ∈ C, R.length ≤ n) → C.Pairwise UnderC → AscW (cword C) → (∀ x ∈ cword C, x.2 ≤ k) → cnt (cword C) ≤ totc (C.take k)
  | 0, C, h, _, _, _ => by
    have : cword C = [] := by
      rw [List.eq_nil_iff_forall_not_mem]
      intro x hx
      obtain ⟨R, hR, hx⟩ := cword_mem.1 hx
      have := h R hR
      have : R = [] := List.eq_nil_of_length_eq_zero (by omega)
      subst this; cases hx
    rw [this]; simp [cnt]
  | n + 1, C, h, hu, ha, hk => by
    have hsub := cword_tail_sub C
    have ih := upper_aux k n (C.map List.tail) (fun R hR => by
      obtain ⟨S, hS, rfl⟩ := List.mem_map.1 hR
      have := h S hS; simp; omega) (by rw [List.pairwise_map]; exact hu.imp fun h => h.tail) (ha.sublist hsub) (fun x hx => hk x (hsub.subset hx))
    rw [← List.map_take] at ih
    rw [cword_cnt, totc_tail (C.take k), full_take hu]
    have h1 : cnt (firsts C) ≤ full C := by
      rw [← firsts_length]; exact List.length_filter_le _ _
    have h2 : cnt (firsts C) ≤ k := cnt_distinct k (fun x hx => by
      obtain ⟨R, hR, h0⟩ := firsts_mem hx
      exact hk x (cword_mem.2 ⟨R, hR, List.mem_of_getElem? h0⟩)) (firsts_diff hu ha)
    omega
theorem len_le_totc {C : List (List (Int × Nat))} {R : List (Int × Nat)} (h : R ∈ C) : R.length ≤ totc C := by
  induction C with
  | nil => cases h
  | cons S C ih =>
    have e : totc (S :: C) = S.length + totc C := by simp [totc]
    rw [e]
    rcases List.mem_cons.1 h with rfl | h
    · omega
    · have := ih h; omega
theorem greene_upper {T : List (List Int)} (h : T.Pairwise Under) {k n : Nat} (hr : Reach k (tword T) n) : n ≤ tots (T.take k) := by
  obtain ⟨W, h1, h2, h3, h4⟩ := hr
  obtain ⟨C, h5, h6⟩ := split_word h1
  subst h6
  have hu : C.Pairwise UnderC := by
    rw [← h5, List.pairwise_map] at h
    exact h.imp underC_of
  have h7 := upper_aux k (totc C) C (fun R hR => len_le_totc hR) hu h2 h3
  rw [h4] at h7
  refine Nat.le_trans h7 (Nat.le_of_eq ?_)
  rw [← h5, tots, totc, ← List.map_take, List.map_map]
  congr 1
  apply List.map_congr_left
  intro R _
  simp [wd]
/-- The greatest number of places that k colours colour in a word is what the first k rows of its tableau have. -/
theorem greene {w : List Int} (h : w.Nodup) (k : Nat) : Reach k w (tots ((insP w).take k)) ∧ ∀ n, Reach k w n → n ≤ tots ((insP w).take k) := by
  obtain ⟨h1, h2, h3⟩ := insP_all h
  exact ⟨h3.symm.reach (greene_lower h1.inc k), fun n hn => greene_upper h1.under (h3.reach hn)⟩
end Go.Proofs.Ytmhgjfahgemblaa
