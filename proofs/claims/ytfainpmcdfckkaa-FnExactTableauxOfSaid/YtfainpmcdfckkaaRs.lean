/- Insertion of a number into a tableau: its rows and columns ascend, and its word is reached by moves. No program in sight. -/
import Derived.Test.YtfainpmcdfckkaaKnuth
namespace Go.Proofs.Ytfainpmcdfckkaa
open Go
set_option maxRecDepth 100000

/-- How many numbers of a row are less, from the left. -/
def rpos : List Int → Int → Nat
  | [], _ => 0
  | a :: R, v => if a < v then rpos R v + 1 else 0
theorem rpos_le : ∀ (R : List Int) (v : Int), rpos R v ≤ R.length
  | [], _ => Nat.le_refl _
  | a :: R, v => by have := rpos_le R v; rw [rpos]; split <;> simp <;> omega
theorem rpos_lt : ∀ (R : List Int) (v : Int) (j : Nat), j < rpos R v → R.getD j 0 < v
  | [], _, j, h => by simp [rpos] at h
  | a :: R, v, j, h => by
    rw [rpos] at h
    split at h
    · cases j with
      | zero => simpa
      | succ j => simpa using rpos_lt R v j (by omega)
    · omega
theorem rpos_ge : ∀ (R : List Int) (v : Int), rpos R v < R.length → v ≤ R.getD (rpos R v) 0
  | [], _, h => by simp at h
  | a :: R, v, h => by
    rw [rpos] at h ⊢
    split
    · rename_i hc
      rw [if_pos hc] at h
      simp at h
      simpa using rpos_ge R v (by omega)
    · simp; omega
def tabIns : List (List Int) → Int → List (List Int)
  | [], v => [[v]]
  | R :: T, v => if rpos R v < R.length then R.set (rpos R v) v :: tabIns T (R.getD (rpos R v) 0) else (R ++ [v]) :: T
/-- The row that became longer. -/
def tabRow : List (List Int) → Int → Nat
  | [], _ => 0
  | R :: T, v => if rpos R v < R.length then tabRow T (R.getD (rpos R v) 0) + 1 else 0

/-! ### Rows -/
def Inc (R : List Int) : Prop := R.Pairwise (· < ·)
theorem Inc.getD {R : List Int} (h : Inc R) {i j : Nat} (hij : i < j) (hj : j < R.length) : R.getD i 0 < R.getD j 0 := by
  have := List.pairwise_iff_getElem.1 h i j (by omega) hj hij
  rwa [← getD_lt, ← getD_lt] at this
theorem Inc.of_getD {R : List Int} (h : ∀ i j, i < j → j < R.length → R.getD i 0 < R.getD j 0) : Inc R := by
  rw [Inc, List.pairwise_iff_getElem]
  intro i j hi hj hij
  have := h i j hij hj
  rwa [getD_lt hi, getD_lt hj] at this
theorem rpos_gt {R : List Int} {v : Int} (h : Inc R) (hv : v ∉ R) {j : Nat} (hj : rpos R v ≤ j) (hl : j < R.length) : v < R.getD j 0 := by
  have h1 := rpos_ge R v (by omega)
  have h2 : R.getD j 0 ≠ v := fun e => hv (by rw [← e, getD_lt hl]; exact List.getElem_mem hl)
  rcases Nat.lt_or_ge (rpos R v) j with h3 | h3
  · have := h.getD h3 hl; omega
  · have : rpos R v = j := by omega
    rw [this] at h1; omega
theorem getD_set' (R : List Int) (i j : Nat) (v : Int) : (R.set i v).getD j 0 = if i = j ∧ i < R.length then v else R.getD j 0 := by
  simp only [List.getD_eq_getElem?_getD, List.getElem?_set]
  by_cases h : i = j
  · subst h
    by_cases h2 : i < R.length
    · simp [h2]
    · simp [h2]
  · simp [h]
theorem getD_snoc (R : List Int) (v : Int) (j : Nat) : (R ++ [v]).getD j 0 = if j < R.length then R.getD j 0 else if j = R.length then v else 0 := by
  simp only [List.getD_eq_getElem?_getD]
  by_cases h : j < R.length
  · rw [if_pos h, List.getElem?_append_left h]
  · rw [if_neg h, List.getElem?_append_right (by omega)]
    by_cases h2 : j = R.length
    · subst h2; simp
    · rw [if_neg h2, List.getElem?_eq_none (by simp; omega)]; rfl
theorem Inc.set {R : List Int} {v : Int} (h : Inc R) (hv : v ∉ R) (hp : rpos R v < R.length) : Inc (R.set (rpos R v) v) := by
  refine Inc.of_getD fun i j hij hj => ?_
  rw [List.length_set] at hj
  rw [getD_set', getD_set']
  by_cases hi : rpos R v = i
  · rw [if_pos ⟨hi, by omega⟩, if_neg (by omega)]
    exact rpos_gt h hv (by omega) hj
  · rw [if_neg (by omega)]
    by_cases hj2 : rpos R v = j
    · rw [if_pos ⟨hj2, by omega⟩]; exact rpos_lt R v i (by omega)
    · rw [if_neg (by omega)]; exact h.getD hij hj
theorem Inc.snoc {R : List Int} {v : Int} (h : Inc R) (hp : ¬ rpos R v < R.length) : Inc (R ++ [v]) := by
  have := rpos_le R v
  refine Inc.of_getD fun i j hij hj => ?_
  rw [List.length_append] at hj
  simp at hj
  rw [getD_snoc, getD_snoc]
  rw [if_pos (by omega)]
  by_cases h2 : j < R.length
  · rw [if_pos h2]; exact h.getD hij h2
  · rw [if_neg h2, if_pos (by omega)]; exact rpos_lt R v i (by omega)

/-! ### Tableaux -/
def Under (R S : List Int) : Prop := S.length ≤ R.length ∧ ∀ j, j < S.length → R.getD j 0 < S.getD j 0
def Tab : List (List Int) → Prop
  | [] => True
  | R :: T => R ≠ [] ∧ Inc R ∧ (∀ S, T.head? = some S → Under R S) ∧ Tab T
theorem tabIns_perm : ∀ (T : List (List Int)) (v : Int), (tabIns T v).flatten.Perm (v :: T.flatten)
  | [], v => by simp [tabIns]
  | R :: T, v => by
    rw [tabIns]
    split
    · rename_i h
      rw [List.flatten_cons, List.flatten_cons]
      have ih := tabIns_perm T (R.getD (rpos R v) 0)
      refine (List.Perm.append_left _ ih).trans ?_
      have h1 : R = R.take (rpos R v) ++ R.getD (rpos R v) 0 :: R.drop (rpos R v + 1) := by
        rw [getD_lt h]; simp
      have h2 : R.set (rpos R v) v = R.take (rpos R v) ++ v :: R.drop (rpos R v + 1) := by rw [List.set_eq_take_append_cons_drop, if_pos h]
      rw [h2]
      conv => rhs; rw [h1]
      generalize R.getD (rpos R v) 0 = m
      generalize R.take (rpos R v) = A
      generalize R.drop (rpos R v + 1) = B
      simp only [List.append_assoc, List.cons_append]
      refine (List.perm_middle (a := v)).trans ?_
      refine List.Perm.cons _ ?_
      refine (List.Perm.append_left A ?_)
      exact List.perm_middle
    · simp only [List.flatten_cons, List.append_assoc]
      exact List.perm_middle
theorem under_snoc {R S : List Int} (h : Under R S) (v : Int) : Under (R ++ [v]) S := by
  refine ⟨by rw [List.length_append]; have := h.1; omega, fun j hj => ?_⟩
  have := h.1
  rw [getD_snoc, if_pos (by omega)]
  exact h.2 j hj
theorem tabIns_head {T : List (List Int)} {R : List Int} {v : Int} (hI : Inc R) (hu : ∀ S, T.head? = some S → Under R S) (hv : v ∉ R) (hp : rpos R v < R.length) (hm : ∀ S, T.head? = some S → Inc S ∧ R.getD (rpos R v) 0 ∉ S) :
    ∀ S, (tabIns T (R.getD (rpos R v) 0)).head? = some S → Under (R.set (rpos R v) v) S := by
  have hvm := rpos_gt hI hv (Nat.le_refl _) hp
  intro S hS
  cases T with
  | nil =>
    simp [tabIns] at hS
    subst hS
    refine ⟨by rw [List.length_set]; simp; omega, fun j hj => ?_⟩
    simp at hj; subst hj
    rw [getD_set']
    split
    · simpa using hvm
    · simp
      rename_i h
      have : rpos R v ≠ 0 := by intro e; exact h ⟨e, hp⟩
      simpa using hI.getD (i := 0) (j := rpos R v) (by omega) hp
  | cons U T =>
    obtain ⟨hul, huj⟩ := hu U rfl
    obtain ⟨hUI, hUm⟩ := hm U rfl
    have hc : rpos U (R.getD (rpos R v) 0) ≤ rpos R v := by
      rcases Nat.lt_or_ge (rpos R v) (rpos U (R.getD (rpos R v) 0)) with h | h
      · have h1 := rpos_lt U _ _ h
        have h2 := rpos_le U (R.getD (rpos R v) 0)
        have := huj _ (show rpos R v < U.length by omega)
        omega
      · exact h
    have key : ∀ j, j < U.length → (R.set (rpos R v) v).getD j 0 < U.getD j 0 := fun j hj => by
      have := huj j hj
      rw [getD_set']
      split
      · rename_i e; rw [← e.1] at this ⊢; omega
      · exact this
    have key2 : ∀ j, j ≤ rpos R v → (R.set (rpos R v) v).getD j 0 < R.getD (rpos R v) 0 := fun j hj => by
      rw [getD_set']
      split
      · exact hvm
      · exact hI.getD (by omega) hp
    rw [tabIns] at hS
    split at hS
    · rename_i hq
      simp only [List.head?_cons, Option.some.injEq] at hS; subst hS
      refine ⟨by rw [List.length_set, List.length_set]; exact hul, fun j hj => ?_⟩
      rw [List.length_set] at hj
      rw [getD_set' U]
      split
      · rename_i e; exact key2 j (by omega)
      · exact key j hj
    · rename_i hq
      have hle := rpos_le U (R.getD (rpos R v) 0)
      simp only [List.head?_cons, Option.some.injEq] at hS; subst hS
      refine ⟨by rw [List.length_set, List.length_append, List.length_singleton]; omega, fun j hj => ?_⟩
      rw [List.length_append, List.length_singleton] at hj
      rw [getD_snoc U]
      by_cases h : j < U.length
      · rw [if_pos h]; exact key j h
      · rw [if_neg h, if_pos (by omega)]; exact key2 j (by omega)
theorem Tab.ins : ∀ {T : List (List Int)} {v : Int}, Tab T → T.flatten.Nodup → v ∉ T.flatten → Tab (tabIns T v)
  | [], v, _, _, _ => ⟨by simp, by simp [Inc], fun S h => by simp at h, trivial⟩
  | R :: T, v, ⟨hR, hI, hu, hT⟩, hn, hv => by
    rw [List.flatten_cons] at hn hv
    rw [List.nodup_append] at hn
    simp only [List.mem_append, not_or] at hv
    rw [tabIns]
    split
    · rename_i hp
      have hmem : R.getD (rpos R v) 0 ∈ R := by rw [getD_lt hp]; exact List.getElem_mem hp
      have hmT : R.getD (rpos R v) 0 ∉ T.flatten := fun h => hn.2.2 _ hmem _ h rfl
      refine ⟨fun h => hR (by simpa using h), hI.set hv.1 hp, tabIns_head hI hu hv.1 hp ?_, Tab.ins hT hn.2.1 hmT⟩
      intro S hS
      cases T with
      | nil => simp at hS
      | cons U T =>
        simp at hS; subst hS
        exact ⟨hT.2.1, fun h => hmT (List.mem_flatten.2 ⟨U, by simp, h⟩)⟩
    · rename_i hp
      refine ⟨by simp, hI.snoc hp, fun S hS => under_snoc (hu S hS) v, hT⟩

/-! ### The word of a tableau -/
def tword : List (List Int) → List Int
  | [] => []
  | R :: T => tword T ++ R
theorem inc_cons {a : Int} {R : List Int} : Inc (a :: R) ↔ (∀ b ∈ R, a < b) ∧ Inc R := List.pairwise_cons
theorem kn_right : ∀ (B : List Int) (m v : Int), Inc (m :: B) → v < m → Kn (m :: (B ++ [v])) (m :: v :: B)
  | [], m, v, _, _ => Kn.refl _
  | b :: B, m, v, h, hv => by
    rw [inc_cons] at h
    have hmb := h.1 b (by simp)
    have h1 := (kn_right B b v h.2 (by omega)).app [m] []
    have h2 := Kn.b' [] B hv hmb
    simp only [List.append_nil, List.cons_append, List.nil_append] at h1 h2
    exact h1.trans h2
theorem kn_left : ∀ (A B : List Int) (m v : Int), Inc (A ++ [v]) → v < m → Kn (A ++ m :: v :: B) (m :: (A ++ v :: B))
  | [], B, m, v, _, _ => Kn.refl _
  | a :: A, B, m, v, h, hv => by
    have h' : Inc (a :: (A ++ [v])) := h
    rw [inc_cons] at h'
    have h1 := (kn_left A B m v h'.2 hv).app [a] []
    simp only [List.append_nil, List.cons_append, List.nil_append] at h1
    refine h1.trans ?_
    cases A with
    | nil => exact Kn.a [] B (h'.1 v (by simp)) hv
    | cons c A =>
      have hc : c < m := by
        have := inc_cons.1 h'.2
        have := this.1 v (by simp); omega
      exact Kn.a [] (A ++ v :: B) (h'.1 c (by simp)) hc
theorem kn_row {R : List Int} {v : Int} (hI : Inc R) (hv : v ∉ R) (hp : rpos R v < R.length) : Kn (R ++ [v]) (R.getD (rpos R v) 0 :: R.set (rpos R v) v) := by
  have h1 : R = R.take (rpos R v) ++ R.getD (rpos R v) 0 :: R.drop (rpos R v + 1) := by
    rw [getD_lt hp]; simp
  have h2 : R.set (rpos R v) v = R.take (rpos R v) ++ v :: R.drop (rpos R v + 1) := by rw [List.set_eq_take_append_cons_drop, if_pos hp]
  have hvm := rpos_gt hI hv (Nat.le_refl _) hp
  have hA : Inc (R.take (rpos R v) ++ [v]) := by
    rw [Inc, List.pairwise_append]
    refine ⟨hI.sublist (List.take_sublist _ _), by simp, fun a ha b hb => ?_⟩
    simp at hb; subst hb
    obtain ⟨i, hi, rfl⟩ := List.getElem_of_mem ha
    rw [List.length_take] at hi
    have := rpos_lt R b i (by omega)
    rw [getD_lt (by omega)] at this
    simpa using this
  have hB : Inc (R.getD (rpos R v) 0 :: R.drop (rpos R v + 1)) := by
    have : (R.getD (rpos R v) 0 :: R.drop (rpos R v + 1)).Sublist R := by
      conv => rhs; rw [h1]
      exact List.sublist_append_right _ _
    exact hI.sublist this
  have k1 := (kn_right _ _ v hB hvm).app (R.take (rpos R v)) []
  have k2 := kn_left (R.take (rpos R v)) (R.drop (rpos R v + 1)) _ v hA hvm
  rw [h2]
  conv => lhs; rw [h1]
  simp only [List.append_nil, List.append_assoc, List.cons_append] at k1 ⊢
  exact k1.trans k2
theorem kn_ins : ∀ {T : List (List Int)} {v : Int}, Tab T → T.flatten.Nodup → v ∉ T.flatten → Kn (tword T ++ [v]) (tword (tabIns T v))
  | [], v, _, _, _ => Kn.refl _
  | R :: T, v, ⟨hR, hI, hu, hT⟩, hn, hv => by
    rw [List.flatten_cons] at hn hv
    rw [List.nodup_append] at hn
    simp only [List.mem_append, not_or] at hv
    rw [tabIns]
    split
    · rename_i hp
      have hmem : R.getD (rpos R v) 0 ∈ R := by rw [getD_lt hp]; exact List.getElem_mem hp
      have hmT : R.getD (rpos R v) 0 ∉ T.flatten := fun h => hn.2.2 _ hmem _ h rfl
      have k1 := (kn_row hI hv.1 hp).app (tword T) []
      have k2 := (kn_ins hT hn.2.1 hmT).app [] (R.set (rpos R v) v)
      simp only [tword, List.append_nil, List.append_assoc, List.nil_append, List.singleton_append] at k1 k2 ⊢
      exact k1.trans k2
    · simp only [tword, List.append_assoc]
      exact Kn.refl _
/-- All numbers of a word, one after the other. -/
def insP (w : List Int) : List (List Int) := w.foldl tabIns []
theorem insP_snoc (w : List Int) (v : Int) : insP (w ++ [v]) = tabIns (insP w) v := by simp [insP]
theorem insP_all {w : List Int} (h : w.Nodup) : Tab (insP w) ∧ (insP w).flatten.Perm w ∧ Kn w (tword (insP w)) := by
  suffices H : ∀ k, k ≤ w.length → Tab (insP (w.take k)) ∧ (insP (w.take k)).flatten.Perm (w.take k) ∧ Kn (w.take k) (tword (insP (w.take k))) by
    have := H w.length (Nat.le_refl _)
    rwa [List.take_length] at this
  intro k hk
  induction k with
  | zero => exact ⟨trivial, List.Perm.refl _, Kn.refl _⟩
  | succ k ih =>
    obtain ⟨h1, h2, h3⟩ := ih (by omega)
    have e : w.take (k + 1) = w.take k ++ [w[k]'(by omega)] := by simp
    have hnd : (w.take (k + 1)).Nodup := h.sublist (List.take_sublist _ _)
    rw [e, List.nodup_append] at hnd
    have hn' : (insP (w.take k)).flatten.Nodup := h2.nodup_iff.2 hnd.1
    have hnot : w[k]'(by omega) ∉ (insP (w.take k)).flatten := fun hm => hnd.2.2 _ (h2.mem_iff.1 hm) _ (by simp) rfl
    rw [e, insP_snoc]
    refine ⟨h1.ins hn' hnot, ?_, ?_⟩
    · refine (tabIns_perm _ _).trans ?_
      refine (List.Perm.cons _ h2).trans ?_
      exact (List.perm_append_comm (l₁ := [w[k]'(by omega)]))
    · have h4 := h3.app [] [w[k]'(by omega)]
      simp only [List.nil_append] at h4
      exact h4.trans (kn_ins h1 hn' hnot)
end Go.Proofs.Ytfainpmcdfckkaa
