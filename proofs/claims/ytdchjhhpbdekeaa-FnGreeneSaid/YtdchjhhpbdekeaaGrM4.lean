/- The texts Rs, InsMath, InsV, Foot, Pair, CodeFu, FnVal, FuI, Flat, InsI, CodeL20, TabFn, LisE, L20, Greene, UpGr, R3, Law2, UpUn, CodeE, Lens, Lis, LongUp, FindMath, UpMath in one (gmerge.py). -/
import Derived.Test.YtdchjhhpbdekeaaGrM3
/- Insertion of a number into a tableau: its rows and columns ascend, and its word is reached by moves. No program in sight. -/
namespace Go.Proofs.Ytdchjhhpbdekeaa
open Go
set_option maxRecDepth 100000

/-- How many numbers of a row are less, from the left. -/
def rpos : List Int → Int → Nat
  | [], _ => 0
  | a :: R, v => if a < v then rpos R v + 1 else 0
theorem rpos_le : ∀ (R : List Int) (v : Int), rpos R v ≤ R.length
  | [], _ => Nat.le_refl _
  | a :: R, v => by have := rpos_le R v; rw [rpos]; split <;> simp <;> omega
theorem rpos_lt : ∀ (R : List Int) (v : Int) (j : Nat), j < rpos R v → R.getD j 0 < v
  | [], _, j, h => by simp [rpos] at h
  | a :: R, v, j, h => by
    rw [rpos] at h
    split at h
    · cases j with
      | zero => simpa
      | succ j => simpa using rpos_lt R v j (by omega)
    · omega
theorem rpos_ge : ∀ (R : List Int) (v : Int), rpos R v < R.length → v ≤ R.getD (rpos R v) 0
  | [], _, h => by simp at h
  | a :: R, v, h => by
    rw [rpos] at h ⊢
    split
    · rename_i hc
      rw [if_pos hc] at h
      simp at h
      simpa using rpos_ge R v (by omega)
    · simp; omega
def tabIns : List (List Int) → Int → List (List Int)
  | [], v => [[v]]
  | R :: T, v => if rpos R v < R.length then R.set (rpos R v) v :: tabIns T (R.getD (rpos R v) 0) else (R ++ [v]) :: T
/-- The row that became longer. -/
def tabRow : List (List Int) → Int → Nat
  | [], _ => 0
  | R :: T, v => if rpos R v < R.length then tabRow T (R.getD (rpos R v) 0) + 1 else 0

/-! ### Rows -/
def Inc (R : List Int) : Prop := R.Pairwise (· < ·)
theorem Inc.getD {R : List Int} (h : Inc R) {i j : Nat} (hij : i < j) (hj : j < R.length) : R.getD i 0 < R.getD j 0 := by
  have := List.pairwise_iff_getElem.1 h i j (by omega) hj hij
  rwa [← getD_lt, ← getD_lt] at this
theorem Inc.of_getD {R : List Int} (h : ∀ i j, i < j → j < R.length → R.getD i 0 < R.getD j 0) : Inc R := by
  rw [Inc, List.pairwise_iff_getElem]
  intro i j hi hj hij
  have := h i j hij hj
  rwa [getD_lt hi, getD_lt hj] at this
theorem rpos_gt {R : List Int} {v : Int} (h : Inc R) (hv : v ∉ R) {j : Nat} (hj : rpos R v ≤ j) (hl : j < R.length) : v < R.getD j 0 := by
  have h1 := rpos_ge R v (by omega)
  have h2 : R.getD j 0 ≠ v := fun e => hv (by rw [← e, getD_lt hl]; exact List.getElem_mem hl)
  rcases Nat.lt_or_ge (rpos R v) j with h3 | h3
  · have := h.getD h3 hl; omega
  · have : rpos R v = j := by omega
    rw [this] at h1; omega
theorem getD_set' (R : List Int) (i j : Nat) (v : Int) : (R.set i v).getD j 0 = if i = j ∧ i < R.length then v else R.getD j 0 := by
  simp only [List.getD_eq_getElem?_getD, List.getElem?_set]
  by_cases h : i = j
  · subst h
    by_cases h2 : i < R.length
    · simp [h2]
    · simp [h2]
  · simp [h]
theorem getD_snoc (R : List Int) (v : Int) (j : Nat) : (R ++ [v]).getD j 0 = if j < R.length then R.getD j 0 else if j = R.length then v else 0 := by
  simp only [List.getD_eq_getElem?_getD]
  by_cases h : j < R.length
  · rw [if_pos h, List.getElem?_append_left h]
  · rw [if_neg h, List.getElem?_append_right (by omega)]
    by_cases h2 : j = R.length
    · subst h2; simp
    · rw [if_neg h2, List.getElem?_eq_none (by simp; omega)]; rfl
theorem Inc.set {R : List Int} {v : Int} (h : Inc R) (hv : v ∉ R) (hp : rpos R v < R.length) : Inc (R.set (rpos R v) v) := by
  refine Inc.of_getD fun i j hij hj => ?_
  rw [List.length_set] at hj
  rw [getD_set', getD_set']
  by_cases hi : rpos R v = i
  · rw [if_pos ⟨hi, by omega⟩, if_neg (by omega)]
    exact rpos_gt h hv (by omega) hj
  · rw [if_neg (by omega)]
    by_cases hj2 : rpos R v = j
    · rw [if_pos ⟨hj2, by omega⟩]; exact rpos_lt R v i (by omega)
    · rw [if_neg (by omega)]; exact h.getD hij hj
theorem Inc.snoc {R : List Int} {v : Int} (h : Inc R) (hp : ¬ rpos R v < R.length) : Inc (R ++ [v]) := by
  have := rpos_le R v
  refine Inc.of_getD fun i j hij hj => ?_
  rw [List.length_append] at hj
  simp at hj
  rw [getD_snoc, getD_snoc]
  rw [if_pos (by omega)]
  by_cases h2 : j < R.length
  · rw [if_pos h2]; exact h.getD hij h2
  · rw [if_neg h2, if_pos (by omega)]; exact rpos_lt R v i (by omega)

/-! ### Tableaux -/
def Under (R S : List Int) : Prop := S.length ≤ R.length ∧ ∀ j, j < S.length → R.getD j 0 < S.getD j 0
def Tab : List (List Int) → Prop
  | [] => True
  | R :: T => R ≠ [] ∧ Inc R ∧ (∀ S, T.head? = some S → Under R S) ∧ Tab T
theorem tabIns_perm : ∀ (T : List (List Int)) (v : Int), (tabIns T v).flatten.Perm (v :: T.flatten)
  | [], v => by simp [tabIns]
  | R :: T, v => by
    rw [tabIns]
    split
    · rename_i h
      rw [List.flatten_cons, List.flatten_cons]
      have ih := tabIns_perm T (R.getD (rpos R v) 0)
      refine (List.Perm.append_left _ ih).trans ?_
      have h1 : R = R.take (rpos R v) ++ R.getD (rpos R v) 0 :: R.drop (rpos R v + 1) := by
        rw [getD_lt h]; simp
      have h2 : R.set (rpos R v) v = R.take (rpos R v) ++ v :: R.drop (rpos R v + 1) := by rw [List.set_eq_take_append_cons_drop, if_pos h]
      rw [h2]
      conv => rhs; rw [h1]
      generalize R.getD (rpos R v) 0 = m
      generalize R.take (rpos R v) = A
      generalize R.drop (rpos R v + 1) = B
      simp only [List.append_assoc, List.cons_append]
      refine (List.perm_middle (a := v)).trans ?_
      refine List.Perm.cons _ ?_
      refine (List.Perm.append_left A ?_)
      exact List.perm_middle
    · simp only [List.flatten_cons, List.append_assoc]
      exact List.perm_middle
theorem under_snoc {R S : List Int} (h : Under R S) (v : Int) : Under (R ++ [v]) S := by
  refine ⟨by rw [List.length_append]; have := h.1; omega, fun j hj => ?_⟩
  have := h.1
  rw [getD_snoc, if_pos (by omega)]
  exact h.2 j hj
theorem tabIns_head {T : List (List Int)} {R : List Int} {v : Int} (hI : Inc R) (hu : ∀ S, T.head? = some S → Under R S) (hv : v ∉ R) (hp : rpos R v < R.length) (hm : ∀ S, T.head? = some S → Inc S ∧ R.getD (rpos R v) 0 ∉ S) :
    ∀ S, (tabIns T (R.getD (rpos R v) 0)).head? = some S → Under (R.set (rpos R v) v) S := by
  have hvm := rpos_gt hI hv (Nat.le_refl _) hp
  intro S hS
  cases T with
  | nil =>
    simp [tabIns] at hS
    subst hS
    refine ⟨by rw [List.length_set]; simp; omega, fun j hj => ?_⟩
    simp at hj; subst hj
    rw [getD_set']
    split
    · simpa using hvm
    · simp
      rename_i h
      have : rpos R v ≠ 0 := by intro e; exact h ⟨e, hp⟩
      simpa using hI.getD (i := 0) (j := rpos R v) (by omega) hp
  | cons U T =>
    obtain ⟨hul, huj⟩ := hu U rfl
    obtain ⟨hUI, hUm⟩ := hm U rfl
    have hc : rpos U (R.getD (rpos R v) 0) ≤ rpos R v := by
      rcases Nat.lt_or_ge (rpos R v) (rpos U (R.getD (rpos R v) 0)) with h | h
      · have h1 := rpos_lt U _ _ h
        have h2 := rpos_le U (R.getD (rpos R v) 0)
        have := huj _ (show rpos R v < U.length by omega)
        omega
      · exact h
    have key : ∀ j, j < U.length → (R.set (rpos R v) v).getD j 0 < U.getD j 0 := fun j hj => by
      have := huj j hj
      rw [getD_set']
      split
      · rename_i e; rw [← e.1] at this ⊢; omega
      · exact this
    have key2 : ∀ j, j ≤ rpos R v → (R.set (rpos R v) v).getD j 0 < R.getD (rpos R v) 0 := fun j hj => by
      rw [getD_set']
      split
      · exact hvm
      · exact hI.getD (by omega) hp
    rw [tabIns] at hS
    split at hS
    · rename_i hq
      simp only [List.head?_cons, Option.some.injEq] at hS; subst hS
      refine ⟨by rw [List.length_set, List.length_set]; exact hul, fun j hj => ?_⟩
      rw [List.length_set] at hj
      rw [getD_set' U]
      split
      · rename_i e; exact key2 j (by omega)
      · exact key j hj
    · rename_i hq
      have hle := rpos_le U (R.getD (rpos R v) 0)
      simp only [List.head?_cons, Option.some.injEq] at hS; subst hS
      refine ⟨by rw [List.length_set, List.length_append, List.length_singleton]; omega, fun j hj => ?_⟩
      rw [List.length_append, List.length_singleton] at hj
      rw [getD_snoc U]
      by_cases h : j < U.length
      · rw [if_pos h]; exact key j h
      · rw [if_neg h, if_pos (by omega)]; exact key2 j (by omega)
theorem Tab.ins : ∀ {T : List (List Int)} {v : Int}, Tab T → T.flatten.Nodup → v ∉ T.flatten → Tab (tabIns T v)
  | [], v, _, _, _ => ⟨by simp, by simp [Inc], fun S h => by simp at h, trivial⟩
  | R :: T, v, ⟨hR, hI, hu, hT⟩, hn, hv => by
    rw [List.flatten_cons] at hn hv
    rw [List.nodup_append] at hn
    simp only [List.mem_append, not_or] at hv
    rw [tabIns]
    split
    · rename_i hp
      have hmem : R.getD (rpos R v) 0 ∈ R := by rw [getD_lt hp]; exact List.getElem_mem hp
      have hmT : R.getD (rpos R v) 0 ∉ T.flatten := fun h => hn.2.2 _ hmem _ h rfl
      refine ⟨fun h => hR (by simpa using h), hI.set hv.1 hp, tabIns_head hI hu hv.1 hp ?_, Tab.ins hT hn.2.1 hmT⟩
      intro S hS
      cases T with
      | nil => simp at hS
      | cons U T =>
        simp at hS; subst hS
        exact ⟨hT.2.1, fun h => hmT (List.mem_flatten.2 ⟨U, by simp, h⟩)⟩
    · rename_i hp
      refine ⟨by simp, hI.snoc hp, fun S hS => under_snoc (hu S hS) v, hT⟩

/-! ### The word of a tableau -/
def tword : List (List Int) → List Int
  | [] => []
  | R :: T => tword T ++ R
theorem inc_cons {a : Int} {R : List Int} : Inc (a :: R) ↔ (∀ b ∈ R, a < b) ∧ Inc R := List.pairwise_cons
theorem kn_right : ∀ (B : List Int) (m v : Int), Inc (m :: B) → v < m → Kn (m :: (B ++ [v])) (m :: v :: B)
  | [], m, v, _, _ => Kn.refl _
  | b :: B, m, v, h, hv => by
    rw [inc_cons] at h
    have hmb := h.1 b (by simp)
    have h1 := (kn_right B b v h.2 (by omega)).app [m] []
    have h2 := Kn.b' [] B hv hmb
    simp only [List.append_nil, List.cons_append, List.nil_append] at h1 h2
    exact h1.trans h2
theorem kn_left : ∀ (A B : List Int) (m v : Int), Inc (A ++ [v]) → v < m → Kn (A ++ m :: v :: B) (m :: (A ++ v :: B))
  | [], B, m, v, _, _ => Kn.refl _
  | a :: A, B, m, v, h, hv => by
    have h' : Inc (a :: (A ++ [v])) := h
    rw [inc_cons] at h'
    have h1 := (kn_left A B m v h'.2 hv).app [a] []
    simp only [List.append_nil, List.cons_append, List.nil_append] at h1
    refine h1.trans ?_
    cases A with
    | nil => exact Kn.a [] B (h'.1 v (by simp)) hv
    | cons c A =>
      have hc : c < m := by
        have := inc_cons.1 h'.2
        have := this.1 v (by simp); omega
      exact Kn.a [] (A ++ v :: B) (h'.1 c (by simp)) hc
theorem kn_row {R : List Int} {v : Int} (hI : Inc R) (hv : v ∉ R) (hp : rpos R v < R.length) : Kn (R ++ [v]) (R.getD (rpos R v) 0 :: R.set (rpos R v) v) := by
  have h1 : R = R.take (rpos R v) ++ R.getD (rpos R v) 0 :: R.drop (rpos R v + 1) := by
    rw [getD_lt hp]; simp
  have h2 : R.set (rpos R v) v = R.take (rpos R v) ++ v :: R.drop (rpos R v + 1) := by rw [List.set_eq_take_append_cons_drop, if_pos hp]
  have hvm := rpos_gt hI hv (Nat.le_refl _) hp
  have hA : Inc (R.take (rpos R v) ++ [v]) := by
    rw [Inc, List.pairwise_append]
    refine ⟨hI.sublist (List.take_sublist _ _), by simp, fun a ha b hb => ?_⟩
    simp at hb; subst hb
    obtain ⟨i, hi, rfl⟩ := List.getElem_of_mem ha
    rw [List.length_take] at hi
    have := rpos_lt R b i (by omega)
    rw [getD_lt (by omega)] at this
    simpa using this
  have hB : Inc (R.getD (rpos R v) 0 :: R.drop (rpos R v + 1)) := by
    have : (R.getD (rpos R v) 0 :: R.drop (rpos R v + 1)).Sublist R := by
      conv => rhs; rw [h1]
      exact List.sublist_append_right _ _
    exact hI.sublist this
  have k1 := (kn_right _ _ v hB hvm).app (R.take (rpos R v)) []
  have k2 := kn_left (R.take (rpos R v)) (R.drop (rpos R v + 1)) _ v hA hvm
  rw [h2]
  conv => lhs; rw [h1]
  simp only [List.append_nil, List.append_assoc, List.cons_append] at k1 ⊢
  exact k1.trans k2
theorem kn_ins : ∀ {T : List (List Int)} {v : Int}, Tab T → T.flatten.Nodup → v ∉ T.flatten → Kn (tword T ++ [v]) (tword (tabIns T v))
  | [], v, _, _, _ => Kn.refl _
  | R :: T, v, ⟨hR, hI, hu, hT⟩, hn, hv => by
    rw [List.flatten_cons] at hn hv
    rw [List.nodup_append] at hn
    simp only [List.mem_append, not_or] at hv
    rw [tabIns]
    split
    · rename_i hp
      have hmem : R.getD (rpos R v) 0 ∈ R := by rw [getD_lt hp]; exact List.getElem_mem hp
      have hmT : R.getD (rpos R v) 0 ∉ T.flatten := fun h => hn.2.2 _ hmem _ h rfl
      have k1 := (kn_row hI hv.1 hp).app (tword T) []
      have k2 := (kn_ins hT hn.2.1 hmT).app [] (R.set (rpos R v) v)
      simp only [tword, List.append_nil, List.append_assoc, List.nil_append, List.singleton_append] at k1 k2 ⊢
      exact k1.trans k2
    · simp only [tword, List.append_assoc]
      exact Kn.refl _
/-- All numbers of a word, one after the other. -/
def insP (w : List Int) : List (List Int) := w.foldl tabIns []
theorem insP_snoc (w : List Int) (v : Int) : insP (w ++ [v]) = tabIns (insP w) v := by simp [insP]
theorem insP_all {w : List Int} (h : w.Nodup) : Tab (insP w) ∧ (insP w).flatten.Perm w ∧ Kn w (tword (insP w)) := by
  suffices H : ∀ k, k ≤ w.length → Tab (insP (w.take k)) ∧ (insP (w.take k)).flatten.Perm (w.take k) ∧ Kn (w.take k) (tword (insP (w.take k))) by
    have := H w.length (Nat.le_refl _)
    rwa [List.take_length] at this
  intro k hk
  induction k with
  | zero => exact ⟨trivial, List.Perm.refl _, Kn.refl _⟩
  | succ k ih =>
    obtain ⟨h1, h2, h3⟩ := ih (by omega)
    have e : w.take (k + 1) = w.take k ++ [w[k]'(by omega)] := by simp
    have hnd : (w.take (k + 1)).Nodup := h.sublist (List.take_sublist _ _)
    rw [e, List.nodup_append] at hnd
    have hn' : (insP (w.take k)).flatten.Nodup := h2.nodup_iff.2 hnd.1
    have hnot : w[k]'(by omega) ∉ (insP (w.take k)).flatten := fun hm => hnd.2.2 _ (h2.mem_iff.1 hm) _ (by simp) rfl
    rw [e, insP_snoc]
    refine ⟨h1.ins hn' hnot, ?_, ?_⟩
    · refine (tabIns_perm _ _).trans ?_
      refine (List.Perm.cons _ h2).trans ?_
      exact (List.perm_append_comm (l₁ := [w[k]'(by omega)]))
    · have h4 := h3.app [] [w[k]'(by omega)]
      simp only [List.nil_append] at h4
      exact h4.trans (kn_ins h1 hn' hnot)
end Go.Proofs.Ytdchjhhpbdekeaa

/- Insertion of a whole permutation, with the tableau that keeps the order. No program in sight. -/
namespace Go.Proofs.Ytdchjhhpbdekeaa
open Go
set_option maxRecDepth 100000

theorem tabIns_length : ∀ (T : List (List Int)) (v : Int), tabRow T v ≤ T.length ∧ (tabIns T v).length = if tabRow T v < T.length then T.length else T.length + 1
  | [], v => by simp [tabRow, tabIns]
  | R :: T, v => by
    have ih := tabIns_length T (R.getD (rpos R v) 0)
    rw [tabRow, tabIns]
    split
    · rw [List.length_cons, List.length_cons, ih.2]
      refine ⟨by omega, ?_⟩
      split <;> split <;> omega
    · simp
/-- One step of a row. -/
theorem tabIns_step {T1 : List (List Int)} {r : Nat} {n : Int} (hr : r < T1.length) (hp : rpos (T1.getD r []) n < (T1.getD r []).length) :
    T1.take r ++ tabIns (T1.drop r) n = (T1.set r ((T1.getD r []).set (rpos (T1.getD r []) n) n)).take (r + 1) ++ tabIns ((T1.set r ((T1.getD r []).set (rpos (T1.getD r []) n) n)).drop (r + 1)) ((T1.getD r []).getD (rpos (T1.getD r []) n) 0) ∧
    tabRow (T1.drop r) n = tabRow ((T1.set r ((T1.getD r []).set (rpos (T1.getD r []) n) n)).drop (r + 1)) ((T1.getD r []).getD (rpos (T1.getD r []) n) 0) + 1 := by
  have hd : T1.drop r = T1.getD r [] :: T1.drop (r + 1) := by
    rw [List.drop_eq_getElem_cons hr]; simp [List.getD_eq_getElem?_getD, List.getElem?_eq_getElem hr]
  have h1 : (T1.set r ((T1.getD r []).set (rpos (T1.getD r []) n) n)).drop (r + 1) = T1.drop (r + 1) := by rw [List.drop_set_of_lt (by omega)]
  have h2 : (T1.set r ((T1.getD r []).set (rpos (T1.getD r []) n) n)).take (r + 1) = T1.take r ++ [(T1.getD r []).set (rpos (T1.getD r []) n) n] := by
    rw [List.take_succ_eq_append_getElem (by simpa using hr), List.getElem_set_self, List.take_set_of_le (by omega)]
  rw [h1, h2, hd, tabIns, if_pos hp, tabRow, if_pos hp]
  simp
theorem tabIns_last {T1 : List (List Int)} {r : Nat} {n : Int} (hr : r < T1.length) (hp : ¬ rpos (T1.getD r []) n < (T1.getD r []).length) :
    T1.take r ++ tabIns (T1.drop r) n = T1.set r (T1.getD r [] ++ [n]) ∧ tabRow (T1.drop r) n = 0 := by
  have hd : T1.drop r = T1.getD r [] :: T1.drop (r + 1) := by
    rw [List.drop_eq_getElem_cons hr]; simp [List.getD_eq_getElem?_getD, List.getElem?_eq_getElem hr]
  rw [hd, tabIns, if_neg hp, tabRow, if_neg hp]
  refine ⟨?_, rfl⟩
  rw [List.set_eq_take_append_cons_drop, if_pos hr]
/-- A number put behind a row, or in a new one. -/
def addAt (Q : List (List Int)) (r : Nat) (x : Int) : List (List Int) := if r < Q.length then Q.set r (Q.getD r [] ++ [x]) else Q ++ [[x]]
def insQ (w : List Int) : Nat → List (List Int)
  | 0 => []
  | k + 1 => addAt (insQ w k) (tabRow (insP (w.take k)) (w.getD k 0)) ((k : Int) + 1)
theorem insQ_length (w : List Int) : ∀ k, k ≤ w.length → (insQ w k).length = (insP (w.take k)).length
  | 0, _ => rfl
  | k + 1, hk => by
    have ih := insQ_length w k (by omega)
    have h1 := tabIns_length (insP (w.take k)) (w.getD k 0)
    have e : w.take (k + 1) = w.take k ++ [w.getD k 0] := by rw [getD_lt (by omega)]; simp
    rw [insQ, addAt, e, insP_snoc, h1.2, ih]
    split <;> simp [ih]
theorem flat_tab {T : List (List Int)} {R : List Int} (h : R ∈ T) : R.length ≤ T.flatten.length := by
  induction T with
  | nil => cases h
  | cons S T ih =>
    rw [List.flatten_cons, List.length_append]
    rcases List.mem_cons.1 h with rfl | h
    · omega
    · have := ih h; omega
theorem insP_flat (w : List Int) : (insP w).flatten.length = w.length := by
  suffices H : ∀ k, k ≤ w.length → (insP (w.take k)).flatten.length = k by
    have := H w.length (Nat.le_refl _)
    rwa [List.take_length] at this
  intro k hk
  induction k with
  | zero => rfl
  | succ k ih =>
    have e : w.take (k + 1) = w.take k ++ [w[k]'(by omega)] := by simp
    rw [e, insP_snoc, (tabIns_perm _ _).length_eq, List.length_cons, ih (by omega)]
end Go.Proofs.Ytdchjhhpbdekeaa

/- InsertPerm: what it answers. -/
namespace Go.Proofs.Ytdchjhhpbdekeaa
open Go Go.RowKit
set_option maxRecDepth 100000

open Classical in
noncomputable def InsertPermV (L : List Int) : List (List Int) := if IsP L then insP L else []
open Classical in
noncomputable def InsertPermV1 (L : List Int) : List (List Int) := if IsP L then insQ L L.length else []
open Classical in
noncomputable def InsertPermV2 (L : List Int) : Bool := decide (IsP L)
theorem insP_tot {L : List Int} (h : IsP L) : (InsertPermV L).length < 2^38 ∧ tot (InsertPermV L) < 2^38 := by
  rw [InsertPermV, if_pos h]
  have h1 := insP_flat L
  rw [List.length_flatten] at h1
  have h2 : (insP L).length = (insQ L L.length).length := by rw [insQ_length L _ (Nat.le_refl _), List.take_length]
  have h3 : ∀ m, (insQ L m).length ≤ m := by
    intro m
    induction m with
    | zero => simp [insQ]
    | succ m ih => rw [insQ, addAt]; split <;> simp <;> omega
  have := h3 L.length
  have := h.1
  exact ⟨by omega, by unfold tot; omega⟩
end Go.Proofs.Ytdchjhhpbdekeaa

/- Which blocks a slice of rows stands on, and what a step does to them. -/
namespace Go.Proofs.Ytdchjhhpbdekeaa
open Go Go.RowKit
set_option maxRecDepth 100000

/-- The blocks of a slice of rows. -/
def foot (s : Sl) (rs : List Sl) (g : Nat) : Prop := s.blk = some g ∨ ∃ r ∈ rs, r.blk = some g
theorem OwnRows.footLt {w B s rs LL} (h : OwnRows w B s rs LL) {g : Nat} (hg : foot s rs g) : B ≤ g ∧ g < w.heap.size := by
  rcases hg with hg | ⟨r, hr, hg⟩
  · exact h.out.lt g hg
  · exact h.lt hr hg
theorem OwnRows.keepsF {S : Nat → Prop} {w w' B s rs LL} (h : OwnRows w B s rs LL) (hk : Keeps S w w') (hd : ∀ g, foot s rs g → ¬ S g) : OwnRows w' B s rs LL :=
  h.keeps hk (fun g hg => hd g (.inl hg)) (fun r hr g hg => hd g (.inr ⟨r, hr, hg⟩))
/-- A step that writes S alone, and what S becomes: nothing but S and what is new. -/
structure Stp (w w' : World) (S S' : Nat → Prop) : Prop where
  keeps : Keeps S w w'
  next : ∀ g, S' g → S g ∨ w.heap.size ≤ g
theorem Stp.refl (w : World) (S : Nat → Prop) : Stp w w S S := ⟨Keeps.refl _ _, fun _ h => .inl h⟩
theorem Stp.trans {a b c : World} {S T U : Nat → Prop} (h : Stp a b S T) (k : Stp b c T U) : Stp a c S U := by
  refine ⟨⟨k.keeps.os.trans h.keeps.os, k.keeps.tape.trans h.keeps.tape, k.keeps.output.trans h.keeps.output, Nat.le_trans h.keeps.size k.keeps.size, fun x hx hn => ?_⟩, fun g hg => ?_⟩
  · rw [k.keeps.block x (Nat.lt_of_lt_of_le hx h.keeps.size) fun ht => ?_]
    · exact h.keeps.block x hx hn
    · rcases h.next x ht with h1 | h1
      · exact hn h1
      · omega
  · rcases k.next g hg with h1 | h1
    · exact h.next g h1
    · have := h.keeps.size; exact .inr (by omega)
/-- What stands on other blocks stays apart. -/
theorem Stp.apart {w w' : World} {S S' F : Nat → Prop} (h : Stp w w' S S') (hF : ∀ g, F g → g < w.heap.size) (hd : ∀ g, S g → ¬ F g) : ∀ g, S' g → ¬ F g := fun g h1 h2 => by
  rcases h.next g h1 with h3 | h3
  · exact hd g h3 h2
  · have := hF g h2; omega
theorem Stp.grow {w w' : World} {S : Nat → Prop} (h : Below w.heap.size w w') : Stp w w' S S := ⟨(keeps_grown (grow_of_below h)).mono (fun k e => by cases e), fun _ h => .inl h⟩
theorem Stp.below {w w' : World} {S S' : Nat → Prop} {B : Nat} (h : Stp w w' S S') (hS : ∀ g, S g → B ≤ g) (hB : B ≤ w.heap.size) : Below B w w' := h.keeps.below hS hB

theorem getElem?_getD {LL : List (List Int)} {i : Nat} (hi : i < LL.length) : LL[i]? = some (LL.getD i []) := by simp [List.getD_eq_getElem?_getD, List.getElem?_eq_getElem hi]
/-- 'rows[i] = append(rows[i], x)'. -/
theorem OwnRows.appendAtF {w B s rs LL} (h : OwnRows w B s rs LL) {i : Int} (h0 : 0 ≤ i) (hi : i < LL.length) (hB : B ≤ w.heap.size) (hlen : (LL.getD i.toNat []).length < 2^39) {x : Int} {K : World → Prop}
    (hk : ∀ w' rs', OwnRows w' B s rs' (LL.set i.toNat (LL.getD i.toNat [] ++ [x])) → Stp w w' (foot s rs) (foot s rs') → K w') :
    idxK 1 s i fun a => load1 .sl a w fun (t : Sl) => sem1 .sl PP (Instr.buildSlice T_Sint 1 #[(0, vI x)]) w fun (ρ : Sl) w1 => sem1 .sl PP (Builtin.append_ #[T_Sint, T_Sint] T_Sint #[t.v, ρ.v]) w1 fun (t' : Sl) w2 =>
      idxK 1 s i fun a2 => storeC a2 t'.v w2 K := by
  obtain ⟨t, h1, h2⟩ := h.get (i := i.toNat) (by omega)
  refine Row.get (sh := .sl) (r := t) h.out.row h0 (by rw [List.getElem?_map, h1]; rfl) ?_
  refine append_int h2 hB hlen ?_
  intro t' w5 ht' hg5 hn5
  have hs5 : Own w5 B T_Sint s (rs.map Sl.v) := h.out.kept hg5 fun g hg' e => (h.out.apt h2 (by decide)) g hg' e
  refine Own.put hs5 h0 (by rw [List.length_map, h.len]; exact hi) (v := t'.v) ?_
  intro w6 ho6 hg6 _
  have hm : t ∈ rs := List.mem_of_getElem? h1
  refine hk w6 _ (h.setNew h1 hg5 ht' hn5 ho6 hg6 rfl) ⟨?_, fun g hg => ?_⟩
  · exact ((keeps_grown hg5).mono (fun k e => .inr ⟨t, hm, e⟩)).trans ((keeps_grown hg6).mono (fun k e => .inl e))
  · rcases hg with hg | ⟨r, hr, hg⟩
    · exact .inl (.inl hg)
    · rcases List.mem_or_eq_of_mem_set hr with hr | rfl
      · exact .inl (.inr ⟨r, hr, hg⟩)
      · rcases hn5 g hg with h3 | h3
        · exact .inl (.inr ⟨t, hm, h3⟩)
        · exact .inr h3
/-- 'rows[i][c] = x'. -/
theorem OwnRows.setAtF {w B s rs LL} (h : OwnRows w B s rs LL) {i c : Int} (h0 : 0 ≤ i) (hi : i < LL.length) (hc0 : 0 ≤ c) (hc : c < (LL.getD i.toNat []).length) {x : Int} {K : World → Prop}
    (hk : ∀ w', OwnRows w' B s rs (LL.set i.toNat ((LL.getD i.toNat []).set c.toNat x)) → Stp w w' (foot s rs) (foot s rs) → w'.heap.size = w.heap.size → K w') :
    idxK 1 s i fun a => load1 .sl a w fun (t : Sl) => idxK 1 t c fun a2 => storeC a2 (vI x) w K := by
  obtain ⟨t, h1, h2⟩ := h.get (i := i.toNat) (by omega)
  refine Row.get (sh := .sl) (r := t) h.out.row h0 (by rw [List.getElem?_map, h1]; rfl) ?_
  refine Own.put h2 hc0 (by rw [List.length_map]; exact hc) ?_
  intro w6 ho6 hg6 hs6
  refine hk w6 (h.inside h1 (by simpa [OwnI, List.map_set] using ho6) hg6) ⟨?_, fun g hg => .inl hg⟩ hs6
  exact (keeps_grown hg6).mono (fun k e => .inr ⟨t, List.mem_of_getElem? h1, e⟩)
theorem foot_push {w w' : World} {s s' : Sl} {rs : List Sl} {r : Sl} {C : Nat} (hg : w.grownBy w' s.blk) (hn : Next w s s') (hC : C ≤ w.heap.size) (hr : ∀ g, r.blk = some g → C ≤ g) : Keeps (foot s rs) w w' ∧ ∀ g, foot s' (rs ++ [r]) g → foot s rs g ∨ C ≤ g := by
  refine ⟨(keeps_grown hg).mono (fun k e => .inl e), fun g hg => ?_⟩
  rcases hg with hg | ⟨t, ht, hg⟩
  · rcases hn g hg with h1 | h1
    · exact .inl (.inl h1)
    · exact .inr (by omega)
  · rcases List.mem_append.1 ht with ht | ht
    · exact .inl (.inr ⟨t, ht, hg⟩)
    · simp at ht; subst ht; exact .inr (hr g hg)
/-- 'append(rows, row)', the row made by this step. -/
theorem OwnRows.pushF {w0 w : World} {B : Nat} {s : Sl} {rs : List Sl} {LL : List (List Int)} {r : Sl} {L : List Int} (h0 : OwnRows w0 B s rs LL) (hb : Below w0.heap.size w0 w) (hB : B ≤ w0.heap.size) (hr : OwnI w B r L) (hrn : ∀ g, r.blk = some g → w0.heap.size ≤ g) (hn : LL.length < 2^39) {K : Sl → World → Prop}
    (hk : ∀ s' w', OwnRows w' B s' (rs ++ [r]) (LL ++ [L]) → Stp w0 w' (foot s rs) (foot s' (rs ++ [r])) → K s' w') :
    sem1 .sl PP (Instr.buildSlice T_SSint 1 #[(0, r.v)]) w fun t w1 => sem1 .sl PP (Builtin.append_ #[T_SSint, T_SSint] T_SSint #[s.v, t.v]) w1 K := by
  refine append_sl (h0.grow hb) (Nat.le_trans hB hb.size) hr (fun t ht => Apt.of_lt (fun g hg => (h0.lt ht hg).2) hrn) hn fun s' w' h1 h2 h3 => hk s' w' h1 ?_
  obtain ⟨k1, k2⟩ := foot_push (rs := rs) h2 h3 hb.size hrn
  exact ⟨((Stp.grow (S := foot s rs) hb).keeps).trans k1, k2⟩
end Go.Proofs.Ytdchjhhpbdekeaa

/- Two rows of two tables that grow by one number each, in whatever order the steps are taken. -/
namespace Go.Proofs.Ytdchjhhpbdekeaa
open Go Go.RowKit
set_option maxRecDepth 100000

/-- A literal of one number, made by this step. -/
def Lit (w0 w : World) (ρ : Sl) (x : Int) : Prop := ∃ g, ρ = ⟨some ⟨g, 0, none⟩, 1, 1⟩ ∧ w0.heap.size ≤ g ∧ w.heap[g]? = some (.cells #[vI x] T_int (0, 0))
theorem Lit.row {w0 w : World} {ρ : Sl} {x : Int} (h : Lit w0 w ρ x) : Row w ρ [vI x] := by
  obtain ⟨g, rfl, _, hg⟩ := h
  refine ⟨rfl, Nat.le_refl _, fun i u hu => ⟨_, rfl, ?_⟩⟩
  cases i with
  | zero => simp at hu; subst hu; rw [add_zero', cell_of_row _ _ _ _ _ _ hg]; rfl
  | succ i => simp at hu
theorem Lit.kept {w0 w w' : World} {ρ : Sl} {x : Int} {r : Option Nat} (h : Lit w0 w ρ x) (hg : w.grownBy w' r) (hr : ∀ g, r = some g → g < w0.heap.size) : Lit w0 w' ρ x := by
  obtain ⟨g, rfl, h1, h2⟩ := h
  refine ⟨g, rfl, h1, ?_⟩
  rw [hg.block g (Array.getElem?_eq_some_iff.1 h2).1 (fun e => by have := hr g e.symm; omega)]
  exact h2
structure JS (w0 : World) (B : Nat) (ta tb : Sl) (A C : List Int) (x y : Int) (w : World) (pa da pb db : Option Sl) : Prop where
  keeps : Keeps (fun g => ta.blk = some g ∨ tb.blk = some g) w0 w
  a0 : da = none → OwnI w B ta A
  b0 : db = none → OwnI w B tb C
  a1 : ∀ t, da = some t → OwnI w B t (A ++ [x]) ∧ ∀ g, t.blk = some g → ta.blk = some g ∨ w0.heap.size ≤ g
  b1 : ∀ t, db = some t → OwnI w B t (C ++ [y]) ∧ ∀ g, t.blk = some g → tb.blk = some g ∨ w0.heap.size ≤ g
  pa : ∀ ρ, pa = some ρ → Lit w0 w ρ x
  pb : ∀ ρ, pb = some ρ → Lit w0 w ρ y
  ap : ∀ t u, da = some t → db = some u → Apt t u
  /-- As it stood at the beginning. -/
  hB : B ≤ w0.heap.size
  apt : Apt ta tb
  la : ∀ g, ta.blk = some g → g < w0.heap.size
  lb : ∀ g, tb.blk = some g → g < w0.heap.size
  na : A.length < 2^38
  nb : C.length < 2^38
theorem JS.swap {w0 B ta tb A C x y w pa da pb db} (h : JS w0 B ta tb A C x y w pa da pb db) : JS w0 B tb ta C A y x w pb db pa da :=
  ⟨h.keeps.mono (fun _ e => e.symm), h.b0, h.a0, h.b1, h.a1, h.pb, h.pa, fun t u h1 h2 => (h.ap u t h2 h1).symm, h.hB, h.apt.symm, h.lb, h.la, h.nb, h.na⟩
theorem JS.start {w0 B ta tb A C x y} (hB : B ≤ w0.heap.size) (ha : OwnI w0 B ta A) (hb : OwnI w0 B tb C) (hap : Apt ta tb) (na : A.length < 2^38) (nb : C.length < 2^38) : JS w0 B ta tb A C x y w0 none none none none :=
  ⟨Keeps.refl _ _, fun _ => ha, fun _ => hb, fun t e => by simp at e, fun t e => by simp at e, fun t e => by simp at e, fun t e => by simp at e, fun t u e => by simp at e, hB, hap, fun g hg => (ha.lt g hg).2, fun g hg => (hb.lt g hg).2, na, nb⟩
theorem JS.cell {w0 B ta tb A C x y w pa da pb db} (h : JS w0 B ta tb A C x y w pa da pb db) {c : Addr} {v : Value} (hc : w0.cell? c = some v) (h1 : ta.blk ≠ some c.block) (h2 : tb.blk ≠ some c.block) : w.cell? c = some v := by
  have hlt := World.block_lt_of_cell? w0 _ hc
  have := h.keeps.block c.block hlt (fun e => e.elim h1 h2)
  unfold World.cell? at hc ⊢
  rw [this]; exact hc
theorem JS.litA {w0 B ta tb A C x y w da pb db} (h : JS w0 B ta tb A C x y w none da pb db) {K : Sl → World → Prop} (hk : ∀ ρ w', JS w0 B ta tb A C x y w' (some ρ) da pb db → K ρ w') : sem1 .sl PP (Instr.buildSlice T_Sint 1 #[(0, vI x)]) w K := by
  refine ⟨⟨some ⟨w.heap.size, 0, none⟩, 1, 1⟩, _, run_lit1 oneInt (One.int x) w, hk _ _ ?_⟩
  have hg : w.grownBy (w.alloc (.cells #[vI x] T_int)) none := World.grownBy_alloc w _ none
  have kp : ∀ t M, OwnI w B t M → OwnI (w.alloc (.cells #[vI x] T_int)) B t M := fun t M ht => ht.kept hg fun _ _ e => (by cases e)
  refine ⟨h.keeps.trans ((keeps_grown hg).mono fun k e => (by cases e)), fun e => kp _ _ (h.a0 e), fun e => kp _ _ (h.b0 e), fun t e => ⟨kp _ _ (h.a1 t e).1, (h.a1 t e).2⟩, fun t e => ⟨kp _ _ (h.b1 t e).1, (h.b1 t e).2⟩, ?_, fun ρ e => (h.pb ρ e).kept hg fun g e => (by cases e), h.ap, h.hB, h.apt, h.la, h.lb, h.na, h.nb⟩
  intro ρ e
  simp only [Option.some.injEq] at e
  subst e
  exact ⟨_, rfl, h.keeps.size, heap_alloc_new w _⟩
theorem JS.litB {w0 B ta tb A C x y w pa da db} (h : JS w0 B ta tb A C x y w pa da none db) {K : Sl → World → Prop} (hk : ∀ ρ w', JS w0 B ta tb A C x y w' pa da (some ρ) db → K ρ w') : sem1 .sl PP (Instr.buildSlice T_Sint 1 #[(0, vI y)]) w K :=
  h.swap.litA fun ρ w' hj => hk ρ w' hj.swap
theorem JS.appA {w0 B ta tb A C x y w ρ pb db} (h : JS w0 B ta tb A C x y w (some ρ) none pb db) {K : Sl → World → Prop} (hk : ∀ t w', JS w0 B ta tb A C x y w' (some ρ) (some t) pb db → K t w') : sem1 .sl PP (Builtin.append_ #[T_Sint, T_Sint] T_Sint #[ta.v, ρ.v]) w K := by
  have ha := h.a0 rfl
  have hsz := h.keeps.size
  refine append_row oneInt ha (Nat.le_trans h.hB hsz) (h.pa ρ rfl).row (fun v hv => by simp at hv; subst hv; exact One.int x) (by have := h.na; simp; omega) ?_
  intro s' w' ho hg hn _
  have kpl : ∀ t M, OwnI w B t M → (∀ g, t.blk = some g → tb.blk = some g ∨ w0.heap.size ≤ g) → OwnI w' B t M := fun t M ht hh => ht.kept hg fun g h1 h2 => by
    rcases hh g h1 with h3 | h3
    · exact h.apt g h2 h3
    · have := h.la g h2; omega
  refine hk s' w' ⟨h.keeps.trans ((keeps_grown hg).mono fun k e => .inl e), fun e => (by cases e), fun e => kpl _ _ (h.b0 e) fun g hg => .inl hg, fun t e => ?_, fun t e => ⟨kpl _ _ (h.b1 t e).1 (h.b1 t e).2, (h.b1 t e).2⟩, fun ρ e => (h.pa ρ e).kept hg h.la, fun ρ e => (h.pb ρ e).kept hg h.la, fun t u e1 e2 => ?_, h.hB, h.apt, h.la, h.lb, h.na, h.nb⟩
  · simp only [Option.some.injEq] at e
    subst e
    refine ⟨by simpa [OwnI] using ho, fun g hg' => (hn g hg').imp id fun h1 => by omega⟩
  · simp only [Option.some.injEq] at e1
    subst e1
    intro g h1 h2
    have hu := (h.b1 u e2)
    rcases hn g h1 with h3 | h3
    · rcases hu.2 g h2 with h4 | h4
      · exact h.apt g h3 h4
      · have := h.la g h3; omega
    · have := (hu.1.lt g h2).2; omega
theorem JS.appB {w0 B ta tb A C x y w ρ pa da} (h : JS w0 B ta tb A C x y w pa da (some ρ) none) {K : Sl → World → Prop} (hk : ∀ t w', JS w0 B ta tb A C x y w' pa da (some ρ) (some t) → K t w') : sem1 .sl PP (Builtin.append_ #[T_Sint, T_Sint] T_Sint #[tb.v, ρ.v]) w K :=
  h.swap.appA fun t w' hj => hk t w' hj.swap

/-- A row put in a place, whatever became of the row that stood there. -/
theorem OwnRows.set2 {w w' : World} {B : Nat} {s : Sl} {rs : List Sl} {LL : List (List Int)} {i : Nat} {r : Sl} {L : List Int} (hout : Own w B T_Sint s (rs.map Sl.v)) (hl : rs.length = LL.length) (hat : ∀ (j : Nat) t M, j ≠ i → rs[j]? = some t → LL[j]? = some M → OwnI w B t M)
    (hapt : ∀ (j k : Nat) t u, j ≠ k → rs[j]? = some t → rs[k]? = some u → Apt t u) (hr : OwnI w B r L) (hap : ∀ (j : Nat) t, j ≠ i → rs[j]? = some t → Apt t r) (ho : Own w' B T_Sint s ((rs.map Sl.v).set i r.v)) (hg : w.grownBy w' s.blk) :
    OwnRows w' B s (rs.set i r) (LL.set i L) := by
  have kept : ∀ t M, OwnI w B t M → OwnI w' B t M := fun t M ht => ht.kept hg (fun g hg' e => (hout.apt ht (by decide)) g e hg')
  refine ⟨by simpa [List.map_set] using ho, by simp [hl], fun j t M e1 e2 => ?_, fun j k t u hjk e1 e2 => ?_⟩
  · rw [List.getElem?_set] at e1 e2
    by_cases hj : i = j
    · subst hj
      rw [if_pos rfl] at e1 e2
      split at e1
      · split at e2
        · simp only [Option.some.injEq] at e1 e2; subst e1 e2; exact kept _ _ hr
        · cases e2
      · cases e1
    · rw [if_neg hj] at e1 e2; exact kept _ _ (hat j t M (fun e => hj e.symm) e1 e2)
  · rw [List.getElem?_set] at e1 e2
    by_cases hj : i = j
    · subst hj
      rw [if_pos rfl] at e1
      rw [if_neg hjk] at e2
      split at e1
      · simp only [Option.some.injEq] at e1; subst e1; exact (hap k u (Ne.symm hjk) e2).symm
      · cases e1
    · rw [if_neg hj] at e1
      by_cases hk : i = k
      · subst hk
        rw [if_pos rfl] at e2
        split at e2
        · simp only [Option.some.injEq] at e2; subst e2; exact hap j t (Ne.symm hj) e1
        · cases e2
      · rw [if_neg hk] at e2; exact hapt j k t u hjk e1 e2
/-- A table after the steps, with the new row stored. -/
theorem OwnRows.storeK {w0 w B s rs LL} {S : Nat → Prop} (h : OwnRows w0 B s rs LL) {i : Int} (h0 : 0 ≤ i) (hi : i < LL.length) {t t' : Sl} {L' : List Int} (ht : rs[i.toNat]? = some t) (hk : Keeps S w0 w) (hS : ∀ g, foot s rs g → S g → t.blk = some g)
    (hr : OwnI w B t' L') (hn : ∀ g, t'.blk = some g → t.blk = some g ∨ w0.heap.size ≤ g) {K : World → Prop}
    (hK : ∀ w', OwnRows w' B s (rs.set i.toNat t') (LL.set i.toNat L') → w.grownBy w' s.blk → Stp w0 w' (fun g => S g ∨ foot s rs g) (foot s (rs.set i.toNat t')) → K w') : idxK 1 s i fun a => storeC a t'.v w K := by
  have hlt : i.toNat < LL.length := by omega
  have hot := h.at_ i.toNat t _ ht (List.getElem?_eq_getElem hlt)
  have hout : Own w B T_Sint s (rs.map Sl.v) := h.out.keeps hk fun g hg hs => (h.out.apt hot (by decide)) g hg (hS g (.inl hg) hs)
  have hm : t ∈ rs := List.mem_of_getElem? ht
  refine Own.put hout h0 (by rw [List.length_map, h.len]; exact hi) (v := t'.v) ?_
  intro w6 ho6 hg6 _
  refine hK w6 (OwnRows.set2 hout h.len (fun j u M hj e1 e2 => (h.at_ j u M e1 e2).keeps hk fun g hg hs => h.apt j i.toNat u t hj e1 ht g hg (hS g (.inr ⟨u, List.mem_of_getElem? e1, hg⟩) hs)) (fun j k t u hjk e1 e2 => h.apt j k t u hjk e1 e2) hr ?_ ho6 hg6) hg6 ⟨?_, fun g hg => ?_⟩
  · intro j u hj hu g h1 h2
    rcases hn g h2 with h3 | h3
    · exact h.apt j i.toNat u t hj hu ht g h1 h3
    · have := (h.lt (List.mem_of_getElem? hu) h1).2; omega
  · exact (hk.mono fun k e => .inl e).trans ((keeps_grown hg6).mono fun k e => .inr (.inl e))
  · rcases hg with hg | ⟨r, hr', hg⟩
    · exact .inl (.inr (.inl hg))
    · rcases List.mem_or_eq_of_mem_set hr' with hr' | rfl
      · exact .inl (.inr (.inr ⟨r, hr', hg⟩))
      · rcases hn g hg with h3 | h3
        · exact .inl (.inr (.inr ⟨t, hm, h3⟩))
        · exact .inr h3
theorem OwnRows.placeT {w B s rs LL} (h : OwnRows w B s rs LL) {i : Int} (h0 : 0 ≤ i) (hi : i < LL.length) {t : Sl} (ht : rs[i.toNat]? = some t) {K : Addr → Prop} (hk : ∀ a, s.blk = some a.block → w.cell? a = some t.v → K a) : idxK 1 s i K := by
  have hn := h.n
  have hlt : i.toNat < LL.length := by omega
  rcases h.out.at_ with hc | ⟨g, cur, ha, hb, hg, hs, htk⟩
  · have := h.out.nc; omega
  · have hc0 : s.c ≠ 0 := by have := h.out.nc; omega
    refine ⟨⟨g, 0, none⟩, ha, h0, by omega, ?_⟩
    rw [Nat.mul_one]
    refine hk _ ?_ ?_
    · rw [add_block]; simp [Sl.blk, hc0, ha]
    · obtain ⟨a, ha', hcell⟩ := h.out.row.cell i.toNat t.v (by rw [List.getElem?_map, ht]; rfl)
      rw [ha] at ha'; cases ha'; exact hcell
/-- A variable of the call's own: a slice of one number. -/
@[reducible] def vsl (v : Addr) : Sl := ⟨some v, 1, 1⟩
theorem vsl_cell {w B v x} (h : OwnI w B (vsl v) [x]) : w.cell? v = some (vI x) := by
  obtain ⟨a, ha, hc⟩ := h.row.cell 0 (vI x) rfl
  simp only [Option.some.injEq] at ha
  subst ha
  rwa [add_zero'] at hc
theorem vsl_blk (v : Addr) : (vsl v).blk = some v.block := by simp [Sl.blk]
theorem vsl_new {w : World} {B : Nat} (hB : B ≤ w.heap.size) {x : Int} {u : Int} {K : Addr → World → Prop} (hk : ∀ v w', OwnI w' B (vsl v) [x] → w.heap.size ≤ v.block → Below w.heap.size w w' → K v w') : newK T_int #[vI u] w fun v w1 => storeC v (vI x) w1 (K v) := by
  have hnew := heap_alloc_new w (.cells #[vI u] T_int)
  have hc : (w.alloc (.cells #[vI u] T_int)).cell? ⟨w.heap.size, 0, none⟩ = some (vI u) := by
    have := cell_of_row (w.alloc (.cells #[vI u] T_int)) w.heap.size 0 #[vI u] T_int (0, 0) hnew
    rw [this]; rfl
  refine ⟨⟨vI u, hc⟩, by simp only [World.frozen?, hnew]; rfl, hk _ _ ?_ (Nat.le_refl _) ?_⟩
  · have h1 : ((w.alloc (.cells #[vI u] T_int)).setCell ⟨w.heap.size, 0, none⟩ (vI x)).heap[w.heap.size]? = some (.cells (#[vI u].setIfInBounds 0 (vI x)) T_int (0, 0)) := by
      simp only [World.setCell, Array.getElem?_modify, hnew]; rfl
    refine ⟨rfl, Nat.le_refl _, by simp only [maxLen]; omega, .inr ⟨_, _, rfl, hB, h1, rfl, rfl⟩⟩
  · have hb := below_of_grow (World.grownBy_alloc w (.cells #[vI u] T_int) none)
    refine ⟨hb.os, hb.tape, hb.output, by simp [World.setCell], fun k hk => ?_⟩
    rw [Below.heap_setCell _ _ _ _ (by simp; omega)]
    exact hb.block k hk
theorem vsl_store {w B v x y} (h : OwnI w B (vsl v) [x]) {K : World → Prop} (hk : ∀ w', OwnI w' B (vsl v) [y] → w.grownBy w' (some v.block) → K w') : storeC v (vI y) w K := by
  have := Own.put (i := 0) (v := vI y) h (by omega) (by simp) (K := K) fun w' h1 h2 _ => hk w' (by simpa [OwnI] using h1) (by rw [vsl_blk] at h2; exact h2)
  obtain ⟨a, ha, _, _, hs⟩ := this
  simp only [Option.some.injEq] at ha
  subst ha
  simpa [add_zero'] using hs
end Go.Proofs.Ytdchjhhpbdekeaa

/- What each function does, step by step, written by a program (Gen.lean); each equation is checked by the kernel. -/
namespace Go.Proofs.Ytdchjhhpbdekeaa
open Go
set_option linter.unusedVariables false
set_option maxRecDepth 100000
namespace slices_IndexFunc___int_int_
@[reducible] def cfg : Cfg := ⟨19, [(2, [0, 1, 7, 8])], [(1, [0, 1, 7, 8]), (0, [])], [], [4], [], [101, 107, 112, 15, 21, 124, 76, 137, 28, 115, 91, 81, 130], [138, 140, 82, 6, 86, 85, 132]⟩
def q0 (pr : Prims) (R : Ending → World → Prop) : Exit → Env → World → Prop := fun ex e w => normQ ex (fun e w => contE pr cfg (sub (codeOf Try.f100) [1, 1]) (fun e w => wpC pr PP cfg (DD pr) (sub (codeOf Try.f100) [1, 1]) (retQ Try.f100.results.toList R) e w) e w) (retQ Try.f100.results.toList R) e w
def q1 (pr : Prims) (R : Ending → World → Prop) : Exit → Env → World → Prop := fun ex e w => blockQ ex 0 (q0 pr R) e w
def emb2 (s_0 : Sl) (f_1 : Value) (t7 : Int) (t8 : Int) : Env := [(0, Sl.v s_0), (1, f_1), (7, vI t7), (8, vI t8)]
def x0 : Env := []
def S2 (pr : Prims) (Q : Exit → Env → World → Prop) : (Env → World → Prop) → Env → World → Prop := fun k e w => wpC pr PP cfg (DD pr) (sub (codeOf Try.f100) [1, 0, 1, 0, 0]) (fun ex e w => normQ ex (fun e' w' => k (Env.restr e' (lookN cfg.loops (keyOf (sub (codeOf Try.f100) [1, 0, 1, 0, 0])))) w') Q e w) e w
def B2 (pr : Prims) (s_0 : Sl) (f_1 : Value) (t7 : Int) (t8 : Int) (w : World) (k : Env → World → Prop) (Q : Exit → Env → World → Prop) : Prop :=
  S2 pr Q k (emb2 s_0 f_1 t7 t8) w
def L2 (pr : Prims) (s_0 : Sl) (f_1 : Value) (t7 : Int) (t8 : Int) (w : World) (Q : Exit → Env → World → Prop) : Prop :=
  pr.loop (S2 pr Q) (emb2 s_0 f_1 t7 t8) w
def E (pr : Prims) (s_0 : Sl) (f_1 : Value) (w : World) (R : Ending → World → Prop) : Prop :=
  wpC pr PP cfg (DD pr) (codeOf Try.f100) (retQ Try.f100.results.toList R) (argE 0 [Sl.v s_0, f_1]) w
theorem B2_eq (pr : Prims) (s_0 : Sl) (f_1 : Value) (t7 : Int) (t8 : Int) (w : World) (k : Env → World → Prop) (Q : Exit → Env → World → Prop) : B2 pr s_0 f_1 t7 t8 w k Q = (
  bif decide (t8 < t7) then (
  pr.idxK 1 s_0 t8 fun (a2 : Addr) =>
  pr.load1 (.int .i64) a2 w fun (ξ3 : Int) =>
  pr.callV1 .bool PP (f_1) [vI ξ3] w fun (ρ4 : Bool) ω5 =>
  bif ρ4 then (
  Q .ret [(4, vI t8)] ω5)
  else (
  k (emb2 s_0 f_1 t7 (w64 (t8 + 1))) ω5))
  else (
  Q (.exit 0) (x0) w)) := by kernel_rfl
theorem B2_s (s_0 : Sl) (f_1 : Value) (t7 : Int) (t8 : Int) (w : World) (k : Env → World → Prop) (Q : Exit → Env → World → Prop) : B2 std s_0 f_1 t7 t8 w k Q = (
  bif decide (t8 < t7) then (
  idxK 1 s_0 t8 fun (a2 : Addr) =>
  load1 (.int .i64) a2 w fun (ξ3 : Int) =>
  callV1 .bool PP (f_1) [vI ξ3] w fun (ρ4 : Bool) ω5 =>
  bif ρ4 then (
  Q .ret [(4, vI t8)] ω5)
  else (
  k (emb2 s_0 f_1 t7 (w64 (t8 + 1))) ω5))
  else (
  Q (.exit 0) (x0) w)) := B2_eq std s_0 f_1 t7 t8 w k Q
theorem L2_rule (s_0 : Sl) (f_1 : Value) (t7 : Int) (t8 : Int) (w : World) (Q : Exit → Env → World → Prop) (I : Int → World → Prop) (μ : Int → World → Nat) (h0 : I t8 w)
    (h : ∀ (t8 : Int) (w' : World), I t8 w' → B2 std s_0 f_1 t7 t8 w' (fun e2 w2 => ∃ t8_n, e2 = emb2 s_0 f_1 t7 t8_n ∧ I t8_n w2 ∧ μ t8_n w2 < μ t8 w') Q) :
    L2 std s_0 f_1 t7 t8 w Q := by
  unfold L2
  refine LoopE.intro (σ := Int) (step := S2 std Q) (fun s => emb2 s_0 f_1 t7 s) (fun s w => I s w) (fun s w => μ s w) t8 rfl h0 ?_
  intro s w' hI
  have h1 := h s w' hI
  unfold B2 at h1
  exact h1
theorem A2_0_eq (pr : Prims) (w : World) (R : Ending → World → Prop) : (q1 pr R) (.exit 0) (x0) w = (
  R (.returned (vI (-1))) w) := by kernel_rfl
theorem A2_0_s (w : World) (R : Ending → World → Prop) : (q1 std R) (.exit 0) (x0) w = (
  R (.returned (vI (-1))) w) := A2_0_eq std w R
theorem R2_eq (pr : Prims) (v4 : Value) (w : World) (R : Ending → World → Prop) : (q1 pr R) .ret [(4, v4)] w = (
  R (.returned (v4)) w) := by kernel_rfl
theorem R2_s (v4 : Value) (w : World) (R : Ending → World → Prop) : (q1 std R) .ret [(4, v4)] w = (
  R (.returned (v4)) w) := R2_eq std v4 w R
theorem E_eq (pr : Prims) (s_0 : Sl) (f_1 : Value) (w : World) (R : Ending → World → Prop) : E pr s_0 f_1 w R = (
  L2 pr s_0 f_1 (s_0.n : Int) 0 w (q1 pr R)) := by kernel_rfl
theorem E_s (s_0 : Sl) (f_1 : Value) (w : World) (R : Ending → World → Prop) : E std s_0 f_1 w R = (
  L2 std s_0 f_1 (s_0.n : Int) 0 w (q1 std R)) := E_eq std s_0 f_1 w R
theorem drawsOk : drawsOk PP cfg okD (codeOf Try.f100) = true := by kernel_rfl
theorem calls (s_0 : Sl) (f_1 : Value) {w : World} {R : Ending → World → Prop} (h : E std s_0 f_1 w R) : Calls PP F.slices_IndexFunc___int_int_ #[Sl.v s_0, f_1] w R :=
  calls_of noCount mixed drawOk Try.func100 rfl (c := cfg) (args := [Sl.v s_0, f_1]) rfl (Nat.le_of_ble_eq_true (by kernel_rfl)) drawsOk h
end slices_IndexFunc___int_int_

end Go.Proofs.Ytdchjhhpbdekeaa

/- Function values with one bool result; new variables. -/
namespace Go.Proofs.Ytdchjhhpbdekeaa
open Go Go.RowKit
set_option maxRecDepth 100000

/-- A function value that answers b, and adds to memory at most. -/
def FnB (w0 : World) (f : Value) (args : List Value) (b : Bool) : Prop := ∀ w, Below w0.heap.size w0 w → ∃ g first cap, f = .func (.func g) first cap ∧ bodied PP g = true ∧ Calls PP g ((first ++ args.toArray) ++ cap) w fun e w' => e = .returned (.bool b) ∧ Below w.heap.size w w'
theorem FnB.callV1 {w0 f args b} (h : FnB w0 f args b) {w : World} (hb : Below w0.heap.size w0 w) {K : Bool → World → Prop} (hk : ∀ w', Below w.heap.size w w' → K b w') : callV1 .bool PP f args w K := by
  obtain ⟨g, first, cap, hf, hbd, hc⟩ := h w hb
  exact ⟨g, first, cap, hf, hbd, hc.mono fun e w' ⟨he, hb⟩ => ⟨b, he, hk w' hb⟩⟩
theorem FnB.grow {w0 f args b} (h : FnB w0 f args b) {w : World} (hb : Below w0.heap.size w0 w) : FnB w f args b := fun w' hb' => h w' (hb.trans (hb'.mono hb.size))
theorem cell_grow {w w' : World} {a : Addr} {v : Value} (h : w.cell? a = some v) (hb : Below w.heap.size w w') : w'.cell? a = some v := by
  rw [hb.cell (World.block_lt_of_cell? w _ h)]; exact h
theorem new_one {t : TypeId} {v : Value} {w : World} {K : Addr → World → Prop} (h : ∀ ad w', w'.cell? ad = some v → Below w.heap.size w w' → K ad w') : newK t #[v] w K := by
  refine h ⟨w.heap.size, 0, none⟩ (w.alloc (.cells #[v] t)) ?_ (below_of_grow (World.grownBy_alloc w _ none))
  have := cell_of_row (w.alloc (.cells #[v] t)) w.heap.size 0 #[v] t (0, 0) (heap_alloc_new w _)
  rw [this]; rfl
/-- A new variable, set at once. -/
theorem new_set {t : TypeId} {u v : Value} {w : World} {K : Addr → World → Prop} (h : ∀ ad w', w'.cell? ad = some v → Below w.heap.size w w' → K ad w') : newK t #[u] w fun ad w1 => storeC ad v w1 (K ad) := by
  have hnew := heap_alloc_new w (.cells #[u] t)
  have hc : (w.alloc (.cells #[u] t)).cell? ⟨w.heap.size, 0, none⟩ = some u := by
    have := cell_of_row (w.alloc (.cells #[u] t)) w.heap.size 0 #[u] t (0, 0) hnew
    rw [this]; rfl
  refine ⟨⟨u, hc⟩, by simp only [World.frozen?, hnew]; rfl, h _ _ ?_ ?_⟩
  · have h1 : ((w.alloc (.cells #[u] t)).setCell ⟨w.heap.size, 0, none⟩ v).heap[w.heap.size]? = some (.cells (#[u].setIfInBounds 0 v) t (0, 0)) := by
      simp only [World.setCell, Array.getElem?_modify, hnew]; rfl
    have := cell_of_row _ w.heap.size 0 _ t (0, 0) h1
    rw [this]; rfl
  · have hb := below_of_grow (World.grownBy_alloc w (.cells #[u] t) none)
    refine ⟨hb.os, hb.tape, hb.output, by simp [World.setCell], fun k hk => ?_⟩
    rw [Below.heap_setCell _ _ _ _ (by simp; omega)]
    exact hb.block k hk
def idxF {α : Type} (φ : α → Bool) (l : List α) : Int := if l.findIdx φ < l.length then (l.findIdx φ : Int) else -1
theorem idxF_nonneg {α : Type} {φ : α → Bool} {l : List α} : decide (idxF φ l ≥ 0) = l.any φ := by
  unfold idxF
  split
  · rename_i h
    rw [List.findIdx_lt_length] at h
    obtain ⟨x, h1, h2⟩ := h
    rw [List.any_eq_true.2 ⟨x, h1, h2⟩, decide_eq_true (by omega)]
  · rename_i h
    rw [List.findIdx_lt_length] at h
    rw [decide_eq_false (by omega)]
    symm
    rw [List.any_eq_false]
    intro x hx hp
    exact h ⟨x, hx, hp⟩
theorem idxF_at {α : Type} {φ : α → Bool} {l : List α} {i : Nat} (hi : i < l.length) (h1 : φ l[i] = true) (h2 : ∀ j (hj : j < i), φ (l[j]'(by omega)) = false) : idxF φ l = i := by
  have : l.findIdx φ = i := by rw [List.findIdx_eq hi]; exact ⟨h1, h2⟩
  rw [idxF, this, if_pos hi]
theorem idxF_none {α : Type} {φ : α → Bool} {l : List α} (h : ∀ j (hj : j < l.length), φ l[j] = false) : idxF φ l = -1 := by
  rw [idxF, if_neg]
  intro h5
  rw [List.findIdx_lt_length] at h5
  obtain ⟨x, h6, h7⟩ := h5
  obtain ⟨i, hi, rfl⟩ := List.getElem_of_mem h6
  rw [h i hi] at h7; cases h7
end Go.Proofs.Ytdchjhhpbdekeaa

/- The library's IndexFunc over rows of ints. -/
namespace Go.Proofs.Ytdchjhhpbdekeaa
open Go Go.RowKit
set_option maxRecDepth 100000

theorem c_IndexFuncI {w : World} {a : Sl} {L : List Int} (ha : RowI w a L) (hL : L.length < 2^38) {f : Value} {φ : Int → Bool} (hf : ∀ x ∈ L, FnB w f [vI x] (φ x)) :
    Calls PP F.slices_IndexFunc___int_int_ #[a.v, f] w fun e w' => e = .returned (vI (idxF φ L)) ∧ Below w.heap.size w w' := by
  have han : a.n = L.length := by have := ha.n; simpa using this
  refine slices_IndexFunc___int_int_.calls a f ?_
  rw [slices_IndexFunc___int_int_.E_s, han]
  refine slices_IndexFunc___int_int_.L2_rule _ _ _ _ _ _ (I := fun k w' => 0 ≤ k ∧ k ≤ L.length ∧ Below w.heap.size w w' ∧ ∀ j (hj : j < L.length), j < k.toNat → φ L[j] = false) (μ := fun k _ => (L.length - k).toNat)
    ⟨by omega, by omega, Below.refl _ _, fun j _ hj => by simp at hj⟩ ?_
  rintro k w' ⟨h0, hk, hb, hall⟩
  rw [slices_IndexFunc___int_int_.B2_s]
  refine bif_dec (fun h3 => ?_) (fun h3 => ?_)
  · have hlt : k.toNat < L.length := by omega
    refine RowI.get (ha.grow hb) h0 (by omega) ?_
    rw [getD_eq hlt]
    refine (hf _ (List.getElem_mem hlt)).callV1 hb ?_
    intro w2 hb2
    refine bif_intro (fun h4 => ?_) (fun h4 => ?_)
    · rw [slices_IndexFunc___int_int_.R2_s]
      refine ⟨?_, hb.trans (hb2.mono hb.size)⟩
      rw [idxF_at hlt h4 (fun j hj => hall j (by omega) hj)]
      congr 2; omega
    · refine ⟨k + 1, by rw [w64_succ h0 (by omega)], ⟨by omega, by omega, hb.trans (hb2.mono hb.size), fun j hj1 hj => ?_⟩, by omega⟩
      by_cases e : j = k.toNat
      · subst e; exact h4
      · exact hall j hj1 (by omega)
  · rw [slices_IndexFunc___int_int_.A2_0_s]
    exact ⟨by rw [idxF_none (fun j hj => hall j hj (by omega))], hb⟩
end Go.Proofs.Ytdchjhhpbdekeaa

/- A number changed in a table. No program in sight. -/
namespace Go.Proofs.Ytdchjhhpbdekeaa
open Go
set_option maxRecDepth 100000

theorem flat_set {T : List (List Int)} {r c : Nat} {x : Int} (hr : r < T.length) (hc : c < (T.getD r []).length) : ((T.getD r []).getD c 0 :: (T.set r ((T.getD r []).set c x)).flatten).Perm (x :: T.flatten) := by
  have h1 : T = T.take r ++ T.getD r [] :: T.drop (r + 1) := by rw [List.getD_eq_getElem?_getD, List.getElem?_eq_getElem hr]; simp
  have h2 : T.set r ((T.getD r []).set c x) = T.take r ++ (T.getD r []).set c x :: T.drop (r + 1) := by rw [List.set_eq_take_append_cons_drop, if_pos hr]
  rw [h2]
  conv => rhs; rw [h1]
  generalize hR : T.getD r [] = R at *
  have h3 : R = R.take c ++ R.getD c 0 :: R.drop (c + 1) := by rw [getD_lt hc]; simp
  have h4 : R.set c x = R.take c ++ x :: R.drop (c + 1) := by rw [List.set_eq_take_append_cons_drop, if_pos hc]
  rw [h4]
  conv => rhs; rw [h3]
  generalize R.getD c 0 = m
  generalize R.take c = A
  generalize R.drop (c + 1) = D
  generalize T.take r = U
  generalize T.drop (r + 1) = V
  simp only [List.flatten_append, List.flatten_cons, List.append_assoc, List.cons_append]
  rw [← List.append_assoc U.flatten A, ← List.append_assoc U.flatten A]
  refine (List.Perm.cons m List.perm_middle).trans ?_
  refine (List.Perm.swap x m _).trans ?_
  exact List.Perm.cons x List.perm_middle.symm
end Go.Proofs.Ytdchjhhpbdekeaa

/- InsertPerm: the program's text. -/
namespace Go.Proofs.Ytdchjhhpbdekeaa
open Go Go.RowKit
set_option maxRecDepth 100000

theorem rpos_find : ∀ {R : List Int} {x : Int}, x ∉ R → rpos R x = R.findIdx (fun y => decide (y > x))
  | [], x, _ => rfl
  | a :: R, x, h => by
    simp only [List.mem_cons, not_or] at h
    rw [rpos, List.findIdx_cons, rpos_find h.2]
    by_cases h1 : a < x
    · rw [if_pos h1, decide_eq_false (by omega)]; rfl
    · rw [if_neg h1, decide_eq_true (by omega)]; rfl
theorem idxF_rpos {R : List Int} {x : Int} (h : x ∉ R) : idxF (fun y => decide (y > x)) R = if rpos R x < R.length then (rpos R x : Int) else -1 := by
  rw [idxF, rpos_find h]
theorem c_InsertFn {w0 : World} {v : Addr} {x : Int} (hv : w0.cell? v = some (vI x)) (y : Int) : FnB w0 (.func (.func F.impl_InsertPermL1) #[] #[.pointer (some v)]) [vI y] (decide (y > x)) := by
  intro w hb
  refine ⟨F.impl_InsertPermL1, #[], #[.pointer (some v)], rfl, by kernel_rfl, ?_⟩
  refine impl_InsertPermL1.calls y v ?_
  rw [impl_InsertPermL1.E_s]
  exact load_int (cell_grow hv hb) ⟨rfl, Below.refl _ _⟩
/-- What stands between two numbers of the list: the state of the inner loop. -/
structure InnS (w0 : World) (B : Nat) (b : Sl) (rsb : List Sl) (Q : List (List Int)) (L : List Int) (k : Nat) (P : List (List Int)) (rw_ : Nat) (a : Sl) (rsa : List Sl) (T : List (List Int)) (v : Addr) (x : Int) (w : World) : Prop where
  below : Below B w0 w
  hB : B ≤ w.heap.size
  oa : OwnRows w B a rsa T
  ob : OwnRows w B b rsb Q
  ab : ∀ g, foot a rsa g → ¬ foot b rsb g
  ov : OwnI w B (vsl v) [x]
  va : ∀ g, foot a rsa g → v.block ≠ g
  vb : ∀ g, foot b rsb g → v.block ≠ g
  len : T.length = P.length
  ins : T.take rw_ ++ tabIns (T.drop rw_) x = insP (L.take (k + 1))
  row : rw_ + tabRow (T.drop rw_) x = tabRow P (L.getD k 0)
  perm : (x :: T.flatten).Perm (L.take (k + 1))
theorem InnS.fresh {w0 B b rsb Q L k P r a rsa T v x w} (h : InnS w0 B b rsb Q L k P r a rsa T v x w) (hn : L.Nodup) {i : Nat} (hi : i < T.length) : x ∉ T.getD i [] := by
  have h1 : (x :: T.flatten).Nodup := h.perm.nodup_iff.2 (hn.sublist (List.take_sublist _ _))
  intro hm
  exact (List.nodup_cons.1 h1).1 (List.mem_flatten.2 ⟨T.getD i [], by rw [getD_SS hi]; exact List.getElem_mem hi, hm⟩)
theorem InnS.rowLen {w0 B b rsb Q L k P r a rsa T v x w} (h : InnS w0 B b rsb Q L k P r a rsa T v x w) {i : Nat} (hi : i < T.length) : (T.getD i []).length ≤ L.length := by
  have h1 := h.perm.length_eq
  have h2 := flat_tab (T := T) (R := T.getD i []) (by rw [getD_SS hi]; exact List.getElem_mem hi)
  rw [List.length_cons, List.length_take] at h1
  omega
theorem insQ_rows (L : List Int) : ∀ m, (∀ M ∈ insQ L m, M.length ≤ m) ∧ (insQ L m).length ≤ m
  | 0 => by simp [insQ]
  | m + 1 => by
    have ih := insQ_rows L m
    rw [insQ, addAt]
    split
    · rename_i hlt
      refine ⟨fun M hM => ?_, by simp; omega⟩
      rcases List.mem_or_eq_of_mem_set hM with hM | rfl
      · have := ih.1 M hM; omega
      · have := ih.1 _ (show (insQ L m).getD (tabRow (insP (L.take m)) (L.getD m 0)) [] ∈ insQ L m by rw [getD_SS hlt]; exact List.getElem_mem hlt)
        simp at this ⊢; omega
    · refine ⟨fun M hM => ?_, by simp; omega⟩
      rcases List.mem_append.1 hM with hM | hM
      · have := ih.1 M hM; omega
      · simp at hM; subst hM; simp
/-- The state of the outer loop. -/
def OutS (w0 : World) (B : Nat) (L : List Int) (a b : Sl) (k : Int) (w : World) : Prop :=
  0 ≤ k ∧ k ≤ L.length ∧ Below B w0 w ∧ B ≤ w.heap.size ∧ ∃ rsa rsb, OwnRows w B a rsa (insP (L.take k.toNat)) ∧ OwnRows w B b rsb (insQ L k.toNat) ∧ (∀ g, foot a rsa g → ¬ foot b rsb g)
set_option maxHeartbeats 4000000 in
/-- The last step of a number: both rows grow, whatever the order. -/
theorem both_grow {w0 w : World} {B : Nat} {L : List Int} {a b : Sl} {rsa rsb : List Sl} {T Q : List (List Int)} {k r : Int} {v : Addr} {x : Int} (hk0 : 0 ≤ k) (hkL : k < L.length) (hL : L.length < 2^30) (hb : Below B w0 w) (hB : B ≤ w.heap.size)
    (oa : OwnRows w B a rsa T) (ob : OwnRows w B b rsb Q) (ab : ∀ g, foot a rsa g → ¬ foot b rsb g) (ov : OwnI w B (vsl v) [x]) (va : ∀ g, foot a rsa g → v.block ≠ g) (vb : ∀ g, foot b rsb g → v.block ≠ g)
    (hr0 : 0 ≤ r) (hra : r < T.length) (hrb : r < Q.length) (hTl : (T.getD r.toNat []).length ≤ L.length) (hQl : (Q.getD r.toNat []).length ≤ L.length)
    (eP : T.set r.toNat (T.getD r.toNat [] ++ [x]) = insP (L.take (k + 1).toNat)) (eQ : Q.set r.toNat (Q.getD r.toNat [] ++ [k + 1]) = insQ L (k + 1).toNat) {p : Sl} {n : Int} {Qk : Exit → Env → World → Prop} {μ0 : Nat} (hμ : (L.length - (k + 1)).toNat < μ0) :
    impl_InsertPerm.J15 std a b k v r p n k w (fun e2 w2 => ∃ a_n b_n k_n, e2 = impl_InsertPerm.emb5 a_n b_n p n k_n ∧ OutS w0 B L a_n b_n k_n w2 ∧ (L.length - k_n).toNat < μ0) Qk := by
  obtain ⟨ta, hta, hoa⟩ := oa.get (i := r.toNat) (by omega)
  obtain ⟨tb, htb, hob⟩ := ob.get (i := r.toNat) (by omega)
  have hma := List.mem_of_getElem? hta
  have hmb := List.mem_of_getElem? htb
  have hapt : Apt ta tb := fun g h1 h2 => ab g (.inr ⟨ta, hma, h1⟩) (.inr ⟨tb, hmb, h2⟩)
  rw [impl_InsertPerm.J15_s, w64_succ hk0 (by omega)]
  refine drew_intro fun w1 hd1 => ?_
  have hh := hd1.heap'
  have hb1 : Below B w0 w1 := hb.trans (hd1.below _)
  have hB1 : B ≤ w1.heap.size := by rw [hh]; exact hB
  replace oa := oa.heap hh
  replace ob := ob.heap hh
  replace ov := Own.heap ov hh
  replace hoa := Own.heap hoa hh
  replace hob := Own.heap hob hh
  refine oa.placeT hr0 (by omega) hta fun aa haa hca => ?_
  refine ob.placeT hr0 (by omega) htb fun ad had hcb => ?_
  have hcv := vsl_cell ov
  have na1 : ta.blk ≠ some aa.block := fun e => (oa.out.apt hoa (by decide)) _ haa e
  have na2 : tb.blk ≠ some aa.block := fun e => (oa.out.apt hob (by decide)) _ haa e
  have nb1 : ta.blk ≠ some ad.block := fun e => (ob.out.apt hoa (by decide)) _ had e
  have nb2 : tb.blk ≠ some ad.block := fun e => (ob.out.apt hob (by decide)) _ had e
  have nv1 : ta.blk ≠ some v.block := fun e => va _ (.inr ⟨ta, hma, e⟩) rfl
  have nv2 : tb.blk ≠ some v.block := fun e => vb _ (.inr ⟨tb, hmb, e⟩) rfl
  have h0 : JS w1 B ta tb (T.getD r.toNat []) (Q.getD r.toNat []) x (k + 1) w1 none none none none := JS.start hB1 hoa hob hapt (by omega) (by omega)
  have fin : ∀ (w' : World) (pa pb : Option Sl) (ta' tb' : Sl), JS w1 B ta tb (T.getD r.toNat []) (Q.getD r.toNat []) x (k + 1) w' pa (some ta') pb (some tb') →
      idxK 1 a r fun (a17 : Addr) => storeC a17 (Sl.v ta') w' fun w2 => idxK 1 b r fun (a18 : Addr) => storeC a18 (Sl.v tb') w2 fun w3 => ∃ a_n b_n k_n, impl_InsertPerm.emb5 a b p n (k + 1) = impl_InsertPerm.emb5 a_n b_n p n k_n ∧ OutS w0 B L a_n b_n k_n w3 ∧ (L.length - k_n).toNat < μ0 := by
    intro w' pa pb ta' tb' hj
    obtain ⟨hta', hna⟩ := hj.a1 ta' rfl
    obtain ⟨htb', hnb⟩ := hj.b1 tb' rfl
    refine oa.storeK hr0 (by omega) hta hj.keeps (fun g h1 h2 => ?_) hta' hna fun w2 oa2 hg2 st2 => ?_
    · rcases h2 with h2 | h2
      · exact h2
      · exact absurd (.inr ⟨tb, hmb, h2⟩) (ab g h1)
    rw [eP] at oa2
    have ok2 : ∀ t M, OwnI w' B t M → OwnI w2 B t M := fun t M ht => ht.kept hg2 fun g h1 h2 => (oa.out.keeps hj.keeps (fun g' h3 h4 => by
      rcases h4 with h4 | h4
      · exact (oa.out.apt hoa (by decide)) g' h3 h4
      · exact (oa.out.apt hob (by decide)) g' h3 h4)).apt ht (by decide) g h2 h1
    refine ob.storeK hr0 (by omega) htb (S := fun g => (ta.blk = some g ∨ tb.blk = some g) ∨ foot a rsa g) st2.keeps (fun g h1 h2 => ?_) (ok2 _ _ htb') hnb fun w3 ob3 hg3 st3 => ?_
    · rcases h2 with (h2 | h2) | h2
      · exact absurd h1 (ab g (.inr ⟨ta, hma, h2⟩))
      · exact h2
      · exact absurd h1 (ab g h2)
    rw [eQ] at ob3
    refine ⟨a, b, k + 1, rfl, ⟨by omega, by omega, ?_, ?_, _, _, oa2.keeps (keeps_grown hg3) (fun g h1 h2 => ab g (.inl h1) (.inl h2)) (fun t ht g h1 h2 => ?_), ob3, fun g h1 h2 => ?_⟩, hμ⟩
    · refine hb1.trans (st3.keeps.below (fun g hg => ?_) hB1)
      rcases hg with ((hg | hg) | hg) | hg
      · exact (oa.lt hma hg).1
      · exact (ob.lt hmb hg).1
      · exact (oa.footLt hg).1
      · exact (ob.footLt hg).1
    · exact Nat.le_trans hB1 st3.keeps.size
    · obtain ⟨M, _, hM⟩ := oa2.own ht
      exact (ob.out.keeps st2.keeps (fun g' h3 h4 => by
        rcases h4 with (h4 | h4) | h4
        · exact (ob.out.apt hoa (by decide)) g' h3 h4
        · exact (ob.out.apt hob (by decide)) g' h3 h4
        · exact ab g' h4 (.inl h3))).apt hM (by decide) g h2 h1
    · rcases h1 with h1 | ⟨t, ht, h1⟩
      · rcases h2 with h2 | ⟨u, hu, h2⟩
        · exact ab g (.inl h1) (.inl h2)
        · rcases List.mem_or_eq_of_mem_set hu with hu | rfl
          · exact ab g (.inl h1) (.inr ⟨u, hu, h2⟩)
          · rcases hnb g h2 with h3 | h3
            · exact ab g (.inl h1) (.inr ⟨tb, hmb, h3⟩)
            · have := (oa.out.lt g h1).2; omega
      · rcases List.mem_or_eq_of_mem_set ht with ht | rfl
        · rcases h2 with h2 | ⟨u, hu, h2⟩
          · exact ab g (.inr ⟨t, ht, h1⟩) (.inl h2)
          · rcases List.mem_or_eq_of_mem_set hu with hu | rfl
            · exact ab g (.inr ⟨t, ht, h1⟩) (.inr ⟨u, hu, h2⟩)
            · rcases hnb g h2 with h3 | h3
              · exact ab g (.inr ⟨t, ht, h1⟩) (.inr ⟨tb, hmb, h3⟩)
              · have := (oa.lt ht h1).2; omega
        · rcases h2 with h2 | ⟨u, hu, h2⟩
          · rcases hna g h1 with h3 | h3
            · exact ab g (.inr ⟨ta, hma, h3⟩) (.inl h2)
            · have := (ob.out.lt g h2).2; omega
          · rcases List.mem_or_eq_of_mem_set hu with hu | rfl
            · rcases hna g h1 with h3 | h3
              · exact ab g (.inr ⟨ta, hma, h3⟩) (.inr ⟨u, hu, h2⟩)
              · have := (ob.lt hu h2).2; omega
            · exact hj.ap _ _ rfl rfl g h1 h2
  clear eP eQ hTl hQl
  have la : ∀ (w' : World) (pa da pb db : Option Sl) (K : Sl → Prop), JS w1 B ta tb (T.getD r.toNat []) (Q.getD r.toNat []) x (k + 1) w' pa da pb db → K ta → load1 .sl aa w' K := fun w' pa da pb db K hj hk => load_sl (hj.cell hca na1 na2) hk
  have lb : ∀ (w' : World) (pa da pb db : Option Sl) (K : Sl → Prop), JS w1 B ta tb (T.getD r.toNat []) (Q.getD r.toNat []) x (k + 1) w' pa da pb db → K tb → load1 .sl ad w' K := fun w' pa da pb db K hj hk => load_sl (hj.cell hcb nb1 nb2) hk
  have lv : ∀ (w' : World) (pa da pb db : Option Sl) (K : Int → Prop), JS w1 B ta tb (T.getD r.toNat []) (Q.getD r.toNat []) x (k + 1) w' pa da pb db → K x → load1 (.int .i64) v w' K := fun w' pa da pb db K hj hk => load_int (hj.cell hcv nv1 nv2) hk
  repeat' first
    | (with_reducible exact fin _ _ _ _ _ (by assumption))
    | (with_reducible apply And.intro)
    | (with_reducible refine la _ _ _ _ _ _ (by assumption) ?_)
    | (with_reducible refine lb _ _ _ _ _ _ (by assumption) ?_)
    | (with_reducible refine lv _ _ _ _ _ _ (by assumption) ?_)
    | (with_reducible refine JS.litA (by assumption) ?_; intro _ _ _)
    | (with_reducible refine JS.litB (by assumption) ?_; intro _ _ _)
    | (with_reducible refine JS.appA (by assumption) ?_; intro _ _ _)
    | (with_reducible refine JS.appB (by assumption) ?_; intro _ _ _)
/-- Behind the search of a row: the new rows where they are wanted, and the last step. -/
theorem ins_end {w0 w : World} {B : Nat} {L : List Int} {a b : Sl} {rsa rsb : List Sl} {T : List (List Int)} {k r : Int} {v : Addr} {x : Int} (hk0 : 0 ≤ k) (hkL : k < L.length) (hL : L.length < 2^30)
    (h : InnS w0 B b rsb (insQ L k.toNat) L k.toNat (insP (L.take k.toNat)) r.toNat a rsa T v x w) (hr0 : 0 ≤ r) (hr : r ≤ T.length) (hrow : r < T.length → ¬ rpos (T.getD r.toNat []) x < (T.getD r.toNat []).length)
    {p : Sl} {n : Int} {Qk : Exit → Env → World → Prop} {μ0 : Nat} (hμ : (L.length - (k + 1)).toNat < μ0) :
    (impl_InsertPerm.q16 std (fun e2 w2 => ∃ a_n b_n k_n, e2 = impl_InsertPerm.emb5 a_n b_n p n k_n ∧ OutS w0 B L a_n b_n k_n w2 ∧ (L.length - k_n).toNat < μ0) Qk) (.exit 2) (impl_InsertPerm.x2 a b k v r p n k) w := by
  have hQl := insQ_length L k.toNat (by omega)
  have hTP := h.len
  have hQr := insQ_rows L k.toNat
  have hins := h.ins
  have hrow' := h.row
  have eQ : insQ L (k + 1).toNat = addAt (insQ L k.toNat) (tabRow (insP (L.take k.toNat)) (L.getD k.toNat 0)) (k + 1) := by
    rw [show (k + 1).toNat = k.toNat + 1 by omega, insQ]; congr 1; omega
  have ek : (k + 1).toNat = k.toNat + 1 := by omega
  rw [impl_InsertPerm.A8_2_s, h.oa.n]
  refine bif_intro (fun h4 => ?_) (fun h4 => ?_)
  · have h4' : r.toNat = T.length := by have := eq_of_beq h4; omega
    rw [h4', List.take_length, List.drop_length, tabIns] at hins
    rw [h4', List.drop_length, tabRow] at hrow'
    refine h.oa.pushF (Below.refl _ _) h.hB (r := Sl.nil) (L := []) (Own.nil _ _ _) (fun g hg => by simp [Sl.blk, Sl.nil] at hg) (by omega) ?_
    intro a' w1 oa1 st1
    have ob1 : OwnRows w1 B b rsb (insQ L k.toNat) := h.ob.keepsF st1.keeps fun g h1 h2 => h.ab g h2 h1
    have ab1 : ∀ g, foot a' (rsa ++ [Sl.nil]) g → ¬ foot b rsb g := st1.apart (fun g hg => (h.ob.footLt hg).2) h.ab
    have va1 : ∀ g, foot a' (rsa ++ [Sl.nil]) g → ¬ v.block = g := st1.apart (F := fun g => v.block = g) (fun g hg => by subst hg; exact (h.ov.lt _ (vsl_blk v)).2) fun g h1 h2 => h.va g h1 h2
    have ov1 : OwnI w1 B (vsl v) [x] := Own.keeps h.ov st1.keeps fun g h1 h2 => by rw [vsl_blk] at h1; simp at h1; exact h.va g h2 h1
    have hB1 : B ≤ w1.heap.size := Nat.le_trans h.hB st1.keeps.size
    refine ob1.pushF (Below.refl _ _) hB1 (r := Sl.nil) (L := []) (Own.nil _ _ _) (fun g hg => by simp [Sl.blk, Sl.nil] at hg) (by omega) ?_
    intro b' w2 ob2 st2
    refine both_grow (T := T ++ [[]]) (Q := insQ L k.toNat ++ [[]]) (rsa := rsa ++ [Sl.nil]) (rsb := rsb ++ [Sl.nil]) hk0 hkL hL (h.below.trans ((st1.below (fun g hg => (h.oa.footLt hg).1) h.hB).trans (st2.below (fun g hg => (ob1.footLt hg).1) hB1))) (Nat.le_trans hB1 st2.keeps.size)
      (oa1.keepsF st2.keeps fun g h1 h2 => ab1 g h1 h2) ob2 (fun g h1 h2 => st2.apart (F := foot a' (rsa ++ [Sl.nil])) (fun g hg => (oa1.footLt hg).2) (fun g h3 h4 => ab1 g h4 h3) g h2 h1)
      (Own.keeps ov1 st2.keeps fun g h1 h2 => by rw [vsl_blk] at h1; simp at h1; exact h.vb g h2 h1) va1 (fun g h1 h2 => st2.apart (F := fun g => v.block = g) (fun g hg => by subst hg; exact (ov1.lt _ (vsl_blk v)).2) (fun g h3 h4 => h.vb g h3 h4) g h1 h2)
      hr0 (by rw [List.length_append, List.length_singleton]; omega) (by rw [List.length_append, List.length_singleton]; omega) ?_ ?_ ?_ ?_ hμ
    · rw [h4']; simp
    · rw [show r.toNat = (insQ L k.toNat).length by omega]; simp
    · rw [ek, ← hins, h4']; simp
    · rw [eQ, addAt, if_neg (by omega), show r.toNat = (insQ L k.toNat).length by omega]; simp
  · have h4' : r.toNat < T.length := by have := ne_of_beq_false h4; omega
    obtain ⟨k1, k2⟩ := tabIns_last h4' (hrow (by omega))
    rw [k1] at hins
    rw [k2] at hrow'
    have hq : r.toNat < (insQ L k.toNat).length := by omega
    refine both_grow hk0 hkL hL h.below h.hB h.oa h.ob h.ab h.ov h.va h.vb hr0 (by omega) (by omega) (h.rowLen h4') ?_ (by rw [ek]; exact hins) ?_ hμ
    · have := hQr.1 _ (show (insQ L k.toNat).getD r.toNat [] ∈ insQ L k.toNat by rw [getD_SS hq]; exact List.getElem_mem hq)
      omega
    · rw [eQ, addAt, if_pos (by omega), show tabRow (insP (L.take k.toNat)) (L.getD k.toNat 0) = r.toNat by omega]
/-- The number at a place changes with the variable, whatever the order. -/
theorem ins_swap {w : World} {B : Nat} {L : List Int} {b : Sl} {rsb : List Sl} {Q : List (List Int)} {kN : Nat} {P : List (List Int)} {w0 : World} {a : Sl} {rsa : List Sl} {T : List (List Int)} {v : Addr} {x r : Int} (h : InnS w0 B b rsb Q L kN P r.toNat a rsa T v x w)
    (hr0 : 0 ≤ r) (hr : r < T.length) {ta : Sl} (hta : rsa[r.toNat]? = some ta) (hp : rpos (T.getD r.toNat []) x < (T.getD r.toNat []).length) {K : World → Prop}
    (hK : ∀ w', InnS w0 B b rsb Q L kN P (r + 1).toNat a rsa (T.set r.toNat ((T.getD r.toNat []).set (rpos (T.getD r.toNat []) x) x)) v ((T.getD r.toNat []).getD (rpos (T.getD r.toNat []) x) 0) w' → K w') :
    idxK 1 ta (rpos (T.getD r.toNat []) x : Int) fun a29 => storeC a29 (vI x) w fun w1 => storeC v (vI ((T.getD r.toNat []).getD (rpos (T.getD r.toNat []) x) 0)) w1 K := by
  have hr' : r.toNat < T.length := by omega
  have hm := List.mem_of_getElem? hta
  have hot := h.oa.at_ r.toNat ta _ hta (by rw [List.getElem?_eq_getElem hr', ← getD_SS hr'])
  refine Own.put hot (by omega) (by rw [List.length_map]; omega) ?_
  intro w1 h1 hg1 _
  have k1 := keeps_grown hg1
  rw [Int.toNat_natCast] at h1
  have h1' : OwnI w1 B ta ((T.getD r.toNat []).set (rpos (T.getD r.toNat []) x) x) := by simp only [OwnI, List.map_set]; exact h1
  have oa1 := h.oa.inside hta h1' hg1
  have ob1 : OwnRows w1 B b rsb Q := h.ob.keepsF k1 fun g h2 h3 => h.ab g (.inr ⟨ta, hm, h3⟩) h2
  have ov1 : OwnI w1 B (vsl v) [x] := Own.keeps h.ov k1 fun g h2 h3 => by rw [vsl_blk] at h2; simp at h2; exact h.va g (.inr ⟨ta, hm, h3⟩) h2
  refine vsl_store ov1 (fun w2 ov2 hg2 => hK w2 ?_)
  have k2 := keeps_grown hg2
  have hb1 : Below B w w1 := k1.below (fun g e => (h.oa.lt hm e).1) h.hB
  obtain ⟨s1, s2⟩ := tabIns_step hr' hp
  have hB1 : B ≤ w1.heap.size := Nat.le_trans h.hB k1.size
  refine ⟨h.below.trans (hb1.trans (k2.below (fun g e => by simp at e; subst e; exact (h.ov.lt _ (vsl_blk v)).1) hB1)), Nat.le_trans hB1 k2.size, ?_, ?_, h.ab, ov2, h.va, h.vb, by rw [List.length_set]; exact h.len, ?_, ?_, (flat_set hr' hp).trans h.perm⟩
  · exact oa1.keepsF k2 fun g h2 h3 => by simp at h3; exact h.va g h2 h3
  · exact ob1.keepsF k2 fun g h2 h3 => by simp at h3; exact h.vb g h2 h3
  · rw [show (r + 1).toNat = r.toNat + 1 by omega, ← s1]; exact h.ins
  · rw [show (r + 1).toNat = r.toNat + 1 by omega]; have := h.row; omega
set_option maxHeartbeats 1000000 in
open Classical in
theorem c_implInsertPerm {w : World} {p : Sl} {L : List Int} (hp : RowI w p L) (hL : L.length < 2^38) :
    Calls PP F.impl_InsertPerm #[p.v] w fun e w' => ∃ (s t : Sl) (rs rt : List Sl), e = .returned (.tuple #[s.v, t.v, .bool (InsertPermV2 L)]) ∧ OwnRows w' w.heap.size s rs (InsertPermV L) ∧ OwnRows w' w.heap.size t rt (InsertPermV1 L) ∧ (∀ g, foot s rs g → ¬ foot t rt g) ∧ Below w.heap.size w w' := by
  have hpn : p.n = L.length := by have := hp.n; simpa using this
  refine impl_InsertPerm.calls p ?_
  rw [impl_InsertPerm.E_s]
  refine (c_implIsPerm hp hL).mono ?_
  rintro e w1 ⟨rfl, hb1⟩
  refine ⟨_, rfl, ?_⟩
  refine bif_intro (fun h => ?_) (fun h => ?_)
  · have hn : ¬ IsP L := fun hh => by simp [hh] at h
    refine ⟨Sl.nil, Sl.nil, [], [], ?_⟩
    rw [InsertPermV, InsertPermV1, InsertPermV2, if_neg hn, if_neg hn, decide_eq_false hn]
    exact ⟨rfl, OwnRows.nil (Own.nil _ _ _), OwnRows.nil (Own.nil _ _ _), fun g hg => by simp [foot, Sl.blk, Sl.nil] at hg, hb1⟩
  have hP : IsP L := by simpa using h
  have hnd : L.Nodup := (permOk_iff.1 hP.2).1
  have hL8 := hP.1
  refine lit0 oneSint (B := w.heap.size) hb1.size ?_
  intro a0 w2 ha0 hg2 hc2
  have hb2 := below_of_grow hg2
  have hb02 := hb1.trans (hb2.mono hb1.size)
  refine lit0 oneSint (B := w.heap.size) hb02.size ?_
  intro b0 w3 hb0 hg3 hc3
  have hb3 := below_of_grow hg3
  rw [hpn]
  refine impl_InsertPerm.L5_rule _ _ _ _ _ _ _ (I := fun a b k w' => OutS w w.heap.size L a b k w') (μ := fun _ _ k _ => (L.length - k).toNat)
    ⟨by omega, by omega, hb02.trans (hb3.mono hb02.size), (hb02.trans (hb3.mono hb02.size)).size, [], [], (OwnRows.nil ha0).grow hb3, OwnRows.nil hb0, fun g hg => by simp [foot, Sl.blk, hc2] at hg⟩ ?_
  rintro a b k w4 ⟨hk0, hk, hb4, hB4, rsa, rsb, oa, ob, ab⟩
  rw [impl_InsertPerm.B5_s]
  refine bif_dec (fun h3 => ?_) (fun h3 => ?_)
  · have hlt : k.toNat < L.length := by omega
    refine RowI.get (hp.grow hb4) hk0 (by omega) ?_
    refine vsl_new hB4 fun v w5 ov hv5 hb5 => ?_
    have oa5 := oa.grow hb5
    have ob5 := ob.grow hb5
    have ek : L.take (k.toNat + 1) = L.take k.toNat ++ [L.getD k.toNat 0] := by rw [getD_lt hlt]; simp
    have hPperm : (insP (L.take k.toNat)).flatten.Perm (L.take k.toNat) := (insP_all (hnd.sublist (List.take_sublist _ _))).2.1
    refine impl_InsertPerm.L8_rule _ _ _ _ _ _ _ _ _ _ (I := fun r w' => 0 ≤ r ∧ r ≤ (insP (L.take k.toNat)).length ∧ ∃ T x, InnS w w.heap.size b rsb (insQ L k.toNat) L k.toNat (insP (L.take k.toNat)) r.toNat a rsa T v x w') (μ := fun r _ => ((insP (L.take k.toNat)).length - r).toNat)
      ⟨by omega, by omega, _, _, ⟨hb4.trans (hb5.mono hB4), (hb4.trans (hb5.mono hB4)).size, oa5, ob5, ab, ov, fun g hg e => by have := (oa.footLt hg).2; omega, fun g hg e => by have := (ob.footLt hg).2; omega, rfl, ?_, by simp, ?_⟩⟩ ?_
    · simp only [Int.toNat_zero, List.take_zero, List.nil_append, List.drop_zero]
      rw [ek, insP_snoc]
    · rw [ek]
      exact (List.Perm.cons _ hPperm).trans (List.perm_append_comm (l₁ := [L.getD k.toNat 0]))
    rintro r w6 ⟨hr0, hr, T, x, h⟩
    have hTl := h.len
    rw [impl_InsertPerm.B8_s, h.oa.n]
    refine bif_dec (fun h4 => ?_) (fun h4 => ?_)
    · have hr1 : r.toNat < T.length := by omega
      have hfr := h.fresh hnd hr1
      have hRl := h.rowLen hr1
      obtain ⟨ta, hta, hot⟩ := h.oa.get hr1
      refine Row.get (sh := .sl) (r := ta) h.oa.out.row hr0 (by rw [List.getElem?_map, hta]; rfl) ?_
      refine (c_IndexFuncI hot.row (by omega) (φ := fun y => decide (y > x)) fun y _ => c_InsertFn (vsl_cell h.ov) y).mono ?_
      rintro e w7 ⟨rfl, hb7⟩
      refine ⟨_, rfl, ?_⟩
      have h7 : InnS w w.heap.size b rsb (insQ L k.toNat) L k.toNat (insP (L.take k.toNat)) r.toNat a rsa T v x w7 := { h with
        below := h.below.trans (hb7.mono h.hB), hB := Nat.le_trans h.hB hb7.size, oa := h.oa.grow hb7, ob := h.ob.grow hb7, ov := h.ov.grow hb7 }
      rw [idxF_rpos hfr]
      by_cases hpos : rpos (T.getD r.toNat []) x < (T.getD r.toNat []).length
      · rw [if_pos hpos]
        refine bif_f (by simp) ?_
        refine drew_intro fun w8 hd8 => ?_
        have hh := hd8.heap'
        have h8 : InnS w w.heap.size b rsb (insQ L k.toNat) L k.toNat (insP (L.take k.toNat)) r.toNat a rsa T v x w8 := { h7 with
          below := h7.below.trans (hd8.below _), hB := by rw [hh]; exact h7.hB, oa := h7.oa.heap hh, ob := h7.ob.heap hh, ov := Own.heap h7.ov hh }
        have hot8 := h8.oa.at_ r.toNat ta _ hta (by rw [List.getElem?_eq_getElem hr1, ← getD_SS hr1])
        refine h8.oa.placeT hr0 (by omega) hta fun a1 _ hc1 => ?_
        refine h8.oa.placeT hr0 (by omega) hta fun a2 _ hc2 => ?_
        have hcv := vsl_cell h8.ov
        have hpl : ∀ K : Addr → Prop, (∀ a', w8.cell? a' = some (vI ((T.getD r.toNat []).getD (rpos (T.getD r.toNat []) x) 0)) → K a') → idxK 1 ta (rpos (T.getD r.toNat []) x : Int) K := fun K hk => by
          refine RowI.place hot8.row (by omega) (by omega) ?_
          rw [Int.toNat_natCast]
          exact hk
        have fin : idxK 1 ta (rpos (T.getD r.toNat []) x : Int) fun a29 => storeC a29 (vI x) w8 fun w1 => storeC v (vI ((T.getD r.toNat []).getD (rpos (T.getD r.toNat []) x) 0)) w1 fun w2 => ∃ r_n, impl_InsertPerm.emb8 a b k v (w64 (r + 1)) p L.length k = impl_InsertPerm.emb8 a b k v r_n p L.length k ∧ (0 ≤ r_n ∧ r_n ≤ (insP (L.take k.toNat)).length ∧ ∃ T x, InnS w w.heap.size b rsb (insQ L k.toNat) L k.toNat (insP (L.take k.toNat)) r_n.toNat a rsa T v x w2) ∧ (((insP (L.take k.toNat)).length : Int) - r_n).toNat < (((insP (L.take k.toNat)).length : Int) - r).toNat := by
          refine ins_swap h8 hr0 (by omega) hta hpos fun w9 h9 => ?_
          have hPn := (insQ_rows L k.toNat).2
          rw [insQ_length L k.toNat (by omega)] at hPn
          exact ⟨r + 1, by rw [w64_succ hr0 (by omega)], ⟨by omega, by omega, _, _, h9⟩, by omega⟩
        have l1 : ∀ K : Sl → Prop, K ta → load1 .sl a1 w8 K := fun K hk => load_sl hc1 hk
        have l2 : ∀ K : Sl → Prop, K ta → load1 .sl a2 w8 K := fun K hk => load_sl hc2 hk
        have l3 : ∀ K : Int → Prop, K x → load1 (.int .i64) v w8 K := fun K hk => load_int hcv hk
        repeat' first
          | (with_reducible exact fin)
          | (with_reducible apply And.intro)
          | (with_reducible refine l1 _ ?_)
          | (with_reducible refine l2 _ ?_)
          | (with_reducible refine l3 _ ?_)
          | (with_reducible refine load_int (by assumption) ?_)
          | (with_reducible refine hpl _ ?_; intro _ _)
      · rw [if_neg hpos]
        refine bif_t (by simp) ?_
        exact ins_end hk0 (by omega) (by omega) h7 hr0 (by omega) (fun _ => hpos) (by omega)
    · exact ins_end hk0 (by omega) (by omega) h hr0 (by omega) (fun hh => absurd hh (by omega)) (by omega)
  · rw [impl_InsertPerm.A5_0_s]
    have e : k.toNat = L.length := by omega
    rw [e, List.take_length] at oa
    rw [e] at ob
    refine ⟨a, b, rsa, rsb, ?_⟩
    rw [InsertPermV, InsertPermV1, InsertPermV2, if_pos hP, if_pos hP, decide_eq_true hP]
    exact ⟨rfl, oa, ob, ab, hb4⟩
theorem InsertPermV_len (L : List Int) : (InsertPermV L).length < 2^38 ∧ tot (InsertPermV L) < 2^38 := by
  by_cases h : IsP L
  · exact insP_tot h
  · rw [InsertPermV, if_neg h]; exact ⟨by simp, by simp [tot]⟩
theorem insQ_tot (L : List Int) : ∀ m, tot (insQ L m) = m
  | 0 => rfl
  | m + 1 => by
    have ih := insQ_tot L m
    rw [insQ, addAt]
    split
    · rename_i hlt
      have h1 : insQ L m = (insQ L m).take (tabRow (insP (L.take m)) (L.getD m 0)) ++ (insQ L m).getD (tabRow (insP (L.take m)) (L.getD m 0)) [] :: (insQ L m).drop (tabRow (insP (L.take m)) (L.getD m 0) + 1) := by rw [getD_SS hlt]; simp
      rw [List.set_eq_take_append_cons_drop, if_pos hlt, tot_append, tot_cons, List.length_append, List.length_singleton]
      rw [h1, tot_append, tot_cons] at ih
      omega
    · rw [tot_append, ih]; simp [tot]
theorem InsertPermV_len1 (L : List Int) : (InsertPermV1 L).length < 2^38 ∧ tot (InsertPermV1 L) < 2^38 := by
  by_cases h : IsP L
  · rw [InsertPermV1, if_pos h]
    have h1 := (insQ_rows L L.length).2
    have h2 := insQ_tot L L.length
    have := h.1
    exact ⟨by omega, by omega⟩
  · rw [InsertPermV1, if_neg h]; exact ⟨by simp, by simp [tot]⟩
end Go.Proofs.Ytdchjhhpbdekeaa

/- What each function does, step by step, written by a program (Gen.lean); each equation is checked by the kernel. -/
namespace Go.Proofs.Ytdchjhhpbdekeaa
open Go
set_option linter.unusedVariables false
set_option maxRecDepth 100000
namespace spec_l20Up
@[reducible] def cfg : Cfg := ⟨44, [(8, [0, 3, 4, 5, 6, 7]), (4, [0, 3, 4, 5])], [(3, [0, 3, 4, 5, 6, 7]), (2, [0, 3, 4, 5, 6]), (1, [0, 3, 4, 5]), (0, [3])], [], [2], [10], [101, 107, 112, 15, 21, 124, 76, 137, 28, 115, 91, 81, 130], [138, 140, 82, 6, 86, 85, 132]⟩
def q2 (pr : Prims) (R : Ending → World → Prop) : Exit → Env → World → Prop := fun ex e w => normQ ex (fun e w => contE pr cfg (sub (codeOf Try.f95) [1, 1, 1, 1]) (fun e w => wpC pr PP cfg (DD pr) (sub (codeOf Try.f95) [1, 1, 1, 1]) (retQ Try.f95.results.toList R) e w) e w) (retQ Try.f95.results.toList R) e w
def q3 (pr : Prims) (R : Ending → World → Prop) : Exit → Env → World → Prop := fun ex e w => blockQ ex 0 (q2 pr R) e w
def q4 (pr : Prims) (k : Env → World → Prop) (Q : Exit → Env → World → Prop) : Exit → Env → World → Prop := fun ex e w => normQ ex (fun e w => contE pr cfg (sub (codeOf Try.f95) [1, 1, 1, 0, 1, 0, 0, 1, 1]) (fun e w => wpC pr PP cfg (DD pr) (sub (codeOf Try.f95) [1, 1, 1, 0, 1, 0, 0, 1, 1]) (fun ex e w => normQ ex (fun e' w' => k (Env.restr e' (lookN cfg.loops (keyOf (sub (codeOf Try.f95) [1, 1, 1, 0, 1, 0, 0])))) w') Q e w) e w) e w) (fun ex e w => normQ ex (fun e' w' => k (Env.restr e' (lookN cfg.loops (keyOf (sub (codeOf Try.f95) [1, 1, 1, 0, 1, 0, 0])))) w') Q e w) e w
def q5 (pr : Prims) (k : Env → World → Prop) (Q : Exit → Env → World → Prop) : Exit → Env → World → Prop := fun ex e w => blockQ ex 1 (q4 pr k Q) e w
def q6 (pr : Prims) (k : Env → World → Prop) (Q : Exit → Env → World → Prop) : Exit → Env → World → Prop := fun ex e w => normQ ex (fun e w => contE pr cfg (sub (codeOf Try.f95) [1, 1, 1, 0, 1, 0, 0, 1, 0, 0, 1, 1]) (fun e w => wpC pr PP cfg (DD pr) (sub (codeOf Try.f95) [1, 1, 1, 0, 1, 0, 0, 1, 0, 0, 1, 1]) (q5 pr k Q) e w) e w) (q5 pr k Q) e w
def q7 (pr : Prims) (k : Env → World → Prop) (Q : Exit → Env → World → Prop) : Exit → Env → World → Prop := fun ex e w => blockQ ex 2 (q6 pr k Q) e w
def emb4 (p_0 : Sl) (best_3 : Int) (ends_4 : Sl) (k_5 : Int) : Env := [(0, Sl.v p_0), (3, vI best_3), (4, Sl.v ends_4), (5, vI k_5)]
def emb8 (p_0 : Sl) (best_3 : Int) (ends_4 : Sl) (k_5 : Int) (n_6 : Int) (i_7 : Int) : Env := [(0, Sl.v p_0), (3, vI best_3), (4, Sl.v ends_4), (5, vI k_5), (6, vI n_6), (7, vI i_7)]
def x2 (p_0 : Sl) (best_3 : Int) (ends_4 : Sl) (k_5 : Int) (n_6 : Int) : Env := [(0, Sl.v p_0), (3, vI best_3), (4, Sl.v ends_4), (5, vI k_5), (6, vI n_6)]
def x0 (best_3 : Int) : Env := [(3, vI best_3)]
def S8 (pr : Prims) (Q : Exit → Env → World → Prop) : (Env → World → Prop) → Env → World → Prop := fun k e w => wpC pr PP cfg (DD pr) (sub (codeOf Try.f95) [1, 1, 1, 0, 1, 0, 0, 1, 0, 0, 1, 0, 1, 0, 0]) (fun ex e w => normQ ex (fun e' w' => k (Env.restr e' (lookN cfg.loops (keyOf (sub (codeOf Try.f95) [1, 1, 1, 0, 1, 0, 0, 1, 0, 0, 1, 0, 1, 0, 0])))) w') Q e w) e w
def S4 (pr : Prims) (Q : Exit → Env → World → Prop) : (Env → World → Prop) → Env → World → Prop := fun k e w => wpC pr PP cfg (DD pr) (sub (codeOf Try.f95) [1, 1, 1, 0, 1, 0, 0]) (fun ex e w => normQ ex (fun e' w' => k (Env.restr e' (lookN cfg.loops (keyOf (sub (codeOf Try.f95) [1, 1, 1, 0, 1, 0, 0])))) w') Q e w) e w
def B8 (pr : Prims) (p_0 : Sl) (best_3 : Int) (ends_4 : Sl) (k_5 : Int) (n_6 : Int) (i_7 : Int) (w : World) (k : Env → World → Prop) (Q : Exit → Env → World → Prop) : Prop :=
  S8 pr Q k (emb8 p_0 best_3 ends_4 k_5 n_6 i_7) w
def L8 (pr : Prims) (p_0 : Sl) (best_3 : Int) (ends_4 : Sl) (k_5 : Int) (n_6 : Int) (i_7 : Int) (w : World) (Q : Exit → Env → World → Prop) : Prop :=
  pr.loop (S8 pr Q) (emb8 p_0 best_3 ends_4 k_5 n_6 i_7) w
def B4 (pr : Prims) (p_0 : Sl) (best_3 : Int) (ends_4 : Sl) (k_5 : Int) (w : World) (k : Env → World → Prop) (Q : Exit → Env → World → Prop) : Prop :=
  S4 pr Q k (emb4 p_0 best_3 ends_4 k_5) w
def L4 (pr : Prims) (p_0 : Sl) (best_3 : Int) (ends_4 : Sl) (k_5 : Int) (w : World) (Q : Exit → Env → World → Prop) : Prop :=
  pr.loop (S4 pr Q) (emb4 p_0 best_3 ends_4 k_5) w
def E (pr : Prims) (p_0 : Sl) (w : World) (R : Ending → World → Prop) : Prop :=
  wpC pr PP cfg (DD pr) (codeOf Try.f95) (retQ Try.f95.results.toList R) (argE 0 [Sl.v p_0]) w
theorem B8_eq (pr : Prims) (p_0 : Sl) (best_3 : Int) (ends_4 : Sl) (k_5 : Int) (n_6 : Int) (i_7 : Int) (w : World) (k : Env → World → Prop) (Q : Exit → Env → World → Prop) : B8 pr p_0 best_3 ends_4 k_5 n_6 i_7 w k Q = (
  bif decide (i_7 < k_5) then (
  pr.idxK 1 p_0 i_7 fun (a8 : Addr) =>
  pr.load1 (.int .i64) a8 w fun (ξ9 : Int) =>
  pr.idxK 1 p_0 k_5 fun (a10 : Addr) =>
  pr.load1 (.int .i64) a10 w fun (ξ11 : Int) =>
  pr.drewAll w fun ω12 =>
  bif decide (ξ9 < ξ11) then (
  pr.idxK 1 ends_4 i_7 fun (a13 : Addr) =>
  pr.load1 (.int .i64) a13 ω12 fun (ξ14 : Int) =>
  pr.pcall1 (.int .i64) PP F.spec_l1Max #[vI n_6, vI (w64 (ξ14 + 1))] fun (ρ15 : Int) =>
  k (emb8 p_0 best_3 ends_4 k_5 ρ15 (w64 (i_7 + 1))) ω12)
  else (
  k (emb8 p_0 best_3 ends_4 k_5 n_6 (w64 (i_7 + 1))) ω12))
  else (
  Q (.exit 2) (x2 p_0 best_3 ends_4 k_5 n_6) w)) := by kernel_rfl
theorem B8_s (p_0 : Sl) (best_3 : Int) (ends_4 : Sl) (k_5 : Int) (n_6 : Int) (i_7 : Int) (w : World) (k : Env → World → Prop) (Q : Exit → Env → World → Prop) : B8 std p_0 best_3 ends_4 k_5 n_6 i_7 w k Q = (
  bif decide (i_7 < k_5) then (
  idxK 1 p_0 i_7 fun (a8 : Addr) =>
  load1 (.int .i64) a8 w fun (ξ9 : Int) =>
  idxK 1 p_0 k_5 fun (a10 : Addr) =>
  load1 (.int .i64) a10 w fun (ξ11 : Int) =>
  drewAll w fun ω12 =>
  bif decide (ξ9 < ξ11) then (
  idxK 1 ends_4 i_7 fun (a13 : Addr) =>
  load1 (.int .i64) a13 ω12 fun (ξ14 : Int) =>
  pcall1 (.int .i64) PP F.spec_l1Max #[vI n_6, vI (w64 (ξ14 + 1))] fun (ρ15 : Int) =>
  k (emb8 p_0 best_3 ends_4 k_5 ρ15 (w64 (i_7 + 1))) ω12)
  else (
  k (emb8 p_0 best_3 ends_4 k_5 n_6 (w64 (i_7 + 1))) ω12))
  else (
  Q (.exit 2) (x2 p_0 best_3 ends_4 k_5 n_6) w)) := B8_eq std p_0 best_3 ends_4 k_5 n_6 i_7 w k Q
theorem L8_rule (p_0 : Sl) (best_3 : Int) (ends_4 : Sl) (k_5 : Int) (n_6 : Int) (i_7 : Int) (w : World) (Q : Exit → Env → World → Prop) (I : Int → Int → World → Prop) (μ : Int → Int → World → Nat) (h0 : I n_6 i_7 w)
    (h : ∀ (n_6 : Int) (i_7 : Int) (w' : World), I n_6 i_7 w' → B8 std p_0 best_3 ends_4 k_5 n_6 i_7 w' (fun e2 w2 => ∃ n_6_n i_7_n, e2 = emb8 p_0 best_3 ends_4 k_5 n_6_n i_7_n ∧ I n_6_n i_7_n w2 ∧ μ n_6_n i_7_n w2 < μ n_6 i_7 w') Q) :
    L8 std p_0 best_3 ends_4 k_5 n_6 i_7 w Q := by
  unfold L8
  refine LoopE.intro (σ := Int × Int) (step := S8 std Q) (fun s => emb8 p_0 best_3 ends_4 k_5 s.1 s.2) (fun s w => I s.1 s.2 w) (fun s w => μ s.1 s.2 w) (n_6, i_7) rfl h0 ?_
  intro s w' hI
  have h1 := h s.1 s.2 w' hI
  unfold B8 at h1
  simp only [Prod.exists]
  exact h1
theorem A8_2_eq (pr : Prims) (p_0 : Sl) (best_3 : Int) (ends_4 : Sl) (k_5 : Int) (n_6 : Int) (w : World) (k : Env → World → Prop) (Q : Exit → Env → World → Prop) : (q7 pr k Q) (.exit 2) (x2 p_0 best_3 ends_4 k_5 n_6) w = (
  pr.sem1 .sl PP (Instr.buildSlice T_Sint 1 #[(0, vI n_6)]) w fun (ρ16 : Sl) ω17 =>
  pr.sem1 .sl PP (Builtin.append_ #[T_Sint, T_Sint] T_Sint #[Sl.v ends_4, Sl.v ρ16]) ω17 fun (ρ18 : Sl) ω19 =>
  pr.pcall1 (.int .i64) PP F.spec_l1Max #[vI best_3, vI n_6] fun (ρ20 : Int) =>
  k (emb4 p_0 ρ20 ρ18 (w64 (k_5 + 1))) ω19) := by kernel_rfl
theorem A8_2_s (p_0 : Sl) (best_3 : Int) (ends_4 : Sl) (k_5 : Int) (n_6 : Int) (w : World) (k : Env → World → Prop) (Q : Exit → Env → World → Prop) : (q7 std k Q) (.exit 2) (x2 p_0 best_3 ends_4 k_5 n_6) w = (
  sem1 .sl PP (Instr.buildSlice T_Sint 1 #[(0, vI n_6)]) w fun (ρ16 : Sl) ω17 =>
  sem1 .sl PP (Builtin.append_ #[T_Sint, T_Sint] T_Sint #[Sl.v ends_4, Sl.v ρ16]) ω17 fun (ρ18 : Sl) ω19 =>
  pcall1 (.int .i64) PP F.spec_l1Max #[vI best_3, vI n_6] fun (ρ20 : Int) =>
  k (emb4 p_0 ρ20 ρ18 (w64 (k_5 + 1))) ω19) := A8_2_eq std p_0 best_3 ends_4 k_5 n_6 w k Q
theorem B4_eq (pr : Prims) (p_0 : Sl) (best_3 : Int) (ends_4 : Sl) (k_5 : Int) (w : World) (k : Env → World → Prop) (Q : Exit → Env → World → Prop) : B4 pr p_0 best_3 ends_4 k_5 w k Q = (
  bif decide (k_5 < (p_0.n : Int)) then (
  L8 pr p_0 best_3 ends_4 k_5 1 0 w (q7 pr k Q))
  else (
  Q (.exit 0) (x0 best_3) w)) := by kernel_rfl
theorem B4_s (p_0 : Sl) (best_3 : Int) (ends_4 : Sl) (k_5 : Int) (w : World) (k : Env → World → Prop) (Q : Exit → Env → World → Prop) : B4 std p_0 best_3 ends_4 k_5 w k Q = (
  bif decide (k_5 < (p_0.n : Int)) then (
  L8 std p_0 best_3 ends_4 k_5 1 0 w (q7 std k Q))
  else (
  Q (.exit 0) (x0 best_3) w)) := B4_eq std p_0 best_3 ends_4 k_5 w k Q
theorem L4_rule (p_0 : Sl) (best_3 : Int) (ends_4 : Sl) (k_5 : Int) (w : World) (Q : Exit → Env → World → Prop) (I : Int → Sl → Int → World → Prop) (μ : Int → Sl → Int → World → Nat) (h0 : I best_3 ends_4 k_5 w)
    (h : ∀ (best_3 : Int) (ends_4 : Sl) (k_5 : Int) (w' : World), I best_3 ends_4 k_5 w' → B4 std p_0 best_3 ends_4 k_5 w' (fun e2 w2 => ∃ best_3_n ends_4_n k_5_n, e2 = emb4 p_0 best_3_n ends_4_n k_5_n ∧ I best_3_n ends_4_n k_5_n w2 ∧ μ best_3_n ends_4_n k_5_n w2 < μ best_3 ends_4 k_5 w') Q) :
    L4 std p_0 best_3 ends_4 k_5 w Q := by
  unfold L4
  refine LoopE.intro (σ := Int × Sl × Int) (step := S4 std Q) (fun s => emb4 p_0 s.1 s.2.1 s.2.2) (fun s w => I s.1 s.2.1 s.2.2 w) (fun s w => μ s.1 s.2.1 s.2.2 w) (best_3, ends_4, k_5) rfl h0 ?_
  intro s w' hI
  have h1 := h s.1 s.2.1 s.2.2 w' hI
  unfold B4 at h1
  simp only [Prod.exists]
  exact h1
theorem A4_0_eq (pr : Prims) (best_3 : Int) (w : World) (R : Ending → World → Prop) : (q3 pr R) (.exit 0) (x0 best_3) w = (
  R (.returned (vI best_3)) w) := by kernel_rfl
theorem A4_0_s (best_3 : Int) (w : World) (R : Ending → World → Prop) : (q3 std R) (.exit 0) (x0 best_3) w = (
  R (.returned (vI best_3)) w) := A4_0_eq std best_3 w R
theorem E_eq (pr : Prims) (p_0 : Sl) (w : World) (R : Ending → World → Prop) : E pr p_0 w R = (
  pr.sem1 .sl PP (Instr.buildSlice T_Sint 0 #[]) w fun (ρ0 : Sl) ω1 =>
  L4 pr p_0 0 ρ0 0 ω1 (q3 pr R)) := by kernel_rfl
theorem E_s (p_0 : Sl) (w : World) (R : Ending → World → Prop) : E std p_0 w R = (
  sem1 .sl PP (Instr.buildSlice T_Sint 0 #[]) w fun (ρ0 : Sl) ω1 =>
  L4 std p_0 0 ρ0 0 ω1 (q3 std R)) := E_eq std p_0 w R
theorem drawsOk : drawsOk PP cfg okD (codeOf Try.f95) = true := by kernel_rfl
theorem calls (p_0 : Sl) {w : World} {R : Ending → World → Prop} (h : E std p_0 w R) : Calls PP F.spec_l20Up #[Sl.v p_0] w R :=
  calls_of noCount mixed drawOk Try.func95 rfl (c := cfg) (args := [Sl.v p_0]) rfl (Nat.le_of_ble_eq_true (by kernel_rfl)) drawsOk h
end spec_l20Up

namespace spec_l3Reverse
@[reducible] def cfg : Cfg := ⟨21, [(3, [0, 3, 4])], [(1, [0, 3, 4]), (0, [3])], [], [2], [], [101, 107, 112, 15, 21, 124, 76, 137, 28, 115, 91, 81, 130], [138, 140, 82, 6, 86, 85, 132]⟩
def q2 (pr : Prims) (R : Ending → World → Prop) : Exit → Env → World → Prop := fun ex e w => normQ ex (fun e w => contE pr cfg (sub (codeOf Try.f71) [1, 1, 1]) (fun e w => wpC pr PP cfg (DD pr) (sub (codeOf Try.f71) [1, 1, 1]) (retQ Try.f71.results.toList R) e w) e w) (retQ Try.f71.results.toList R) e w
def q3 (pr : Prims) (R : Ending → World → Prop) : Exit → Env → World → Prop := fun ex e w => blockQ ex 0 (q2 pr R) e w
def emb3 (p_0 : Sl) (out_3 : Sl) (k_4 : Int) : Env := [(0, Sl.v p_0), (3, Sl.v out_3), (4, vI k_4)]
def x0 (out_3 : Sl) : Env := [(3, Sl.v out_3)]
def S3 (pr : Prims) (Q : Exit → Env → World → Prop) : (Env → World → Prop) → Env → World → Prop := fun k e w => wpC pr PP cfg (DD pr) (sub (codeOf Try.f71) [1, 1, 0, 1, 0, 0]) (fun ex e w => normQ ex (fun e' w' => k (Env.restr e' (lookN cfg.loops (keyOf (sub (codeOf Try.f71) [1, 1, 0, 1, 0, 0])))) w') Q e w) e w
def B3 (pr : Prims) (p_0 : Sl) (out_3 : Sl) (k_4 : Int) (w : World) (k : Env → World → Prop) (Q : Exit → Env → World → Prop) : Prop :=
  S3 pr Q k (emb3 p_0 out_3 k_4) w
def L3 (pr : Prims) (p_0 : Sl) (out_3 : Sl) (k_4 : Int) (w : World) (Q : Exit → Env → World → Prop) : Prop :=
  pr.loop (S3 pr Q) (emb3 p_0 out_3 k_4) w
def E (pr : Prims) (p_0 : Sl) (w : World) (R : Ending → World → Prop) : Prop :=
  wpC pr PP cfg (DD pr) (codeOf Try.f71) (retQ Try.f71.results.toList R) (argE 0 [Sl.v p_0]) w
theorem B3_eq (pr : Prims) (p_0 : Sl) (out_3 : Sl) (k_4 : Int) (w : World) (k : Env → World → Prop) (Q : Exit → Env → World → Prop) : B3 pr p_0 out_3 k_4 w k Q = (
  bif decide (k_4 ≥ 0) then (
  pr.idxK 1 p_0 k_4 fun (a4 : Addr) =>
  pr.load1 (.int .i64) a4 w fun (ξ5 : Int) =>
  pr.sem1 .sl PP (Instr.buildSlice T_Sint 1 #[(0, vI ξ5)]) w fun (ρ6 : Sl) ω7 =>
  pr.sem1 .sl PP (Builtin.append_ #[T_Sint, T_Sint] T_Sint #[Sl.v out_3, Sl.v ρ6]) ω7 fun (ρ8 : Sl) ω9 =>
  k (emb3 p_0 ρ8 (w64 (k_4 - 1))) ω9)
  else (
  Q (.exit 0) (x0 out_3) w)) := by kernel_rfl
theorem B3_s (p_0 : Sl) (out_3 : Sl) (k_4 : Int) (w : World) (k : Env → World → Prop) (Q : Exit → Env → World → Prop) : B3 std p_0 out_3 k_4 w k Q = (
  bif decide (k_4 ≥ 0) then (
  idxK 1 p_0 k_4 fun (a4 : Addr) =>
  load1 (.int .i64) a4 w fun (ξ5 : Int) =>
  sem1 .sl PP (Instr.buildSlice T_Sint 1 #[(0, vI ξ5)]) w fun (ρ6 : Sl) ω7 =>
  sem1 .sl PP (Builtin.append_ #[T_Sint, T_Sint] T_Sint #[Sl.v out_3, Sl.v ρ6]) ω7 fun (ρ8 : Sl) ω9 =>
  k (emb3 p_0 ρ8 (w64 (k_4 - 1))) ω9)
  else (
  Q (.exit 0) (x0 out_3) w)) := B3_eq std p_0 out_3 k_4 w k Q
theorem L3_rule (p_0 : Sl) (out_3 : Sl) (k_4 : Int) (w : World) (Q : Exit → Env → World → Prop) (I : Sl → Int → World → Prop) (μ : Sl → Int → World → Nat) (h0 : I out_3 k_4 w)
    (h : ∀ (out_3 : Sl) (k_4 : Int) (w' : World), I out_3 k_4 w' → B3 std p_0 out_3 k_4 w' (fun e2 w2 => ∃ out_3_n k_4_n, e2 = emb3 p_0 out_3_n k_4_n ∧ I out_3_n k_4_n w2 ∧ μ out_3_n k_4_n w2 < μ out_3 k_4 w') Q) :
    L3 std p_0 out_3 k_4 w Q := by
  unfold L3
  refine LoopE.intro (σ := Sl × Int) (step := S3 std Q) (fun s => emb3 p_0 s.1 s.2) (fun s w => I s.1 s.2 w) (fun s w => μ s.1 s.2 w) (out_3, k_4) rfl h0 ?_
  intro s w' hI
  have h1 := h s.1 s.2 w' hI
  unfold B3 at h1
  simp only [Prod.exists]
  exact h1
theorem A3_0_eq (pr : Prims) (out_3 : Sl) (w : World) (R : Ending → World → Prop) : (q3 pr R) (.exit 0) (x0 out_3) w = (
  R (.returned (Sl.v out_3)) w) := by kernel_rfl
theorem A3_0_s (out_3 : Sl) (w : World) (R : Ending → World → Prop) : (q3 std R) (.exit 0) (x0 out_3) w = (
  R (.returned (Sl.v out_3)) w) := A3_0_eq std out_3 w R
theorem E_eq (pr : Prims) (p_0 : Sl) (w : World) (R : Ending → World → Prop) : E pr p_0 w R = (
  pr.sem1 .sl PP (Instr.buildSlice T_Sint 0 #[]) w fun (ρ0 : Sl) ω1 =>
  L3 pr p_0 ρ0 (w64 ((p_0.n : Int) - 1)) ω1 (q3 pr R)) := by kernel_rfl
theorem E_s (p_0 : Sl) (w : World) (R : Ending → World → Prop) : E std p_0 w R = (
  sem1 .sl PP (Instr.buildSlice T_Sint 0 #[]) w fun (ρ0 : Sl) ω1 =>
  L3 std p_0 ρ0 (w64 ((p_0.n : Int) - 1)) ω1 (q3 std R)) := E_eq std p_0 w R
theorem drawsOk : drawsOk PP cfg okD (codeOf Try.f71) = true := by kernel_rfl
theorem calls (p_0 : Sl) {w : World} {R : Ending → World → Prop} (h : E std p_0 w R) : Calls PP F.spec_l3Reverse #[Sl.v p_0] w R :=
  calls_of noCount mixed drawOk Try.func71 rfl (c := cfg) (args := [Sl.v p_0]) rfl (Nat.le_of_ble_eq_true (by kernel_rfl)) drawsOk h
end spec_l3Reverse

end Go.Proofs.Ytdchjhhpbdekeaa

/- Rows given by a function of the place. -/
namespace Go.Proofs.Ytdchjhhpbdekeaa
open Go Go.RowKit
set_option maxRecDepth 100000

def tab (n : Nat) (f : Nat → Int) : List Int := (List.range n).map f
theorem tab_length (n : Nat) (f : Nat → Int) : (tab n f).length = n := by simp [tab]
theorem tab_getD {n : Nat} (f : Nat → Int) {i : Nat} (h : i < n) : (tab n f).getD i 0 = f i := by simp [tab, List.getD_eq_getElem?_getD, h]
theorem tab_set {n : Nat} (f : Nat → Int) (i : Nat) (v : Int) : (tab n f).set i v = tab n (fun j => if j = i then v else f j) := by
  apply List.ext_getElem?
  intro k
  simp only [tab, List.getElem?_set, List.getElem?_map, List.length_map, List.length_range]
  by_cases hk : k < n
  · rw [List.getElem?_range hk]
    by_cases hik : i = k
    · subst hik; simp [hk]
    · simp [hik, Ne.symm hik]
  · rw [List.getElem?_eq_none (by simpa using hk)]
    by_cases hik : i = k
    · subst hik; simp [hk]
    · simp [hik]
theorem tab_congr {n : Nat} {f g : Nat → Int} (h : ∀ j, j < n → f j = g j) : tab n f = tab n g := by
  unfold tab; apply List.map_congr_left; intro j hj; exact h j (by simpa using hj)
theorem grownBy_trans {a b c : World} {r : Option Nat} (h : a.grownBy b r) (k : b.grownBy c r) : a.grownBy c r :=
  ⟨k.os.trans h.os, k.tape.trans h.tape, k.output.trans h.output, Nat.le_trans h.size k.size, fun x hx hne => (k.block x (Nat.lt_of_lt_of_le hx h.size) hne).trans (h.block x hx hne)⟩
theorem grownBy_refl (a : World) (r : Option Nat) : a.grownBy a r := ⟨rfl, rfl, rfl, Nat.le_refl _, fun _ _ _ => rfl⟩
theorem Drew.grownBy {a b : World} (h : Drew a b) (r : Option Nat) : a.grownBy b r := by obtain ⟨n, rfl⟩ := h; exact ⟨rfl, rfl, rfl, Nat.le_refl _, fun _ _ _ => rfl⟩
theorem tab_succ (n : Nat) (f : Nat → Int) : tab (n + 1) f = tab n f ++ [f n] := by simp [tab, List.range_succ]
theorem tab_self (L : List Int) : tab L.length (fun k => L.getD k 0) = L := by
  apply List.ext_getElem?
  intro k
  by_cases hk : k < L.length
  · simp [tab, List.getElem?_range hk, List.getD_eq_getElem?_getD, List.getElem?_eq_getElem hk, hk]
  · rw [List.getElem?_eq_none (by simp [tab]; omega), List.getElem?_eq_none (by omega)]
theorem tab_reverse (L : List Int) : tab L.length (fun k => L.getD (L.length - 1 - k) 0) = L.reverse := by
  apply List.ext_getElem?
  intro k
  by_cases hk : k < L.length
  · rw [List.getElem?_reverse hk]
    simp [tab, List.getElem?_range hk, List.getD_eq_getElem?_getD, List.getElem?_eq_getElem (show L.length - 1 - k < L.length by omega)]
  · rw [List.getElem?_eq_none (by simp [tab]; omega), List.getElem?_eq_none (by simp; omega)]
end Go.Proofs.Ytdchjhhpbdekeaa

/- Plain law: ascending chains, told from their ends. -/
namespace Go.Proofs.Ytdchjhhpbdekeaa
open Go Go.RowKit
set_option maxRecDepth 100000

/-- An ascending chain of m places that begins at i. -/
inductive Fr (L : List Int) : Nat → Nat → Prop
  | one {i : Nat} : i < L.length → Fr L i 1
  | cons {i k m : Nat} : i < k → k < L.length → L.getD i 0 < L.getD k 0 → Fr L k m → Fr L i (m + 1)
/-- An ascending chain of m places that ends at k. -/
inductive En (L : List Int) : Nat → Nat → Prop
  | one {k : Nat} : k < L.length → En L k 1
  | snoc {i k m : Nat} : i < k → k < L.length → L.getD i 0 < L.getD k 0 → En L i m → En L k (m + 1)
theorem Fr.pos {L i m} (h : Fr L i m) : 1 ≤ m := by cases h <;> omega
theorem En.pos {L i m} (h : En L i m) : 1 ≤ m := by cases h <;> omega
theorem Fr.lt {L i m} (h : Fr L i m) : i < L.length := by cases h <;> omega
theorem Fr.toEn {L : List Int} {i m : Nat} (h : Fr L i m) : ∀ p, En L i p → ∃ k, En L k (p + m - 1) := by
  induction h with
  | one hi => exact fun p hp => ⟨_, by simpa using hp⟩
  | @cons i k m hik hk hlt _ ih =>
    intro p hp
    obtain ⟨k', h⟩ := ih (p + 1) (.snoc hik hk hlt hp)
    exact ⟨k', by rw [show p + (m + 1) - 1 = p + 1 + m - 1 by omega]; exact h⟩
theorem En.toFr {L : List Int} {k m : Nat} (h : En L k m) : ∀ p, Fr L k p → ∃ i, Fr L i (p + m - 1) := by
  induction h with
  | one hi => exact fun p hp => ⟨_, by simpa using hp⟩
  | @snoc i k m hik hk hlt _ ih =>
    intro p hp
    obtain ⟨k', h⟩ := ih (p + 1) (.cons hik hk hlt hp)
    exact ⟨k', by rw [show p + (m + 1) - 1 = p + 1 + m - 1 by omega]; exact h⟩
theorem Fr.le {L i m} (h : Fr L i m) : i + m ≤ L.length := by
  induction h with
  | one h => omega
  | cons h1 _ _ _ ih => omega
theorem En.le {L i m} (h : En L i m) : m ≤ i + 1 := by
  induction h with
  | one h => omega
  | snoc h1 _ _ _ ih => omega

/-- A number is the greatest m with a property. -/
def Most (P : Nat → Prop) (x : Int) : Prop := ∃ m : Nat, x = m ∧ P m ∧ ∀ m', P m' → m' ≤ m

/-- The greatest of the first k numbers, 0 at least. -/
def mx (f : Nat → Int) : Nat → Int
  | 0 => 0
  | k + 1 => max (mx f k) (f k)
theorem mx_ge {f : Nat → Int} {n k : Nat} (h : k < n) : f k ≤ mx f n := by
  induction n with
  | zero => omega
  | succ n ih =>
    simp only [mx]
    by_cases hk : k < n
    · have := ih hk; omega
    · have : k = n := by omega
      subst this; omega
theorem mx_mem {f : Nat → Int} {n : Nat} : mx f n = 0 ∨ ∃ k, k < n ∧ mx f n = f k := by
  induction n with
  | zero => exact .inl rfl
  | succ n ih =>
    simp only [mx]
    rcases Int.le_total (mx f n) (f n) with h | h
    · exact .inr ⟨n, by omega, by omega⟩
    · rcases ih with ih | ⟨k, hk, he⟩
      · exact .inl (by omega)
      · exact .inr ⟨k, by omega, by omega⟩
theorem mx_nonneg {f : Nat → Int} {n : Nat} : 0 ≤ mx f n := by
  induction n with
  | zero => exact Int.le_refl _
  | succ n ih => simp only [mx]; omega
def enI (L : List Int) (f : Nat → Int) (k : Nat) : Nat → Int
  | 0 => 1
  | i + 1 => if L.getD i 0 < L.getD k 0 then max (enI L f k i) (w64 (f i + 1)) else enI L f k i
def enT (L : List Int) : Nat → Nat → Int
  | 0, _ => 0
  | k + 1, j => if j = k then enI L (enT L k) k k else enT L k j
theorem enI_spec {L : List Int} (hL : L.length < 2^38) {f : Nat → Int} {k : Nat} (hk : k < L.length) (hv : ∀ i, i < k → Most (En L i) (f i)) : ∀ c, c ≤ k →
    1 ≤ enI L f k c ∧ (enI L f k c = 1 ∨ ∃ i, i < c ∧ L.getD i 0 < L.getD k 0 ∧ enI L f k c = f i + 1) ∧ ∀ i, i < c → L.getD i 0 < L.getD k 0 → f i + 1 ≤ enI L f k c
  | 0, _ => ⟨by simp [enI], .inl rfl, fun i hi => by omega⟩
  | c + 1, hc => by
    obtain ⟨h1, h2, h3⟩ := enI_spec hL hk hv c (by omega)
    obtain ⟨m, hm, hf, _⟩ := hv c (by omega)
    have hle := hf.le
    have hw : w64 (f c + 1) = f c + 1 := w64_id (by omega) (by omega)
    rw [enI, hw]
    split
    · rename_i hlt
      refine ⟨by omega, ?_, fun i hi hl => ?_⟩
      · rcases Int.le_total (enI L f k c) (f c + 1) with h | h
        · exact .inr ⟨c, by omega, hlt, by omega⟩
        · rcases h2 with h2 | ⟨i, a, b, d⟩
          · exact .inl (by omega)
          · exact .inr ⟨i, by omega, b, by omega⟩
      · by_cases hic : i < c
        · have := h3 i hic hl; omega
        · have : i = c := by omega
          subst this; omega
    · rename_i hlt
      refine ⟨h1, h2.imp id (fun ⟨i, a, b, d⟩ => ⟨i, by omega, b, d⟩), fun i hi hl => ?_⟩
      by_cases hic : i < c
      · exact h3 i hic hl
      · have : i = c := by omega
        subst this; exact absurd hl hlt
theorem enT_spec {L : List Int} (hL : L.length < 2^38) : ∀ d, d ≤ L.length → ∀ j, j < d → Most (En L j) (enT L d j)
  | 0, _, j, h => by omega
  | d + 1, hd, j, hj => by
    rw [enT]
    split
    · rename_i he
      subst he
      obtain ⟨a1, a2, a3⟩ := enI_spec hL (k := j) (by omega) (f := enT L j) (fun i hi => enT_spec hL j (by omega) i hi) j (Nat.le_refl _)
      refine ⟨(enI L (enT L j) j j).toNat, by omega, ?_, fun m' hm' => ?_⟩
      · rcases a2 with a2 | ⟨i, b1, b2, b3⟩
        · rw [a2]; exact .one (by omega)
        · obtain ⟨m, hm, hf, _⟩ := enT_spec hL j (by omega) i b1
          rw [b3, show (enT L j i + 1).toNat = m + 1 by omega]
          exact .snoc b1 (by omega) b2 hf
      · cases hm' with
        | one _ => omega
        | snoc c1 c2 c3 c4 =>
          rename_i i m
          have := a3 i c1 c3
          obtain ⟨m2, hm2, _, hmax⟩ := enT_spec hL j (by omega) i c1
          have := hmax m c4
          omega
    · exact enT_spec hL d (by omega) j (by omega)
end Go.Proofs.Ytdchjhhpbdekeaa

/- The length of a longest ascending part: the model text's. -/
namespace Go.Proofs.Ytdchjhhpbdekeaa
open Go Go.RowKit
set_option maxRecDepth 100000

theorem c_l1Max (a b : Int) : Pure F.spec_l1Max #[vI a, vI b] (vI (max a b)) := by
  intro w
  refine spec_l1Max.calls a b ?_
  rw [spec_l1Max.E_s]
  refine bif_dec (fun h => ?_) (fun h => ?_)
  · exact ⟨by rw [Int.max_eq_left (by omega)], rfl⟩
  · exact ⟨by rw [Int.max_eq_right (by omega)], rfl⟩

/-- The length of a longest ascending pattern. -/
def luV (L : List Int) : Int := mx (enT L L.length) L.length
theorem PermOk.ne {L : List Int} (h : PermOk L) : ∀ i j, i < j → j < L.length → L.getD i 0 ≠ L.getD j 0 := fun i j hij hj => (h j hj).2.2 i hij

theorem mx_congr {f g : Nat → Int} {n : Nat} (h : ∀ j, j < n → f j = g j) : mx f n = mx g n := by
  induction n with
  | zero => rfl
  | succ n ih => simp only [mx]; rw [ih (fun j hj => h j (by omega)), h n (by omega)]

theorem enT_stable (L : List Int) : ∀ d j, j < d → ∀ e, d ≤ e → enT L e j = enT L d j := by
  intro d j hj e he
  induction e with
  | zero => omega
  | succ e ih =>
    by_cases h : d = e + 1
    · rw [h]
    · rw [enT, if_neg (by omega), ih (by omega)]


theorem c_l20Up {w : World} {a : Sl} {L : List Int} (ha : RowI w a L) (hL : L.length < 2^38) :
    Calls PP F.spec_l20Up #[a.v] w fun e w' => e = .returned (vI (luV L)) ∧ Below w.heap.size w w' := by
  have han : a.n = L.length := by have := ha.n; simpa using this
  refine spec_l20Up.calls a ?_
  rw [spec_l20Up.E_s]
  refine lit0 oneInt (B := w.heap.size) (Nat.le_refl _) ?_
  intro t0 w1 hown hg _
  refine spec_l20Up.L4_rule _ _ _ _ _ _ (I := fun be t k w' => 0 ≤ k ∧ k ≤ L.length ∧ be = mx (enT L L.length) k.toNat ∧ OwnI w' w.heap.size t (tab k.toNat (enT L k.toNat)) ∧ Below w.heap.size w w') (μ := fun _ _ k _ => (L.length - k).toNat)
    ⟨by omega, by omega, rfl, hown, below_of_grow hg⟩ ?_
  rintro be t k w' ⟨h0, hk, hbe, ht, hb⟩
  rw [spec_l20Up.B4_s]
  refine bif_dec (fun h3 => ?_) (fun h3 => ?_)
  · refine spec_l20Up.L8_rule _ _ _ _ _ _ _ _ (I := fun n i w2 => 0 ≤ i ∧ i ≤ k ∧ n = enI L (enT L k.toNat) k.toNat i.toNat ∧ Drew w' w2) (μ := fun _ i _ => (k - i).toNat) ⟨by omega, by omega, rfl, Drew.refl _⟩ ?_
    rintro n i w2 ⟨hi0, hi, hn, hd⟩
    have hb2 : Below w.heap.size w w2 := hb.trans (hd.below _)
    have ht2 : OwnI w2 w.heap.size t (tab k.toNat (enT L k.toNat)) := ht.heap hd.heap'
    rw [spec_l20Up.B8_s]
    refine bif_dec (fun h4 => ?_) (fun h4 => ?_)
    · refine RowI.get (ha.grow hb2) hi0 (by omega) ?_
      refine RowI.get (ha.grow hb2) h0 (by omega) ?_
      refine drew_intro fun w3 hd3 => ?_
      have es : (i + 1).toNat = i.toNat + 1 := by omega
      refine bif_dec (fun h5 => ?_) (fun h5 => ?_)
      · refine RowI.get (ht2.heap hd3.heap').row hi0 (by rw [tab_length]; omega) ?_
        rw [tab_getD _ (by omega)]
        refine Pure.pcall1 (s := .int .i64) (c_l1Max _ _) ?_
        refine ⟨_, i + 1, by rw [w64_succ hi0 (by omega)], ⟨by omega, by omega, ?_, hd.trans hd3⟩, by omega⟩
        rw [es, enI, if_pos h5, hn]
      · refine ⟨n, i + 1, by rw [w64_succ hi0 (by omega)], ⟨by omega, by omega, ?_, hd.trans hd3⟩, by omega⟩
        rw [es, enI, if_neg h5, hn]
    · rw [spec_l20Up.A8_2_s]
      have ei : i.toNat = k.toNat := by omega
      rw [ei] at hn
      refine append_int ht2 hb2.size (by rw [tab_length]; omega) ?_
      intro t' w3 ht3 hg3 _
      refine Pure.pcall1 (s := .int .i64) (c_l1Max _ _) ?_
      have es : (k + 1).toNat = k.toNat + 1 := by omega
      have e1 : enT L (k.toNat + 1) k.toNat = n := by rw [enT, if_pos rfl, hn]
      refine ⟨_, t', k + 1, by rw [w64_succ h0 (by omega)], ⟨by omega, by omega, ?_, ?_, hb2.grown hg3 hb2.size (fun g hg => (ht2.lt g hg).1)⟩, by omega⟩
      · rw [es, mx, ← hbe, enT_stable L (k.toNat + 1) k.toNat (by omega) L.length (by omega), e1]
      · rw [es, tab_succ, e1, tab_congr (g := enT L k.toNat) (fun j hj => enT_stable L k.toNat j hj (k.toNat + 1) (by omega))]
        exact ht3
  · rw [spec_l20Up.A4_0_s]
    have e : k.toNat = L.length := by omega
    rw [e] at hbe
    exact ⟨by rw [hbe, luV], hb⟩

end Go.Proofs.Ytdchjhhpbdekeaa

/- Greene: of the word of a tableau, k colours colour as many places as its first k rows have. No program in sight. -/
namespace Go.Proofs.Ytdchjhhpbdekeaa
open Go
set_option maxRecDepth 100000

def tots (T : List (List Int)) : Nat := (T.map List.length).sum
theorem tots_cons (R : List Int) (T : List (List Int)) : tots (R :: T) = R.length + tots T := by simp [tots]
theorem Tab.tail {R : List Int} {T : List (List Int)} (h : Tab (R :: T)) : Tab T := h.2.2.2
theorem Under.trans {R S U : List Int} (h : Under R S) (k : Under S U) : Under R U := ⟨Nat.le_trans k.1 h.1, fun j hj => by have := h.2 j (by have := k.1; omega); have := k.2 j hj; omega⟩
theorem Tab.under : ∀ {T : List (List Int)}, Tab T → T.Pairwise Under
  | [], _ => List.Pairwise.nil
  | R :: T, h => by
    have ih := Tab.under h.tail
    refine List.Pairwise.cons (fun S hS => ?_) ih
    cases T with
    | nil => cases hS
    | cons U T =>
      have h1 := h.2.2.1 U rfl
      rcases List.mem_cons.1 hS with rfl | hS
      · exact h1
      · exact h1.trans ((List.pairwise_cons.1 ih).1 S hS)
theorem Tab.inc {T : List (List Int)} (h : Tab T) : ∀ R ∈ T, Inc R := by
  induction T with
  | nil => intro R hR; cases hR
  | cons S T ih =>
    intro R hR
    rcases List.mem_cons.1 hR with rfl | hR
    · exact h.2.1
    · exact ih h.tail R hR

/-! ### No fewer -/
def paint (k i : Nat) (R : List Int) : List (Int × Nat) := R.map fun x => (x, if i < k then i + 1 else 0)
def paints (k : Nat) : Nat → List (List Int) → List (Int × Nat)
  | _, [] => []
  | i, R :: T => paints k (i + 1) T ++ paint k i R
theorem paints_wd (k : Nat) : ∀ (i : Nat) (T : List (List Int)), wd (paints k i T) = tword T
  | _, [] => rfl
  | i, R :: T => by
    have e : wd (paint k i R) = R := by
      simp only [wd, paint, List.map_map]
      exact List.map_id'' (fun _ => rfl) R
    rw [paints, wd_append, paints_wd k (i + 1) T, tword, e]
theorem paints_col (k : Nat) : ∀ (i : Nat) (T : List (List Int)), ∀ x ∈ paints k i T, x.2 ≤ k ∧ (x.2 ≠ 0 → i < x.2)
  | _, [], x, h => by cases h
  | i, R :: T, x, h => by
    rw [paints] at h
    rcases List.mem_append.1 h with h | h
    · have := paints_col k (i + 1) T x h; omega
    · simp only [paint, List.mem_map] at h
      obtain ⟨y, _, rfl⟩ := h
      simp only
      split <;> omega
theorem paints_asc (k : Nat) : ∀ (i : Nat) {T : List (List Int)}, (∀ R ∈ T, Inc R) → AscW (paints k i T)
  | _, [], _ => List.Pairwise.nil
  | i, R :: T, h => by
    rw [paints, AscW, List.pairwise_append]
    refine ⟨paints_asc k (i + 1) fun S hS => h S (by simp [hS]), ?_, fun x hx y hy e1 e2 => ?_⟩
    · rw [paint, List.pairwise_map]
      exact (h R (by simp)).imp fun hab _ _ => hab
    · have := (paints_col k (i + 1) T x hx).2 e2
      simp only [paint, List.mem_map] at hy
      obtain ⟨z, _, rfl⟩ := hy
      simp only at e1
      split at e1 <;> omega
theorem paints_cnt (k : Nat) : ∀ (i : Nat) (T : List (List Int)), cnt (paints k i T) = tots (T.take (k - i))
  | i, [] => by simp [paints, cnt, tots]
  | i, R :: T => by
    rw [paints, cnt_append, paints_cnt k (i + 1) T]
    by_cases h : i < k
    · rw [show k - i = (k - (i + 1)) + 1 by omega, List.take_succ_cons, tots_cons]
      have : cnt (paint k i R) = R.length := by
        simp only [cnt, paint, h, if_true]
        rw [List.filter_eq_self.2 (by simp)]
        simp
      omega
    · rw [show k - i = 0 by omega, show k - (i + 1) = 0 by omega]
      have : cnt (paint k i R) = 0 := by
        simp [cnt, paint, h]
      rw [this]; rfl
theorem greene_lower {T : List (List Int)} (h : ∀ R ∈ T, Inc R) (k : Nat) : Reach k (tword T) (tots (T.take k)) :=
  ⟨paints k 0 T, paints_wd k 0 T, paints_asc k 0 h, fun x hx => (paints_col k 0 T x hx).1, paints_cnt k 0 T⟩

/-! ### No more -/
/-- Different colours: at most k. -/
theorem cnt_distinct : ∀ (k : Nat) {W : List (Int × Nat)}, (∀ x ∈ W, x.2 ≤ k) → W.Pairwise (fun x y => x.2 = y.2 → x.2 = 0) → cnt W ≤ k
  | 0, W, h, _ => by
    have : W.filter (fun x => decide (x.2 ≠ 0)) = [] := by
      rw [List.filter_eq_nil_iff]
      intro x hx; have := h x hx; simp only [ne_eq, decide_eq_true_eq]; omega
    rw [cnt, this]; exact Nat.le_refl _
  | k + 1, W, h, hp => by
    have ih := cnt_distinct k (W := W.filter fun x => decide (x.2 ≠ k + 1)) (fun x hx => by
      have h1 := List.mem_filter.1 hx
      have := h x h1.1
      have h2 : x.2 ≠ k + 1 := by simpa using h1.2
      omega) (hp.sublist List.filter_sublist)
    have key : ∀ V : List (Int × Nat), V.Pairwise (fun x y => x.2 = y.2 → x.2 = 0) → cnt V ≤ cnt (V.filter fun x => decide (x.2 ≠ k + 1)) + 1 := by
      intro V hV
      induction V with
      | nil => simp [cnt]
      | cons x V ih2 =>
        rw [List.pairwise_cons] at hV
        by_cases hx : x.2 = k + 1
        · have : (x :: V).filter (fun x => decide (x.2 ≠ k + 1)) = V := by
            rw [List.filter_cons_of_neg (by simp [hx]), List.filter_eq_self]
            intro y hy
            have := hV.1 y hy
            simp only [ne_eq, decide_eq_true_eq]
            intro e; have := this (by omega); omega
          rw [this, cnt_cons]; split <;> omega
        · rw [List.filter_cons_of_pos (by simp [hx]), cnt_cons, cnt_cons]
          have := ih2 hV.2
          omega
    have := key W hp
    omega
/-- A coloured tableau: its rows, and the word. -/
def cword : List (List (Int × Nat)) → List (Int × Nat)
  | [] => []
  | R :: C => cword C ++ R
theorem split_word : ∀ {T : List (List Int)} {W : List (Int × Nat)}, wd W = tword T → ∃ C, C.map wd = T ∧ cword C = W
  | [], W, h => by
    have : W = [] := by simpa [wd, tword] using h
    exact ⟨[], rfl, this.symm⟩
  | R :: T, W, h => by
    rw [tword, wd] at h
    obtain ⟨U, V, rfl, h1, h2⟩ := List.map_eq_append_iff.1 h
    obtain ⟨C, h3, h4⟩ := split_word (T := T) (W := U) h1
    exact ⟨V :: C, by rw [List.map_cons, h3]; simp only [wd, h2], by rw [cword, h4]⟩
def UnderC (R S : List (Int × Nat)) : Prop := S.length ≤ R.length ∧ ∀ (j : Nat) (x y : Int × Nat), R[j]? = some x → S[j]? = some y → x.1 < y.1
theorem underC_of {R S : List (Int × Nat)} (h : Under (wd R) (wd S)) : UnderC R S := by
  refine ⟨by simpa [wd] using h.1, fun j x y h1 h2 => ?_⟩
  have hj : j < S.length := (List.getElem?_eq_some_iff.1 h2).1
  have := h.2 j (by simpa [wd] using hj)
  simpa [wd, List.getD_eq_getElem?_getD, h1, h2] using this
theorem UnderC.tail {R S : List (Int × Nat)} (h : UnderC R S) : UnderC R.tail S.tail :=
  ⟨by simp; have := h.1; omega, fun j x y h1 h2 => h.2 (j + 1) x y (by simpa using h1) (by simpa using h2)⟩
def firsts (C : List (List (Int × Nat))) : List (Int × Nat) := C.filterMap List.head?
def full (C : List (List (Int × Nat))) : Nat := (C.filter fun R => !R.isEmpty).length
theorem firsts_length (C : List (List (Int × Nat))) : (firsts C).length = full C := by
  induction C with
  | nil => rfl
  | cons R C ih =>
    cases R with
    | nil => exact ih
    | cons x R => exact congrArg (· + 1) ih
theorem cword_cnt (C : List (List (Int × Nat))) : cnt (cword C) = cnt (firsts C) + cnt (cword (C.map List.tail)) := by
  induction C with
  | nil => rfl
  | cons R C ih =>
    rw [cword, cnt_append, ih]
    cases R with
    | nil => simp only [List.map_cons, List.tail_nil, cword, cnt_append]; rw [show firsts ([] :: C) = firsts C from rfl]; simp [cnt]
    | cons x R =>
      simp only [List.map_cons, List.tail_cons, cword, cnt_append]
      rw [show firsts ((x :: R) :: C) = x :: firsts C from rfl, cnt_cons, cnt_cons]; omega
def totc (C : List (List (Int × Nat))) : Nat := (C.map List.length).sum
theorem totc_tail (C : List (List (Int × Nat))) : totc C = full C + totc (C.map List.tail) := by
  induction C with
  | nil => rfl
  | cons R C ih =>
    cases R with
    | nil => simp [totc, full] at ih ⊢; exact ih
    | cons x R => simp [totc, full] at ih ⊢; omega
theorem cword_tail_sub (C : List (List (Int × Nat))) : (cword (C.map List.tail)).Sublist (cword C) := by
  induction C with
  | nil => exact List.Sublist.refl _
  | cons R C ih => exact ih.append (List.tail_sublist R)
theorem firsts_mem {C : List (List (Int × Nat))} {x : Int × Nat} (h : x ∈ firsts C) : ∃ R ∈ C, R[0]? = some x := by
  simp only [firsts, List.mem_filterMap] at h
  obtain ⟨R, h1, h2⟩ := h
  exact ⟨R, h1, by rw [← List.head?_eq_getElem?]; exact h2⟩
theorem cword_mem {C : List (List (Int × Nat))} {x : Int × Nat} : x ∈ cword C ↔ ∃ R ∈ C, x ∈ R := by
  induction C with
  | nil => simp [cword]
  | cons R C ih => rw [cword, List.mem_append, ih]; simp; rw [or_comm]
theorem firsts_diff {C : List (List (Int × Nat))} (hu : C.Pairwise UnderC) (ha : AscW (cword C)) : (firsts C).Pairwise fun x y => x.2 = y.2 → x.2 = 0 := by
  induction C with
  | nil => exact List.Pairwise.nil
  | cons R C ih =>
    rw [List.pairwise_cons] at hu
    rw [cword, AscW, List.pairwise_append] at ha
    have ih' := ih hu.2 ha.1
    cases R with
    | nil => exact ih'
    | cons x R =>
      refine List.Pairwise.cons (fun y hy e => ?_) ih'
      obtain ⟨S, hS, h0⟩ := firsts_mem hy
      have hlt := (hu.1 S hS).2 0 x y rfl h0
      have hmem : y ∈ cword C := cword_mem.2 ⟨S, hS, List.mem_of_getElem? h0⟩
      rcases Nat.eq_zero_or_pos x.2 with h1 | h1
      · exact h1
      · have := ha.2.2 y hmem x (by simp) e.symm (by omega)
        omega
theorem full_take {C : List (List (Int × Nat))} (hu : C.Pairwise UnderC) (k : Nat) : full (C.take k) = min k (full C) := by
  induction C generalizing k with
  | nil => simp [full]
  | cons R C ih =>
    rw [List.pairwise_cons] at hu
    cases k with
    | zero => simp [full]
    | succ k =>
      rw [List.take_succ_cons]
      cases R with
      | nil =>
        have h0 : ∀ n, full (C.take n) = 0 := fun n => by
          unfold full
          rw [List.filter_eq_nil_iff.2]
          · rfl
          · intro S hS
            have h1 := (hu.1 S (List.mem_of_mem_take hS)).1
            have : S = [] := List.eq_nil_of_length_eq_zero (by simpa using h1)
            simp [this]
        have h1 : full C = 0 := by have := h0 C.length; rwa [List.take_length] at this
        have e : ∀ D, full ([] :: D) = full D := fun D => rfl
        rw [e, e, h0, h1]; omega
      | cons x R =>
        have e : ∀ D, full ((x :: R) :: D) = full D + 1 := fun D => by simp [full]
        rw [e, e, ih hu.2 k]; omega
theorem upper_aux (k : Nat) : ∀ (n : Nat) (C : List (List (Int × Nat))), (∀ R ∈ C, R.length ≤ n) → C.Pairwise UnderC → AscW (cword C) → (∀ x ∈ cword C, x.2 ≤ k) → cnt (cword C) ≤ totc (C.take k)
  | 0, C, h, _, _, _ => by
    have : cword C = [] := by
      rw [List.eq_nil_iff_forall_not_mem]
      intro x hx
      obtain ⟨R, hR, hx⟩ := cword_mem.1 hx
      have := h R hR
      have : R = [] := List.eq_nil_of_length_eq_zero (by omega)
      subst this; cases hx
    rw [this]; simp [cnt]
  | n + 1, C, h, hu, ha, hk => by
    have hsub := cword_tail_sub C
    have ih := upper_aux k n (C.map List.tail) (fun R hR => by
      obtain ⟨S, hS, rfl⟩ := List.mem_map.1 hR
      have := h S hS; simp; omega) (by rw [List.pairwise_map]; exact hu.imp fun h => h.tail) (ha.sublist hsub) (fun x hx => hk x (hsub.subset hx))
    rw [← List.map_take] at ih
    rw [cword_cnt, totc_tail (C.take k), full_take hu]
    have h1 : cnt (firsts C) ≤ full C := by
      rw [← firsts_length]; exact List.length_filter_le _ _
    have h2 : cnt (firsts C) ≤ k := cnt_distinct k (fun x hx => by
      obtain ⟨R, hR, h0⟩ := firsts_mem hx
      exact hk x (cword_mem.2 ⟨R, hR, List.mem_of_getElem? h0⟩)) (firsts_diff hu ha)
    omega
theorem len_le_totc {C : List (List (Int × Nat))} {R : List (Int × Nat)} (h : R ∈ C) : R.length ≤ totc C := by
  induction C with
  | nil => cases h
  | cons S C ih =>
    have e : totc (S :: C) = S.length + totc C := by simp [totc]
    rw [e]
    rcases List.mem_cons.1 h with rfl | h
    · omega
    · have := ih h; omega
theorem greene_upper {T : List (List Int)} (h : T.Pairwise Under) {k n : Nat} (hr : Reach k (tword T) n) : n ≤ tots (T.take k) := by
  obtain ⟨W, h1, h2, h3, h4⟩ := hr
  obtain ⟨C, h5, h6⟩ := split_word h1
  subst h6
  have hu : C.Pairwise UnderC := by
    rw [← h5, List.pairwise_map] at h
    exact h.imp underC_of
  have h7 := upper_aux k (totc C) C (fun R hR => len_le_totc hR) hu h2 h3
  rw [h4] at h7
  refine Nat.le_trans h7 (Nat.le_of_eq ?_)
  rw [← h5, tots, totc, ← List.map_take, List.map_map]
  congr 1
  apply List.map_congr_left
  intro R _
  simp [wd]
/-- The greatest number of places that k colours colour in a word is what the first k rows of its tableau have. -/
theorem greene {w : List Int} (h : w.Nodup) (k : Nat) : Reach k w (tots ((insP w).take k)) ∧ ∀ n, Reach k w n → n ≤ tots ((insP w).take k) := by
  obtain ⟨h1, h2, h3⟩ := insP_all h
  exact ⟨h3.symm.reach (greene_lower h1.inc k), fun n hn => greene_upper h1.under (h3.reach hn)⟩
end Go.Proofs.Ytdchjhhpbdekeaa

/- The parts of a permutation without long descents are those that few colours colour. No program in sight. -/
namespace Go.Proofs.Ytdchjhhpbdekeaa
open Go
set_option maxRecDepth 100000

def colored (W : List (Int × Nat)) : List (Int × Nat) := W.filter fun x => decide (x.2 ≠ 0)
theorem asc_colored {W : List (Int × Nat)} : AscW (colored W) ↔ AscW W := by
  unfold AscW colored
  rw [List.pairwise_filter]
  constructor
  · intro h
    refine h.imp fun {a b} hab e1 e2 => ?_
    exact hab (by simpa using e2) (by simpa [← e1] using e2) e1 e2
  · intro h
    exact h.imp fun {a b} hab _ _ => hab
/-- The numbers at the places that a mask has, up to place m. -/
def part (L : List Int) (s : Nat) : Nat → List Int
  | 0 => []
  | m + 1 => part L s m ++ if s.testBit m then [L.getD m 0] else []
theorem part_congr (L : List Int) {s t : Nat} : ∀ m, (∀ i, i < m → s.testBit i = t.testBit i) → part L s m = part L t m
  | 0, _ => rfl
  | m + 1, h => by rw [part, part, part_congr L m fun i hi => h i (by omega), h m (by omega)]
theorem part_len (L : List Int) (s : Nat) : ∀ m, (part L s m).length ≤ m
  | 0 => Nat.le_refl _
  | m + 1 => by have := part_len L s m; rw [part]; split <;> simp <;> omega
theorem part_sub (L : List Int) (s : Nat) : ∀ m, m ≤ L.length → (part L s m).Sublist (L.take m)
  | 0, _ => by simp [part]
  | m + 1, h => by
    have e : L.take (m + 1) = L.take m ++ [L.getD m 0] := by rw [getD_lt (by omega)]; simp
    rw [part, e]
    refine (part_sub L s m (by omega)).append ?_
    split
    · exact List.Sublist.refl _
    · exact List.nil_sublist _
theorem part_ext {L : List Int} {s k : Nat} : ∀ (m : Nat) {V : List (Int × Nat)}, m ≤ L.length → wd V = part L s m → (∀ x ∈ V, x.2 ≠ 0 ∧ x.2 ≤ k) → ∃ W, wd W = L.take m ∧ colored W = V ∧ ∀ x ∈ W, x.2 ≤ k
  | 0, V, _, h, _ => by
    have : V = [] := by simpa [wd, part] using h
    exact ⟨[], by simp [wd], by simp [this, colored], by simp⟩
  | m + 1, V, hm, h, hk => by
    have e : L.take (m + 1) = L.take m ++ [L.getD m 0] := by rw [getD_lt (by omega)]; simp
    rw [part] at h
    split at h
    · rw [wd] at h
      obtain ⟨U, T, rfl, h1, h2⟩ := List.map_eq_append_iff.1 h
      obtain ⟨x, T, rfl, h3, h4⟩ := List.map_eq_cons_iff.1 h2
      have : T = [] := by simpa using h4
      subst this
      obtain ⟨W, a1, a2, a3⟩ := part_ext m (by omega) h1 (fun y hy => hk y (by simp [hy]))
      have hx := hk x (by simp)
      refine ⟨W ++ [x], ?_, ?_, fun y hy => ?_⟩
      · rw [wd_append, a1, e]; simp [wd, h3]
      · unfold colored at a2 ⊢
        rw [List.filter_append, a2]
        simp [hx.1]
      · rcases List.mem_append.1 hy with hy | hy
        · exact a3 y hy
        · simp at hy; subst hy; exact hx.2
    · rw [List.append_nil] at h
      obtain ⟨W, a1, a2, a3⟩ := part_ext m (by omega) h hk
      refine ⟨W ++ [(L.getD m 0, 0)], ?_, ?_, fun y hy => ?_⟩
      · rw [wd_append, a1, e]; simp [wd]
      · unfold colored at a2 ⊢
        rw [List.filter_append, a2]
        simp
      · rcases List.mem_append.1 hy with hy | hy
        · exact a3 y hy
        · simp at hy; subst hy; simp
theorem mask_of {L : List Int} {W : List (Int × Nat)} (h : wd W = L) : ∀ m, m ≤ L.length → ∃ s, s < 2 ^ m ∧ part L s m = wd (colored (W.take m))
  | 0, _ => ⟨0, by simp, by simp [part, colored, wd]⟩
  | m + 1, hm => by
    obtain ⟨s, hs, he⟩ := mask_of h m (by omega)
    have hWl : W.length = L.length := by rw [← h]; simp [wd]
    have e : W.take (m + 1) = W.take m ++ [W[m]'(by omega)] := by simp
    have e2 : L.getD m 0 = (W[m]'(by omega)).1 := by
      rw [getD_lt (by omega)]; subst h; simp [wd]
    have hp : 2 ^ (m + 1) = 2 ^ m + 2 ^ m := by rw [Nat.pow_succ]; omega
    by_cases hc : (W[m]'(by omega)).2 = 0
    · refine ⟨s, by omega, ?_⟩
      rw [part, he, if_neg (by rw [Nat.testBit_lt_two_pow hs]; simp), e, colored, colored, List.filter_append]
      simp [hc]
    · refine ⟨2 ^ m + s, by omega, ?_⟩
      rw [part, if_pos (by rw [Nat.testBit_two_pow_add_eq, Nat.testBit_lt_two_pow hs]; rfl), part_congr L (t := s) m (fun i hi => Nat.testBit_two_pow_add_gt hi s), he, e, colored, colored, List.filter_append, e2]
      simp [hc, wd]
/-- Few colours: no long descent. -/
theorem chain_cols {R : List (Int × Nat)} {j m : Nat} (h : En (wd R) j m) : ∃ V : List (Int × Nat), V.Sublist (R.take (j + 1)) ∧ V.length = m ∧ V.Pairwise (fun a b => a.1 < b.1) ∧ ∀ x ∈ V, x.1 ≤ (wd R).getD j 0 := by
  induction h with
  | @one k hk =>
    have hk' : k < R.length := by simpa [wd] using hk
    refine ⟨[R[k]], ?_, rfl, by simp, fun x hx => ?_⟩
    · rw [show R.take (k + 1) = R.take k ++ [R[k]] by simp]
      exact List.sublist_append_right _ _
    · simp at hx; subst hx; simp [wd, hk']
  | @snoc i k m hik hk hlt _ ih =>
    obtain ⟨V, h1, h2, h3, h4⟩ := ih
    have hk' : k < R.length := by simpa [wd] using hk
    refine ⟨V ++ [R[k]], ?_, by simp [h2], ?_, fun x hx => ?_⟩
    · rw [show R.take (k + 1) = R.take k ++ [R[k]] by simp]
      refine List.Sublist.append (h1.trans ?_) (List.Sublist.refl _)
      exact List.take_sublist_take_left (by omega)
    · rw [List.pairwise_append]
      refine ⟨h3, by simp, fun a ha b hb => ?_⟩
      simp at hb; subst hb
      have := h4 a ha
      have e : (wd R).getD k 0 = R[k].1 := by simp [wd, hk']
      omega
    · rcases List.mem_append.1 hx with hx | hx
      · have := h4 x hx; omega
      · simp at hx; subst hx; simp [wd, hk']
theorem few_cols {W : List (Int × Nat)} {k : Nat} (ha : AscW W) (hk : ∀ x ∈ W, x.2 ≠ 0 ∧ x.2 ≤ k) (hl : W.length < 2^38) : luV (wd W).reverse ≤ k := by
  have hrev : (wd W).reverse = wd W.reverse := by simp [wd]
  have hlen : (wd W).reverse.length = W.length := by simp [wd]
  unfold luV
  rcases mx_mem (f := enT (wd W).reverse (wd W).reverse.length) (n := (wd W).reverse.length) with h | ⟨j, hj, he⟩
  · omega
  · rw [he]
    obtain ⟨m, hm, hen, _⟩ := enT_spec (L := (wd W).reverse) (by omega) _ (Nat.le_refl _) j hj
    rw [hm]
    rw [hrev] at hen
    obtain ⟨V, h1, h2, h3, _⟩ := chain_cols hen
    have hsub : V.Sublist W.reverse := h1.trans (List.take_sublist _ _)
    have hp : V.Pairwise fun a b => AscC b a := (List.pairwise_reverse.2 (by simpa [AscW] using ha)).sublist hsub
    have hq : V.Pairwise fun x y => x.2 = y.2 → x.2 = 0 := by
      have := h3.and hp
      refine this.imp fun {a b} ⟨h4, h5⟩ e => ?_
      rcases Nat.eq_zero_or_pos a.2 with h6 | h6
      · exact h6
      · have := h5 e.symm (by omega)
        omega
    have hmem : ∀ x ∈ V, x.2 ≠ 0 ∧ x.2 ≤ k := fun x hx => hk x (by have := hsub.subset hx; simpa using this)
    have h7 := cnt_distinct k (fun x hx => (hmem x hx).2) hq
    have h8 : cnt V = V.length := by
      unfold cnt
      rw [List.filter_eq_self.2 fun x hx => by simpa using (hmem x hx).1]
    omega
/-- No long descent: few colours. -/
theorem cols_of {M : List Int} {k : Nat} (hn : M.Nodup) (hl : M.length < 2^38) (h : luV M.reverse ≤ k) : ∃ W, wd W = M ∧ AscW W ∧ ∀ x ∈ W, x.2 ≠ 0 ∧ x.2 ≤ k := by
  have hrl : M.reverse.length = M.length := by simp
  have hsp := enT_spec (L := M.reverse) (by omega) _ (Nat.le_refl _)
  let R : List (Int × Nat) := (List.range M.length).map fun j => (M.reverse.getD j 0, (enT M.reverse M.reverse.length j).toNat)
  have hR : wd R = M.reverse := by
    have := tab_self M.reverse
    rw [hrl] at this
    simp only [wd, R, List.map_map]
    exact this
  refine ⟨R.reverse, by rw [wd, List.map_reverse]; simp only [wd] at hR; rw [hR]; simp, ?_, fun x hx => ?_⟩
  · unfold AscW
    rw [List.pairwise_reverse]
    simp only [R]
    rw [List.pairwise_map]
    have hr : (List.range M.length).Pairwise fun a b => a < b := List.pairwise_lt_range
    refine List.Pairwise.imp_of_mem (R := fun a b => a < b) (fun {a b} ha hb hab e1 e2 => ?_) hr
    simp only [List.mem_range] at ha hb
    simp only at e1 e2 ⊢
    obtain ⟨ma, hma, hea, _⟩ := hsp a (by omega)
    obtain ⟨mb, hmb, heb, hmax⟩ := hsp b (by omega)
    rcases Int.lt_trichotomy (M.reverse.getD b 0) (M.reverse.getD a 0) with h1 | h1 | h1
    · exact h1
    · exfalso
      have hnr : M.reverse.Nodup := (List.reverse_perm M).nodup_iff.2 hn
      rw [List.nodup_iff_pairwise_ne, List.pairwise_iff_getElem] at hnr
      have := hnr a b (by omega) (by omega) hab
      rw [getD_lt (by omega), getD_lt (by omega)] at h1
      exact this h1.symm
    · exfalso
      have := hmax _ (.snoc hab (by omega) h1 hea)
      omega
  · rw [List.mem_reverse] at hx
    simp only [R, List.mem_map, List.mem_range] at hx
    obtain ⟨j, hj, rfl⟩ := hx
    obtain ⟨m, hm, he, _⟩ := hsp j (by omega)
    have h1 := he.pos
    have h2 := mx_ge (f := enT M.reverse M.reverse.length) (n := M.reverse.length) (k := j) (by omega)
    unfold luV at h
    simp only
    omega
/-- The greatest part without a long descent, among the first m masks. -/
def bestU (L : List Int) (k : Int) : Nat → Int
  | 0 => 0
  | m + 1 => if ((part L m L.length).length : Int) > bestU L k m ∧ luV (part L m L.length).reverse ≤ k then (part L m L.length).length else bestU L k m
theorem bestU_ge {L : List Int} {k : Int} {s : Nat} (h : luV (part L s L.length).reverse ≤ k) : ∀ m, s < m → ((part L s L.length).length : Int) ≤ bestU L k m
  | 0, hs => by omega
  | m + 1, hs => by
    rw [bestU]
    by_cases e : s = m
    · subst e
      split
      · exact Int.le_refl _
      · rename_i hc
        rcases Int.lt_or_le (bestU L k s) ((part L s L.length).length : Int) with h1 | h1
        · exact absurd ⟨h1, h⟩ hc
        · exact h1
    · have := bestU_ge h m (by omega)
      split
      · rename_i hc; omega
      · exact this
theorem bestU_mem (L : List Int) (k : Int) : ∀ m, bestU L k m = 0 ∨ ∃ s, s < m ∧ luV (part L s L.length).reverse ≤ k ∧ bestU L k m = (part L s L.length).length
  | 0 => .inl rfl
  | m + 1 => by
    rw [bestU]
    split
    · rename_i hc; exact .inr ⟨m, by omega, hc.2, rfl⟩
    · rcases bestU_mem L k m with h | ⟨s, h1, h2, h3⟩
      · exact .inl h
      · exact .inr ⟨s, by omega, h2, h3⟩
/-- Greene: the greatest part is what the first rows of the tableau have. -/
theorem bestU_greene {L : List Int} (hn : L.Nodup) (hl : L.length < 2^38) (k : Nat) : bestU L k (2 ^ L.length) = tots ((insP L).take k) := by
  obtain ⟨g1, g2⟩ := greene hn k
  have hle : bestU L k (2 ^ L.length) ≤ tots ((insP L).take k) := by
    rcases bestU_mem L k (2 ^ L.length) with h | ⟨s, _, h2, h3⟩
    · omega
    · rw [h3]
      have hsub := part_sub L s L.length (Nat.le_refl _)
      rw [List.take_length] at hsub
      have hpl := part_len L s L.length
      obtain ⟨V, e1, e2, e3⟩ := cols_of (hn.sublist hsub) (by omega) h2
      obtain ⟨W, f1, f2, f3⟩ := part_ext L.length (Nat.le_refl _) e1 e3
      have := g2 (part L s L.length).length ⟨W, by rw [f1, List.take_length], asc_colored.1 (by rw [f2]; exact e2), f3, ?_⟩
      · omega
      · show (colored W).length = _
        rw [f2, ← e1]; simp [wd]
  have hge : (tots ((insP L).take k) : Int) ≤ bestU L k (2 ^ L.length) := by
    obtain ⟨W, h1, h2, h3, h4⟩ := g1
    obtain ⟨s, hs, he⟩ := mask_of h1 L.length (Nat.le_refl _)
    have hWl : W.length = L.length := by rw [← h1]; simp [wd]
    rw [← hWl, List.take_length, hWl] at he
    have hfl := List.length_filter_le (fun x : Int × Nat => decide (x.2 ≠ 0)) W
    have h5 := few_cols (W := colored W) (k := k) (asc_colored.2 h2) (fun x hx => by
      have := List.mem_filter.1 hx
      exact ⟨by simpa using this.2, h3 x this.1⟩) (by unfold colored; omega)
    rw [← he] at h5
    have h6 := bestU_ge h5 (2 ^ L.length) hs
    have h7 : (part L s L.length).length = cnt W := by rw [he]; simp [wd, colored, cnt]
    omega
  omega
end Go.Proofs.Ytdchjhhpbdekeaa

/- The model text's reverse. -/
namespace Go.Proofs.Ytdchjhhpbdekeaa
open Go Go.RowKit
set_option maxRecDepth 100000

theorem c_l3Reverse {w : World} {a : Sl} {L : List Int} (ha : RowI w a L) (hL : L.length < 2^38) :
    Calls PP F.spec_l3Reverse #[a.v] w fun e w' => ∃ s : Sl, e = .returned s.v ∧ OwnI w' w.heap.size s L.reverse ∧ Below w.heap.size w w' := by
  have han : a.n = L.length := by have := ha.n; simpa using this
  refine spec_l3Reverse.calls a ?_
  rw [spec_l3Reverse.E_s]
  refine lit0 oneInt (B := w.heap.size) (Nat.le_refl _) ?_
  intro t0 w1 hown hg _
  rw [han, w64_id (by omega) (by omega)]
  refine spec_l3Reverse.L3_rule _ _ _ _ _ (I := fun t k w' => -1 ≤ k ∧ k < L.length ∧ OwnI w' w.heap.size t (tab (L.length - 1 - k).toNat fun j => L.getD (L.length - 1 - j) 0) ∧ Below w.heap.size w w') (μ := fun _ k _ => (k + 1).toNat)
    ⟨by omega, by omega, ?_, below_of_grow hg⟩ ?_
  · rw [show ((L.length : Int) - 1 - ((L.length : Int) - 1)).toNat = 0 by omega]; exact hown
  rintro t k w' ⟨h0, hk, ht, hb⟩
  rw [spec_l3Reverse.B3_s]
  refine bif_dec (fun h3 => ?_) (fun h3 => ?_)
  · refine RowI.get (ha.grow hb) h3 (by omega) ?_
    refine append_int ht hb.size (by rw [tab_length]; omega) ?_
    intro t' w2 ht2 hg2 _
    refine ⟨t', k - 1, by rw [w64_id (by omega) (by omega)], ⟨by omega, by omega, ?_, hb.grown hg2 hb.size (fun g hg => (ht.lt g hg).1)⟩, by omega⟩
    rw [show ((L.length : Int) - 1 - (k - 1)).toNat = ((L.length : Int) - 1 - k).toNat + 1 by omega, tab_succ]
    rw [show L.length - 1 - ((L.length : Int) - 1 - k).toNat = k.toNat by omega]
    exact ht2
  · rw [spec_l3Reverse.A3_0_s]
    rw [show ((L.length : Int) - 1 - k).toNat = L.length by omega, tab_reverse] at ht
    exact ⟨t, rfl, ht, hb⟩

theorem rev_ne {L : List Int} (hp : ∀ i j, i < j → j < L.length → L.getD i 0 ≠ L.getD j 0) : ∀ i j, i < j → j < L.reverse.length → L.reverse.getD i 0 ≠ L.reverse.getD j 0 := by
  intro i j hij hj
  rw [List.length_reverse] at hj
  rw [← tab_reverse, tab_getD _ (by omega), tab_getD _ hj]
  exact fun e => hp (L.length - 1 - j) (L.length - 1 - i) (by omega) (by omega) e.symm

end Go.Proofs.Ytdchjhhpbdekeaa

/- The laws' helpers that mark a row and look whether the marks stand. -/
namespace Go.Proofs.Ytdchjhhpbdekeaa
open Go Go.RowKit
set_option maxRecDepth 100000

/-- k, k+1, .. -/
def marks (k : Int) (n : Nat) : List Int := (List.range n).map fun (i : Nat) => k + (i : Int)
theorem marks_length (k : Int) (n : Nat) : (marks k n).length = n := by simp [marks]
theorem marks_getD {k : Int} {n i : Nat} (h : i < n) : (marks k n).getD i 0 = k + i := by simp [marks, List.getD_eq_getElem?_getD, h]
theorem marks_step (L : List Int) (k : Int) {i : Nat} (hi : i < L.length) : (marks k i ++ L.drop i).set i (k + i) = marks k (i + 1) ++ L.drop (i + 1) := by
  have h1 : L.drop i = L[i] :: L.drop (i + 1) := by rw [List.drop_eq_getElem_cons hi]
  have h2 : (marks k i).length = i := marks_length k i
  have h3 : marks k (i + 1) = marks k i ++ [k + (i : Int)] := by simp [marks, List.range_succ]
  rw [h1, List.set_append_right _ _ (by omega), h2, Nat.sub_self, List.set_cons_zero, h3, List.append_assoc]
  rfl

end Go.Proofs.Ytdchjhhpbdekeaa

/- UpUnion: both texts. -/
namespace Go.Proofs.Ytdchjhhpbdekeaa
open Go Go.RowKit
set_option maxRecDepth 100000

open Classical in
noncomputable def UpUnionV (L : List Int) (k : Int) : Int := if IsP L ∧ 0 ≤ k ∧ k ≤ 8 then (tots ((insP L).take k.toNat) : Int) else -1
theorem bitAll : ∀ (s : Fin 256) (i : Fin 8), bAnd .i64 (sShr .i64 ((s : Nat) : Int) (IntKind.u64.wrap ((i : Nat) : Int))) 1 = if (s : Nat).testBit i then 1 else 0 := by decide +kernel
theorem bit_eq {s i : Int} (hs0 : 0 ≤ s) (hs : s < 256) (hi0 : 0 ≤ i) (hi : i < 8) : bAnd .i64 (sShr .i64 s (IntKind.u64.wrap i)) 1 = if s.toNat.testBit i.toNat then 1 else 0 := by
  have := bitAll ⟨s.toNat, by omega⟩ ⟨i.toNat, by omega⟩
  simp only at this
  rwa [Int.toNat_of_nonneg hs0, Int.toNat_of_nonneg hi0] at this
theorem wrapAll : ∀ n : Fin 9, (0 : Int) ≤ IntKind.u64.wrap ((n : Nat) : Int) ∧ sShl .i64 1 (IntKind.u64.wrap ((n : Nat) : Int)) = ((2 ^ (n : Nat) : Nat) : Int) := by decide +kernel
theorem wrap_eq {n : Nat} (hn : n ≤ 8) : (0 : Int) ≤ IntKind.u64.wrap (n : Int) ∧ sShl .i64 1 (IntKind.u64.wrap (n : Int)) = ((2 ^ n : Nat) : Int) := wrapAll ⟨n, by omega⟩
theorem c_specUpUnion {w : World} {a : Sl} {L : List Int} (ha : RowI w a L) (hL : L.length < 2^38) (k : Int) :
    Calls PP F.spec_UpUnion #[a.v, vI k] w fun e w' => e = .returned (vI (UpUnionV L k)) ∧ Below w.heap.size w w' := by
  have han : a.n = L.length := by have := ha.n; simpa using this
  refine spec_UpUnion.calls a k ?_
  rw [spec_UpUnion.E_s]
  refine Quiet.call1 (s := .bool) (c_specIsPerm ha hL) ?_
  intro w1 hd1
  have hb1 := hd1.below w.heap.size
  refine bif_intro (fun h => ?_) (fun h => ?_)
  · rw [UpUnionV, if_neg (fun hh => by simp [hh.1] at h)]; exact ⟨rfl, hb1⟩
  have hP : IsP L := by simpa using h
  refine Pure.pcall1 (s := .bool) (c_l1In k 0 8) ?_
  refine bif_intro (fun h2 => ?_) (fun h2 => ?_)
  · rw [UpUnionV, if_neg (fun hh => by have h3 := hh.2; simp at h2; omega)]; exact ⟨rfl, hb1⟩
  have hk : 0 ≤ k ∧ k ≤ 8 := by simp at h2; omega
  have h8 := hP.1
  have hnd : L.Nodup := (permOk_iff.1 hP.2).1
  rw [UpUnionV, if_pos ⟨hP, hk⟩]
  obtain ⟨hw0, hw1⟩ := wrap_eq h8
  have h256 : 2 ^ L.length ≤ 256 := Nat.pow_le_pow_right (n := 2) (by omega) h8
  refine spec_UpUnion.L5_rule _ _ _ _ _ _ (I := fun best s w' => 0 ≤ s ∧ s ≤ ((2 ^ L.length : Nat) : Int) ∧ best = bestU L k s.toNat ∧ Below w.heap.size w w') (μ := fun _ s _ => (((2 ^ L.length : Nat) : Int) - s).toNat) ⟨by omega, Int.natCast_nonneg _, rfl, hb1⟩ ?_
  rintro best s w2 ⟨hs0, hs, rfl, hb2⟩
  rw [spec_UpUnion.B5_s, han, hw1]
  refine ⟨hw0, ?_⟩
  refine bif_dec (fun h3 => ?_) (fun h3 => ?_)
  · refine lit0 oneInt (B := w.heap.size) hb2.size ?_
    intro t0 w3 ht0 hg3 _
    refine spec_UpUnion.L9_rule _ _ _ _ _ _ _ _ (I := fun t i w' => 0 ≤ i ∧ i ≤ L.length ∧ OwnI w' w.heap.size t (part L s.toNat i.toNat) ∧ Below w.heap.size w w') (μ := fun _ i _ => (L.length - i).toNat)
      ⟨by omega, by omega, by simpa [part, OwnI] using ht0, hb2.trans ((below_of_grow hg3).mono hb2.size)⟩ ?_
    rintro t i w4 ⟨hi0, hi, ht, hb4⟩
    have hpl := part_len L s.toNat i.toNat
    rw [spec_UpUnion.B9_s, han]
    refine bif_dec (fun h4 => ?_) (fun h4 => ?_)
    · rw [bit_eq hs0 (by omega) hi0 (by omega)]
      have hwi := (wrap_eq (n := i.toNat) (by omega)).1
      rw [Int.toNat_of_nonneg hi0] at hwi
      refine ⟨hwi, ?_⟩
      refine bif_intro (fun h5 => ?_) (fun h5 => ?_)
      · have hbit : s.toNat.testBit i.toNat = true := by
          cases hb : s.toNat.testBit i.toNat
          · rw [hb] at h5; simp at h5
          · rfl
        refine RowI.get (ha.grow hb4) hi0 (by omega) ?_
        refine append_int ht hb4.size (by omega) ?_
        intro t' w5 ht' hg5 _
        refine ⟨t', i + 1, by rw [w64_succ hi0 (by omega)], ⟨by omega, by omega, ?_, hb4.grown hg5 hb4.size (fun g hg => (ht.lt g hg).1)⟩, by omega⟩
        rw [show (i + 1).toNat = i.toNat + 1 by omega, part, if_pos hbit]; exact ht'
      · have hbit : s.toNat.testBit i.toNat = false := by
          cases hb : s.toNat.testBit i.toNat
          · rfl
          · rw [hb] at h5; simp at h5
        refine ⟨t, i + 1, by rw [w64_succ hi0 (by omega)], ⟨by omega, by omega, ?_, hb4⟩, by omega⟩
        rw [show (i + 1).toNat = i.toNat + 1 by omega, part, hbit]
        simpa using ht
    · rw [spec_UpUnion.A9_2_s]
      have ei : i.toNat = L.length := by omega
      rw [ei] at ht hpl
      have htn : t.n = (part L s.toNat L.length).length := by have := ht.n; simpa using this
      rw [htn]
      have es : (s + 1).toNat = s.toNat + 1 := by omega
      have stay : ¬ (((part L s.toNat L.length).length : Int) > bestU L k s.toNat ∧ luV (part L s.toNat L.length).reverse ≤ k) → bestU L k s.toNat = bestU L k (s + 1).toNat := fun hn => by rw [es, bestU, if_neg hn]
      refine bif_dec (fun h5 => ?_) (fun h5 => ?_)
      · refine (c_l3Reverse ht.row (by omega)).mono ?_
        rintro e w5 ⟨r, rfl, hr, hb5⟩
        refine ⟨r, rfl, ?_⟩
        have hb45 := hb4.trans (hb5.mono hb4.size)
        refine (c_l20Up hr.row (by rw [List.length_reverse]; omega)).mono ?_
        rintro e w6 ⟨rfl, hb6⟩
        refine ⟨_, rfl, ?_⟩
        have hb46 := hb45.trans (hb6.mono hb45.size)
        refine bif_dec (fun h6 => ?_) (fun h6 => ?_)
        · refine ⟨_, s + 1, by rw [w64_succ hs0 (by omega)], ⟨by omega, by omega, ?_, hb46⟩, by omega⟩
          rw [es, bestU, if_pos ⟨h5, h6⟩]
        · exact ⟨_, s + 1, by rw [w64_succ hs0 (by omega)], ⟨by omega, by omega, stay fun hh => h6 hh.2, hb46⟩, by omega⟩
      · exact ⟨_, s + 1, by rw [w64_succ hs0 (by omega)], ⟨by omega, by omega, stay fun hh => h5 hh.1, hb4⟩, by omega⟩
  · rw [spec_UpUnion.A5_0_s]
    have e : s.toNat = 2 ^ L.length := by omega
    rw [e]
    have := bestU_greene hnd hL k.toNat
    rw [Int.toNat_of_nonneg hk.1] at this
    exact ⟨by rw [this], hb2⟩
theorem tots_take_succ {T : List (List Int)} {i : Nat} (h : i < T.length) : tots (T.take (i + 1)) = tots (T.take i) + (T.getD i []).length := tot_take_succ h
theorem tots_le {L : List Int} (k : Nat) : tots ((insP L).take k) ≤ L.length := by
  have h1 := tot_take_le (insP L) k
  have h2 := insP_flat L
  rw [List.length_flatten] at h2
  have : tot (insP L) = L.length := h2
  have h3 : tots ((insP L).take k) = tot ((insP L).take k) := rfl
  omega
theorem c_implUpUnion {w : World} {a : Sl} {L : List Int} (ha : RowI w a L) (hL : L.length < 2^38) (k : Int) :
    Calls PP F.impl_UpUnion #[a.v, vI k] w fun e w' => e = .returned (vI (UpUnionV L k)) ∧ Below w.heap.size w w' := by
  refine impl_UpUnion.calls a k ?_
  rw [impl_UpUnion.E_s]
  refine (c_implInsertPerm ha hL).mono ?_
  rintro e w1 ⟨s, t, rs, rt, rfl, hs, _, _, hb1⟩
  refine ⟨s, t, _, rfl, ?_⟩
  refine bif_intro (fun h => ?_) (fun h => ?_)
  · rw [UpUnionV, if_neg (fun hh => by simp [InsertPermV2, hh.1] at h)]; exact ⟨rfl, hb1⟩
  have hP : IsP L := by simpa [InsertPermV2] using h
  refine bif_dec (fun h2 => ?_) (fun h2 => ?_)
  · rw [UpUnionV, if_neg (fun hh => by omega)]; exact ⟨rfl, hb1⟩
  refine bif_dec (fun h3 => ?_) (fun h3 => ?_)
  · rw [UpUnionV, if_neg (fun hh => by omega)]; exact ⟨rfl, hb1⟩
  rw [UpUnionV, if_pos ⟨hP, by omega, by omega⟩]
  rw [InsertPermV, if_pos hP] at hs
  have hsn := hs.n
  have h8 := hP.1
  have hlen := insP_tot hP
  rw [InsertPermV, if_pos hP] at hlen
  refine impl_UpUnion.L6_rule _ _ _ _ _ _ _ (I := fun sum i w' => w' = w1 ∧ 0 ≤ i ∧ i ≤ (insP L).length ∧ sum = tots ((insP L).take (min i.toNat k.toNat))) (μ := fun _ i _ => ((insP L).length - i).toNat) ⟨rfl, by omega, by omega, by simp [tots]⟩ ?_
  rintro sum i w2 ⟨rfl, hi0, hi, rfl⟩
  rw [impl_UpUnion.B6_s, hsn]
  refine bif_dec (fun h4 => ?_) (fun h4 => ?_)
  · refine hs.load hi0 (by omega) fun r _ hr => ?_
    have hrn : r.n = ((insP L).getD i.toNat []).length := by have := hr.n; simpa using this
    rw [hrn]
    refine bif_dec (fun h5 => ?_) (fun h5 => ?_)
    · have h6 := tots_take_succ (T := insP L) (i := i.toNat) (by omega)
      have h7 := tots_le (L := L) (i.toNat + 1)
      have h9 := tots_le (L := L) (min i.toNat k.toNat)
      refine ⟨_, i + 1, by rw [w64_succ hi0 (by omega), w64_id (by omega) (by omega)], ⟨rfl, by omega, by omega, ?_⟩, by omega⟩
      rw [show min (i + 1).toNat k.toNat = i.toNat + 1 by omega, h6, show min i.toNat k.toNat = i.toNat by omega]
      simp
    · refine ⟨_, i + 1, by rw [w64_succ hi0 (by omega)], ⟨rfl, by omega, by omega, ?_⟩, by omega⟩
      rw [show min (i + 1).toNat k.toNat = min i.toNat k.toNat by omega]
  · rw [impl_UpUnion.A6_0_s]
    refine ⟨?_, hb1⟩
    congr 2
    have e : (insP L).take (min i.toNat k.toNat) = (insP L).take k.toNat := by
      rw [show i.toNat = (insP L).length by omega]
      rcases Nat.le_total (insP L).length k.toNat with h5 | h5
      · rw [Nat.min_eq_left h5, List.take_length, List.take_of_length_le h5]
      · rw [Nat.min_eq_right h5]
    rw [e]
end Go.Proofs.Ytdchjhhpbdekeaa

/- What each function does, step by step, written by a program (Gen.lean); each equation is checked by the kernel. -/
namespace Go.Proofs.Ytdchjhhpbdekeaa
open Go
set_option linter.unusedVariables false
set_option maxRecDepth 100000
namespace spec_CountLongestUp
@[reducible] def cfg : Cfg := ⟨14, [], [], [], [2], [], [101, 107, 112, 15, 21, 124, 76, 137, 28, 115, 91, 81, 130], [138, 140, 82, 6, 86, 85, 132]⟩
def E (pr : Prims) (p_0 : Sl) (w : World) (R : Ending → World → Prop) : Prop :=
  wpC pr PP cfg (DD pr) (codeOf Try.f38) (retQ Try.f38.results.toList R) (argE 0 [Sl.v p_0]) w
theorem E_eq (pr : Prims) (p_0 : Sl) (w : World) (R : Ending → World → Prop) : E pr p_0 w R = (
  pr.call1 .bool PP F.spec_IsPerm #[Sl.v p_0] w fun (ρ0 : Bool) ω1 =>
  bif !ρ0 then (
  R (.returned (vI (-1))) ω1)
  else (
  pr.call1 (.int .i64) PP F.spec_l20Up #[Sl.v p_0] ω1 fun (ρ2 : Int) ω3 =>
  pr.call1 .sl PP F.spec_IdentityPerm #[vI ρ2] ω3 fun (ρ4 : Sl) ω5 =>
  pr.sem1 .sl PP (Instr.buildSlice T_Sint 0 #[]) ω5 fun (ρ6 : Sl) ω7 =>
  pr.sem1 .sl PP (Instr.buildSlice T_SSint 0 #[]) ω7 fun (ρ8 : Sl) ω9 =>
  pr.call1 .sl PP F.spec_l7Find #[Sl.v p_0, Sl.v ρ4, Sl.v ρ6, Sl.v ρ8] ω9 fun (ρ10 : Sl) ω11 =>
  R (.returned (vI (ρ10.n : Int))) ω11)) := by kernel_rfl
theorem E_s (p_0 : Sl) (w : World) (R : Ending → World → Prop) : E std p_0 w R = (
  call1 .bool PP F.spec_IsPerm #[Sl.v p_0] w fun (ρ0 : Bool) ω1 =>
  bif !ρ0 then (
  R (.returned (vI (-1))) ω1)
  else (
  call1 (.int .i64) PP F.spec_l20Up #[Sl.v p_0] ω1 fun (ρ2 : Int) ω3 =>
  call1 .sl PP F.spec_IdentityPerm #[vI ρ2] ω3 fun (ρ4 : Sl) ω5 =>
  sem1 .sl PP (Instr.buildSlice T_Sint 0 #[]) ω5 fun (ρ6 : Sl) ω7 =>
  sem1 .sl PP (Instr.buildSlice T_SSint 0 #[]) ω7 fun (ρ8 : Sl) ω9 =>
  call1 .sl PP F.spec_l7Find #[Sl.v p_0, Sl.v ρ4, Sl.v ρ6, Sl.v ρ8] ω9 fun (ρ10 : Sl) ω11 =>
  R (.returned (vI (ρ10.n : Int))) ω11)) := E_eq std p_0 w R
theorem drawsOk : drawsOk PP cfg okD (codeOf Try.f38) = true := by kernel_rfl
theorem calls (p_0 : Sl) {w : World} {R : Ending → World → Prop} (h : E std p_0 w R) : Calls PP F.spec_CountLongestUp #[Sl.v p_0] w R :=
  calls_of noCount mixed drawOk Try.func38 rfl (c := cfg) (args := [Sl.v p_0]) rfl (Nat.le_of_ble_eq_true (by kernel_rfl)) drawsOk h
end spec_CountLongestUp

namespace impl_CountLongestUp
@[reducible] def cfg : Cfg := ⟨38, [(8, [0, 4, 5, 19, 20, 21])], [(1, [0, 4, 5, 19, 20, 21]), (0, [5])], [], [2], [], [101, 107, 112, 15, 21, 124, 76, 137, 28, 115, 91, 81, 130], [138, 140, 82, 6, 86, 85, 132]⟩
def q5 (pr : Prims) (R : Ending → World → Prop) : Exit → Env → World → Prop := fun ex e w => normQ ex (fun e w => contE pr cfg (sub (codeOf Try.f37) [1, 1, 1, 1, 1, 1]) (fun e w => wpC pr PP cfg (DD pr) (sub (codeOf Try.f37) [1, 1, 1, 1, 1, 1]) (retQ Try.f37.results.toList R) e w) e w) (retQ Try.f37.results.toList R) e w
def q6 (pr : Prims) (R : Ending → World → Prop) : Exit → Env → World → Prop := fun ex e w => blockQ ex 0 (q5 pr R) e w
def emb8 (p_0 : Sl) (many_4 : Sl) (sum_5 : Int) (t19 : Sl) (t20 : Int) (t21 : Int) : Env := [(0, Sl.v p_0), (4, Sl.v many_4), (5, vI sum_5), (19, Sl.v t19), (20, vI t20), (21, vI t21)]
def x0 (sum_5 : Int) : Env := [(5, vI sum_5)]
def S8 (pr : Prims) (Q : Exit → Env → World → Prop) : (Env → World → Prop) → Env → World → Prop := fun k e w => wpC pr PP cfg (DD pr) (sub (codeOf Try.f37) [1, 1, 1, 1, 1, 0, 1, 0, 0]) (fun ex e w => normQ ex (fun e' w' => k (Env.restr e' (lookN cfg.loops (keyOf (sub (codeOf Try.f37) [1, 1, 1, 1, 1, 0, 1, 0, 0])))) w') Q e w) e w
def B8 (pr : Prims) (p_0 : Sl) (many_4 : Sl) (sum_5 : Int) (t19 : Sl) (t20 : Int) (t21 : Int) (w : World) (k : Env → World → Prop) (Q : Exit → Env → World → Prop) : Prop :=
  S8 pr Q k (emb8 p_0 many_4 sum_5 t19 t20 t21) w
def L8 (pr : Prims) (p_0 : Sl) (many_4 : Sl) (sum_5 : Int) (t19 : Sl) (t20 : Int) (t21 : Int) (w : World) (Q : Exit → Env → World → Prop) : Prop :=
  pr.loop (S8 pr Q) (emb8 p_0 many_4 sum_5 t19 t20 t21) w
def E (pr : Prims) (p_0 : Sl) (w : World) (R : Ending → World → Prop) : Prop :=
  wpC pr PP cfg (DD pr) (codeOf Try.f37) (retQ Try.f37.results.toList R) (argE 0 [Sl.v p_0]) w
theorem B8_eq (pr : Prims) (p_0 : Sl) (many_4 : Sl) (sum_5 : Int) (t19 : Sl) (t20 : Int) (t21 : Int) (w : World) (k : Env → World → Prop) (Q : Exit → Env → World → Prop) : B8 pr p_0 many_4 sum_5 t19 t20 t21 w k Q = (
  bif decide (t21 < t20) then (
  pr.idxK 1 t19 t21 fun (a7 : Addr) =>
  pr.load1 (.int .i64) a7 w fun (ξ8 : Int) =>
  pr.call1 (.int .i64) PP F.impl_longestUp #[Sl.v p_0] w fun (ρ9 : Int) ω10 =>
  bif ξ8 == ρ9 then (
  pr.idxK 1 many_4 t21 fun (a11 : Addr) =>
  pr.load1 (.int .i64) a11 ω10 fun (ξ12 : Int) =>
  k (emb8 p_0 many_4 (w64 (sum_5 + ξ12)) t19 t20 (w64 (t21 + 1))) ω10)
  else (
  k (emb8 p_0 many_4 sum_5 t19 t20 (w64 (t21 + 1))) ω10))
  else (
  Q (.exit 0) (x0 sum_5) w)) := by kernel_rfl
theorem B8_s (p_0 : Sl) (many_4 : Sl) (sum_5 : Int) (t19 : Sl) (t20 : Int) (t21 : Int) (w : World) (k : Env → World → Prop) (Q : Exit → Env → World → Prop) : B8 std p_0 many_4 sum_5 t19 t20 t21 w k Q = (
  bif decide (t21 < t20) then (
  idxK 1 t19 t21 fun (a7 : Addr) =>
  load1 (.int .i64) a7 w fun (ξ8 : Int) =>
  call1 (.int .i64) PP F.impl_longestUp #[Sl.v p_0] w fun (ρ9 : Int) ω10 =>
  bif ξ8 == ρ9 then (
  idxK 1 many_4 t21 fun (a11 : Addr) =>
  load1 (.int .i64) a11 ω10 fun (ξ12 : Int) =>
  k (emb8 p_0 many_4 (w64 (sum_5 + ξ12)) t19 t20 (w64 (t21 + 1))) ω10)
  else (
  k (emb8 p_0 many_4 sum_5 t19 t20 (w64 (t21 + 1))) ω10))
  else (
  Q (.exit 0) (x0 sum_5) w)) := B8_eq std p_0 many_4 sum_5 t19 t20 t21 w k Q
theorem L8_rule (p_0 : Sl) (many_4 : Sl) (sum_5 : Int) (t19 : Sl) (t20 : Int) (t21 : Int) (w : World) (Q : Exit → Env → World → Prop) (I : Int → Int → World → Prop) (μ : Int → Int → World → Nat) (h0 : I sum_5 t21 w)
    (h : ∀ (sum_5 : Int) (t21 : Int) (w' : World), I sum_5 t21 w' → B8 std p_0 many_4 sum_5 t19 t20 t21 w' (fun e2 w2 => ∃ sum_5_n t21_n, e2 = emb8 p_0 many_4 sum_5_n t19 t20 t21_n ∧ I sum_5_n t21_n w2 ∧ μ sum_5_n t21_n w2 < μ sum_5 t21 w') Q) :
    L8 std p_0 many_4 sum_5 t19 t20 t21 w Q := by
  unfold L8
  refine LoopE.intro (σ := Int × Int) (step := S8 std Q) (fun s => emb8 p_0 many_4 s.1 t19 t20 s.2) (fun s w => I s.1 s.2 w) (fun s w => μ s.1 s.2 w) (sum_5, t21) rfl h0 ?_
  intro s w' hI
  have h1 := h s.1 s.2 w' hI
  unfold B8 at h1
  simp only [Prod.exists]
  exact h1
theorem A8_0_eq (pr : Prims) (sum_5 : Int) (w : World) (R : Ending → World → Prop) : (q6 pr R) (.exit 0) (x0 sum_5) w = (
  R (.returned (vI sum_5)) w) := by kernel_rfl
theorem A8_0_s (sum_5 : Int) (w : World) (R : Ending → World → Prop) : (q6 std R) (.exit 0) (x0 sum_5) w = (
  R (.returned (vI sum_5)) w) := A8_0_eq std sum_5 w R
theorem E_eq (pr : Prims) (p_0 : Sl) (w : World) (R : Ending → World → Prop) : E pr p_0 w R = (
  pr.call1 .bool PP F.impl_IsPerm #[Sl.v p_0] w fun (ρ0 : Bool) ω1 =>
  bif !ρ0 then (
  R (.returned (vI (-1))) ω1)
  else (
  bif (p_0.n : Int) == 0 then (
  R (.returned (vI 1)) ω1)
  else (
  pr.call2 .sl .sl PP F.impl_lengths #[Sl.v p_0] ω1 fun (ρ2 : Sl) (ρ3 : Sl) ω4 =>
  L8 pr p_0 ρ3 0 ρ2 (ρ2.n : Int) 0 ω4 (q6 pr R)))) := by kernel_rfl
theorem E_s (p_0 : Sl) (w : World) (R : Ending → World → Prop) : E std p_0 w R = (
  call1 .bool PP F.impl_IsPerm #[Sl.v p_0] w fun (ρ0 : Bool) ω1 =>
  bif !ρ0 then (
  R (.returned (vI (-1))) ω1)
  else (
  bif (p_0.n : Int) == 0 then (
  R (.returned (vI 1)) ω1)
  else (
  call2 .sl .sl PP F.impl_lengths #[Sl.v p_0] ω1 fun (ρ2 : Sl) (ρ3 : Sl) ω4 =>
  L8 std p_0 ρ3 0 ρ2 (ρ2.n : Int) 0 ω4 (q6 std R)))) := E_eq std p_0 w R
theorem drawsOk : drawsOk PP cfg okD (codeOf Try.f37) = true := by kernel_rfl
theorem calls (p_0 : Sl) {w : World} {R : Ending → World → Prop} (h : E std p_0 w R) : Calls PP F.impl_CountLongestUp #[Sl.v p_0] w R :=
  calls_of noCount mixed drawOk Try.func37 rfl (c := cfg) (args := [Sl.v p_0]) rfl (Nat.le_of_ble_eq_true (by kernel_rfl)) drawsOk h
end impl_CountLongestUp

namespace spec_FirstLongestUp
@[reducible] def cfg : Cfg := ⟨18, [], [], [], [2], [], [101, 107, 112, 15, 21, 124, 76, 137, 28, 115, 91, 81, 130], [138, 140, 82, 6, 86, 85, 132]⟩
def E (pr : Prims) (p_0 : Sl) (w : World) (R : Ending → World → Prop) : Prop :=
  wpC pr PP cfg (DD pr) (codeOf Try.f36) (retQ Try.f36.results.toList R) (argE 0 [Sl.v p_0]) w
theorem E_eq (pr : Prims) (p_0 : Sl) (w : World) (R : Ending → World → Prop) : E pr p_0 w R = (
  pr.call1 .bool PP F.spec_IsPerm #[Sl.v p_0] w fun (ρ0 : Bool) ω1 =>
  bif !ρ0 then (
  pr.sem1 .sl PP (Instr.buildSlice T_Sint 0 #[]) ω1 fun (ρ2 : Sl) ω3 =>
  R (.returned (Sl.v ρ2)) ω3)
  else (
  pr.call1 (.int .i64) PP F.spec_l20Up #[Sl.v p_0] ω1 fun (ρ4 : Int) ω5 =>
  pr.call1 .sl PP F.spec_IdentityPerm #[vI ρ4] ω5 fun (ρ6 : Sl) ω7 =>
  pr.sem1 .sl PP (Instr.buildSlice T_Sint 0 #[]) ω7 fun (ρ8 : Sl) ω9 =>
  pr.sem1 .sl PP (Instr.buildSlice T_SSint 0 #[]) ω9 fun (ρ10 : Sl) ω11 =>
  pr.call1 .sl PP F.spec_l7Find #[Sl.v p_0, Sl.v ρ6, Sl.v ρ8, Sl.v ρ10] ω11 fun (ρ12 : Sl) ω13 =>
  pr.idxK 1 ρ12 0 fun (a14 : Addr) =>
  pr.load1 .sl a14 ω13 fun (ξ15 : Sl) =>
  R (.returned (Sl.v ξ15)) ω13)) := by kernel_rfl
theorem E_s (p_0 : Sl) (w : World) (R : Ending → World → Prop) : E std p_0 w R = (
  call1 .bool PP F.spec_IsPerm #[Sl.v p_0] w fun (ρ0 : Bool) ω1 =>
  bif !ρ0 then (
  sem1 .sl PP (Instr.buildSlice T_Sint 0 #[]) ω1 fun (ρ2 : Sl) ω3 =>
  R (.returned (Sl.v ρ2)) ω3)
  else (
  call1 (.int .i64) PP F.spec_l20Up #[Sl.v p_0] ω1 fun (ρ4 : Int) ω5 =>
  call1 .sl PP F.spec_IdentityPerm #[vI ρ4] ω5 fun (ρ6 : Sl) ω7 =>
  sem1 .sl PP (Instr.buildSlice T_Sint 0 #[]) ω7 fun (ρ8 : Sl) ω9 =>
  sem1 .sl PP (Instr.buildSlice T_SSint 0 #[]) ω9 fun (ρ10 : Sl) ω11 =>
  call1 .sl PP F.spec_l7Find #[Sl.v p_0, Sl.v ρ6, Sl.v ρ8, Sl.v ρ10] ω11 fun (ρ12 : Sl) ω13 =>
  idxK 1 ρ12 0 fun (a14 : Addr) =>
  load1 .sl a14 ω13 fun (ξ15 : Sl) =>
  R (.returned (Sl.v ξ15)) ω13)) := E_eq std p_0 w R
theorem drawsOk : drawsOk PP cfg okD (codeOf Try.f36) = true := by kernel_rfl
theorem calls (p_0 : Sl) {w : World} {R : Ending → World → Prop} (h : E std p_0 w R) : Calls PP F.spec_FirstLongestUp #[Sl.v p_0] w R :=
  calls_of noCount mixed drawOk Try.func36 rfl (c := cfg) (args := [Sl.v p_0]) rfl (Nat.le_of_ble_eq_true (by kernel_rfl)) drawsOk h
end spec_FirstLongestUp

namespace impl_FirstLongestUp
@[reducible] def cfg : Cfg := ⟨53, [(7, [3, 5, 6, 7, 21, 22, 23])], [(1, [3, 5, 6, 7, 21, 22, 23]), (0, [5])], [], [2], [], [101, 107, 112, 15, 21, 124, 76, 137, 28, 115, 91, 81, 130], [138, 140, 82, 6, 86, 85, 132]⟩
def q9 (pr : Prims) (R : Ending → World → Prop) : Exit → Env → World → Prop := fun ex e w => normQ ex (fun e w => contE pr cfg (sub (codeOf Try.f33) [1, 1, 1, 1, 1, 1]) (fun e w => wpC pr PP cfg (DD pr) (sub (codeOf Try.f33) [1, 1, 1, 1, 1, 1]) (retQ Try.f33.results.toList R) e w) e w) (retQ Try.f33.results.toList R) e w
def q10 (pr : Prims) (R : Ending → World → Prop) : Exit → Env → World → Prop := fun ex e w => blockQ ex 0 (q9 pr R) e w
def emb7 (long_3 : Sl) (out_5 : Sl) (want_6 : Int) (last_7 : Int) (t21 : Sl) (t22 : Int) (t23 : Int) : Env := [(3, Sl.v long_3), (5, Sl.v out_5), (6, vI want_6), (7, vI last_7), (21, Sl.v t21), (22, vI t22), (23, vI t23)]
def x0 (out_5 : Sl) : Env := [(5, Sl.v out_5)]
def S7 (pr : Prims) (Q : Exit → Env → World → Prop) : (Env → World → Prop) → Env → World → Prop := fun k e w => wpC pr PP cfg (DD pr) (sub (codeOf Try.f33) [1, 1, 1, 1, 1, 0, 1, 0, 0]) (fun ex e w => normQ ex (fun e' w' => k (Env.restr e' (lookN cfg.loops (keyOf (sub (codeOf Try.f33) [1, 1, 1, 1, 1, 0, 1, 0, 0])))) w') Q e w) e w
def B7 (pr : Prims) (long_3 : Sl) (out_5 : Sl) (want_6 : Int) (last_7 : Int) (t21 : Sl) (t22 : Int) (t23 : Int) (w : World) (k : Env → World → Prop) (Q : Exit → Env → World → Prop) : Prop :=
  S7 pr Q k (emb7 long_3 out_5 want_6 last_7 t21 t22 t23) w
def L7 (pr : Prims) (long_3 : Sl) (out_5 : Sl) (want_6 : Int) (last_7 : Int) (t21 : Sl) (t22 : Int) (t23 : Int) (w : World) (Q : Exit → Env → World → Prop) : Prop :=
  pr.loop (S7 pr Q) (emb7 long_3 out_5 want_6 last_7 t21 t22 t23) w
def E (pr : Prims) (p_0 : Sl) (w : World) (R : Ending → World → Prop) : Prop :=
  wpC pr PP cfg (DD pr) (codeOf Try.f33) (retQ Try.f33.results.toList R) (argE 0 [Sl.v p_0]) w
theorem B7_eq (pr : Prims) (long_3 : Sl) (out_5 : Sl) (want_6 : Int) (last_7 : Int) (t21 : Sl) (t22 : Int) (t23 : Int) (w : World) (k : Env → World → Prop) (Q : Exit → Env → World → Prop) : B7 pr long_3 out_5 want_6 last_7 t21 t22 t23 w k Q = (
  bif decide (t23 < t22) then (
  pr.idxK 1 t21 t23 fun (a11 : Addr) =>
  pr.load1 (.int .i64) a11 w fun (ξ12 : Int) =>
  bif decide (want_6 > 0) then (
  pr.idxK 1 long_3 t23 fun (a13 : Addr) =>
  pr.load1 (.int .i64) a13 w fun (ξ14 : Int) =>
  bif ξ14 == want_6 then (
  bif decide (ξ12 > last_7) then (
  pr.sem1 .sl PP (Instr.buildSlice T_Sint 1 #[(0, vI (w64 (t23 + 1)))]) w fun (ρ15 : Sl) ω16 =>
  pr.sem1 .sl PP (Builtin.append_ #[T_Sint, T_Sint] T_Sint #[Sl.v out_5, Sl.v ρ15]) ω16 fun (ρ17 : Sl) ω18 =>
  k (emb7 long_3 ρ17 (w64 (want_6 - 1)) ξ12 t21 t22 (w64 (t23 + 1))) ω18)
  else (
  k (emb7 long_3 out_5 want_6 last_7 t21 t22 (w64 (t23 + 1))) w))
  else (
  k (emb7 long_3 out_5 want_6 last_7 t21 t22 (w64 (t23 + 1))) w))
  else (
  k (emb7 long_3 out_5 want_6 last_7 t21 t22 (w64 (t23 + 1))) w))
  else (
  Q (.exit 0) (x0 out_5) w)) := by kernel_rfl
theorem B7_s (long_3 : Sl) (out_5 : Sl) (want_6 : Int) (last_7 : Int) (t21 : Sl) (t22 : Int) (t23 : Int) (w : World) (k : Env → World → Prop) (Q : Exit → Env → World → Prop) : B7 std long_3 out_5 want_6 last_7 t21 t22 t23 w k Q = (
  bif decide (t23 < t22) then (
  idxK 1 t21 t23 fun (a11 : Addr) =>
  load1 (.int .i64) a11 w fun (ξ12 : Int) =>
  bif decide (want_6 > 0) then (
  idxK 1 long_3 t23 fun (a13 : Addr) =>
  load1 (.int .i64) a13 w fun (ξ14 : Int) =>
  bif ξ14 == want_6 then (
  bif decide (ξ12 > last_7) then (
  sem1 .sl PP (Instr.buildSlice T_Sint 1 #[(0, vI (w64 (t23 + 1)))]) w fun (ρ15 : Sl) ω16 =>
  sem1 .sl PP (Builtin.append_ #[T_Sint, T_Sint] T_Sint #[Sl.v out_5, Sl.v ρ15]) ω16 fun (ρ17 : Sl) ω18 =>
  k (emb7 long_3 ρ17 (w64 (want_6 - 1)) ξ12 t21 t22 (w64 (t23 + 1))) ω18)
  else (
  k (emb7 long_3 out_5 want_6 last_7 t21 t22 (w64 (t23 + 1))) w))
  else (
  k (emb7 long_3 out_5 want_6 last_7 t21 t22 (w64 (t23 + 1))) w))
  else (
  k (emb7 long_3 out_5 want_6 last_7 t21 t22 (w64 (t23 + 1))) w))
  else (
  Q (.exit 0) (x0 out_5) w)) := B7_eq std long_3 out_5 want_6 last_7 t21 t22 t23 w k Q
theorem L7_rule (long_3 : Sl) (out_5 : Sl) (want_6 : Int) (last_7 : Int) (t21 : Sl) (t22 : Int) (t23 : Int) (w : World) (Q : Exit → Env → World → Prop) (I : Sl → Int → Int → Int → World → Prop) (μ : Sl → Int → Int → Int → World → Nat) (h0 : I out_5 want_6 last_7 t23 w)
    (h : ∀ (out_5 : Sl) (want_6 : Int) (last_7 : Int) (t23 : Int) (w' : World), I out_5 want_6 last_7 t23 w' → B7 std long_3 out_5 want_6 last_7 t21 t22 t23 w' (fun e2 w2 => ∃ out_5_n want_6_n last_7_n t23_n, e2 = emb7 long_3 out_5_n want_6_n last_7_n t21 t22 t23_n ∧ I out_5_n want_6_n last_7_n t23_n w2 ∧ μ out_5_n want_6_n last_7_n t23_n w2 < μ out_5 want_6 last_7 t23 w') Q) :
    L7 std long_3 out_5 want_6 last_7 t21 t22 t23 w Q := by
  unfold L7
  refine LoopE.intro (σ := Sl × Int × Int × Int) (step := S7 std Q) (fun s => emb7 long_3 s.1 s.2.1 s.2.2.1 t21 t22 s.2.2.2) (fun s w => I s.1 s.2.1 s.2.2.1 s.2.2.2 w) (fun s w => μ s.1 s.2.1 s.2.2.1 s.2.2.2 w) (out_5, want_6, last_7, t23) rfl h0 ?_
  intro s w' hI
  have h1 := h s.1 s.2.1 s.2.2.1 s.2.2.2 w' hI
  unfold B7 at h1
  simp only [Prod.exists]
  exact h1
theorem A7_0_eq (pr : Prims) (out_5 : Sl) (w : World) (R : Ending → World → Prop) : (q10 pr R) (.exit 0) (x0 out_5) w = (
  R (.returned (Sl.v out_5)) w) := by kernel_rfl
theorem A7_0_s (out_5 : Sl) (w : World) (R : Ending → World → Prop) : (q10 std R) (.exit 0) (x0 out_5) w = (
  R (.returned (Sl.v out_5)) w) := A7_0_eq std out_5 w R
theorem E_eq (pr : Prims) (p_0 : Sl) (w : World) (R : Ending → World → Prop) : E pr p_0 w R = (
  pr.call1 .bool PP F.impl_IsPerm #[Sl.v p_0] w fun (ρ0 : Bool) ω1 =>
  bif !ρ0 then (
  R (.returned (Sl.v Sl.nil)) ω1)
  else (
  pr.call2 .sl .sl PP F.impl_lengths #[Sl.v p_0] ω1 fun (ρ2 : Sl) (ρ3 : Sl) ω4 =>
  pr.sem1 .sl PP (Instr.buildSlice T_Sint 0 #[]) ω4 fun (ρ5 : Sl) ω6 =>
  pr.call1 (.int .i64) PP F.impl_longestUp #[Sl.v p_0] ω6 fun (ρ7 : Int) ω8 =>
  L7 pr ρ2 ρ5 ρ7 0 p_0 (p_0.n : Int) 0 ω8 (q10 pr R))) := by kernel_rfl
theorem E_s (p_0 : Sl) (w : World) (R : Ending → World → Prop) : E std p_0 w R = (
  call1 .bool PP F.impl_IsPerm #[Sl.v p_0] w fun (ρ0 : Bool) ω1 =>
  bif !ρ0 then (
  R (.returned (Sl.v Sl.nil)) ω1)
  else (
  call2 .sl .sl PP F.impl_lengths #[Sl.v p_0] ω1 fun (ρ2 : Sl) (ρ3 : Sl) ω4 =>
  sem1 .sl PP (Instr.buildSlice T_Sint 0 #[]) ω4 fun (ρ5 : Sl) ω6 =>
  call1 (.int .i64) PP F.impl_longestUp #[Sl.v p_0] ω6 fun (ρ7 : Int) ω8 =>
  L7 std ρ2 ρ5 ρ7 0 p_0 (p_0.n : Int) 0 ω8 (q10 std R))) := E_eq std p_0 w R
theorem drawsOk : drawsOk PP cfg okD (codeOf Try.f33) = true := by kernel_rfl
theorem calls (p_0 : Sl) {w : World} {R : Ending → World → Prop} (h : E std p_0 w R) : Calls PP F.impl_FirstLongestUp #[Sl.v p_0] w R :=
  calls_of noCount mixed drawOk Try.func33 rfl (c := cfg) (args := [Sl.v p_0]) rfl (Nat.le_of_ble_eq_true (by kernel_rfl)) drawsOk h
end impl_FirstLongestUp

end Go.Proofs.Ytdchjhhpbdekeaa

/- The lengths of longest ascending patterns, as the program reckons them. -/
namespace Go.Proofs.Ytdchjhhpbdekeaa
open Go Go.RowKit
set_option maxRecDepth 100000

def inn (L : List Int) (val : Nat → Int × Int) (i : Nat) : Nat → Int × Int
  | 0 => (1, 1)
  | c + 1 =>
    if L.getD (i + 1 + c) 0 < L.getD i 0 ∨ w64 ((val (i + 1 + c)).1 + 1) < (inn L val i c).1 then inn L val i c
    else if (inn L val i c).1 < w64 ((val (i + 1 + c)).1 + 1) then (w64 ((val (i + 1 + c)).1 + 1), (val (i + 1 + c)).2)
    else ((inn L val i c).1, w64 ((inn L val i c).2 + (val (i + 1 + c)).2))
/-- What stands behind the last d places. -/
def gl (L : List Int) : Nat → Nat → Int × Int
  | 0, _ => (0, 0)
  | d + 1, j => if j = L.length - 1 - d then inn L (gl L d) j d else gl L d j

theorem c_lengths {w : World} {a : Sl} {L : List Int} (ha : RowI w a L) (hL : L.length < 2^38) :
    Calls PP F.impl_lengths #[a.v] w fun e w' => ∃ s t : Sl, e = .returned (.tuple #[s.v, t.v]) ∧ OwnI w' w.heap.size s (tab L.length fun j => (gl L L.length j).1) ∧ OwnI w' w.heap.size t (tab L.length fun j => (gl L L.length j).2) ∧ Below w.heap.size w w' := by
  have han : a.n = L.length := by have := ha.n; simpa using this
  refine impl_lengths.calls a ?_
  rw [impl_lengths.E_s]
  have rep : ∀ f : Nat → Int, (∀ j, f j = 0) → List.replicate L.length (vI 0) = (tab L.length f).map vI := fun f hf => by
    apply List.ext_getElem?
    intro k
    simp only [List.getElem?_replicate, tab, List.getElem?_map]
    by_cases hk : k < L.length
    · rw [List.getElem?_range hk, if_pos hk]; simp [hf]
    · rw [List.getElem?_eq_none (by simpa using hk), if_neg hk]; rfl
  have main : ∀ (s t : Sl) (w1 : World), OwnI w1 w.heap.size s (tab L.length fun j => (gl L 0 j).1) → OwnI w1 w.heap.size t (tab L.length fun j => (gl L 0 j).2) → Below w.heap.size w w1 → (∀ g, s.blk = some g → t.blk ≠ some g) →
      impl_lengths.J2 std a s t w1 (fun e w' => ∃ s t : Sl, e = .returned (.tuple #[s.v, t.v]) ∧ OwnI w' w.heap.size s (tab L.length fun j => (gl L L.length j).1) ∧ OwnI w' w.heap.size t (tab L.length fun j => (gl L L.length j).2) ∧ Below w.heap.size w w') := by
    intro s t w1 hs ht hb hne
    have hne2 : ∀ g, t.blk = some g → s.blk ≠ some g := fun g h h2 => hne g h2 h
    rw [impl_lengths.J2_s]
    refine impl_lengths.L3_rule _ _ _ _ _ _ (I := fun i w2 => -1 ≤ i ∧ i < L.length ∧ OwnI w2 w.heap.size s (tab L.length fun j => (gl L (L.length - 1 - i).toNat j).1) ∧ OwnI w2 w.heap.size t (tab L.length fun j => (gl L (L.length - 1 - i).toNat j).2) ∧ Below w.heap.size w w2) (μ := fun i _ => (i + 1).toNat) ?_ ?_
    · rw [han, w64_id (by omega) (by omega)]
      rw [show ((L.length : Int) - 1 - ((L.length : Int) - 1)).toNat = 0 by omega]
      exact ⟨by omega, by omega, hs, ht, hb⟩
    rintro i w2 ⟨hi0, hi, hs, ht, hb⟩
    rw [impl_lengths.B3_s]
    refine bif_dec (fun h3 => ?_) (fun h3 => ?_)
    · obtain ⟨i, rfl⟩ : ∃ m : Nat, i = m := ⟨i.toNat, by omega⟩
      obtain ⟨d, hd⟩ : ∃ d : Nat, d = L.length - 1 - i := ⟨_, rfl⟩
      have ed : ((L.length : Int) - 1 - (i : Int)).toNat = d := by omega
      rw [ed] at hs ht
      refine Own.put hs h3 (by simp [tab_length]; omega) ?_
      intro w3 hs3 hg3 _
      have ht3 := ht.kept hg3 (fun g hg h => hne g h hg)
      have hb3 := hb.grown hg3 hb.size (fun g hg => (hs.lt g hg).1)
      refine Own.put ht3 h3 (by simp [tab_length]; omega) ?_
      intro w4 ht4 hg4 _
      have hs4 := hs3.kept hg4 (fun g hg h => hne2 g h hg)
      have hb4 := hb3.grown hg4 hb3.size (fun g hg => (ht3.lt g hg).1)
      rw [w64_succ (by omega) (by omega)]
      have cv : ∀ (f : Nat → Int) (v : Int), ((tab L.length f).map vI).set (i : Int).toNat (vI v) = (tab L.length (fun j => if j = i then v else f j)).map vI := fun f v => by
        rw [← tab_set, List.map_set]; rfl
      rw [cv] at hs4 ht4
      refine impl_lengths.L7_rule _ _ _ _ _ _ _ (I := fun k w5 => (i : Int) + 1 ≤ k ∧ k ≤ L.length ∧ OwnI w5 w.heap.size s (tab L.length fun j => if j = i then (inn L (gl L d) i (k - i - 1).toNat).1 else (gl L d j).1) ∧
          OwnI w5 w.heap.size t (tab L.length fun j => if j = i then (inn L (gl L d) i (k - i - 1).toNat).2 else (gl L d j).2) ∧ Below w.heap.size w w5) (μ := fun k _ => (L.length - k).toNat) ?_ ?_
      · rw [show ((i : Int) + 1 - i - 1).toNat = 0 by omega]
        exact ⟨by omega, by omega, hs4, ht4, hb4⟩
      rintro k w5 ⟨hk0, hk, hs5, ht5, hb5⟩
      obtain ⟨c, hc⟩ : ∃ c : Nat, c = (k - i - 1).toNat := ⟨_, rfl⟩
      have hkc : k = (i : Int) + 1 + c := by omega
      have hkn : k.toNat = i + 1 + c := by omega
      rw [← hc] at hs5 ht5
      have hc1 : ((k + 1) - i - 1).toNat = c + 1 := by omega
      rw [impl_lengths.B7_s]
      have next : ∀ w6 v1 v2, OwnI w6 w.heap.size s (tab L.length fun j => if j = i then v1 else (gl L d j).1) → OwnI w6 w.heap.size t (tab L.length fun j => if j = i then v2 else (gl L d j).2) → Below w.heap.size w w6 → k < L.length →
          inn L (gl L d) i (c + 1) = (v1, v2) → ∃ k_7_n, impl_lengths.emb7 a s t i (w64 (k + 1)) = impl_lengths.emb7 a s t i k_7_n ∧
          ((i : Int) + 1 ≤ k_7_n ∧ k_7_n ≤ L.length ∧ OwnI w6 w.heap.size s (tab L.length fun j => if j = i then (inn L (gl L d) i (k_7_n - i - 1).toNat).1 else (gl L d j).1) ∧
          OwnI w6 w.heap.size t (tab L.length fun j => if j = i then (inn L (gl L d) i (k_7_n - i - 1).toNat).2 else (gl L d j).2) ∧ Below w.heap.size w w6) ∧ (L.length - k_7_n).toNat < (L.length - k).toNat := by
        intro w6 v1 v2 h1 h2 h3 h4 h5
        refine ⟨k + 1, by rw [w64_succ (by omega) (by omega)], ⟨by omega, by omega, ?_, ?_, h3⟩, by omega⟩
        · rw [hc1, h5]; exact h1
        · rw [hc1, h5]; exact h2
      refine bif_dec (fun h6 => ?_) (fun h6 => ?_)
      · have hkl : k < L.length := by omega
        have hk0' : 0 ≤ k := by omega
        have rdS : ∀ w6, OwnI w6 w.heap.size s (tab L.length fun j => if j = i then (inn L (gl L d) i c).1 else (gl L d j).1) → ∀ (K : Int → Prop), K (gl L d (i + 1 + c)).1 → idxK 1 s k fun a => load1 (.int .i64) a w6 K := fun w6 h K hK => by
          refine RowI.get h.row hk0' (by rw [tab_length]; omega) ?_
          rw [tab_getD _ (by omega), hkn, if_neg (by omega)]; exact hK
        have rdT : ∀ w6, OwnI w6 w.heap.size t (tab L.length fun j => if j = i then (inn L (gl L d) i c).2 else (gl L d j).2) → ∀ (K : Int → Prop), K (gl L d (i + 1 + c)).2 → idxK 1 t k fun a => load1 (.int .i64) a w6 K := fun w6 h K hK => by
          refine RowI.get h.row hk0' (by rw [tab_length]; omega) ?_
          rw [tab_getD _ (by omega), hkn, if_neg (by omega)]; exact hK
        have rdSi : ∀ w6, OwnI w6 w.heap.size s (tab L.length fun j => if j = i then (inn L (gl L d) i c).1 else (gl L d j).1) → ∀ (K : Int → Prop), K (inn L (gl L d) i c).1 → idxK 1 s i fun a => load1 (.int .i64) a w6 K := fun w6 h K hK => by
          refine RowI.get h.row (by omega) (by rw [tab_length]; omega) ?_
          rw [tab_getD _ (by omega), if_pos (by omega)]; exact hK
        have rdTi : ∀ w6, OwnI w6 w.heap.size t (tab L.length fun j => if j = i then (inn L (gl L d) i c).2 else (gl L d j).2) → ∀ (K : Int → Prop), K (inn L (gl L d) i c).2 → idxK 1 t i fun a => load1 (.int .i64) a w6 K := fun w6 h K hK => by
          refine RowI.get h.row (by omega) (by rw [tab_length]; omega) ?_
          rw [tab_getD _ (by omega), if_pos (by omega)]; exact hK
        refine RowI.get (ha.grow hb5) hk0' (by omega) ?_
        refine RowI.get (ha.grow hb5) (i := (i : Int)) (by omega) (by omega) ?_
        rw [hkn, show ((i : Int)).toNat = i by omega]
        refine bif_dec (fun h7 => ?_) (fun h7 => ?_)
        · refine drew_intro fun w6 hd6 => next w6 _ _ (hs5.heap hd6.heap') (ht5.heap hd6.heap') (hb5.trans (hd6.below _)) hkl ?_
          rw [inn, if_pos (.inl h7)]
        have hge : ¬ L.getD (i + 1 + c) 0 < L.getD i 0 := h7
        refine rdS w5 hs5 _ ?_
        refine rdSi w5 hs5 _ ?_
        refine drew_intro fun w6 hd6 => ?_
        have hs6 := hs5.heap hd6.heap'
        have ht6 := ht5.heap hd6.heap'
        have hb6 := hb5.trans (hd6.below w.heap.size)
        refine bif_dec (fun h8 => ?_) (fun h8 => ?_)
        · refine next w6 _ _ hs6 ht6 hb6 hkl ?_
          rw [inn, if_pos (.inr h8)]
        refine rdS w6 hs6 _ ?_
        refine rdSi w6 hs6 _ ?_
        refine drew_intro fun w7 hd7 => ?_
        have hno : ¬ (L.getD (i + 1 + c) 0 < L.getD i 0 ∨ w64 ((gl L d (i + 1 + c)).1 + 1) < (inn L (gl L d) i c).1) := by rintro (h | h) <;> contradiction
        refine bif_dec (fun h9 => ?_) (fun h9 => ?_)
        · refine drew_intro fun w8 hd8 => ?_
          have hd68 := hd7.trans hd8
          have hs8 := hs6.heap hd68.heap'
          have ht8 := ht6.heap hd68.heap'
          have hb8 := hb6.trans (hd68.below w.heap.size)
          have e1 : (tab L.length fun j => if j = i then (inn L (gl L d) i c).1 else (gl L d j).1).getD k.toNat 0 = (gl L d (i + 1 + c)).1 := by rw [tab_getD _ (by omega), hkn, if_neg (by omega)]
          have e2 : (tab L.length fun j => if j = i then (inn L (gl L d) i c).2 else (gl L d j).2).getD k.toNat 0 = (gl L d (i + 1 + c)).2 := by rw [tab_getD _ (by omega), hkn, if_neg (by omega)]
          refine RowI.place hs8.row hk0' (by rw [tab_length]; omega) fun a1 ha1 => ?_
          refine RowI.place ht8.row hk0' (by rw [tab_length]; omega) fun a2 ha2 => ?_
          rw [e1] at ha1
          rw [e2] at ha2
          have fin : idxK 1 s (i : Int) fun a35 => storeC a35 (vI (w64 ((gl L d (i + 1 + c)).1 + 1))) w8 fun w9 => idxK 1 t (i : Int) fun a37 => storeC a37 (vI (gl L d (i + 1 + c)).2) w9 fun w10 =>
              ∃ k_7_n, impl_lengths.emb7 a s t i (w64 (k + 1)) = impl_lengths.emb7 a s t i k_7_n ∧
          ((i : Int) + 1 ≤ k_7_n ∧ k_7_n ≤ L.length ∧ OwnI w10 w.heap.size s (tab L.length fun j => if j = i then (inn L (gl L d) i (k_7_n - i - 1).toNat).1 else (gl L d j).1) ∧
          OwnI w10 w.heap.size t (tab L.length fun j => if j = i then (inn L (gl L d) i (k_7_n - i - 1).toNat).2 else (gl L d j).2) ∧ Below w.heap.size w w10) ∧ (L.length - k_7_n).toNat < (L.length - k).toNat := by
            refine Own.put hs8 h3 (by simp [tab_length]; omega) ?_
            intro w9 hs9 hg9 _
            have ht9 := ht8.kept hg9 (fun g hg h => hne g h hg)
            have hb9 := hb8.grown hg9 hb8.size (fun g hg => (hs8.lt g hg).1)
            refine Own.put ht9 h3 (by simp [tab_length]; omega) ?_
            intro w10 ht10 hg10 _
            have hs10 := hs9.kept hg10 (fun g hg h => hne2 g h hg)
            have hb10 := hb9.grown hg10 hb9.size (fun g hg => (ht9.lt g hg).1)
            rw [cv] at hs10 ht10
            have ee : ∀ (f : Nat → Int) (u v : Int), (fun j => if j = i then v else if j = i then u else f j) = fun j => if j = i then v else f j := fun f u v => by funext j; split <;> rfl
            rw [ee] at hs10 ht10
            refine next w10 _ _ hs10 ht10 hb10 hkl ?_
            rw [inn, if_neg hno, if_pos h9]
          exact ⟨load_int ha1 (load_int ha2 fin), load_int ha2 (load_int ha1 fin)⟩
        · refine drew_intro fun w8 hd8 => ?_
          have hd68 := hd7.trans hd8
          have hs8 := hs6.heap hd68.heap'
          have ht8 := ht6.heap hd68.heap'
          have hb8 := hb6.trans (hd68.below w.heap.size)
          have e1 : (tab L.length fun j => if j = i then (inn L (gl L d) i c).2 else (gl L d j).2).getD (i : Int).toNat 0 = (inn L (gl L d) i c).2 := by rw [tab_getD _ (by omega), if_pos (by omega)]
          have e2 : (tab L.length fun j => if j = i then (inn L (gl L d) i c).2 else (gl L d j).2).getD k.toNat 0 = (gl L d (i + 1 + c)).2 := by rw [tab_getD _ (by omega), hkn, if_neg (by omega)]
          refine RowI.place ht8.row h3 (by rw [tab_length]; omega) fun a1 ha1 => ?_
          refine RowI.place ht8.row hk0' (by rw [tab_length]; omega) fun a2 ha2 => ?_
          rw [e1] at ha1
          rw [e2] at ha2
          have fin : idxK 1 t (i : Int) fun a35 => storeC a35 (vI (w64 ((inn L (gl L d) i c).2 + (gl L d (i + 1 + c)).2))) w8 fun w10 =>
              ∃ k_7_n, impl_lengths.emb7 a s t i (w64 (k + 1)) = impl_lengths.emb7 a s t i k_7_n ∧
          ((i : Int) + 1 ≤ k_7_n ∧ k_7_n ≤ L.length ∧ OwnI w10 w.heap.size s (tab L.length fun j => if j = i then (inn L (gl L d) i (k_7_n - i - 1).toNat).1 else (gl L d j).1) ∧
          OwnI w10 w.heap.size t (tab L.length fun j => if j = i then (inn L (gl L d) i (k_7_n - i - 1).toNat).2 else (gl L d j).2) ∧ Below w.heap.size w w10) ∧ (L.length - k_7_n).toNat < (L.length - k).toNat := by
            refine Own.put ht8 h3 (by simp [tab_length]; omega) ?_
            intro w10 ht10 hg10 _
            have hs10 := hs8.kept hg10 (fun g hg h => hne2 g h hg)
            have hb10 := hb8.grown hg10 hb8.size (fun g hg => (ht8.lt g hg).1)
            rw [cv] at ht10
            have ee : ∀ (f : Nat → Int) (u v : Int), (fun j => if j = i then v else if j = i then u else f j) = fun j => if j = i then v else f j := fun f u v => by funext j; split <;> rfl
            rw [ee] at ht10
            refine next w10 _ _ hs10 ht10 hb10 hkl ?_
            rw [inn, if_neg hno, if_neg h9]
          exact ⟨load_int ha1 (load_int ha2 fin), load_int ha2 (load_int ha1 fin)⟩
      · rw [impl_lengths.A7_2_s]
        have ec : c = d := by omega
        subst ec
        refine ⟨(i : Int) - 1, by rw [w64_id (by omega) (by omega)], ⟨by omega, by omega, ?_, ?_, hb5⟩, by omega⟩
        · rw [show ((L.length : Int) - 1 - ((i : Int) - 1)).toNat = c + 1 by omega]
          rw [tab_congr (g := fun j => if j = i then (inn L (gl L c) i c).1 else (gl L c j).1) (fun j hj => by simp only [gl]; rw [show L.length - 1 - c = i by omega]; by_cases hji : j = i <;> simp only [hji, if_true, if_false])]
          exact hs5
        · rw [show ((L.length : Int) - 1 - ((i : Int) - 1)).toNat = c + 1 by omega]
          rw [tab_congr (g := fun j => if j = i then (inn L (gl L c) i c).2 else (gl L c j).2) (fun j hj => by simp only [gl]; rw [show L.length - 1 - c = i by omega]; by_cases hji : j = i <;> simp only [hji, if_true, if_false])]
          exact ht5
    · rw [impl_lengths.A3_0_s]
      rw [show ((L.length : Int) - 1 - i).toNat = L.length by omega] at hs ht
      exact ⟨s, t, rfl, hs, ht, hb⟩
  refine drew_intro fun w1 hd => ?_
  have two : ∀ (P : Sl → Sl → World → Prop), (∀ s t w3, OwnI w3 w.heap.size s (tab L.length fun j => (gl L 0 j).1) → OwnI w3 w.heap.size t (tab L.length fun j => (gl L 0 j).1) → Below w.heap.size w w3 → (∀ g, s.blk = some g → t.blk ≠ some g) → P s t w3) →
      sem1 .sl PP (Instr.makeSlice T_Sint (vI (a.n : Int)) (vI (a.n : Int))) w1 fun r w2 => sem1 .sl PP (Instr.makeSlice T_Sint (vI (a.n : Int)) (vI (a.n : Int))) w2 fun r2 w3 => P r r2 w3 := by
    intro P hP
    have hsz : w1.heap.size = w.heap.size := by rw [hd.heap']
    refine make_own oneInt (B := w.heap.size) (by omega) (by omega) (by omega) ?_
    intro s w2 hs hg2 hn2
    have hb2 : Below w.heap.size w w2 := (hd.below _).trans ((below_of_grow hg2).mono (by omega))
    refine make_own oneInt (B := w.heap.size) hb2.size (by omega) (by omega) ?_
    intro t w3 ht hg3 hn3
    have hs3 := hs.kept hg3 (fun g _ => by simp)
    rw [han] at hs3 ht
    rw [show ((L.length : Nat) : Int).toNat = L.length by omega, rep (fun j => (gl L 0 j).1) (fun j => rfl)] at hs3 ht
    refine hP s t w3 hs3 ht (hb2.trans ((below_of_grow hg3).mono hb2.size)) fun g hg hg' => ?_
    have h1 := (hs.lt g hg).2
    rcases hn3 g hg' with h2 | h2
    · simp [Sl.blk, Sl.nil] at h2
    · omega
  exact ⟨two _ fun s t w3 h1 h2 h3 h4 => main s t w3 h1 h2 h3 h4, two _ fun s t w3 h1 h2 h3 h4 => main t s w3 h2 h1 h3 (fun g hg hg' => h4 g hg' hg)⟩
end Go.Proofs.Ytdchjhhpbdekeaa

/- Plain law: the longest ascending pattern, told from both ends. -/
namespace Go.Proofs.Ytdchjhhpbdekeaa
open Go Go.RowKit
set_option maxRecDepth 100000

theorem inn_spec {L : List Int} (hp : ∀ i j, i < j → j < L.length → L.getD i 0 ≠ L.getD j 0) {val : Nat → Int × Int} {i : Nat} (hi : i < L.length) (hL : L.length < 2^38)
    (hv : ∀ k, i < k → k < L.length → Most (Fr L k) (val k).1) : ∀ c, i + c < L.length →
    1 ≤ (inn L val i c).1 ∧ (inn L val i c).1 ≤ L.length ∧ ((inn L val i c).1 = 1 ∨ ∃ k, i < k ∧ k < i + 1 + c ∧ L.getD i 0 < L.getD k 0 ∧ (inn L val i c).1 = (val k).1 + 1) ∧
    ∀ k, i < k → k < i + 1 + c → L.getD i 0 < L.getD k 0 → (val k).1 + 1 ≤ (inn L val i c).1
  | 0, _ => ⟨by simp [inn], by simp [inn]; omega, .inl rfl, fun k h1 h2 => by omega⟩
  | c + 1, hc => by
    obtain ⟨h1, h2, h3, h4⟩ := inn_spec hp hi hL hv c (by omega)
    obtain ⟨m, hm, hf, _⟩ := hv (i + 1 + c) (by omega) (by omega)
    have hle := hf.le
    have hpos := hf.pos
    have hw : w64 ((val (i + 1 + c)).1 + 1) = (val (i + 1 + c)).1 + 1 := w64_id (by omega) (by omega)
    have hne := hp i (i + 1 + c) (by omega) (by omega)
    rw [inn, hw]
    split
    · rename_i hs
      refine ⟨h1, h2, h3.imp id (fun ⟨k, a, b, d, e⟩ => ⟨k, a, by omega, d, e⟩), fun k hk1 hk2 hlt => ?_⟩
      by_cases hk : k < i + 1 + c
      · exact h4 k hk1 hk hlt
      · have : k = i + 1 + c := by omega
        subst this
        rcases hs with hs | hs <;> omega
    · rename_i hs
      have hlt : L.getD i 0 < L.getD (i + 1 + c) 0 := by
        have : ¬ L.getD (i + 1 + c) 0 < L.getD i 0 := fun h => hs (.inl h)
        omega
      split
      · rename_i hs2
        refine ⟨by simp only; omega, by simp only; omega, .inr ⟨i + 1 + c, by omega, by omega, hlt, rfl⟩, fun k hk1 hk2 hlt => ?_⟩
        by_cases hk : k < i + 1 + c
        · have := h4 k hk1 hk hlt; simp only; omega
        · have : k = i + 1 + c := by omega
          subst this; simp
      · rename_i hs2
        have hs3 : ¬ ((val (i + 1 + c)).1 + 1 < (inn L val i c).1) := fun h => hs (.inr h)
        refine ⟨h1, h2, h3.imp id (fun ⟨k, a, b, d, e⟩ => ⟨k, a, by omega, d, e⟩), fun k hk1 hk2 hlt => ?_⟩
        by_cases hk : k < i + 1 + c
        · exact h4 k hk1 hk hlt
        · have : k = i + 1 + c := by omega
          subst this; simp only; omega
theorem gl_spec {L : List Int} (hp : ∀ i j, i < j → j < L.length → L.getD i 0 ≠ L.getD j 0) (hL : L.length < 2^38) : ∀ d, d ≤ L.length → ∀ j, L.length ≤ j + d → j < L.length → Most (Fr L j) (gl L d j).1
  | 0, _, j, h1, h2 => by omega
  | d + 1, hd, j, h1, h2 => by
    rw [gl]
    split
    · rename_i hj
      obtain ⟨a1, a2, a3, a4⟩ := inn_spec hp h2 hL (val := gl L d) (fun k hk1 hk2 => gl_spec hp hL d (by omega) k (by omega) hk2) d (by omega)
      refine ⟨(inn L (gl L d) j d).1.toNat, by omega, ?_, fun m' hm' => ?_⟩
      · rcases a3 with a3 | ⟨k, b1, b2, b3, b4⟩
        · rw [a3]; exact .one h2
        · obtain ⟨m, hm, hf, _⟩ := gl_spec hp hL d (by omega) k (by omega) (by omega)
          rw [b4, show ((gl L d k).1 + 1).toNat = m + 1 by omega]
          exact .cons b1 (by omega) b3 hf
      · cases hm' with
        | one _ => omega
        | cons c1 c2 c3 c4 =>
          rename_i k m
          have := a4 k c1 (by omega) c3
          obtain ⟨m2, hm2, _, hmax⟩ := gl_spec hp hL d (by omega) k (by omega) c2
          have := hmax m c4
          omega
    · exact gl_spec hp hL d (by omega) j (by omega) h2

theorem lis_eq {L : List Int} {f g : Nat → Int} (hf : ∀ i, i < L.length → Most (Fr L i) (f i)) (hg : ∀ k, k < L.length → Most (En L k) (g k)) : mx f L.length = mx g L.length := by
  have h1 : mx f L.length ≤ mx g L.length := by
    rcases mx_mem (f := f) (n := L.length) with h | ⟨i, hi, he⟩
    · rw [h]; exact mx_nonneg
    · obtain ⟨m, hm, hfr, _⟩ := hf i hi
      obtain ⟨k, hk⟩ := hfr.toEn 1 (.one hi)
      rw [show 1 + m - 1 = m by omega] at hk
      have hkl : k < L.length := by cases hk <;> omega
      obtain ⟨m2, hm2, _, hmax⟩ := hg k hkl
      have := hmax _ hk
      have := mx_ge (f := g) hkl
      omega
  have h2 : mx g L.length ≤ mx f L.length := by
    rcases mx_mem (f := g) (n := L.length) with h | ⟨i, hi, he⟩
    · rw [h]; exact mx_nonneg
    · obtain ⟨m, hm, hfr, _⟩ := hg i hi
      obtain ⟨k, hk⟩ := hfr.toFr 1 (.one hi)
      obtain ⟨m2, hm2, _, hmax⟩ := hf k hk.lt
      have := hmax _ hk
      have := mx_ge (f := f) hk.lt
      omega
  omega

end Go.Proofs.Ytdchjhhpbdekeaa

/- The length of a longest ascending pattern: both texts, and the law. -/
namespace Go.Proofs.Ytdchjhhpbdekeaa
open Go Go.RowKit
set_option maxRecDepth 100000

theorem c_longestUp {w : World} {a : Sl} {L : List Int} (ha : RowI w a L) (hL : L.length < 2^38) (hp : ∀ i j, i < j → j < L.length → L.getD i 0 ≠ L.getD j 0) :
    Calls PP F.impl_longestUp #[a.v] w fun e w' => e = .returned (vI (luV L)) ∧ Below w.heap.size w w' := by
  refine impl_longestUp.calls a ?_
  rw [impl_longestUp.E_s]
  refine (c_lengths ha hL).mono ?_
  rintro e w1 ⟨s, t, rfl, hs, _, hb⟩
  refine ⟨s, t, rfl, ?_⟩
  have hsn : s.n = L.length := by have := hs.n; simpa [tab_length] using this
  refine impl_longestUp.L4_rule _ _ _ _ _ _ (I := fun m k w' => w' = w1 ∧ 0 ≤ k ∧ k ≤ L.length ∧ m = mx (fun j => (gl L L.length j).1) k.toNat) (μ := fun _ k _ => (L.length - k).toNat) ⟨rfl, by omega, by omega, rfl⟩ ?_
  rintro m k w' ⟨rfl, h0, hk, hm⟩
  rw [impl_longestUp.B4_s]
  refine bif_dec (fun h3 => ?_) (fun h3 => ?_)
  · refine RowI.get hs.row h0 (by rw [tab_length]; omega) ?_
    rw [tab_getD _ (by omega)]
    refine ⟨_, k + 1, by rw [w64_succ h0 (by omega)], ⟨rfl, by omega, by omega, ?_⟩, by omega⟩
    rw [show (k + 1).toNat = k.toNat + 1 by omega, mx, ← hm, Int.max_def]
    split <;> split <;> omega
  · rw [impl_longestUp.A4_0_s]
    have e : k.toNat = L.length := by omega
    rw [e] at hm
    refine ⟨?_, hb⟩
    rw [hm, luV, lis_eq (L := L) (fun i hi => gl_spec hp hL L.length (Nat.le_refl _) i (by omega) hi) (fun k hk => enT_spec hL L.length (Nat.le_refl _) k hk)]

open Classical in
noncomputable def LongestUpV (L : List Int) : Int := if IsP L then luV L else -1
theorem c_implLongestUp {w : World} {a : Sl} {L : List Int} (ha : RowI w a L) (hL : L.length < 2^38) :
    Calls PP F.impl_LongestUp #[a.v] w fun e w' => e = .returned (vI (LongestUpV L)) ∧ Below w.heap.size w w' := by
  refine impl_LongestUp.calls a ?_
  rw [impl_LongestUp.E_s]
  refine (c_implIsPerm ha hL).mono ?_
  rintro e w1 ⟨rfl, hb⟩
  refine ⟨_, rfl, ?_⟩
  refine bif_intro (fun h => ?_) (fun h => ?_)
  · have h : ¬ IsP L := by simpa using h
    exact ⟨by rw [LongestUpV, if_neg h], hb⟩
  · have h : IsP L := by simpa using h
    refine (c_longestUp (ha.grow hb) hL h.2.ne).mono ?_
    rintro e w2 ⟨rfl, hb2⟩
    exact ⟨_, rfl, by rw [LongestUpV, if_pos h], hb.trans (hb2.mono hb.size)⟩
theorem c_specLongestUp {w : World} {a : Sl} {L : List Int} (ha : RowI w a L) (hL : L.length < 2^38) :
    Calls PP F.spec_LongestUp #[a.v] w fun e w' => e = .returned (vI (LongestUpV L)) ∧ Below w.heap.size w w' := by
  refine spec_LongestUp.calls a ?_
  rw [spec_LongestUp.E_s]
  refine Quiet.call1 (s := .bool) (c_specIsPerm ha hL) ?_
  intro w1 hd
  refine bif_intro (fun h => ?_) (fun h => ?_)
  · have h : ¬ IsP L := by simpa using h
    exact ⟨by rw [LongestUpV, if_neg h], hd.below _⟩
  · have h : IsP L := by simpa using h
    refine (c_l20Up (ha.heap hd.heap') hL).mono ?_
    rintro e w2 ⟨rfl, hb2⟩
    exact ⟨_, rfl, by rw [LongestUpV, if_pos h], (hd.below _).trans (hb2.mono (by rw [hd.heap']; exact Nat.le_refl _))⟩

end Go.Proofs.Ytdchjhhpbdekeaa

/- Occurrences of a pattern, as lists: plain facts. -/
namespace Go.Proofs.Ytdchjhhpbdekeaa
open Go
set_option maxRecDepth 100000

/-- a, a+1, .. (c numbers) -/
def seqI (a : Int) (c : Nat) : List Int := (List.range c).map fun (i : Nat) => a + (i : Int)
theorem seqI_length (a : Int) (c : Nat) : (seqI a c).length = c := by simp [seqI]
theorem seqI_succ (a : Int) (c : Nat) : seqI a (c + 1) = seqI a c ++ [a + (c : Int)] := by simp [seqI, List.range_succ]
theorem mem_seqI {a : Int} {c : Nat} {x : Int} : x ∈ seqI a c ↔ a ≤ x ∧ x < a + c := by
  simp only [seqI, List.mem_map, List.mem_range]
  constructor
  · rintro ⟨i, hi, rfl⟩; omega
  · rintro ⟨h1, h2⟩; exact ⟨(x - a).toNat, by omega, by omega⟩
/-- The last number of a list, 0 of none. -/
def lastD (h : List Int) : Int := h.getD (h.length - 1) 0
theorem lastD_nil : lastD [] = 0 := rfl
theorem lastD_snoc (h : List Int) (x : Int) : lastD (h ++ [x]) = x := by simp [lastD, List.getD_eq_getElem?_getD]
def fitsAt (P Q h : List Int) (x : Int) (k : Nat) : Bool := decide (P.getD (h.getD k 0 - 1).toNat 0 < P.getD (x - 1).toNat 0) == decide (Q.getD k 0 < Q.getD h.length 0)
/-- May the place x be the next one behind the places h? -/
def fitsB (P Q h : List Int) (x : Int) : Bool := (List.range h.length).all (fitsAt P Q h x)
theorem fitsB_iff {P Q h : List Int} {x : Int} : fitsB P Q h x = true ↔ ∀ k, k < h.length → fitsAt P Q h x k = true := by simp [fitsB]
/-- All ways to go on from the places h with m more. -/
def occN (P Q : List Int) : Nat → List Int → List (List Int)
  | 0, h => [h]
  | m + 1, h => (seqI (lastD h + 1) ((P.length : Int) - lastD h).toNat).flatMap fun x => if fitsB P Q h x then occN P Q m (h ++ [x]) else []
def hasB (P Q : List Int) (m : Nat) (h : List Int) : Bool := !(occN P Q m h).isEmpty
theorem hasB_zero (P Q h : List Int) : hasB P Q 0 h = true := rfl
theorem hasB_succ {P Q h : List Int} {m : Nat} : hasB P Q (m + 1) h = true ↔ ∃ x, lastD h < x ∧ x ≤ P.length ∧ fitsB P Q h x = true ∧ hasB P Q m (h ++ [x]) = true := by
  simp only [hasB, occN, Bool.not_eq_true', List.isEmpty_eq_false_iff, ne_eq, List.flatMap_eq_nil_iff, mem_seqI]
  constructor
  · intro hn
    apply Classical.byContradiction
    intro hc
    apply hn
    intro x hx
    split
    · rename_i hf
      apply Classical.byContradiction
      intro hne
      exact hc ⟨x, by omega, by omega, hf, hne⟩
    · rfl
  · rintro ⟨x, h1, h2, h3, h4⟩ hall
    have := hall x ⟨by omega, by omega⟩
    rw [if_pos h3] at this
    exact h4 this
/-- Places of a list. -/
def Places (P h : List Int) : Prop := ∀ x ∈ h, 1 ≤ x ∧ x ≤ P.length
theorem Places.snoc {P h : List Int} {x : Int} (hh : Places P h) (h1 : 1 ≤ x) (h2 : x ≤ P.length) : Places P (h ++ [x]) := fun y hy => by
  rcases List.mem_append.1 hy with h3 | h3
  · exact hh y h3
  · have : y = x := by simpa using h3
    subst this; exact ⟨h1, h2⟩
theorem lastD_mem {h : List Int} (hne : h ≠ []) : lastD h ∈ h := by
  unfold lastD
  have : 0 < h.length := List.length_pos_iff.2 hne
  rw [getD_lt (by omega)]
  exact List.getElem_mem _
theorem Places.last {P h : List Int} (hh : Places P h) : 0 ≤ lastD h ∧ lastD h ≤ P.length := by
  by_cases hne : h = []
  · subst hne; simp [lastD]
  · have := hh _ (lastD_mem hne); omega
theorem Places.nil (P : List Int) : Places P [] := fun x hx => by simp at hx
/-- There must be room. -/
theorem hasB_room {P Q : List Int} : ∀ (m : Nat) (h : List Int), Places P h → hasB P Q m h = true → lastD h + m ≤ P.length
  | 0, h, hh, _ => by have := hh.last; omega
  | m + 1, h, hh, hb => by
    obtain ⟨x, h1, h2, _, h4⟩ := hasB_succ.1 hb
    have h0 := hh.last
    have := hasB_room m (h ++ [x]) (hh.snoc (by omega) h2) h4
    rw [lastD_snoc] at this
    omega
theorem length_flatMap_le {α β : Type} (l : List α) (f : α → List β) (c : Nat) (h : ∀ x ∈ l, (f x).length ≤ c) : (l.flatMap f).length ≤ l.length * c := by
  induction l with
  | nil => simp
  | cons x r ih =>
    have h1 := h x (by simp)
    have h2 := ih (fun y hy => h y (by simp [hy]))
    simp only [List.flatMap_cons, List.length_append, List.length_cons, Nat.succ_mul]
    omega
theorem occN_length {P Q : List Int} : ∀ (m : Nat) (h : List Int), Places P h → (occN P Q m h).length ≤ P.length ^ m
  | 0, h, _ => by simp [occN]
  | m + 1, h, hh => by
    have h0 := hh.last
    rw [occN]
    refine Nat.le_trans (length_flatMap_le _ _ (P.length ^ m) (fun x hx => ?_)) ?_
    · rw [mem_seqI] at hx
      split
      · exact occN_length m (h ++ [x]) (hh.snoc (by omega) (by omega))
      · simp
    · rw [seqI_length, Nat.pow_succ, Nat.mul_comm]
      exact Nat.mul_le_mul_left _ (by omega)
/-- Does the pattern occur? -/
def hasP (P Q : List Int) : Bool := hasB P Q Q.length []
end Go.Proofs.Ytdchjhhpbdekeaa

/- Longest ascending patterns, counted and told first: plain facts. -/
namespace Go.Proofs.Ytdchjhhpbdekeaa
open Go
set_option maxRecDepth 100000

/-- All ways to go on ascending with m more places behind the place p and the value v. -/
def upN (P : List Int) : Nat → Int → Int → List (List Int)
  | 0, _, _ => [[]]
  | m + 1, p, v => (seqI (p + 1) ((P.length : Int) - p).toNat).flatMap fun x => if v < P.getD (x - 1).toNat 0 then (upN P m x (P.getD (x - 1).toNat 0)).map (x :: ·) else []
def lastV (P h : List Int) : Int := if h = [] then 0 else P.getD (lastD h - 1).toNat 0
def IncV (P h : List Int) : Prop := ∀ k, k < h.length → P.getD (h.getD k 0 - 1).toNat 0 ≤ lastV P h
theorem lastV_snoc (P h : List Int) (x : Int) : lastV P (h ++ [x]) = P.getD (x - 1).toNat 0 := by
  rw [lastV, if_neg (by simp), lastD_snoc]
theorem lastV_self {P h : List Int} (hne : h ≠ []) : lastV P h = P.getD (h.getD (h.length - 1) 0 - 1).toNat 0 := by rw [lastV, if_neg hne]; rfl
theorem fits_up {P h : List Int} {K : Nat} {x : Int} (hi : IncV P h) (hK : h.length < K) (h0 : 0 < P.getD (x - 1).toNat 0) : fitsB P (idn K) h x = true ↔ lastV P h < P.getD (x - 1).toNat 0 := by
  rw [fitsB_iff]
  constructor
  · intro hall
    by_cases hne : h = []
    · rw [lastV, if_pos hne]; exact h0
    · have hp : 0 < h.length := List.length_pos_iff.2 hne
      have := hall (h.length - 1) (by omega)
      rw [fitsAt, idn_getD (by omega), idn_getD hK, ← lastV_self hne] at this
      have e : decide (((h.length - 1 : Nat) : Int) + 1 < ((h.length : Nat) : Int) + 1) = true := by simp; omega
      rw [e] at this
      simpa using this
  · intro hlt k hk
    have := hi k hk
    rw [fitsAt, idn_getD (by omega), idn_getD hK]
    have e : decide ((k : Int) + 1 < ((h.length : Nat) : Int) + 1) = true := by simp; omega
    rw [e, decide_eq_true (by omega)]; rfl
theorem IncV.snoc {P h : List Int} {x : Int} (hi : IncV P h) (hlt : lastV P h < P.getD (x - 1).toNat 0) : IncV P (h ++ [x]) := by
  intro k hk
  rw [lastV_snoc]
  by_cases e : k < h.length
  · have := hi k e
    have e1 : (h ++ [x]).getD k 0 = h.getD k 0 := by simp [List.getD_eq_getElem?_getD, List.getElem?_append_left e]
    rw [e1]; omega
  · have : k = h.length := by simp at hk; omega
    subst this
    simp [List.getD_eq_getElem?_getD]
theorem flatMap_congr' {α β : Type} {l : List α} {f g : α → List β} (h : ∀ x ∈ l, f x = g x) : l.flatMap f = l.flatMap g := by
  induction l with
  | nil => rfl
  | cons x r ih => rw [List.flatMap_cons, List.flatMap_cons, h x (by simp), ih (fun y hy => h y (by simp [hy]))]
theorem occ_up {P : List Int} {K : Nat} (hpos : ∀ x : Int, 1 ≤ x → x ≤ P.length → 0 < P.getD (x - 1).toNat 0) : ∀ (m : Nat) (h : List Int), h.length + m = K → IncV P h → Places P h → occN P (idn K) m h = (upN P m (lastD h) (lastV P h)).map (h ++ ·)
  | 0, h, _, _, _ => by simp [occN, upN]
  | m + 1, h, hl, hi, hpl => by
    have h0 := hpl.last
    rw [occN, upN, List.map_flatMap]
    apply flatMap_congr'
    intro x hx
    rw [mem_seqI] at hx
    have hxp := hpos x (by omega) (by omega)
    by_cases hc : lastV P h < P.getD (x - 1).toNat 0
    · rw [if_pos ((fits_up hi (by omega) hxp).2 hc), if_pos hc, occ_up hpos m (h ++ [x]) (by simp; omega) (hi.snoc hc) (hpl.snoc (by omega) (by omega)), lastD_snoc, lastV_snoc, List.map_map]
      apply List.map_congr_left
      intro r _
      simp
    · rw [if_neg (fun h => hc ((fits_up hi (by omega) hxp).1 h)), if_neg hc]; rfl
theorem occ_up_nil {P : List Int} {K : Nat} (hpos : ∀ x : Int, 1 ≤ x → x ≤ P.length → 0 < P.getD (x - 1).toNat 0) : occN P (idn K) K [] = upN P K 0 0 := by
  rw [occ_up hpos K [] (by simp) (fun k hk => by simp at hk) (Places.nil P)]
  simp [lastD_nil, lastV]

/-- Behind place p, split at its next. -/
theorem upN_split (P : List Int) (m : Nat) {p : Int} (v : Int) (h0 : 0 ≤ p) (hp : p < P.length) :
    upN P (m + 1) p v = (if v < P.getD p.toNat 0 then (upN P m (p + 1) (P.getD p.toNat 0)).map ((p + 1) :: ·) else []) ++ upN P (m + 1) (p + 1) v := by
  rw [upN, upN]
  have : ((P.length : Int) - p).toNat = ((P.length : Int) - (p + 1)).toNat + 1 := by omega
  rw [this]
  have e : seqI (p + 1) (((P.length : Int) - (p + 1)).toNat + 1) = (p + 1) :: seqI (p + 1 + 1) ((P.length : Int) - (p + 1)).toNat := by
    unfold seqI
    rw [List.range_succ_eq_map, List.map_cons, List.map_map]
    simp only [List.cons.injEq]
    refine ⟨by simp, ?_⟩
    apply List.map_congr_left
    intro i _
    simp only [Function.comp_apply]; omega
  rw [e, List.flatMap_cons, show p + 1 - 1 = p by omega]
theorem upN_end (P : List Int) (m : Nat) {p : Int} (v : Int) (hp : P.length ≤ p) : upN P (m + 1) p v = [] := by
  rw [upN, show ((P.length : Int) - p).toNat = 0 by omega]; rfl
/-- The number of chains of m more behind place i (counted from 0). -/
def cn (P : List Int) (i m : Nat) : Nat := (upN P m ((i : Int) + 1) (P.getD i 0)).length
/-- The sum of them over the next c places with a greater number. -/
def sumUp (P : List Int) (v : Int) (i m : Nat) : Nat → Nat
  | 0 => 0
  | c + 1 => sumUp P v i m c + if v < P.getD (i + c) 0 then cn P (i + c) m else 0
theorem sumUp_front (P : List Int) (v : Int) (i m : Nat) : ∀ c, sumUp P v i m (c + 1) = (if v < P.getD i 0 then cn P i m else 0) + sumUp P v (i + 1) m c
  | 0 => by simp [sumUp]
  | c + 1 => by
    rw [sumUp, sumUp_front P v i m c, sumUp]
    rw [show i + (c + 1) = i + 1 + c by omega]; omega
theorem upN_count (P : List Int) (m : Nat) (v : Int) : ∀ (c i : Nat), i + c = P.length → (upN P (m + 1) i v).length = sumUp P v i m c
  | 0, i, h => by rw [upN_end P m v (by omega)]; rfl
  | c + 1, i, h => by
    rw [upN_split P m v (by omega) (by omega), List.length_append, sumUp_front]
    have := upN_count P m v c (i + 1) (by omega)
    rw [show ((i + 1 : Nat) : Int) = (i : Int) + 1 by omega] at this
    rw [this, Int.toNat_natCast]
    congr 1
    split
    · rw [List.length_map, cn]
    · rfl
theorem cn_succ (P : List Int) (m : Nat) {i : Nat} (h : i < P.length) : cn P i (m + 1) = sumUp P (P.getD i 0) (i + 1) m (P.length - 1 - i) := by
  rw [cn, show ((i : Int) + 1) = ((i + 1 : Nat) : Int) by omega, upN_count P m _ (P.length - 1 - i) (i + 1) (by omega)]
theorem cn_zero (P : List Int) (i : Nat) : cn P i 0 = 1 := rfl
theorem sumUp_pos {P : List Int} {v : Int} {i m : Nat} : ∀ {c}, 0 < sumUp P v i m c ↔ ∃ k, i ≤ k ∧ k < i + c ∧ v < P.getD k 0 ∧ 0 < cn P k m
  | 0 => by
    simp only [sumUp]
    constructor
    · intro h; omega
    · rintro ⟨k, h1, h2, _⟩; omega
  | c + 1 => by
    rw [sumUp]
    constructor
    · intro h
      by_cases h1 : 0 < sumUp P v i m c
      · obtain ⟨k, a, b, d, e⟩ := sumUp_pos.1 h1
        exact ⟨k, a, by omega, d, e⟩
      · split at h
        · rename_i h2; exact ⟨i + c, by omega, by omega, h2, by omega⟩
        · omega
    · rintro ⟨k, a, b, d, e⟩
      by_cases hk : k = i + c
      · subst hk; rw [if_pos d]; omega
      · have := (sumUp_pos (c := c)).2 ⟨k, a, by omega, d, e⟩
        omega
theorem cn_Fr {P : List Int} : ∀ (m : Nat) {i : Nat}, i < P.length → (0 < cn P i m ↔ Fr P i (m + 1))
  | 0, i, hi => by rw [cn_zero]; exact ⟨fun _ => .one hi, fun _ => by omega⟩
  | m + 1, i, hi => by
    rw [cn_succ P m hi, sumUp_pos]
    constructor
    · rintro ⟨k, h1, h2, h3, h4⟩
      exact .cons (by omega) (by omega) h3 ((cn_Fr m (by omega)).1 h4)
    · intro h
      cases h with
      | cons h1 h2 h3 h4 =>
        rename_i k
        exact ⟨k, by omega, by omega, h3, (cn_Fr m h2).2 h4⟩
theorem cn_bound {P : List Int} : ∀ (m : Nat) {i : Nat}, i < P.length → cn P i m ≤ 2 ^ (P.length - 1 - i)
  | 0, i, hi => by rw [cn_zero]; exact Nat.one_le_two_pow
  | m + 1, i, hi => by
    rw [cn_succ P m hi]
    have : ∀ c, i + c < P.length → sumUp P (P.getD i 0) (i + 1) m c ≤ 2 ^ (P.length - 1 - i) - 2 ^ (P.length - 1 - i - c) := fun c => by
      induction c with
      | zero => intro _; simp [sumUp]
      | succ c ih =>
        intro hc
        have h1 := ih (by omega)
        have h2 := cn_bound (P := P) m (i := i + 1 + c) (by omega)
        rw [sumUp]
        have h3 : P.length - 1 - i - c = (P.length - 1 - (i + 1 + c)) + 1 := by omega
        have h4 : P.length - 1 - i - (c + 1) = P.length - 1 - (i + 1 + c) := by omega
        rw [h3, Nat.pow_succ] at h1
        rw [h4]
        have h5 : 2 ^ (P.length - 1 - (i + 1 + c)) * 2 ≤ 2 ^ (P.length - 1 - i) := by
          rw [← Nat.pow_succ]; exact Nat.pow_le_pow_right (by omega) (by omega)
        split <;> omega
    have h := this (P.length - 1 - i) (by omega)
    exact Nat.le_trans h (Nat.sub_le _ _)
end Go.Proofs.Ytdchjhhpbdekeaa
