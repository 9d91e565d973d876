/- Occurrences of a pattern, as lists: plain facts. -/
import Derived.Test.YtmhgjfahgemblaaPermMath
namespace Go.Proofs.Ytmhgjfahgemblaa
open Go
set_option maxRecDepth 100000

/-- a, a+1, .. (c numbers) -/
def seqI (a : Int) (c : Nat) : List Int := (List.range c).map fun (i : Nat) => a + (i : Int)
theorem seqI_length (a : Int) (c : Nat) : (seqI a c).length = c := by simp [seqI]
theorem seqI_succ (a : Int) (c : Nat) : seqI a (c + 1) = seqI a c ++ [a + (c : Int)] := by simp [seqI, List.range_succ]
theorem mem_seqI {a : Int} {c : Nat} {x : Int} : x ∈ seqI a c ↔ a ≤ x ∧ x < a + c := by
  simp only [seqI, List.mem_map, List.mem_range]
  constructor
  · rintro ⟨i, hi, rfl⟩; omega
  · rintro ⟨h1, h2⟩; exact ⟨(x - a).toNat, by omega, by omega⟩
/-- The last number of a list, 0 of none. -/
def lastD (h : List Int) : Int := h.getD (h.length - 1) 0
theorem lastD_nil : lastD [] = 0 := rfl
theorem lastD_snoc (h : List Int) (x : Int) : lastD (h ++ [x]) = x := by simp [lastD, List.getD_eq_getElem?_getD]
def fitsAt (P Q h : List Int) (x : Int) (k : Nat) : Bool := decide (P.getD (h.getD k 0 - 1).toNat 0 < P.getD (x - 1).toNat 0) == decide (Q.getD k 0 < Q.getD h.length 0)
/-- May the place x be the next one behind the places h? -/
def fitsB (P Q h : List Int) (x : Int) : Bool := (List.range h.length).all (fitsAt P Q h x)
theorem fitsB_iff {P Q h : List Int} {x : Int} : fitsB P Q h x = true ↔ ∀ k, k < h.length → fitsAt P Q h x k = true := by simp [fitsB]
/-- All ways to go on from the places h with m more. -/
def occN (P Q : List Int) : Nat → List Int → List (List Int)
  | 0, h => [h]
  | m + 1, h => (seqI (lastD h + 1) ((P.length : Int) - lastD h).toNat).flatMap fun x => if fitsB P Q h x then occN P Q m (h ++ [x]) else []
def hasB (P Q : List Int) (m : Nat) (h : List Int) : Bool := !(occN P Q m h).isEmpty
theorem hasB_zero (P Q h : List Int) : hasB P Q 0 h = true := rfl
theorem hasB_succ {P Q h : List Int} {m : Nat} : hasB P Q (m + 1) h = true ↔ ∃ x, lastD h < x ∧ x ≤ P.length ∧ fitsB P Q h x = true ∧ hasB P Q m (h ++ [x]) = true := by
  simp only [hasB, occN, Bool.not_eq_true', List.isEmpty_eq_false_iff, ne_eq, List.flatMap_eq_nil_iff, mem_seqI]
  constructor
  · intro hn
    apply Classical.byContradiction
    intro hc
    apply hn
    intro x hx
    split
    · rename_i hf
      apply Classical.byContradiction
      intro hne
      exact hc ⟨x, by omega, by omega, hf, hne⟩
    · rfl
  · rintro ⟨x, h1, h2, h3, h4⟩ hall
    have := hall x ⟨by omega, by omega⟩
    rw [if_pos h3] at this
    exact h4 this
/-- Places of a list. -/
def Places (P h : List Int) : Prop := ∀ x ∈ h, 1 ≤ x ∧ x ≤ P.length
theorem Places.snoc {P h : List Int} {x : Int} (hh : Places P h) (h1 : 1 ≤ x) (h2 : x ≤ P.length) : Places P (h ++ [x]) := fun y hy => by
  rcases List.mem_append.1 hy with h3 | h3
  · exact hh y h3
  · have : y = x := by simpa using h3
    subst this; exact ⟨h1, h2⟩
theorem lastD_mem {h : List Int} (hne : h ≠ []) : lastD h ∈ h := by
  unfold lastD
  have : 0 < h.length := List.length_pos_iff.2 hne
  rw [getD_lt (by omega)]
  exact List.getElem_mem _
theorem Places.last {P h : List Int} (hh : Places P h) : 0 ≤ lastD h ∧ lastD h ≤ P.length := by
  by_cases hne : h = []
  · subst hne; simp [lastD]
  · have := hh _ (lastD_mem hne); omega
theorem Places.nil (P : List Int) : Places P [] := fun x hx => by simp at hx
/-- There must be room. -/
theorem hasB_room {P Q : List Int} : ∀ (m : Nat) (h : List Int), Places P h → hasB P Q m h = true → lastD h + m ≤ P.length
  | 0, h, hh, _ => by have := hh.last; omega
  | m + 1, h, hh, hb => by
    obtain ⟨x, h1, h2, _, h4⟩ := hasB_succ.1 hb
    have h0 := hh.last
    have := hasB_room m (h ++ [x]) (hh.snoc (by omega) h2) h4
    rw [lastD_snoc] at this
    omega
theorem length_flatMap_le {α β : Type} (l : List α) (f : α → List β) (c : Nat) (h : ∀ x ∈ l, (f x).length ≤ c) : (l.flatMap f).length ≤ l.length * c := by
  induction l with
  | nil => simp
  | cons x r ih =>
    have h1 := h x (by simp)
    have h2 := ih (fun y hy => h y (by simp [hy]))
    simp only [List.flatMap_cons, List.length_append, List.length_cons, Nat.succ_mul]
    omega
theorem occN_length {P Q : List Int} : ∀ (m : Nat) (h : List Int), Places P h → (occN P Q m h).length ≤ P.length ^ m
  | 0, h, _ => by simp [occN]
  | m + 1, h, hh => by
    have h0 := hh.last
    rw [occN]
    refine Nat.le_trans (length_flatMap_le _ _ (P.length ^ m) (fun x hx => ?_)) ?_
    · rw [mem_seqI] at hx
      split
      · exact occN_length m (h ++ [x]) (hh.snoc (by omega) (by omega))
      · simp
    · rw [seqI_length, Nat.pow_succ, Nat.mul_comm]
      exact Nat.mul_le_mul_left _ (by omega)
/-- Does the pattern occur? -/
def hasP (P Q : List Int) : Bool := hasB P Q Q.length []
end Go.Proofs.Ytmhgjfahgemblaa
