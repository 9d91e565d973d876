/- The order of lists by length and first difference; classes: plain facts. -/
import Derived.Test.YtmhgjfahgemblaaFindMath
namespace Go.Proofs.Ytmhgjfahgemblaa
open Go
set_option maxRecDepth 100000

def lexC : List Int → List Int → Int
  | [], [] => 0
  | [], _ :: _ => -1
  | _ :: _, [] => 1
  | x :: a, y :: b => if x < y then -1 else if x > y then 1 else lexC a b
def cmpP (a b : List Int) : Int := if a.length < b.length then -1 else if a.length > b.length then 1 else lexC a b
theorem lexC_range : ∀ a b, lexC a b = -1 ∨ lexC a b = 0 ∨ lexC a b = 1
  | [], [] => by simp [lexC]
  | [], _ :: _ => by simp [lexC]
  | _ :: _, [] => by simp [lexC]
  | x :: a, y :: b => by
    rw [lexC]
    have := lexC_range a b
    split
    · simp
    · split
      · simp
      · exact this
theorem lexC_drop {a b : List Int} {k : Nat} (ha : k < a.length) (hb : k < b.length) : lexC (a.drop k) (b.drop k) = if a.getD k 0 < b.getD k 0 then -1 else if a.getD k 0 > b.getD k 0 then 1 else lexC (a.drop (k + 1)) (b.drop (k + 1)) := by
  rw [List.drop_eq_getElem_cons ha, List.drop_eq_getElem_cons hb, lexC, getD_lt ha, getD_lt hb]
structure BasisAt (LL : List (List Int)) (k : Nat) : Prop where
  perm : IsP (LL.getD k [])
  ne : LL.getD k [] ≠ []
  ord : 0 < k → cmpP (LL.getD (k - 1) []) (LL.getD k []) < 0
  min : ∀ i, i < k → hasP (LL.getD k []) (LL.getD i []) = false
def BasisOk (LL : List (List Int)) : Prop := LL.length ≤ 8 ∧ ∀ k, k < LL.length → BasisAt LL k
/-- None of a list occurs. -/
def avoidsV (LL : List (List Int)) (P : List Int) : Bool := !(LL.any fun q => hasP P q)
theorem BasisOk.isP {LL : List (List Int)} (h : BasisOk LL) {q : List Int} (hq : q ∈ LL) : IsP q := by
  obtain ⟨i, hi, rfl⟩ := List.getElem_of_mem hq
  have := (h.2 i hi).perm
  simpa [List.getD_eq_getElem?_getD, List.getElem?_eq_getElem hi] using this
end Go.Proofs.Ytmhgjfahgemblaa
