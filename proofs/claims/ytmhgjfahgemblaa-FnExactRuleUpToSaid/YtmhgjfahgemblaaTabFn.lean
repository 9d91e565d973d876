/- Rows given by a function of the place. -/
import Derived.Test.YtmhgjfahgemblaaMem
namespace Go.Proofs.Ytmhgjfahgemblaa
open Go Go.RowKit
set_option maxRecDepth 100000

def tab (n : Nat) (f : Nat → Int) : List Int := (List.range n).map f
theorem tab_length (n : Nat) (f : Nat → Int) : (tab n f).length = n := by simp [tab]
theorem tab_getD {n : Nat} (f : Nat → Int) {i : Nat} (h : i < n) : (tab n f).getD i 0 = f i := by simp [tab, List.getD_eq_getElem?_getD, h]
theorem tab_set {n : Nat} (f : Nat → Int) (i : Nat) (v : Int) : (tab n f).set i v = tab n (fun j => if j = i then v else f j) := by
  apply List.ext_getElem?
  intro k
  simp only [tab, List.getElem?_set, List.getElem?_map, List.length_map, List.length_range]
  by_cases hk : k < n
  · rw [List.getElem?_range hk]
    by_cases hik : i = k
    · subst hik; simp [hk]
    · simp [hik, Ne.symm hik]
  · rw [List.getElem?_eq_none (by simpa using hk)]
    by_cases hik : i = k
    · subst hik; simp [hk]
    · simp [hik]
theorem tab_congr {n : Nat} {f g : Nat → Int} (h : ∀ j, j < n → f j = g j) : tab n f = tab n g := by
  unfold tab; apply List.map_congr_left; intro j hj; exact h j (by simpa using hj)
theorem grownBy_trans {a b c : World} {r : Option Nat} (h : a.grownBy b r) (k : b.grownBy c r) : a.grownBy c r :=
  ⟨k.os.trans h.os, k.tape.trans h.tape, k.output.trans h.output, Nat.le_trans h.size k.size, fun x hx hne => (k.block x (Nat.lt_of_lt_of_le hx h.size) hne).trans (h.block x hx hne)⟩
theorem grownBy_refl (a : World) (r : Option Nat) : a.grownBy a r := ⟨rfl, rfl, rfl, Nat.le_refl _, fun _ _ _ => rfl⟩
theorem Drew.grownBy {a b : World} (h : Drew a b) (r : Option Nat) : a.grownBy b r := by obtain ⟨n, rfl⟩ := h; exact ⟨rfl, rfl, rfl, Nat.le_refl _, fun _ _ _ => rfl⟩
theorem tab_succ (n : Nat) (f : Nat → Int) : tab (n + 1) f = tab n f ++ [f n] := by simp [tab, List.range_succ]
theorem tab_self (L : List Int) : tab L.length (fun k => L.getD k 0) = L := by
  apply List.ext_getElem?
  intro k
  by_cases hk : k < L.length
  · simp [tab, List.getElem?_range hk, List.getD_eq_getElem?_getD, List.getElem?_eq_getElem hk, hk]
  · rw [List.getElem?_eq_none (by simp [tab]; omega), List.getElem?_eq_none (by omega)]
theorem tab_reverse (L : List Int) : tab L.length (fun k => L.getD (L.length - 1 - k) 0) = L.reverse := by
  apply List.ext_getElem?
  intro k
  by_cases hk : k < L.length
  · rw [List.getElem?_reverse hk]
    simp [tab, List.getElem?_range hk, List.getD_eq_getElem?_getD, List.getElem?_eq_getElem (show L.length - 1 - k < L.length by omega)]
  · rw [List.getElem?_eq_none (by simp [tab]; omega), List.getElem?_eq_none (by simp; omega)]
end Go.Proofs.Ytmhgjfahgemblaa
