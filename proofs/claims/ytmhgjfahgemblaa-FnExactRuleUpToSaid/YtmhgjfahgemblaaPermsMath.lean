/- All permutations of a length: plain facts. -/
import Derived.Test.YtmhgjfahgemblaaPermMath
namespace Go.Proofs.Ytmhgjfahgemblaa
open Go
set_option maxRecDepth 100000

def extV (n : Nat) (p : List Int) : List (List Int) := (idn n).flatMap fun v => if v ∈ p then [] else [p ++ [v]]
def lvl (n : Nat) : Nat → List (List Int)
  | 0 => [[]]
  | k + 1 => (lvl n k).flatMap (extV n)
def permsV (n : Nat) : List (List Int) := lvl n n
def fillN (n : Nat) : Nat → List Int → List (List Int)
  | 0, h => [h]
  | m + 1, h => (idn n).flatMap fun v => if v ∈ h then [] else fillN n m (h ++ [v])
theorem fillN_ext (n m : Nat) (h : List Int) : (extV n h).flatMap (fillN n m) = fillN n (m + 1) h := by
  rw [extV, List.flatMap_assoc, fillN]
  congr 1
  funext v
  split <;> simp
theorem fillN_lvl (n : Nat) : ∀ k m, (lvl n k).flatMap (fillN n m) = fillN n (k + m) []
  | 0, m => by simp [lvl]
  | k + 1, m => by
    rw [lvl, List.flatMap_assoc]
    have : (fun x => List.flatMap (fillN n m) (extV n x)) = fillN n (m + 1) := by funext h; exact fillN_ext n m h
    rw [this, fillN_lvl n k (m + 1)]
    congr 1; omega
theorem fillN_permsV (n : Nat) : fillN n n [] = permsV n := by
  have := fillN_lvl n n 0
  rw [Nat.add_zero] at this
  rw [← this, permsV]
  have : ∀ l : List (List Int), l.flatMap (fillN n 0) = l := fun l => by
    induction l with
    | nil => rfl
    | cons x r ih => rw [List.flatMap_cons, ih, fillN]; rfl
  rw [this]
theorem mem_extV {n : Nat} {p q : List Int} : q ∈ extV n p ↔ ∃ v, v ∈ idn n ∧ v ∉ p ∧ q = p ++ [v] := by
  simp only [extV, List.mem_flatMap]
  constructor
  · rintro ⟨v, h1, h2⟩
    split at h2
    · simp at h2
    · rename_i h3; exact ⟨v, h1, h3, by simpa using h2⟩
  · rintro ⟨v, h1, h2, h3⟩
    exact ⟨v, h1, by rw [if_neg h2]; simp [h3]⟩
theorem mem_lvl {n : Nat} : ∀ {k : Nat} {p : List Int}, p ∈ lvl n k ↔ p.length = k ∧ p.Nodup ∧ ∀ x ∈ p, x ∈ idn n
  | 0, p => by
    simp only [lvl, List.mem_singleton]
    constructor
    · rintro rfl; simp
    · rintro ⟨h, _⟩; exact List.eq_nil_of_length_eq_zero h
  | k + 1, p => by
    simp only [lvl, List.mem_flatMap, mem_extV, mem_lvl (k := k)]
    constructor
    · rintro ⟨q, ⟨h1, h2, h3⟩, v, h4, h5, rfl⟩
      refine ⟨by simp [h1], ?_, fun x hx => ?_⟩
      · rw [List.nodup_append]
        exact ⟨h2, by simp, fun a ha b hb e => by simp at hb; subst hb; subst e; exact h5 ha⟩
      · rcases List.mem_append.1 hx with h6 | h6
        · exact h3 x h6
        · simp at h6; subst h6; exact h4
    · rintro ⟨h1, h2, h3⟩
      obtain ⟨q, v, rfl⟩ : ∃ q v, p = q ++ [v] := ⟨p.dropLast, p.getLast (by rintro rfl; simp at h1), (List.dropLast_concat_getLast _).symm⟩
      rw [List.nodup_append] at h2
      refine ⟨q, ⟨by simpa using h1, h2.1, fun x hx => h3 x (by simp [hx])⟩, v, h3 v (by simp), fun hv => h2.2.2 v hv v (by simp) rfl, rfl⟩
theorem mem_permsV {n : Nat} {p : List Int} : p ∈ permsV n ↔ p.Perm (idn n) := by
  rw [permsV, mem_lvl]
  constructor
  · rintro ⟨h1, h2, h3⟩; exact perm_of_nodup h2 (fun x hx => mem_idn.1 (h3 x hx)) h1
  · intro h; exact ⟨by rw [h.length_eq, idn_length], h.nodup_iff.2 (idn_nodup n), fun x hx => h.mem_iff.1 hx⟩
theorem permsV_isP {n : Nat} (hn : n ≤ 8) {p : List Int} (h : p ∈ permsV n) : IsP p := isP_of (mem_permsV.1 h) hn
theorem permsV_len {n : Nat} {p : List Int} (h : p ∈ permsV n) : p.length = n := by rw [(mem_permsV.1 h).length_eq, idn_length]
theorem extV_length (n : Nat) (p : List Int) : (extV n p).length ≤ n := by
  unfold extV
  have : ∀ l : List Int, (l.flatMap fun v => if v ∈ p then [] else [p ++ [v]]).length ≤ l.length := fun l => by
    induction l with
    | nil => simp
    | cons x r ih =>
      rw [List.flatMap_cons, List.length_append, List.length_cons]
      have h1 : (if x ∈ p then [] else [p ++ [x]]).length ≤ 1 := by split <;> simp
      omega
  have h := this (idn n)
  rwa [idn_length] at h
theorem flatMap_len_le {α β : Type} (l : List α) (f : α → List β) (c : Nat) (h : ∀ x ∈ l, (f x).length ≤ c) : (l.flatMap f).length ≤ l.length * c := by
  induction l with
  | nil => simp
  | cons x r ih =>
    have h1 := h x (by simp)
    have h2 := ih (fun y hy => h y (by simp [hy]))
    simp only [List.flatMap_cons, List.length_append, List.length_cons, Nat.succ_mul]
    omega
theorem lvl_length (n : Nat) : ∀ k, (lvl n k).length ≤ n ^ k
  | 0 => by simp [lvl]
  | k + 1 => by
    rw [lvl, Nat.pow_succ]
    exact Nat.le_trans (flatMap_len_le _ _ n (fun x _ => extV_length n x)) (Nat.mul_le_mul_right _ (lvl_length n k))
theorem fillN_length (n : Nat) : ∀ m h, (fillN n m h).length ≤ n ^ m
  | 0, h => by simp [fillN]
  | m + 1, h => by
    rw [fillN, Nat.pow_succ, Nat.mul_comm]
    refine Nat.le_trans (flatMap_len_le _ _ (n ^ m) (fun v _ => ?_)) (by rw [idn_length]; exact Nat.le_refl _)
    split
    · simp
    · exact fillN_length n m _
theorem permsV_length (n : Nat) : (permsV n).length ≤ n ^ n := lvl_length n n
/-- idn, by steps -/
theorem idn_take_flat {β : Type} (f : Int → List β) {v : Int} (hv : 1 ≤ v) : (idn v.toNat).flatMap f = (idn (v - 1).toNat).flatMap f ++ f v := by
  rw [show v.toNat = (v - 1).toNat + 1 by omega, idn_succ, List.flatMap_append]
  simp only [List.flatMap_cons, List.flatMap_nil, List.append_nil]
  congr 2; omega
end Go.Proofs.Ytmhgjfahgemblaa
