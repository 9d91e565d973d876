/- Plain law: ascending chains, told from their ends. -/
import Derived.Test.YtmhgjfahgemblaaTabFn
namespace Go.Proofs.Ytmhgjfahgemblaa
open Go Go.RowKit
set_option maxRecDepth 100000

/-- An ascending chain of m places that begins at i. -/
inductive Fr (L : List Int) : Nat → Nat → Prop
  | one {i : Nat} : i < L.length → Fr L i 1
  | cons {i k m : Nat} : i < k → k < L.length → L.getD i 0 < L.getD k 0 → Fr L k m → Fr L i (m + 1)
/-- An ascending chain of m places that ends at k. -/
inductive En (L : List Int) : Nat → Nat → Prop
  | one {k : Nat} : k < L.length → En L k 1
  | snoc {i k m : Nat} : i < k → k < L.length → L.getD i 0 < L.getD k 0 → En L i m → En L k (m + 1)
theorem Fr.pos {L i m} (h : Fr L i m) : 1 ≤ m := by cases h <;> omega
theorem En.pos {L i m} (h : En L i m) : 1 ≤ m := by cases h <;> omega
theorem Fr.lt {L i m} (h : Fr L i m) : i < L.length := by cases h <;> omega
theorem Fr.toEn {L : List Int} {i m : Nat} (h : Fr L i m) : ∀ p, En L i p → ∃ k, En L k (p + m - 1) := by
  induction h with
  | one hi => exact fun p hp => ⟨_, by simpa using hp⟩
  | @cons i k m hik hk hlt _ ih =>
    intro p hp
    obtain ⟨k', h⟩ := ih (p + 1) (.snoc hik hk hlt hp)
    exact ⟨k', by rw [show p + (m + 1) - 1 = p + 1 + m - 1 by omega]; exact h⟩
theorem En.toFr {L : List Int} {k m : Nat} (h : En L k m) : ∀ p, Fr L k p → ∃ i, Fr L i (p + m - 1) := by
  induction h with
  | one hi => exact fun p hp => ⟨_, by simpa using hp⟩
  | @snoc i k m hik hk hlt _ ih =>
    intro p hp
    obtain ⟨k', h⟩ := ih (p + 1) (.cons hik hk hlt hp)
    exact ⟨k', by rw [show p + (m + 1) - 1 = p + 1 + m - 1 by omega]; exact h⟩
theorem Fr.le {L i m} (h : Fr L i m) : i + m ≤ L.length := by
  induction h with
  | one h => omega
  | cons h1 _ _ _ ih => omega
theorem En.le {L i m} (h : En L i m) : m ≤ i + 1 := by
  induction h with
  | one h => omega
  | snoc h1 _ _ _ ih => omega

/-- A number is the greatest m with a property. -/
def Most (P : Nat → Prop) (x : Int) : Prop := ∃ m : Nat, x = m ∧ P m ∧ ∀ m', P m' → m' ≤ m

/-- The greatest of the first k numbers, 0 at least. -/
def mx (f : Nat → Int) : Nat → Int
  | 0 => 0
  | k + 1 => max (mx f k) (f k)
theorem mx_ge {f : Nat → Int} {n k : Nat} (h : k < n) : f k ≤ mx f n := by
  induction n with
  | zero => omega
  | succ n ih =>
    simp only [mx]
    by_cases hk : k < n
    · have := ih hk; omega
    · have : k = n := by omega
      subst this; omega
theorem mx_mem {f : Nat → Int} {n : Nat} : mx f n = 0 ∨ ∃ k, k < n ∧ mx f n = f k := by
  induction n with
  | zero => exact .inl rfl
  | succ n ih =>
    simp only [mx]
    rcases Int.le_total (mx f n) (f n) with h | h
    · exact .inr ⟨n, by omega, by omega⟩
    · rcases ih with ih | ⟨k, hk, he⟩
      · exact .inl (by omega)
      · exact .inr ⟨k, by omega, by omega⟩
theorem mx_nonneg {f : Nat → Int} {n : Nat} : 0 ≤ mx f n := by
  induction n with
  | zero => exact Int.le_refl _
  | succ n ih => simp only [mx]; omega
def enI (L : List Int) (f : Nat → Int) (k : Nat) : Nat → Int
  | 0 => 1
  | i + 1 => if L.getD i 0 < L.getD k 0 then max (enI L f k i) (w64 (f i + 1)) else enI L f k i
def enT (L : List Int) : Nat → Nat → Int
  | 0, _ => 0
  | k + 1, j => if j = k then enI L (enT L k) k k else enT L k j
theorem enI_spec {L : List Int} (hL : L.length < 2^38) {f : Nat → Int} {k : Nat} (hk : k < L.length) (hv : ∀ i, i < k → Most (En L i) (f i)) : ∀ c, c ≤ k →
    1 ≤ enI L f k c ∧ (enI L f k c = 1 ∨ ∃ i, i < c ∧ L.getD i 0 < L.getD k 0 ∧ enI L f k c = f i + 1) ∧ ∀ i, i < c → L.getD i 0 < L.getD k 0 → f i + 1 ≤ enI L f k c
  | 0, _ => ⟨by simp [enI], .inl rfl, fun i hi => by omega⟩
  | c + 1, hc => by
    obtain ⟨h1, h2, h3⟩ := enI_spec hL hk hv c (by omega)
    obtain ⟨m, hm, hf, _⟩ := hv c (by omega)
    have hle := hf.le
    have hw : w64 (f c + 1) = f c + 1 := w64_id (by omega) (by omega)
    rw [enI, hw]
    split
    · rename_i hlt
      refine ⟨by omega, ?_, fun i hi hl => ?_⟩
      · rcases Int.le_total (enI L f k c) (f c + 1) with h | h
        · exact .inr ⟨c, by omega, hlt, by omega⟩
        · rcases h2 with h2 | ⟨i, a, b, d⟩
          · exact .inl (by omega)
          · exact .inr ⟨i, by omega, b, by omega⟩
      · by_cases hic : i < c
        · have := h3 i hic hl; omega
        · have : i = c := by omega
          subst this; omega
    · rename_i hlt
      refine ⟨h1, h2.imp id (fun ⟨i, a, b, d⟩ => ⟨i, by omega, b, d⟩), fun i hi hl => ?_⟩
      by_cases hic : i < c
      · exact h3 i hic hl
      · have : i = c := by omega
        subst this; exact absurd hl hlt
theorem enT_spec {L : List Int} (hL : L.length < 2^38) : ∀ d, d ≤ L.length → ∀ j, j < d → Most (En L j) (enT L d j)
  | 0, _, j, h => by omega
  | d + 1, hd, j, hj => by
    rw [enT]
    split
    · rename_i he
      subst he
      obtain ⟨a1, a2, a3⟩ := enI_spec hL (k := j) (by omega) (f := enT L j) (fun i hi => enT_spec hL j (by omega) i hi) j (Nat.le_refl _)
      refine ⟨(enI L (enT L j) j j).toNat, by omega, ?_, fun m' hm' => ?_⟩
      · rcases a2 with a2 | ⟨i, b1, b2, b3⟩
        · rw [a2]; exact .one (by omega)
        · obtain ⟨m, hm, hf, _⟩ := enT_spec hL j (by omega) i b1
          rw [b3, show (enT L j i + 1).toNat = m + 1 by omega]
          exact .snoc b1 (by omega) b2 hf
      · cases hm' with
        | one _ => omega
        | snoc c1 c2 c3 c4 =>
          rename_i i m
          have := a3 i c1 c3
          obtain ⟨m2, hm2, _, hmax⟩ := enT_spec hL j (by omega) i c1
          have := hmax m c4
          omega
    · exact enT_spec hL d (by omega) j (by omega)
end Go.Proofs.Ytmhgjfahgemblaa
