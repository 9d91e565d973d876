/- Longest ascending patterns, counted and told first: plain facts. -/
import Derived.Test.YtliabbhfagfagaaLongUp
import Derived.Test.YtliabbhfagfagaaFindMath
namespace Go.Proofs.Ytliabbhfagfagaa
open Go
set_option maxRecDepth 100000

/-- All ways to go on ascending with m more places behind the place p and the value v. -/
def upN (P : List Int) : Nat → Int → Int → List (List Int)
  | 0, _, _ => [[]]
  | m + 1, p, v => (seqI (p + 1) ((P.length : Int) - p).toNat).flatMap fun x => if v < P.getD (x - 1).toNat 0 then (upN P m x (P.getD (x - 1).toNat 0)).map (x :: ·) else []
def lastV (P h : List Int) : Int := if h = [] then 0 else P.getD (lastD h - 1).toNat 0
def IncV (P h : List Int) : Prop := ∀ k, k < h.length → P.getD (h.getD k 0 - 1).toNat 0 ≤ lastV P h
theorem lastV_snoc (P h : List Int) (x : Int) : lastV P (h ++ [x]) = P.getD (x - 1).toNat 0 := by
  rw [lastV, if_neg (by simp), lastD_snoc]
theorem lastV_self {P h : List Int} (hne : h ≠ []) : lastV P h = P.getD (h.getD (h.length - 1) 0 - 1).toNat 0 := by rw [lastV, if_neg hne]; rfl
theorem fits_up {P h : List Int} {K : Nat} {x : Int} (hi : IncV P h) (hK : h.length < K) (h0 : 0 < P.getD (x - 1).toNat 0) : fitsB P (idn K) h x = true ↔ lastV P h < P.getD (x - 1).toNat 0 := by
  rw [fitsB_iff]
  constructor
  · intro hall
    by_cases hne : h = []
    · rw [lastV, if_pos hne]; exact h0
    · have hp : 0 < h.length := List.length_pos_iff.2 hne
      have := hall (h.length - 1) (by omega)
      rw [fitsAt, idn_getD (by omega), idn_getD hK, ← lastV_self hne] at this
      have e : decide (((h.length - 1 : Nat) : Int) + 1 < ((h.length : Nat) : Int) + 1) = true := by simp; omega
      rw [e] at this
      simpa using this
  · intro hlt k hk
    have := hi k hk
    rw [fitsAt, idn_getD (by omega), idn_getD hK]
    have e : decide ((k : Int) + 1 < ((h.length : Nat) : Int) + 1) = true := by simp; omega
    rw [e, decide_eq_true (by omega)]; rfl
theorem IncV.snoc {P h : List Int} {x : Int} (hi : IncV P h) (hlt : lastV P h < P.getD (x - 1).toNat 0) : IncV P (h ++ [x]) := by
  intro k hk
  rw [lastV_snoc]
  by_cases e : k < h.length
  · have := hi k e
    have e1 : (h ++ [x]).getD k 0 = h.getD k 0 := by simp [List.getD_eq_getElem?_getD, List.getElem?_append_left e]
    rw [e1]; omega
  · have : k = h.length := by simp at hk; omega
    subst this
    simp [List.getD_eq_getElem?_getD]
theorem flatMap_congr' {α β : Type} {l : List α} {f g : α → List β} (h : ∀ x ∈ l, f x = g x) : l.flatMap f = l.flatMap g := by
  induction l with
  | nil => rfl
  | cons x r ih => rw [List.flatMap_cons, List.flatMap_cons, h x (by simp), ih (fun y hy => h y (by simp [hy]))]
theorem occ_up {P : List Int} {K : Nat} (hpos : ∀ x : Int, 1 ≤ x → x ≤ P.length → 0 < P.getD (x - 1).toNat 0) : ∀ (m : Nat) (h : List Int), h.length + m = K → IncV P h → Places P h → occN P (idn K) m h = (upN P m (lastD h) (lastV P h)).map (h ++ ·)
  | 0, h, _, _, _ => by simp [occN, upN]
  | m + 1, h, hl, hi, hpl => by
    have h0 := hpl.last
    rw [occN, upN, List.map_flatMap]
    apply flatMap_congr'
    intro x hx
    rw [mem_seqI] at hx
    have hxp := hpos x (by omega) (by omega)
    by_cases hc : lastV P h < P.getD (x - 1).toNat 0
    · rw [if_pos ((fits_up hi (by omega) hxp).2 hc), if_pos hc, occ_up hpos m (h ++ [x]) (by simp; omega) (hi.snoc hc) (hpl.snoc (by omega) (by omega)), lastD_snoc, lastV_snoc, List.map_map]
      apply List.map_congr_left
      intro r _
      simp
    · rw [if_neg (fun h => hc ((fits_up hi (by omega) hxp).1 h)), if_neg hc]; rfl
theorem occ_up_nil {P : List Int} {K : Nat} (hpos : ∀ x : Int, 1 ≤ x → x ≤ P.length → 0 < P.getD (x - 1).toNat 0) : occN P (idn K) K [] = upN P K 0 0 := by
  rw [occ_up hpos K [] (by simp) (fun k hk => by simp at hk) (Places.nil P)]
  simp [lastD_nil, lastV]

/-- Behind place p, split at its next. -/
theorem upN_split (P : List Int) (m : Nat) {p : Int} (v : Int) (h0 : 0 ≤ p) (hp : p < P.length) :
    upN P (m + 1) p v = (if v < P.getD p.toNat 0 then (upN P m (p + 1) (P.getD p.toNat 0)).map ((p + 1) :: ·) else []) ++ upN P (m + 1) (p + 1) v := by
  rw [upN, upN]
  have : ((P.length : Int) - p).toNat = ((P.length : Int) - (p + 1)).toNat + 1 := by omega
  rw [this]
  have e : seqI (p + 1) (((P.length : Int) - (p + 1)).toNat + 1) = (p + 1) :: seqI (p + 1 + 1) ((P.length : Int) - (p + 1)).toNat := by
    unfold seqI
    rw [List.range_succ_eq_map, List.map_cons, List.map_map]
    simp only [List.cons.injEq]
    refine ⟨by simp, ?_⟩
    apply List.map_congr_left
    intro i _
    simp only [Function.comp_apply]; omega
  rw [e, List.flatMap_cons, show p + 1 - 1 = p by omega]
theorem upN_end (P : List Int) (m : Nat) {p : Int} (v : Int) (hp : P.length ≤ p) : upN P (m + 1) p v = [] := by
  rw [upN, show ((P.length : Int) - p).toNat = 0 by omega]; rfl
/-- The number of chains of m more behind place i (counted from 0). -/
def cn (P : List Int) (i m : Nat) : Nat := (upN P m ((i : Int) + 1) (P.getD i 0)).length
/-- The sum of them over the next c places with a greater number. -/
def sumUp (P : List Int) (v : Int) (i m : Nat) : Nat → Nat
  | 0 => 0
  | c + 1 => sumUp P v i m c + if v < P.getD (i + c) 0 then cn P (i + c) m else 0
theorem sumUp_front (P : List Int) (v : Int) (i m : Nat) : ∀ c, sumUp P v i m (c + 1) = (if v < P.getD i 0 then cn P i m else 0) + sumUp P v (i + 1) m c
  | 0 => by simp [sumUp]
  | c + 1 => by
    rw [sumUp, sumUp_front P v i m c, sumUp]
    rw [show i + (c + 1) = i + 1 + c by omega]; omega
theorem upN_count (P : List Int) (m : Nat) (v : Int) : ∀ (c i : Nat), i + c = P.length → (upN P (m + 1) i v).length = sumUp P v i m c
  | 0, i, h => by rw [upN_end P m v (by omega)]; rfl
  | c + 1, i, h => by
    rw [upN_split P m v (by omega) (by omega), List.length_append, sumUp_front]
    have := upN_count P m v c (i + 1) (by omega)
    rw [show ((i + 1 : Nat) : Int) = (i : Int) + 1 by omega] at this
    rw [this, Int.toNat_natCast]
    congr 1
    split
    · rw [List.length_map, cn]
    · rfl
theorem cn_succ (P : List Int) (m : Nat) {i : Nat} (h : i < P.length) : cn P i (m + 1) = sumUp P (P.getD i 0) (i + 1) m (P.length - 1 - i) := by
  rw [cn, show ((i : Int) + 1) = ((i + 1 : Nat) : Int) by omega, upN_count P m _ (P.length - 1 - i) (i + 1) (by omega)]
theorem cn_zero (P : List Int) (i : Nat) : cn P i 0 = 1 := rfl
theorem sumUp_pos {P : List Int} {v : Int} {i m : Nat} : ∀ {c}, 0 < sumUp P v i m c ↔ ∃ k, i ≤ k ∧ k < i + c ∧ v < P.getD k 0 ∧ 0 < cn P k m
  | 0 => by
    simp only [sumUp]
    constructor
    · intro h; omega
    · rintro ⟨k, h1, h2, _⟩; omega
  | c + 1 => by
    rw [sumUp]
    constructor
    · intro h
      by_cases h1 : 0 < sumUp P v i m c
      · obtain ⟨k, a, b, d, e⟩ := sumUp_pos.1 h1
        exact ⟨k, a, by omega, d, e⟩
      · split at h
        · rename_i h2; exact ⟨i + c, by omega, by omega, h2, by omega⟩
        · omega
    · rintro ⟨k, a, b, d, e⟩
      by_cases hk : k = i + c
      · subst hk; rw [if_pos d]; omega
      · have := (sumUp_pos (c := c)).2 ⟨k, a, by omega, d, e⟩
        omega
theorem cn_Fr {P : List Int} : ∀ (m : Nat) {i : Nat}, i < P.length → (0 < cn P i m ↔ Fr P i (m + 1))
  | 0, i, hi => by rw [cn_zero]; exact ⟨fun _ => .one hi, fun _ => by omega⟩
  | m + 1, i, hi => by
    rw [cn_succ P m hi, sumUp_pos]
    constructor
    · rintro ⟨k, h1, h2, h3, h4⟩
      exact .cons (by omega) (by omega) h3 ((cn_Fr m (by omega)).1 h4)
    · intro h
      cases h with
      | cons h1 h2 h3 h4 =>
        rename_i k
        exact ⟨k, by omega, by omega, h3, (cn_Fr m h2).2 h4⟩
theorem cn_bound {P : List Int} : ∀ (m : Nat) {i : Nat}, i < P.length → cn P i m ≤ 2 ^ (P.length - 1 - i)
  | 0, i, hi => by rw [cn_zero]; exact Nat.one_le_two_pow
  | m + 1, i, hi => by
    rw [cn_succ P m hi]
    have : ∀ c, i + c < P.length → sumUp P (P.getD i 0) (i + 1) m c ≤ 2 ^ (P.length - 1 - i) - 2 ^ (P.length - 1 - i - c) := fun c => by
      induction c with
      | zero => intro _; simp [sumUp]
      | succ c ih =>
        intro hc
        have h1 := ih (by omega)
        have h2 := cn_bound (P := P) m (i := i + 1 + c) (by omega)
        rw [sumUp]
        have h3 : P.length - 1 - i - c = (P.length - 1 - (i + 1 + c)) + 1 := by omega
        have h4 : P.length - 1 - i - (c + 1) = P.length - 1 - (i + 1 + c) := by omega
        rw [h3, Nat.pow_succ] at h1
        rw [h4]
        have h5 : 2 ^ (P.length - 1 - (i + 1 + c)) * 2 ≤ 2 ^ (P.length - 1 - i) := by
          rw [← Nat.pow_succ]; exact Nat.pow_le_pow_right (by omega) (by omega)
        split <;> omega
    have h := this (P.length - 1 - i) (by omega)
    exact Nat.le_trans h (Nat.sub_le _ _)
end Go.Proofs.Ytliabbhfagfagaa
