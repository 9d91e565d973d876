/- The occurrences of 3241 and 35241, told from both texts. No program in sight. -/
import Derived.Test.YtmhgjfahgemblaaPlMath
namespace Go.Proofs.Ytmhgjfahgemblaa
open Go
set_option maxRecDepth 100000

@[reducible] def at1 (P : List Int) (x : Int) : Int := P.getD (x - 1).toNat 0
def Occ4 (P : List Int) (a b c d : Int) : Prop := 1 ≤ a ∧ a < b ∧ b < c ∧ c < d ∧ d ≤ P.length ∧ at1 P d < at1 P b ∧ at1 P b < at1 P a ∧ at1 P a < at1 P c
def Occ5 (P : List Int) (a e b c d : Int) : Prop := 1 ≤ a ∧ a < e ∧ e < b ∧ b < c ∧ c < d ∧ d ≤ P.length ∧ at1 P d < at1 P b ∧ at1 P b < at1 P a ∧ at1 P a < at1 P c ∧ at1 P c < at1 P e
theorem mem_plN_succ {n k : Nat} {l : List Int} : l ∈ plN n (k + 1) ↔ ∃ m x, m ∈ plN n k ∧ lastD m < x ∧ x ≤ n ∧ l = m ++ [x] := by
  rw [plN, List.mem_flatMap]
  constructor
  · rintro ⟨m, hm, h⟩
    rw [plExt, List.mem_map] at h
    obtain ⟨x, hx, rfl⟩ := h
    rw [mem_seqI] at hx
    have hl := lastD_bd (plN_facts n k m hm).2
    exact ⟨m, x, hm, by omega, by omega, rfl⟩
  · rintro ⟨m, x, hm, h1, h2, rfl⟩
    have hl := lastD_bd (plN_facts n k m hm).2
    exact ⟨m, hm, List.mem_map.2 ⟨x, mem_seqI.2 ⟨by omega, by omega⟩, rfl⟩⟩
theorem mem_plN4 {n : Nat} {l : List Int} : l ∈ plN n 4 ↔ ∃ a b c d, l = [a, b, c, d] ∧ 1 ≤ a ∧ a < b ∧ b < c ∧ c < d ∧ d ≤ (n : Int) := by
  constructor
  · intro h
    obtain ⟨m3, d, h3, e1, e2, rfl⟩ := mem_plN_succ.1 h
    obtain ⟨m2, c, h2, f1, f2, rfl⟩ := mem_plN_succ.1 h3
    obtain ⟨m1, b, h1, g1, g2, rfl⟩ := mem_plN_succ.1 h2
    obtain ⟨m0, a, h0, k1, k2, rfl⟩ := mem_plN_succ.1 h1
    simp [plN] at h0; subst h0
    simp only [lastD_snoc, lastD_nil] at *
    exact ⟨a, b, c, d, rfl, by omega, by omega, by omega, by omega, by omega⟩
  · rintro ⟨a, b, c, d, rfl, h1, h2, h3, h4, h5⟩
    refine mem_plN_succ.2 ⟨[a, b, c], d, mem_plN_succ.2 ⟨[a, b], c, mem_plN_succ.2 ⟨[a], b, mem_plN_succ.2 ⟨[], a, by simp [plN], by rw [lastD_nil]; omega, by omega, rfl⟩, ?_, by omega, rfl⟩, ?_, by omega, rfl⟩, ?_, by omega, rfl⟩
    · exact h2
    · exact h3
    · exact h4
theorem mem_plN5 {n : Nat} {l : List Int} : l ∈ plN n 5 ↔ ∃ a e b c d, l = [a, e, b, c, d] ∧ 1 ≤ a ∧ a < e ∧ e < b ∧ b < c ∧ c < d ∧ d ≤ (n : Int) := by
  constructor
  · intro h
    obtain ⟨m4, d, h4, e1, e2, rfl⟩ := mem_plN_succ.1 h
    obtain ⟨a, e, b, c, rfl, h1, h2, h3, h5, h6⟩ := mem_plN4.1 h4
    have : lastD [a, e, b, c] = c := rfl
    exact ⟨a, e, b, c, d, rfl, h1, h2, h3, h5, by omega, by omega⟩
  · rintro ⟨a, e, b, c, d, rfl, h1, h2, h3, h4, h5, h6⟩
    exact mem_plN_succ.2 ⟨[a, e, b, c], d, mem_plN4.2 ⟨a, e, b, c, rfl, h1, h2, h3, h4, by omega⟩, h5, by omega, rfl⟩
theorem pat3241 : patV [3, 2, 4, 1] = [3, 2, 4, 1] := by decide +kernel
theorem pat35241 : patV [3, 5, 2, 4, 1] = [3, 5, 2, 4, 1] := by decide +kernel
theorem mem_occ4 {P l : List Int} : l ∈ occV P [3, 2, 4, 1] ↔ ∃ a b c d, l = [a, b, c, d] ∧ Occ4 P a b c d := by
  unfold occV
  rw [List.mem_filter, show ([3, 2, 4, 1] : List Int).length = 4 from rfl, mem_plN4, decide_eq_true_iff]
  constructor
  · rintro ⟨⟨a, b, c, d, rfl, h1, h2, h3, h4, h5⟩, hp⟩
    have h := (patV_iso (L := atV P [a, b, c, d]) (Q := [3, 2, 4, 1]) rfl pat3241).1 hp
    have h31 := (h 3 1 (by decide) (by decide)).2 (by decide)
    have h10 := (h 1 0 (by decide) (by decide)).2 (by decide)
    have h02 := (h 0 2 (by decide) (by decide)).2 (by decide)
    exact ⟨a, b, c, d, rfl, h1, h2, h3, h4, h5, h31, h10, h02⟩
  · rintro ⟨a, b, c, d, rfl, h1, h2, h3, h4, h5, h6, h7, h8⟩
    refine ⟨⟨a, b, c, d, rfl, h1, h2, h3, h4, h5⟩, (patV_iso (L := atV P [a, b, c, d]) (Q := [3, 2, 4, 1]) rfl pat3241).2 ?_⟩
    have e0 : (atV P [a, b, c, d]).getD 0 0 = at1 P a := rfl
    have e1 : (atV P [a, b, c, d]).getD 1 0 = at1 P b := rfl
    have e2 : (atV P [a, b, c, d]).getD 2 0 = at1 P c := rfl
    have e3 : (atV P [a, b, c, d]).getD 3 0 = at1 P d := rfl
    have q0 : ([3, 2, 4, 1] : List Int).getD 0 0 = 3 := rfl
    have q1 : ([3, 2, 4, 1] : List Int).getD 1 0 = 2 := rfl
    have q2 : ([3, 2, 4, 1] : List Int).getD 2 0 = 4 := rfl
    have q3 : ([3, 2, 4, 1] : List Int).getD 3 0 = 1 := rfl
    intro i j hi hj
    have hi4 : i = 0 ∨ i = 1 ∨ i = 2 ∨ i = 3 := by simp at hi; omega
    have hj4 : j = 0 ∨ j = 1 ∨ j = 2 ∨ j = 3 := by simp at hj; omega
    rcases hi4 with rfl | rfl | rfl | rfl <;> rcases hj4 with rfl | rfl | rfl | rfl <;> simp only [e0, e1, e2, e3, q0, q1, q2, q3] <;> omega
theorem mem_occ5 {P l : List Int} : l ∈ occV P [3, 5, 2, 4, 1] ↔ ∃ a e b c d, l = [a, e, b, c, d] ∧ Occ5 P a e b c d := by
  unfold occV
  rw [List.mem_filter, show ([3, 5, 2, 4, 1] : List Int).length = 5 from rfl, mem_plN5, decide_eq_true_iff]
  constructor
  · rintro ⟨⟨a, e, b, c, d, rfl, h1, h2, h3, h4, h5, h6⟩, hp⟩
    have h := (patV_iso (L := atV P [a, e, b, c, d]) (Q := [3, 5, 2, 4, 1]) rfl pat35241).1 hp
    have h42 := (h 4 2 (by decide) (by decide)).2 (by decide)
    have h20 := (h 2 0 (by decide) (by decide)).2 (by decide)
    have h03 := (h 0 3 (by decide) (by decide)).2 (by decide)
    have h31 := (h 3 1 (by decide) (by decide)).2 (by decide)
    exact ⟨a, e, b, c, d, rfl, h1, h2, h3, h4, h5, h6, h42, h20, h03, h31⟩
  · rintro ⟨a, e, b, c, d, rfl, h1, h2, h3, h4, h5, h6, h7, h8, h9, h10⟩
    refine ⟨⟨a, e, b, c, d, rfl, h1, h2, h3, h4, h5, h6⟩, (patV_iso (L := atV P [a, e, b, c, d]) (Q := [3, 5, 2, 4, 1]) rfl pat35241).2 ?_⟩
    have e0 : (atV P [a, e, b, c, d]).getD 0 0 = at1 P a := rfl
    have e1 : (atV P [a, e, b, c, d]).getD 1 0 = at1 P e := rfl
    have e2 : (atV P [a, e, b, c, d]).getD 2 0 = at1 P b := rfl
    have e3 : (atV P [a, e, b, c, d]).getD 3 0 = at1 P c := rfl
    have e4 : (atV P [a, e, b, c, d]).getD 4 0 = at1 P d := rfl
    have q0 : ([3, 5, 2, 4, 1] : List Int).getD 0 0 = 3 := rfl
    have q1 : ([3, 5, 2, 4, 1] : List Int).getD 1 0 = 5 := rfl
    have q2 : ([3, 5, 2, 4, 1] : List Int).getD 2 0 = 2 := rfl
    have q3 : ([3, 5, 2, 4, 1] : List Int).getD 3 0 = 4 := rfl
    have q4 : ([3, 5, 2, 4, 1] : List Int).getD 4 0 = 1 := rfl
    intro i j hi hj
    have hi4 : i = 0 ∨ i = 1 ∨ i = 2 ∨ i = 3 ∨ i = 4 := by simp at hi; omega
    have hj4 : j = 0 ∨ j = 1 ∨ j = 2 ∨ j = 3 ∨ j = 4 := by simp at hj; omega
    rcases hi4 with rfl | rfl | rfl | rfl | rfl <;> rcases hj4 with rfl | rfl | rfl | rfl | rfl <;> simp only [e0, e1, e2, e3, e4, q0, q1, q2, q3, q4] <;> omega
theorem mem_occN_succ {P Q : List Int} {m : Nat} {h l : List Int} (hh : ∀ x ∈ h, 1 ≤ x ∧ x ≤ (P.length : Int)) : l ∈ occN P Q (m + 1) h ↔ ∃ x, lastD h < x ∧ x ≤ P.length ∧ fitsB P Q h x = true ∧ l ∈ occN P Q m (h ++ [x]) := by
  have hl := lastD_bd hh
  rw [occN, List.mem_flatMap]
  constructor
  · rintro ⟨x, hx, h1⟩
    rw [mem_seqI] at hx
    split at h1
    · rename_i hf; exact ⟨x, by omega, by omega, hf, h1⟩
    · cases h1
  · rintro ⟨x, h1, h2, h3, h4⟩
    exact ⟨x, mem_seqI.2 ⟨by omega, by omega⟩, by rw [if_pos h3]; exact h4⟩
/-- The model text finds the same. -/
theorem mem_find4 {P l : List Int} (hn : ∀ x y : Int, 1 ≤ x → x < y → y ≤ P.length → at1 P x ≠ at1 P y) : l ∈ occN P [3, 2, 4, 1] 4 [] ↔ ∃ a b c d, l = [a, b, c, d] ∧ Occ4 P a b c d := by
  have fits1 : ∀ a b : Int, fitsB P [3, 2, 4, 1] [a] b = true ↔ ¬ at1 P a < at1 P b := fun a b => by
    have : fitsB P [3, 2, 4, 1] [a] b = (decide (at1 P a < at1 P b) == decide ((3 : Int) < 2)) := by
      simp [fitsB, fitsAt, List.range_succ]
    rw [this]; simp
  have fits2 : ∀ a b c : Int, fitsB P [3, 2, 4, 1] [a, b] c = true ↔ at1 P a < at1 P c ∧ at1 P b < at1 P c := fun a b c => by
    have : fitsB P [3, 2, 4, 1] [a, b] c = ((decide (at1 P a < at1 P c) == decide ((3 : Int) < 4)) && (decide (at1 P b < at1 P c) == decide ((2 : Int) < 4))) := by
      simp [fitsB, fitsAt, List.range_succ]
    rw [this]; simp
  have fits3 : ∀ a b c d : Int, fitsB P [3, 2, 4, 1] [a, b, c] d = true ↔ ¬ at1 P a < at1 P d ∧ ¬ at1 P b < at1 P d ∧ ¬ at1 P c < at1 P d := fun a b c d => by
    have : fitsB P [3, 2, 4, 1] [a, b, c] d = ((decide (at1 P a < at1 P d) == decide ((3 : Int) < 1)) && ((decide (at1 P b < at1 P d) == decide ((2 : Int) < 1)) && (decide (at1 P c < at1 P d) == decide ((4 : Int) < 1)))) := by
      simp [fitsB, fitsAt, List.range_succ]
    rw [this]; simp [and_assoc]
  have bd : ∀ {h : List Int} {x : Int}, (∀ y ∈ h, 1 ≤ y ∧ y ≤ (P.length : Int)) → lastD h < x → x ≤ P.length → ∀ y ∈ h ++ [x], 1 ≤ y ∧ y ≤ (P.length : Int) := fun {h x} hh h1 h2 y hy => by
    have hl := lastD_bd hh
    rcases List.mem_append.1 hy with hy | hy
    · exact hh y hy
    · simp at hy; subst hy; omega
  have b0 : ∀ y ∈ ([] : List Int), 1 ≤ y ∧ y ≤ (P.length : Int) := fun y hy => by cases hy
  constructor
  · intro h
    obtain ⟨a, a1, a2, _, h⟩ := (mem_occN_succ b0).1 h
    have ba := bd b0 a1 a2
    obtain ⟨b, b1, b2, f1, h⟩ := (mem_occN_succ ba).1 h
    have bb := bd ba b1 b2
    obtain ⟨c, c1, c2, f2, h⟩ := (mem_occN_succ bb).1 h
    have bc := bd bb c1 c2
    obtain ⟨d, d1, d2, f3, h⟩ := (mem_occN_succ bc).1 h
    simp only [List.nil_append, List.cons_append, List.singleton_append] at f1 f2 f3 h
    simp only [lastD_nil, lastD_snoc] at a1 b1 c1 d1
    rw [fits1] at f1
    rw [fits2] at f2
    rw [fits3] at f3
    have h : l = [a, b, c, d] := by simpa [occN] using h
    have n1 := hn a b (by omega) (by omega) (by omega)
    have n2 := hn b d (by omega) (by omega) (by omega)
    exact ⟨a, b, c, d, h, by omega, by omega, by omega, by omega, by omega, by omega, by omega, by omega⟩
  · rintro ⟨a, b, c, d, rfl, h1, h2, h3, h4, h5, h6, h7, h8⟩
    have ba := bd (h := []) (x := a) b0 (by rw [lastD_nil]; omega) (by omega)
    have bb := bd (h := [a]) (x := b) ba h2 (by omega)
    have bc := bd (h := [a, b]) (x := c) bb h3 (by omega)
    refine (mem_occN_succ b0).2 ⟨a, by rw [lastD_nil]; omega, by omega, by simp [fitsB], ?_⟩
    refine (mem_occN_succ ba).2 ⟨b, h2, by omega, (fits1 a b).2 (by omega), ?_⟩
    refine (mem_occN_succ bb).2 ⟨c, h3, by omega, (fits2 a b c).2 (by omega), ?_⟩
    refine (mem_occN_succ bc).2 ⟨d, h4, by omega, (fits3 a b c d).2 (by omega), ?_⟩
    simp [occN]
end Go.Proofs.Ytmhgjfahgemblaa
