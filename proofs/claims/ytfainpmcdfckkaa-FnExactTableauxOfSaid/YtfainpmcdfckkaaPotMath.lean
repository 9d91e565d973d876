/- The way back out of a tableau. No program in sight. -/
import Derived.Test.YtfainpmcdfckkaaInsMath
import Derived.Test.YtfainpmcdfckkaaFlat
namespace Go.Proofs.Ytfainpmcdfckkaa
open Go
set_option maxRecDepth 100000

/-- The last place, from c down, whose number is not greater. -/
def dn (R : List Int) (n : Int) : Nat → Nat
  | 0 => 0
  | c + 1 => if R.getD (c + 1) 0 > n then dn R n c else c + 1
theorem dn_le (R : List Int) (n : Int) : ∀ c, dn R n c ≤ c
  | 0 => Nat.le_refl _
  | c + 1 => by have := dn_le R n c; rw [dn]; split <;> omega
theorem dn_gt (R : List Int) (n : Int) : ∀ c j, dn R n c < j → j ≤ c → n < R.getD j 0
  | 0, j, h1, h2 => by omega
  | c + 1, j, h1, h2 => by
    rw [dn] at h1
    split at h1
    · by_cases e : j = c + 1
      · subst e; assumption
      · exact dn_gt R n c j h1 (by omega)
    · omega
theorem dn_at {R : List Int} {n : Int} : ∀ {c j : Nat}, j ≤ c → R.getD j 0 ≤ n → R.getD (dn R n c) 0 ≤ n ∧ j ≤ dn R n c
  | 0, j, h1, h2 => by have : j = 0 := by omega
                       subst this; exact ⟨h2, Nat.le_refl _⟩
  | c + 1, j, h1, h2 => by
    rw [dn]
    split
    · rename_i h3
      have : j ≠ c + 1 := by intro e; subst e; omega
      exact dn_at (by omega) h2
    · exact ⟨by omega, by omega⟩
def bumpUp (T : List (List Int)) (n : Int) : Nat → List (List Int) × Int
  | 0 => (T, n)
  | q + 1 => bumpUp (T.set q ((T.getD q []).set (dn (T.getD q []) n ((T.getD q []).length - 1)) n)) ((T.getD q []).getD (dn (T.getD q []) n ((T.getD q []).length - 1)) 0) q
def takeAt (T : List (List Int)) (r : Nat) : List (List Int) × Int := bumpUp (T.set r ((T.getD r []).take ((T.getD r []).length - 1))) ((T.getD r []).getD ((T.getD r []).length - 1) 0) r

/-- Rows and columns ascend; rows may be empty. -/
structure WTab (T : List (List Int)) : Prop where
  inc : ∀ r, r < T.length → Inc (T.getD r [])
  under : ∀ r, r + 1 < T.length → Under (T.getD r []) (T.getD (r + 1) [])
theorem getD_setR (T : List (List Int)) (i j : Nat) (R : List Int) : (T.set i R).getD j [] = if i = j ∧ i < T.length then R else T.getD j [] := by
  simp only [List.getD_eq_getElem?_getD, List.getElem?_set]
  by_cases h : i = j
  · subst h
    by_cases h2 : i < T.length
    · simp [h2]
    · simp [h2]
  · simp [h]
/-- On the way up: row r has been left, n is in hand. -/
structure BQ (T : List (List Int)) (n : Int) (r : Nat) : Prop where
  tab : WTab T
  nd : (n :: T.flatten).Nodup
  link : 0 < r → r < T.length ∧ ∃ c, c < (T.getD (r - 1) []).length ∧ (T.getD (r - 1) []).getD c 0 < n ∧ ∀ j, c ≤ j → j < (T.getD r []).length → n < (T.getD r []).getD j 0
theorem BQ.not_mem {T : List (List Int)} {n : Int} {r : Nat} (h : BQ T n r) {q : Nat} (hq : q < T.length) : n ∉ T.getD q [] := fun hm =>
  (List.nodup_cons.1 h.nd).1 (List.mem_flatten.2 ⟨T.getD q [], by rw [List.getD_eq_getElem?_getD, List.getElem?_eq_getElem hq]; exact List.getElem_mem hq, hm⟩)
theorem BQ.at_ {T : List (List Int)} {n : Int} {q : Nat} (h : BQ T n (q + 1)) : q < T.length ∧ 0 < (T.getD q []).length ∧ dn (T.getD q []) n ((T.getD q []).length - 1) < (T.getD q []).length ∧ (T.getD q []).getD (dn (T.getD q []) n ((T.getD q []).length - 1)) 0 < n := by
  obtain ⟨h1, c, h2, h3, _⟩ := h.link (by omega)
  rw [Nat.add_sub_cancel] at h2 h3
  have hd := dn_le (T.getD q []) n ((T.getD q []).length - 1)
  have ha := dn_at (R := T.getD q []) (n := n) (c := (T.getD q []).length - 1) (j := c) (by omega) (by omega)
  have hl : dn (T.getD q []) n ((T.getD q []).length - 1) < (T.getD q []).length := by omega
  refine ⟨by omega, by omega, hl, ?_⟩
  rcases Int.lt_or_eq_of_le ha.1 with h4 | h4
  · exact h4
  · exfalso
    refine h.not_mem (q := q) (by omega) ?_
    rw [← h4, getD_lt hl]; exact List.getElem_mem hl
theorem BQ.step {T : List (List Int)} {n : Int} {q : Nat} (h : BQ T n (q + 1)) : BQ (T.set q ((T.getD q []).set (dn (T.getD q []) n ((T.getD q []).length - 1)) n)) ((T.getD q []).getD (dn (T.getD q []) n ((T.getD q []).length - 1)) 0) q := by
  obtain ⟨hq, hpos, hcl, hlt⟩ := h.at_
  obtain ⟨hq1, c', hc1, hc2, hc3⟩ := h.link (by omega)
  rw [Nat.add_sub_cancel] at hc1 hc2
  have hge := (dn_at (R := T.getD q []) (n := n) (c := (T.getD q []).length - 1) (j := c') (by omega) (by omega)).2
  have hgt := dn_gt (T.getD q []) n ((T.getD q []).length - 1)
  generalize dn (T.getD q []) n ((T.getD q []).length - 1) = c at *
  have hI := h.tab.inc q hq
  refine ⟨⟨fun r hr => ?_, fun r hr => ?_⟩, ?_, fun h0 => ⟨by rw [List.length_set]; omega, c, ?_, ?_, fun j hj hjl => ?_⟩⟩
  · rw [List.length_set] at hr
    rw [getD_setR]
    split
    · rename_i e
      obtain ⟨rfl, _⟩ := e
      refine Inc.of_getD fun i j hij hj => ?_
      rw [List.length_set] at hj
      rw [getD_set', getD_set']
      have h5 := hI.getD hij hj
      by_cases e1 : c = i
      · rw [if_pos ⟨e1, hcl⟩, if_neg (by omega)]
        exact hgt j (by omega) (by omega)
      · rw [if_neg (by omega)]
        split
        · rename_i e2; have e3 := e2.1; subst e3; omega
        · exact h5
    · exact h.tab.inc r hr
  · rw [List.length_set] at hr
    have hu := h.tab.under r hr
    rw [getD_setR, getD_setR]
    by_cases e1 : q = r
    · subst e1
      rw [if_pos ⟨rfl, hq⟩, if_neg (by omega)]
      refine ⟨by rw [List.length_set]; exact hu.1, fun j hj => ?_⟩
      rw [getD_set']
      split
      · rename_i e2; have e3 := e2.1; subst e3; exact hc3 c hge hj
      · exact hu.2 j hj
    · rw [if_neg (by omega)]
      by_cases e2 : q = r + 1
      · subst e2
        rw [if_pos ⟨rfl, hq⟩]
        refine ⟨by rw [List.length_set]; exact hu.1, fun j hj => ?_⟩
        rw [List.length_set] at hj
        have h5 := hu.2 j hj
        rw [getD_set']
        split
        · rename_i e3; have e4 := e3.1; subst e4; omega
        · exact h5
      · rw [if_neg (by omega)]; exact hu
  · exact (flat_set hq hcl).nodup_iff.2 h.nd
  · rw [getD_setR, if_neg (by omega)]
    have := (h.tab.under (q - 1) (by omega)).1
    rw [show q - 1 + 1 = q by omega] at this
    omega
  · rw [getD_setR, if_neg (by omega)]
    have := (h.tab.under (q - 1) (by omega)).2 c (by rw [show q - 1 + 1 = q by omega]; exact hcl)
    rw [show q - 1 + 1 = q by omega] at this
    exact this
  · rw [getD_setR, if_pos ⟨rfl, hq⟩] at hjl ⊢
    rw [List.length_set] at hjl
    rw [getD_set']
    split
    · exact hlt
    · rename_i e; exact hI.getD (by omega) hjl
theorem bumpUp_inv : ∀ (r : Nat) {T : List (List Int)} {n : Int}, BQ T n r → BQ (bumpUp T n r).1 (bumpUp T n r).2 0 ∧ (bumpUp T n r).1.length = T.length ∧ (∀ i, ((bumpUp T n r).1.getD i []).length = (T.getD i []).length) ∧ ((bumpUp T n r).2 :: (bumpUp T n r).1.flatten).Perm (n :: T.flatten)
  | 0, T, n, h => ⟨h, rfl, fun _ => rfl, List.Perm.refl _⟩
  | q + 1, T, n, h => by
    obtain ⟨hq, _, hcl, _⟩ := h.at_
    obtain ⟨h1, h2, h3, h4⟩ := bumpUp_inv q h.step
    rw [bumpUp]
    refine ⟨h1, by rw [h2, List.length_set], fun i => ?_, h4.trans (flat_set hq hcl)⟩
    rw [h3, getD_setR]
    split
    · rename_i e; rw [List.length_set, e.1]
    · rfl
theorem flat_pop {T : List (List Int)} {r : Nat} (hr : r < T.length) (h0 : 0 < (T.getD r []).length) : ((T.getD r []).getD ((T.getD r []).length - 1) 0 :: (T.set r ((T.getD r []).take ((T.getD r []).length - 1))).flatten).Perm T.flatten := by
  have h1 : T = T.take r ++ T.getD r [] :: T.drop (r + 1) := by rw [List.getD_eq_getElem?_getD, List.getElem?_eq_getElem hr]; simp
  have h2 : T.set r ((T.getD r []).take ((T.getD r []).length - 1)) = T.take r ++ (T.getD r []).take ((T.getD r []).length - 1) :: T.drop (r + 1) := by rw [List.set_eq_take_append_cons_drop, if_pos hr]
  rw [h2]
  conv => rhs; rw [h1]
  generalize T.getD r [] = R at *
  have h3 : R = R.take (R.length - 1) ++ [R.getD (R.length - 1) 0] := by
    rw [getD_lt (by omega)]
    conv => lhs; rw [← List.take_length (l := R), show R.length = R.length - 1 + 1 by omega]
    simp
  conv => rhs; rw [h3]
  generalize R.getD (R.length - 1) 0 = m
  generalize R.take (R.length - 1) = A
  generalize T.take r = U
  generalize T.drop (r + 1) = V
  simp only [List.flatten_append, List.flatten_cons, List.append_assoc]
  rw [← List.append_assoc U.flatten A, ← List.append_assoc U.flatten A]
  exact List.perm_middle.symm
theorem take_BQ {T : List (List Int)} {r : Nat} (h : WTab T) (hn : T.flatten.Nodup) (hr : r < T.length) (h0 : 0 < (T.getD r []).length) (hc : r + 1 < T.length → (T.getD (r + 1) []).length < (T.getD r []).length) :
    BQ (T.set r ((T.getD r []).take ((T.getD r []).length - 1))) ((T.getD r []).getD ((T.getD r []).length - 1) 0) r := by
  have gt : ∀ j, j < (T.getD r []).length - 1 → ((T.getD r []).take ((T.getD r []).length - 1)).getD j 0 = (T.getD r []).getD j 0 := fun j hj => by
    rw [List.getD_eq_getElem?_getD, List.getElem?_take, if_pos hj, ← List.getD_eq_getElem?_getD]
  refine ⟨⟨fun i hi => ?_, fun i hi => ?_⟩, (flat_pop hr h0).nodup_iff.2 hn, fun hr0 => ⟨by rw [List.length_set]; exact hr, (T.getD r []).length - 1, ?_, ?_, fun j hj hjl => ?_⟩⟩
  · rw [List.length_set] at hi
    rw [getD_setR]
    split
    · rename_i e; exact (h.inc r hr).sublist (List.take_sublist _ _)
    · exact h.inc i hi
  · rw [List.length_set] at hi
    have hu := h.under i hi
    rw [getD_setR, getD_setR]
    by_cases e1 : r = i
    · subst e1
      rw [if_pos ⟨rfl, hr⟩, if_neg (by omega)]
      have := hc hi
      refine ⟨by rw [List.length_take]; omega, fun j hj => ?_⟩
      rw [gt j (by omega)]; exact hu.2 j hj
    · rw [if_neg (by omega)]
      by_cases e2 : r = i + 1
      · subst e2
        rw [if_pos ⟨rfl, hr⟩]
        refine ⟨by rw [List.length_take]; have := hu.1; omega, fun j hj => ?_⟩
        rw [List.length_take] at hj
        rw [gt j (by omega)]; exact hu.2 j (by omega)
      · rw [if_neg (by omega)]; exact hu
  · rw [getD_setR, if_neg (by omega)]
    have := (h.under (r - 1) (by omega)).1
    rw [show r - 1 + 1 = r by omega] at this
    omega
  · rw [getD_setR, if_neg (by omega)]
    have := (h.under (r - 1) (by omega)).2 ((T.getD r []).length - 1) (by rw [show r - 1 + 1 = r by omega]; omega)
    rw [show r - 1 + 1 = r by omega] at this
    exact this
  · rw [getD_setR, if_pos ⟨rfl, hr⟩, List.length_take] at hjl
    omega

/-! ### The tableau that keeps the order -/
def rowOf (b : List (List Int)) (k : Int) : Nat := if b.findIdx (fun R => R.contains k) < b.length then b.findIdx (fun R => R.contains k) else 0
def popT (b : List (List Int)) : Nat → List (List Int) → List Int
  | 0, _ => []
  | k + 1, T => popT b k (takeAt T (rowOf b ((k : Int) + 1))).1 ++ [(takeAt T (rowOf b ((k : Int) + 1))).2]
theorem popT_length (b : List (List Int)) : ∀ k T, (popT b k T).length = k
  | 0, _ => rfl
  | k + 1, T => by rw [popT, List.length_append, popT_length b k]; rfl
/-- Numbers 1..k are left. -/
structure PotS (b : List (List Int)) (k : Nat) (T C : List (List Int)) : Prop where
  wt : WTab T
  nt : T.flatten.Nodup
  wc : WTab C
  pc : C.flatten.Perm (idn k)
  lt : T.length = b.length
  lc : C.length = b.length
  same : ∀ r, (T.getD r []).length = (C.getD r []).length
  pre : ∀ r, C.getD r [] <+: b.getD r []
theorem getD_mem_flat {T : List (List Int)} {r : Nat} {x : Int} (h : x ∈ T.getD r []) : r < T.length ∧ x ∈ T.flatten := by
  by_cases hr : r < T.length
  · exact ⟨hr, List.mem_flatten.2 ⟨T.getD r [], by rw [List.getD_eq_getElem?_getD, List.getElem?_eq_getElem hr]; exact List.getElem_mem hr, h⟩⟩
  · rw [List.getD_eq_getElem?_getD, List.getElem?_eq_none (by omega)] at h; simp at h
theorem mem_flat_getD {T : List (List Int)} {x : Int} (h : x ∈ T.flatten) : ∃ r, r < T.length ∧ x ∈ T.getD r [] := by
  obtain ⟨R, hR, hx⟩ := List.mem_flatten.1 h
  obtain ⟨r, hr, rfl⟩ := List.getElem_of_mem hR
  exact ⟨r, hr, by rw [List.getD_eq_getElem?_getD, List.getElem?_eq_getElem hr]; exact hx⟩
theorem nodup_rows {T : List (List Int)} (hn : T.flatten.Nodup) {r s : Nat} {x : Int} (h1 : x ∈ T.getD r []) (h2 : x ∈ T.getD s []) : r = s := by
  have hr := (getD_mem_flat h1).1
  have hs := (getD_mem_flat h2).1
  rw [List.getD_eq_getElem?_getD, List.getElem?_eq_getElem hr] at h1
  rw [List.getD_eq_getElem?_getD, List.getElem?_eq_getElem hs] at h2
  rw [List.nodup_iff_pairwise_ne, List.pairwise_flatten] at hn
  have hp := List.pairwise_iff_getElem.1 hn.2
  rcases Nat.lt_trichotomy r s with h | h | h
  · exact absurd rfl (hp r s hr hs h x h1 x h2)
  · exact h
  · exact absurd rfl (hp s r hs hr h x h2 x h1)
theorem rowOf_eq {b : List (List Int)} (hn : b.flatten.Nodup) {r : Nat} {k : Int} (h : k ∈ b.getD r []) : rowOf b k = r := by
  have hr := (getD_mem_flat h).1
  have hf : b.findIdx (fun R => R.contains k) < b.length := by
    rw [List.findIdx_lt_length]
    exact ⟨b.getD r [], by rw [List.getD_eq_getElem?_getD, List.getElem?_eq_getElem hr]; exact List.getElem_mem hr, by simpa using h⟩
  rw [rowOf, if_pos hf]
  have h1 := List.findIdx_getElem (w := hf)
  refine nodup_rows hn (x := k) ?_ h
  rw [List.getD_eq_getElem?_getD, List.getElem?_eq_getElem hf]
  simpa using h1
/-- What the next number meets. -/
structure PotN (b : List (List Int)) (k : Nat) (T C : List (List Int)) (r : Nat) : Prop where
  row : rowOf b ((k : Int) + 1) = r
  lt : r < b.length
  posC : 0 < (C.getD r []).length
  last : (C.getD r []).getD ((C.getD r []).length - 1) 0 = (k : Int) + 1
  only : ∀ s, s < C.length → 0 < (C.getD s []).length → (C.getD s []).getD ((C.getD s []).length - 1) 0 = (k : Int) + 1 → s = r
  bq : BQ (T.set r ((T.getD r []).take ((T.getD r []).length - 1))) ((T.getD r []).getD ((T.getD r []).length - 1) 0) r
  next : PotS b k (takeAt T r).1 (C.set r ((C.getD r []).take ((C.getD r []).length - 1)))
theorem PotS.step {b : List (List Int)} {k : Nat} {T C : List (List Int)} (hb : b.flatten.Nodup) (h : PotS b (k + 1) T C) : ∃ r, PotN b k T C r := by
  have hmem : ((k : Int) + 1) ∈ C.flatten := h.pc.mem_iff.2 (mem_idn.2 ⟨by omega, by omega⟩)
  have hle : ∀ x ∈ C.flatten, x ≤ (k : Int) + 1 := fun x hx => by have := mem_idn.1 (h.pc.mem_iff.1 hx); omega
  have hnc : C.flatten.Nodup := h.pc.nodup_iff.2 (idn_nodup _)
  obtain ⟨r, hr, hx⟩ := mem_flat_getD hmem
  have hpos : 0 < (C.getD r []).length := List.length_pos_of_mem hx
  have hlast : (C.getD r []).getD ((C.getD r []).length - 1) 0 = (k : Int) + 1 := by
    obtain ⟨i, hi, hxi⟩ := List.getElem_of_mem hx
    have hl := hle ((C.getD r []).getD ((C.getD r []).length - 1) 0) (getD_mem_flat (r := r) (by rw [getD_lt (by omega)]; exact List.getElem_mem _)).2
    by_cases e : i = (C.getD r []).length - 1
    · subst e; rw [getD_lt (by omega)]; exact hxi
    · have := (h.wc.inc r hr).getD (i := i) (j := (C.getD r []).length - 1) (by omega) (by omega)
      rw [getD_lt hi, hxi] at this
      omega
  have hcorner : r + 1 < C.length → (C.getD (r + 1) []).length < (C.getD r []).length := fun hr1 => by
    have hu := h.wc.under r hr1
    rcases Nat.lt_or_ge (C.getD (r + 1) []).length (C.getD r []).length with h1 | h1
    · exact h1
    · exfalso
      have h2 := hu.2 ((C.getD r []).length - 1) (by omega)
      have h3 := hle ((C.getD (r + 1) []).getD ((C.getD r []).length - 1) 0) (getD_mem_flat (r := r + 1) (by rw [getD_lt (by omega)]; exact List.getElem_mem _)).2
      omega
  have hsame := h.same
  have hrb : r < b.length := by have := h.lc; omega
  have hbq : BQ (T.set r ((T.getD r []).take ((T.getD r []).length - 1))) ((T.getD r []).getD ((T.getD r []).length - 1) 0) r :=
    take_BQ h.wt h.nt (by have := h.lt; omega) (by rw [hsame]; exact hpos) (fun h1 => by rw [hsame, hsame]; exact hcorner (by have := h.lt; have := h.lc; omega))
  have hbc : BQ (C.set r ((C.getD r []).take ((C.getD r []).length - 1))) ((C.getD r []).getD ((C.getD r []).length - 1) 0) r := take_BQ h.wc hnc hr hpos hcorner
  obtain ⟨h1, h2, h3, h4⟩ := bumpUp_inv r hbq
  refine ⟨r, rowOf_eq hb ((h.pre r).subset hx), hrb, hpos, hlast, fun s hs h5 h6 => ?_, hbq, ?_⟩
  · refine nodup_rows hnc (x := (k : Int) + 1) ?_ hx
    rw [← h6, getD_lt (by omega)]; exact List.getElem_mem _
  · refine ⟨h1.tab, (List.nodup_cons.1 h1.nd).2, hbc.tab, ?_, ?_, by rw [List.length_set]; exact h.lc, fun s => ?_, fun s => ?_⟩
    · have h5 := flat_pop hr hpos
      rw [hlast] at h5
      have h6 := h5.trans h.pc
      rw [idn_succ] at h6
      have h7 : (idn k ++ [(k : Int) + 1]).Perm (((k : Int) + 1) :: idn k) := List.perm_append_comm (l₂ := [(k : Int) + 1])
      exact List.Perm.cons_inv (h6.trans h7)
    · show (bumpUp _ _ r).1.length = _
      rw [h2, List.length_set]; exact h.lt
    · show ((bumpUp _ _ r).1.getD s []).length = _
      rw [h3, getD_setR, getD_setR]
      have hl1 := h.lt
      have hl2 := h.lc
      by_cases e : r = s
      · subst e
        rw [if_pos ⟨rfl, by omega⟩, if_pos ⟨rfl, by omega⟩, List.length_take, List.length_take, hsame]
      · rw [if_neg (by omega), if_neg (by omega)]; exact hsame s
    · rw [getD_setR]
      split
      · rename_i e; rw [← e.1]; exact (List.take_prefix _ _).trans (h.pre r)
      · exact h.pre s
end Go.Proofs.Ytfainpmcdfckkaa
