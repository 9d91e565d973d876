/- The parts of a permutation without long descents are those that few colours colour. No program in sight. -/
import Derived.Test.YtmhgjfahgemblaaL20
import Derived.Test.YtmhgjfahgemblaaGreene
namespace Go.Proofs.Ytmhgjfahgemblaa
open Go
set_option maxRecDepth 100000

def colored (W : List (Int × Nat)) : List (Int × Nat) := W.filter fun x => decide (x.2 ≠ 0)
theorem asc_colored {W : List (Int × Nat)} : AscW (colored W) ↔ AscW W := by
  unfold AscW colored
  rw [List.pairwise_filter]
  constructor
  · intro h
    refine h.imp fun {a b} hab e1 e2 => ?_
    exact hab (by simpa using e2) (by simpa [← e1] using e2) e1 e2
  · intro h
    exact h.imp fun {a b} hab _ _ => hab
/-- The numbers at the places that a mask has, up to place m. -/
def part (L : List Int) (s : Nat) : Nat → List Int
  | 0 => []
  | m + 1 => part L s m ++ if s.testBit m then [L.getD m 0] else []
theorem part_congr (L : List Int) {s t : Nat} : ∀ m, (∀ i, i < m → s.testBit i = t.testBit i) → part L s m = part L t m
  | 0, _ => rfl
  | m + 1, h => by rw [part, part, part_congr L m fun i hi => h i (by omega), h m (by omega)]
theorem part_len (L : List Int) (s : Nat) : ∀ m, (part L s m).length ≤ m
  | 0 => Nat.le_refl _
  | m + 1 => by have := part_len L s m; rw [part]; split <;> simp <;> omega
theorem part_sub (L : List Int) (s : Nat) : ∀ m, m ≤ L.length → (part L s m).Sublist (L.take m)
  | 0, _ => by simp [part]
  | m + 1, h => by
    have e : L.take (m + 1) = L.take m ++ [L.getD m 0] := by rw [getD_lt (by omega)]; simp
    rw [part, e]
    refine (part_sub L s m (by omega)).append ?_
    split
    · exact List.Sublist.refl _
    · exact List.nil_sublist _
theorem part_ext {L : List Int} {s k : Nat} : ∀ (m : Nat) {V : List (Int × Nat)}, m ≤ L.length → wd V = part L s m → (∀ x ∈ V, x.2 ≠ 0 ∧ x.2 ≤ k) → ∃ W, wd W = L.take m ∧ colored W = V ∧ ∀ x ∈ W, x.2 ≤ k
  | 0, V, _, h, _ => by
    have : V = [] := by simpa [wd, part] using h
    exact ⟨[], by simp [wd], by simp [this, colored], by simp⟩
  | m + 1, V, hm, h, hk => by
    have e : L.take (m + 1) = L.take m ++ [L.getD m 0] := by rw [getD_lt (by omega)]; simp
    rw [part] at h
    split at h
    · rw [wd] at h
      obtain ⟨U, T, rfl, h1, h2⟩ := List.map_eq_append_iff.1 h
      obtain ⟨x, T, rfl, h3, h4⟩ := List.map_eq_cons_iff.1 h2
      have : T = [] := by simpa using h4
      subst this
      obtain ⟨W, a1, a2, a3⟩ := part_ext m (by omega) h1 (fun y hy => hk y (by simp [hy]))
      have hx := hk x (by simp)
      refine ⟨W ++ [x], ?_, ?_, fun y hy => ?_⟩
      · rw [wd_append, a1, e]; simp [wd, h3]
      · unfold colored at a2 ⊢
        rw [List.filter_append, a2]
        simp [hx.1]
      · rcases List.mem_append.1 hy with hy | hy
        · exact a3 y hy
        · simp at hy; subst hy; exact hx.2
    · rw [List.append_nil] at h
      obtain ⟨W, a1, a2, a3⟩ := part_ext m (by omega) h hk
      refine ⟨W ++ [(L.getD m 0, 0)], ?_, ?_, fun y hy => ?_⟩
      · rw [wd_append, a1, e]; simp [wd]
      · unfold colored at a2 ⊢
        rw [List.filter_append, a2]
        simp
      · rcases List.mem_append.1 hy with hy | hy
        · exact a3 y hy
        · simp at hy; subst hy; simp
theorem mask_of {L : List Int} {W : List (Int × Nat)} (h : wd W = L) : ∀ m, m ≤ L.length → ∃ s, s < 2 ^ m ∧ part L s m = wd (colored (W.take m))
  | 0, _ => ⟨0, by simp, by simp [part, colored, wd]⟩
  | m + 1, hm => by
    obtain ⟨s, hs, he⟩ := mask_of h m (by omega)
    have hWl : W.length = L.length := by rw [← h]; simp [wd]
    have e : W.take (m + 1) = W.take m ++ [W[m]'(by omega)] := by simp
    have e2 : L.getD m 0 = (W[m]'(by omega)).1 := by
      rw [getD_lt (by omega)]; subst h; simp [wd]
    have hp : 2 ^ (m + 1) = 2 ^ m + 2 ^ m := by rw [Nat.pow_succ]; omega
    by_cases hc : (W[m]'(by omega)).2 = 0
    · refine ⟨s, by omega, ?_⟩
      rw [part, he, if_neg (by rw [Nat.testBit_lt_two_pow hs]; simp), e, colored, colored, List.filter_append]
      simp [hc]
    · refine ⟨2 ^ m + s, by omega, ?_⟩
      rw [part, if_pos (by rw [Nat.testBit_two_pow_add_eq, Nat.testBit_lt_two_pow hs]; rfl), part_congr L (t := s) m (fun i hi => Nat.testBit_two_pow_add_gt hi s), he, e, colored, colored, List.filter_append, e2]
      simp [hc, wd]
/-- Few colours: no long descent. -/
theorem chain_cols {R : List (Int × Nat)} {j m : Nat} (h : En (wd R) j m) : ∃ V : List (Int × Nat), V.Sublist (R.take (j + 1)) ∧ V.length = m ∧ V.Pairwise (fun a b => a.1 < b.1) ∧ ∀ x ∈ V, x.1 ≤ (wd R).getD j 0 := by
  induction h with
  | @one k hk =>
    have hk' : k < R.length := by simpa [wd] using hk
    refine ⟨[R[k]], ?_, rfl, by simp, fun x hx => ?_⟩
    · rw [show R.take (k + 1) = R.take k ++ [R[k]] by simp]
      exact List.sublist_append_right _ _
    · simp at hx; subst hx; simp [wd, hk']
  | @snoc i k m hik hk hlt _ ih =>
    obtain ⟨V, h1, h2, h3, h4⟩ := ih
    have hk' : k < R.length := by simpa [wd] using hk
    refine ⟨V ++ [R[k]], ?_, by simp [h2], ?_, fun x hx => ?_⟩
    · rw [show R.take (k + 1) = R.take k ++ [R[k]] by simp]
      refine List.Sublist.append (h1.trans ?_) (List.Sublist.refl _)
      exact List.take_sublist_take_left (by omega)
    · rw [List.pairwise_append]
      refine ⟨h3, by simp, fun a ha b hb => ?_⟩
      simp at hb; subst hb
      have := h4 a ha
      have e : (wd R).getD k 0 = R[k].1 := by simp [wd, hk']
      omega
    · rcases List.mem_append.1 hx with hx | hx
      · have := h4 x hx; omega
      · simp at hx; subst hx; simp [wd, hk']
theorem few_cols {W : List (Int × Nat)} {k : Nat} (ha : AscW W) (hk : ∀ x ∈ W, x.2 ≠ 0 ∧ x.2 ≤ k) (hl : W.length < 2^38) : luV (wd W).reverse ≤ k := by
  have hrev : (wd W).reverse = wd W.reverse := by simp [wd]
  have hlen : (wd W).reverse.length = W.length := by simp [wd]
  unfold luV
  rcases mx_mem (f := enT (wd W).reverse (wd W).reverse.length) (n := (wd W).reverse.length) with h | ⟨j, hj, he⟩
  · omega
  · rw [he]
    obtain ⟨m, hm, hen, _⟩ := enT_spec (L := (wd W).reverse) (by omega) _ (Nat.le_refl _) j hj
    rw [hm]
    rw [hrev] at hen
    obtain ⟨V, h1, h2, h3, _⟩ := chain_cols hen
    have hsub : V.Sublist W.reverse := h1.trans (List.take_sublist _ _)
    have hp : V.Pairwise fun a b => AscC b a := (List.pairwise_reverse.2 (by simpa [AscW] using ha)).sublist hsub
    have hq : V.Pairwise fun x y => x.2 = y.2 → x.2 = 0 := by
      have := h3.and hp
      refine this.imp fun {a b} ⟨h4, h5⟩ e => ?_
      rcases Nat.eq_zero_or_pos a.2 with h6 | h6
      · exact h6
      · have := h5 e.symm (by omega)
        omega
    have hmem : ∀ x ∈ V, x.2 ≠ 0 ∧ x.2 ≤ k := fun x hx => hk x (by have := hsub.subset hx; simpa using this)
    have h7 := cnt_distinct k (fun x hx => (hmem x hx).2) hq
    have h8 : cnt V = V.length := by
      unfold cnt
      rw [List.filter_eq_self.2 fun x hx => by simpa using (hmem x hx).1]
    omega
/-- No long descent: few colours. -/
theorem cols_of {M : List Int} {k : Nat} (hn : M.Nodup) (hl : M.length < 2^38) (h : luV M.reverse ≤ k) : ∃ W, wd W = M ∧ AscW W ∧ ∀ x ∈ W, x.2 ≠ 0 ∧ x.2 ≤ k := by
  have hrl : M.reverse.length = M.length := by simp
  have hsp := enT_spec (L := M.reverse) (by omega) _ (Nat.le_refl _)
  let R : List (Int × Nat) := (List.range M.length).map fun j => (M.reverse.getD j 0, (enT M.reverse M.reverse.length j).toNat)
  have hR : wd R = M.reverse := by
    have := tab_self M.reverse
    rw [hrl] at this
    simp only [wd, R, List.map_map]
    exact this
  refine ⟨R.reverse, by rw [wd, List.map_reverse]; simp only [wd] at hR; rw [hR]; simp, ?_, fun x hx => ?_⟩
  · unfold AscW
    rw [List.pairwise_reverse]
    simp only [R]
    rw [List.pairwise_map]
    have hr : (List.range M.length).Pairwise fun a b => a < b := List.pairwise_lt_range
    refine List.Pairwise.imp_of_mem (R := fun a b => a < b) (fun {a b} ha hb hab e1 e2 => ?_) hr
    simp only [List.mem_range] at ha hb
    simp only at e1 e2 ⊢
    obtain ⟨ma, hma, hea, _⟩ := hsp a (by omega)
    obtain ⟨mb, hmb, heb, hmax⟩ := hsp b (by omega)
    rcases Int.lt_trichotomy (M.reverse.getD b 0) (M.reverse.getD a 0) with h1 | h1 | h1
    · exact h1
    · exfalso
      have hnr : M.reverse.Nodup := (List.reverse_perm M).nodup_iff.2 hn
      rw [List.nodup_iff_pairwise_ne, List.pairwise_iff_getElem] at hnr
      have := hnr a b (by omega) (by omega) hab
      rw [getD_lt (by omega), getD_lt (by omega)] at h1
      exact this h1.symm
    · exfalso
      have := hmax _ (.snoc hab (by omega) h1 hea)
      omega
  · rw [List.mem_reverse] at hx
    simp only [R, List.mem_map, List.mem_range] at hx
    obtain ⟨j, hj, rfl⟩ := hx
    obtain ⟨m, hm, he, _⟩ := hsp j (by omega)
    have h1 := he.pos
    have h2 := mx_ge (f := enT M.reverse M.reverse.length) (n := M.reverse.length) (k := j) (by omega)
    unfold luV at h
    simp only
    omega
/-- The greatest part without a long descent, among the first m masks. -/
def bestU (L : List Int) (k : Int) : Nat → Int
  | 0 => 0
  | m + 1 => if ((part L m L.length).length : Int) > bestU L k m ∧ luV (part L m L.length).reverse ≤ k then (part L m L.length).length else bestU L k m
theorem bestU_ge {L : List Int} {k : Int} {s : Nat} (h : luV (part L s L.length).reverse ≤ k) : ∀ m, s < m → ((part L s L.length).length : Int) ≤ bestU L k m
  | 0, hs => by omega
  | m + 1, hs => by
    rw [bestU]
    by_cases e : s = m
    · subst e
      split
      · exact Int.le_refl _
      · rename_i hc
        rcases Int.lt_or_le (bestU L k s) ((part L s L.length).length : Int) with h1 | h1
        · exact absurd ⟨h1, h⟩ hc
        · exact h1
    · have := bestU_ge h m (by omega)
      split
      · rename_i hc; omega
      · exact this
theorem bestU_mem (L : List Int) (k : Int) : ∀ m, bestU L k m = 0 ∨ ∃ s, s < m ∧ luV (part L s L.length).reverse ≤ k ∧ bestU L k m = (part L s L.length).length
  | 0 => .inl rfl
  | m + 1 => by
    rw [bestU]
    split
    · rename_i hc; exact .inr ⟨m, by omega, hc.2, rfl⟩
    · rcases bestU_mem L k m with h | ⟨s, h1, h2, h3⟩
      · exact .inl h
      · exact .inr ⟨s, by omega, h2, h3⟩
/-- Greene: the greatest part is what the first rows of the tableau have. -/
theorem bestU_greene {L : List Int} (hn : L.Nodup) (hl : L.length < 2^38) (k : Nat) : bestU L k (2 ^ L.length) = tots ((insP L).take k) := by
  obtain ⟨g1, g2⟩ := greene hn k
  have hle : bestU L k (2 ^ L.length) ≤ tots ((insP L).take k) := by
    rcases bestU_mem L k (2 ^ L.length) with h | ⟨s, _, h2, h3⟩
    · omega
    · rw [h3]
      have hsub := part_sub L s L.length (Nat.le_refl _)
      rw [List.take_length] at hsub
      have hpl := part_len L s L.length
      obtain ⟨V, e1, e2, e3⟩ := cols_of (hn.sublist hsub) (by omega) h2
      obtain ⟨W, f1, f2, f3⟩ := part_ext L.length (Nat.le_refl _) e1 e3
      have := g2 (part L s L.length).length ⟨W, by rw [f1, List.take_length], asc_colored.1 (by rw [f2]; exact e2), f3, ?_⟩
      · omega
      · show (colored W).length = _
        rw [f2, ← e1]; simp [wd]
  have hge : (tots ((insP L).take k) : Int) ≤ bestU L k (2 ^ L.length) := by
    obtain ⟨W, h1, h2, h3, h4⟩ := g1
    obtain ⟨s, hs, he⟩ := mask_of h1 L.length (Nat.le_refl _)
    have hWl : W.length = L.length := by rw [← h1]; simp [wd]
    rw [← hWl, List.take_length, hWl] at he
    have hfl := List.length_filter_le (fun x : Int × Nat => decide (x.2 ≠ 0)) W
    have h5 := few_cols (W := colored W) (k := k) (asc_colored.2 h2) (fun x hx => by
      have := List.mem_filter.1 hx
      exact ⟨by simpa using this.2, h3 x this.1⟩) (by unfold colored; omega)
    rw [← he] at h5
    have h6 := bestU_ge h5 (2 ^ L.length) hs
    have h7 : (part L s L.length).length = cnt W := by rw [he]; simp [wd, colored, cnt]
    omega
  omega
end Go.Proofs.Ytmhgjfahgemblaa
