/- The laws' helpers over rows of ints: the copy and the comparison. -/
import Derived.Test.YtmhgjfahgemblaaCode
import Derived.Test.YtmhgjfahgemblaaMem
namespace Go.Proofs.Ytmhgjfahgemblaa
open Go Go.RowKit
set_option maxRecDepth 100000

theorem take_step {α : Type} (L : List α) (z : α) {i : Nat} (hi : i < L.length) : (L.take i ++ List.replicate (L.length - i) z).set i L[i] = L.take (i + 1) ++ List.replicate (L.length - (i + 1)) z := by
  have h1 : List.replicate (L.length - i) z = z :: List.replicate (L.length - (i + 1)) z := by
    rw [show L.length - i = (L.length - (i + 1)) + 1 by omega, List.replicate_succ]
  have h2 : (L.take i).length = i := by simp; omega
  have h3 : L.take (i + 1) = L.take i ++ [L[i]] := by simp
  rw [h1, List.set_append_right _ _ (by omega), h2, Nat.sub_self, List.set_cons_zero, h3, List.append_assoc]
  rfl
theorem getD_eq {L : List Int} {i : Nat} (hi : i < L.length) : L.getD i 0 = L[i] := by simp [List.getD_eq_getElem?_getD, List.getElem?_eq_getElem hi]

theorem c_toIntS {w : World} {a : Sl} {L : List Int} (hr : RowI w a L) (hL : L.length < 2^39) :
    Calls PP F.laws_toIntS #[a.v] w fun e w' => ∃ s : Sl, e = .returned s.v ∧ OwnI w' w.heap.size s L ∧ Below w.heap.size w w' := by
  have han : a.n = L.length := by have := hr.n; simpa using this
  refine laws_toIntS.calls a ?_
  rw [laws_toIntS.E_s]
  refine make_own oneInt (B := w.heap.size) (Nat.le_refl _) (by omega) (by omega) ?_
  intro s w1 hown hg _
  refine laws_toIntS.L3_rule _ _ _ _ _ (I := fun i w' => 0 ≤ i ∧ i ≤ L.length ∧ OwnI w' w.heap.size s (L.take i.toNat ++ List.replicate (L.length - i.toNat) 0) ∧ Below w.heap.size w w') (μ := fun i _ => (L.length - i).toNat)
    ⟨by omega, by omega, ?_, below_of_grow hg⟩ ?_
  · simpa [OwnI, han] using hown
  rintro i w' ⟨h0, hi, hown, hb⟩
  rw [laws_toIntS.B3_s]
  refine bif_dec (fun h3 => ?_) (fun h3 => ?_)
  · have hlt : i.toNat < L.length := by omega
    refine RowI.get (hr.grow hb) h0 (by omega) ?_
    refine Own.put hown h0 (by simp; omega) ?_
    intro w2 hown2 hg2 hs2
    refine ⟨i + 1, by rw [w64_succ h0 (by omega)], ⟨by omega, by omega, ?_, hb.grown hg2 hb.size (fun g hg => (hown.lt g hg).1)⟩, by omega⟩
    rw [getD_eq hlt] at hown2
    have : (i + 1).toNat = i.toNat + 1 := by omega
    rw [this, ← take_step L 0 hlt]
    simpa [OwnI, List.map_set] using hown2
  · rw [laws_toIntS.A3_0_s]
    have : i.toNat = L.length := by omega
    rw [this] at hown
    exact ⟨s, rfl, by simpa [OwnI] using hown, hb⟩

theorem c_eqIntS {w : World} {a b : Sl} {L M : List Int} (ha : RowI w a L) (hb : RowI w b M) (hL : L.length < 2^39) : Quiet F.laws_eqIntS #[a.v, b.v] w (.bool (decide (L = M))) := by
  intro w1 hd
  have han : a.n = L.length := by have := ha.n; simpa using this
  have hbn : b.n = M.length := by have := hb.n; simpa using this
  refine laws_eqIntS.calls a b ?_
  rw [laws_eqIntS.E_s]
  refine bif_intro (fun h => ?_) (fun h => ?_)
  · have : L.length ≠ M.length := by simp at h; omega
    have : L ≠ M := fun e => this (by rw [e])
    exact ⟨by simp [this], Drew.refl _⟩
  have hlen : L.length = M.length := by simp at h; omega
  refine laws_eqIntS.L4_rule _ _ _ _ _ (I := fun i w' => 0 ≤ i ∧ i ≤ L.length ∧ (∀ k, k < i.toNat → L[k]? = M[k]?) ∧ Drew w1 w') (μ := fun i _ => (L.length - i).toNat)
    ⟨by omega, by omega, fun k hk => by simp at hk, Drew.refl _⟩ ?_
  rintro i w' ⟨h0, hi, hall, hd2⟩
  have hh : w'.heap = w.heap := (hd.trans hd2).heap'
  rw [laws_eqIntS.B4_s]
  refine bif_dec (fun h3 => ?_) (fun h3 => ?_)
  · have hlt : i.toNat < L.length := by omega
    have hlt2 : i.toNat < M.length := by omega
    refine RowI.get (ha.heap hh) h0 (by omega) ?_
    refine RowI.get (hb.heap hh) h0 (by omega) ?_
    refine drew_intro fun w3 hd3 => ?_
    rw [getD_eq hlt, getD_eq hlt2]
    refine bif_intro (fun h4 => ?_) (fun h4 => ?_)
    · have : L ≠ M := fun e => by subst e; simp at h4
      rw [laws_eqIntS.R4_s]
      exact ⟨by simp [this], hd2.trans hd3⟩
    · have h4 : L[i.toNat] = M[i.toNat] := by simpa using h4
      refine ⟨i + 1, by rw [w64_succ h0 (by omega)], ⟨by omega, by omega, fun k hk => ?_, hd2.trans hd3⟩, by omega⟩
      by_cases hk2 : k < i.toNat
      · exact hall k hk2
      · have : k = i.toNat := by omega
        subst this
        rw [List.getElem?_eq_getElem hlt, List.getElem?_eq_getElem hlt2, h4]
  · rw [laws_eqIntS.A4_0_s]
    have : L = M := by
      apply List.ext_getElem?
      intro k
      by_cases hk : k < L.length
      · exact hall k (by omega)
      · rw [List.getElem?_eq_none (by omega), List.getElem?_eq_none (by omega)]
    exact ⟨by simp [this], hd2⟩
end Go.Proofs.Ytmhgjfahgemblaa
