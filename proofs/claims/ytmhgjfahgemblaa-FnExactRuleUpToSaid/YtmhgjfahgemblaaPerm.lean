/- Both tests of a permutation answer alike. -/
import Derived.Test.YtmhgjfahgemblaaL1
import Derived.Test.YtmhgjfahgemblaaLaw1
namespace Go.Proofs.Ytmhgjfahgemblaa
open Go Go.RowKit
set_option maxRecDepth 100000

/-- Each of the numbers 1 to the length once. -/
def pOk (L : List Int) (j : Nat) : Prop := 1 ≤ L.getD j 0 ∧ L.getD j 0 ≤ L.length ∧ ∀ i, i < j → L.getD i 0 ≠ L.getD j 0
def PermOk (L : List Int) : Prop := ∀ j, j < L.length → pOk L j
def IsP (L : List Int) : Prop := L.length ≤ 8 ∧ PermOk L
theorem oneBool : OneT T_Sbool T_bool (.bool false) := oneT_of (by kernel_rfl) (by kernel_rfl) rfl

open Classical in
theorem c_isPerm {w : World} {a : Sl} {L : List Int} (ha : RowI w a L) (hL : L.length < 2^38) :
    Calls PP F.impl_isPerm #[a.v] w fun e w' => e = .returned (.bool (decide (PermOk L))) ∧ Below w.heap.size w w' := by
  have han : a.n = L.length := by have := ha.n; simpa using this
  refine impl_isPerm.calls a ?_
  rw [impl_isPerm.E_s]
  rw [w64_succ (n := (a.n : Int)) (by omega) (by omega)]
  refine make_own oneBool (B := w.heap.size) (Nat.le_refl _) (by omega) (by omega) ?_
  intro s w1 hown hg _
  refine impl_isPerm.L3_rule _ _ _ _ _ _ _ (I := fun k w' => 0 ≤ k ∧ k ≤ L.length ∧ Below w.heap.size w w' ∧ (∀ j, j < k.toNat → pOk L j) ∧
      ∃ bs : List Bool, bs.length = L.length + 1 ∧ Own w' w.heap.size T_bool s (bs.map Value.bool) ∧ ∀ v : Nat, v < bs.length → (bs.getD v false = true ↔ ∃ i, i < k.toNat ∧ L.getD i 0 = v)) (μ := fun k _ => (L.length - k).toNat)
    ⟨by omega, by omega, below_of_grow hg, fun j hj => by simp at hj, List.replicate (L.length + 1) false, by simp, by simpa [han] using hown, fun v hv => by simp [List.getD_eq_getElem?_getD, List.getElem?_replicate]; split <;> simp⟩ ?_
  rintro k w' ⟨h0, hk, hb, hall, bs, hbl, hown, hseen⟩
  have hsucc : (k + 1).toNat = k.toNat + 1 := by omega
  have bad : k < L.length → ¬ pOk L k.toNat → impl_isPerm.q3 std (fun e w' => e = .returned (.bool (decide (PermOk L))) ∧ Below w.heap.size w w') .ret [(2, .bool false)] w' := by
    intro hk3 hbd
    rw [impl_isPerm.R3_s]
    have : ¬ PermOk L := fun h => hbd (h k.toNat (by omega))
    exact ⟨by simp [this], hb⟩
  rw [impl_isPerm.B3_s]
  refine bif_dec (fun h3 => ?_) (fun h3 => ?_)
  · have hlt : k.toNat < L.length := by omega
    refine RowI.get (ha.grow hb) h0 (by omega) ?_
    refine bif_dec (fun h4 => bad (by omega) fun hg => by have := hg.1; omega) (fun h4 => ?_)
    refine bif_dec (fun h5 => bad (by omega) fun hg => by have := hg.2.1; omega) (fun h5 => ?_)
    have hx0 : 1 ≤ L.getD k.toNat 0 := by omega
    have hx1 : L.getD k.toNat 0 ≤ L.length := by omega
    generalize hx : L.getD k.toNat 0 = x at hx0 hx1 h4 h5 ⊢
    have hxl : x.toNat < bs.length := by omega
    have hval : (bs.map Value.bool)[x.toNat]? = some (Sh.bool.enc (bs.getD x.toNat false)) := by simp [List.getD_eq_getElem?_getD, List.getElem?_eq_getElem hxl]
    refine Row.get (sh := .bool) hown.row (by omega) hval ?_
    refine bif_intro (fun h6 => bad (by omega) fun hg => ?_) (fun h6 => ?_)
    · obtain ⟨i, hi, he⟩ := (hseen x.toNat hxl).1 h6
      exact hg.2.2 i hi (by rw [he, hx]; omega)
    · refine Own.put hown (by omega) (by simp; omega) ?_
      intro w2 hown2 hg2 _
      refine ⟨k + 1, by rw [w64_succ h0 (by omega)], ⟨by omega, by omega, hb.grown hg2 hb.size (fun g hg => (hown.lt g hg).1), fun j hj => ?_, bs.set x.toNat true, by simpa using hbl, by simpa [List.map_set] using hown2, fun v hv => ?_⟩, by omega⟩
      · by_cases hj2 : j < k.toNat
        · exact hall j hj2
        · have : j = k.toNat := by omega
          subst this
          refine ⟨by omega, by omega, fun i hi he => ?_⟩
          have := (hseen x.toNat hxl).2 ⟨i, hi, by rw [he, hx]; omega⟩
          rw [this] at h6; cases h6
      · rw [hsucc]
        simp only [List.length_set] at hv
        by_cases hvx : x.toNat = v
        · subst hvx
          simp only [List.getD_eq_getElem?_getD, List.getElem?_set, if_pos hxl]
          simp
          exact ⟨k.toNat, by omega, by rw [← List.getD_eq_getElem?_getD, hx]; omega⟩
        · have e1 : (bs.set x.toNat true).getD v false = bs.getD v false := by simp [List.getD_eq_getElem?_getD, List.getElem?_set, hvx]
          rw [e1, hseen v hv]
          constructor
          · rintro ⟨i, hi, he⟩; exact ⟨i, by omega, he⟩
          · rintro ⟨i, hi, he⟩
            by_cases hi2 : i < k.toNat
            · exact ⟨i, hi2, he⟩
            · have : i = k.toNat := by omega
              subst this
              rw [hx] at he; omega
  · rw [impl_isPerm.A3_0_s]
    have : PermOk L := fun j hj => hall j (by omega)
    exact ⟨by simp [this], hb⟩

open Classical in
theorem c_implIsPerm {w : World} {a : Sl} {L : List Int} (ha : RowI w a L) (hL : L.length < 2^38) :
    Calls PP F.impl_IsPerm #[a.v] w fun e w' => e = .returned (.bool (decide (IsP L))) ∧ Below w.heap.size w w' := by
  have han : a.n = L.length := by have := ha.n; simpa using this
  refine impl_IsPerm.calls a ?_
  rw [impl_IsPerm.E_s]
  refine bif_dec (fun h => ?_) (fun h => ?_)
  · refine (c_isPerm ha hL).mono ?_
    rintro e w' ⟨rfl, hb⟩
    refine ⟨_, rfl, ?_, hb⟩
    have : L.length ≤ 8 := by omega
    simp [IsP, this]
  · have : ¬ L.length ≤ 8 := by omega
    exact ⟨by simp [IsP, this], Below.refl _ _⟩

open Classical in
theorem c_l2Has {w : World} {a : Sl} {L : List Int} (ha : RowI w a L) (hL : L.length < 2^38) (n : Int) :
    Quiet F.spec_l2Has #[a.v, vI n] w (.bool (decide (n ∈ L))) := by
  intro w1 hd
  have han : a.n = L.length := by have := ha.n; simpa using this
  refine spec_l2Has.calls a n ?_
  rw [spec_l2Has.E_s]
  refine spec_l2Has.L2_rule _ _ _ _ _ (I := fun k w' => w' = w1 ∧ 0 ≤ k ∧ k ≤ L.length ∧ ∀ j, j < k.toNat → L.getD j 0 ≠ n) (μ := fun k _ => (L.length - k).toNat) ⟨rfl, by omega, by omega, fun j hj => by simp at hj⟩ ?_
  rintro k w' ⟨rfl, h0, hk, hall⟩
  rw [spec_l2Has.B2_s]
  refine bif_dec (fun h3 => ?_) (fun h3 => ?_)
  · have hlt : k.toNat < L.length := by omega
    refine RowI.get (ha.heap hd.heap') h0 (by omega) ?_
    refine bif_intro (fun h4 => ?_) (fun h4 => ?_)
    · rw [spec_l2Has.R2_s]
      have h4 : L.getD k.toNat 0 = n := by simpa using h4
      have : n ∈ L := by rw [← h4, getD_eq hlt]; exact List.getElem_mem hlt
      exact ⟨by simp [this], Drew.refl _⟩
    · have h4 : ¬ L.getD k.toNat 0 = n := by simpa using h4
      refine ⟨k + 1, by rw [w64_succ h0 (by omega)], ⟨rfl, by omega, by omega, fun j hj => ?_⟩, by omega⟩
      by_cases hj2 : j < k.toNat
      · exact hall j hj2
      · have : j = k.toNat := by omega
        subst this; exact h4
  · rw [spec_l2Has.A2_0_s]
    have : n ∉ L := fun h => by
      obtain ⟨i, hi, he⟩ := List.getElem_of_mem h
      exact hall i (by omega) (by rw [getD_eq hi]; exact he)
    exact ⟨by simp [this], Drew.refl _⟩

open Classical in
theorem c_specIsPerm {w : World} {a : Sl} {L : List Int} (ha : RowI w a L) (hL : L.length < 2^38) :
    Quiet F.spec_IsPerm #[a.v] w (.bool (decide (IsP L))) := by
  intro w1 hd
  have han : a.n = L.length := by have := ha.n; simpa using this
  refine spec_IsPerm.calls a ?_
  rw [spec_IsPerm.E_s]
  refine spec_IsPerm.L2_rule _ _ _ _ (I := fun k w' => Drew w1 w' ∧ 0 ≤ k ∧ k ≤ L.length ∧ ∀ j, j < k.toNat → pOk L j) (μ := fun k _ => (L.length - k).toNat) ⟨Drew.refl _, by omega, by omega, fun j hj => by simp at hj⟩ ?_
  rintro k w' ⟨hd2, h0, hk, hall⟩
  have hh : w'.heap = w.heap := (hd.trans hd2).heap'
  rw [spec_IsPerm.B2_s]
  refine bif_dec (fun h3 => bif_dec (fun h4 => ?_) (fun h4 => ?_)) (fun h3 => ?_)
  · have hlt : k.toNat < L.length := by omega
    have nb : ¬ pOk L k.toNat → ¬ IsP L := fun hb h => hb (h.2 k.toNat hlt)
    refine RowI.get (ha.heap hh) h0 (by omega) ?_
    refine Pure.pcall1 (s := .bool) (c_l1In _ _ _) ?_
    refine bif_intro (fun h5 => ?_) (fun h5 => ?_)
    · refine drew_intro fun w2 hd3 => ?_
      rw [spec_IsPerm.R2_s]
      have : ¬ IsP L := nb fun hg => by
        have h1 := hg.1
        have h2 := hg.2.1
        simp [-List.getD_eq_getElem?_getD] at h5
        omega
      exact ⟨by simp [this], hd2.trans hd3⟩
    · have h5 : 1 ≤ L.getD k.toNat 0 ∧ L.getD k.toNat 0 ≤ L.length := by simpa [han] using h5
      refine Row.cut (ha.heap hh) (by simp) (by simpa using h0) (by simp; omega) ?_
      intro t ht
      have ht : RowI w' t (L.take k.toNat) := by simpa [RowI, List.map_take] using ht
      refine RowI.get (ha.heap hh) h0 (by omega) ?_
      refine Quiet.qcall1 (s := .bool) (c_l2Has ht (by simp; omega) _) ?_
      have hmem : L.getD k.toNat 0 ∈ L.take k.toNat ↔ ∃ i, i < k.toNat ∧ L.getD i 0 = L.getD k.toNat 0 := by
        constructor
        · intro h
          obtain ⟨i, hi, he⟩ := List.getElem_of_mem h
          have hi2 : i < k.toNat ∧ i < L.length := by simp at hi; omega
          refine ⟨i, hi2.1, ?_⟩
          rw [getD_eq hi2.2, ← he]; simp
        · rintro ⟨i, hi, he⟩
          rw [← he, getD_eq (show i < L.length by omega)]
          exact List.mem_take_iff_getElem.2 ⟨i, by omega, rfl⟩
      refine drew_intro fun w2 hd3 => ?_
      refine bif_intro (fun h6 => ?_) (fun h6 => ?_)
      · rw [spec_IsPerm.R2_s]
        have h6 := hmem.1 (by simpa using h6)
        have : ¬ IsP L := nb fun hg => by
          obtain ⟨i, hi, he⟩ := h6
          exact hg.2.2 i hi he
        exact ⟨by simp [this], hd2.trans hd3⟩
      · have h6 : ¬ ∃ i, i < k.toNat ∧ L.getD i 0 = L.getD k.toNat 0 := fun h => by
          rw [decide_eq_true (hmem.2 h)] at h6
          cases h6
        refine ⟨k + 1, by rw [w64_succ h0 (by omega)], ⟨hd2.trans hd3, by omega, by omega, fun j hj => ?_⟩, by omega⟩
        by_cases hj2 : j < k.toNat
        · exact hall j hj2
        · have : j = k.toNat := by omega
          subst this; exact ⟨h5.1, h5.2, fun i hi he => h6 ⟨i, hi, he⟩⟩
  · rw [spec_IsPerm.A2_0_s]
    have : ¬ L.length ≤ 8 := by omega
    exact ⟨by simp [IsP, han, this]; omega, hd2⟩
  · rw [spec_IsPerm.A2_0_s]
    have : PermOk L := fun j hj => hall j (by omega)
    exact ⟨by simp [IsP, han, this]; omega, hd2⟩
end Go.Proofs.Ytmhgjfahgemblaa
