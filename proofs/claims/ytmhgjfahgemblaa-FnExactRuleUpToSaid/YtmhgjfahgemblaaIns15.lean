/- The model text's insertion sort. -/
import Derived.Test.YtmhgjfahgemblaaCodeSo
import Derived.Test.YtmhgjfahgemblaaSort
import Derived.Test.YtmhgjfahgemblaaLaw1
import Derived.Test.YtmhgjfahgemblaaSs
import Derived.Test.YtmhgjfahgemblaaPermMath
namespace Go.Proofs.Ytmhgjfahgemblaa
open Go Go.RowKit
set_option maxRecDepth 100000

def insAt (O : List Int) (x : Int) (k : Nat) : List Int := O.take k ++ [x] ++ O.drop k
theorem insAt_perm (O : List Int) (x : Int) (k : Nat) : (insAt O x k).Perm (O ++ [x]) := by
  unfold insAt
  have h1 : (O.take k ++ [x] ++ O.drop k).Perm (O.take k ++ (O.drop k ++ [x])) := by
    rw [List.append_assoc]
    exact List.Perm.append_left _ List.perm_append_comm
  rw [← List.append_assoc, List.take_append_drop] at h1
  exact h1
theorem insAt_sorted {O : List Int} {x : Int} {k : Nat} (hk : k ≤ O.length) (hs : O.Pairwise (· ≤ ·)) (h1 : ∀ j, k ≤ j → j < O.length → x < O.getD j 0) (h2 : k = 0 ∨ O.getD (k - 1) 0 ≤ x) : (insAt O x k).Pairwise (· ≤ ·) := by
  have hg : ∀ i j, i ≤ j → j < O.length → O.getD i 0 ≤ O.getD j 0 := fun i j hij hj => by
    by_cases e : i = j
    · subst e; omega
    · have := List.pairwise_iff_getElem.1 hs i j (by omega) hj (by omega)
      rwa [getD_lt (by omega), getD_lt hj]
  have ht : ∀ a ∈ O.take k, a ≤ x := fun a ha => by
    obtain ⟨i, hi, rfl⟩ := List.getElem_of_mem ha
    rw [List.length_take] at hi
    rw [List.getElem_take]
    rcases h2 with h2 | h2
    · omega
    · have := hg i (k - 1) (by omega) (by omega)
      rw [getD_lt (by omega)] at this
      omega
  have hd : ∀ b ∈ O.drop k, x ≤ b := fun b hb => by
    obtain ⟨i, hi, rfl⟩ := List.getElem_of_mem hb
    rw [List.length_drop] at hi
    rw [List.getElem_drop]
    have := h1 (k + i) (by omega) (by omega)
    rw [getD_lt (by omega)] at this
    omega
  have hs' : (O.take k ++ O.drop k).Pairwise (· ≤ ·) := by rw [List.take_append_drop]; exact hs
  rw [List.pairwise_append] at hs'
  unfold insAt
  rw [List.append_assoc, List.pairwise_append]
  refine ⟨hs'.1, ?_, fun a ha b hb => ?_⟩
  · rw [List.singleton_append, List.pairwise_cons]
    exact ⟨hd, hs'.2.1⟩
  · rcases List.mem_append.1 hb with hb | hb
    · have : b = x := by simpa using hb
      rw [this]; exact ht a ha
    · exact hs'.2.2 a ha b hb
theorem sortI_eq {L O : List Int} (hp : O.Perm L) (hs : O.Pairwise (· ≤ ·)) : O = sortI L :=
  List.Perm.eq_of_pairwise (fun a b _ _ h1 h2 => Int.le_antisymm h1 h2) hs (sortI_sorted L) (hp.trans (sortI_perm L).symm)
theorem c_l15Sort {w : World} {a : Sl} {L : List Int} (ha : RowI w a L) (hL : L.length < 2^38) :
    Calls PP F.spec_l15Sort #[a.v] w fun e w' => ∃ s : Sl, e = .returned s.v ∧ OwnI w' w.heap.size s (sortI L) ∧ Below w.heap.size w w' := by
  have han : a.n = L.length := by have := ha.n; simpa using this
  refine spec_l15Sort.calls a ?_
  rw [spec_l15Sort.E_s]
  refine lit0 oneInt (B := w.heap.size) (Nat.le_refl _) ?_
  intro o w1 ho hg1 _
  have hb1 := below_of_grow hg1
  refine spec_l15Sort.L3_rule _ _ _ _ _ (I := fun o k w' => 0 ≤ k ∧ k ≤ L.length ∧ Below w.heap.size w w' ∧ ∃ O : List Int, OwnI w' w.heap.size o O ∧ O.Perm (L.take k.toNat) ∧ O.Pairwise (· ≤ ·)) (μ := fun _ k _ => (L.length - k).toNat)
    ⟨by omega, by omega, hb1, [], by simpa [OwnI] using ho, by simp, List.Pairwise.nil⟩ ?_
  rintro o k w2 ⟨hk0, hk, hb2, O, ho, hp, hs⟩
  have hOl : O.length = k.toNat := by rw [hp.length_eq, List.length_take]; omega
  have hon : o.n = O.length := by have := ho.n; simpa using this
  rw [spec_l15Sort.B3_s, han]
  refine bif_dec (fun h3 => ?_) (fun h3 => ?_)
  · have hlt : k.toNat < L.length := by omega
    rw [hon]
    have fin : ∀ (at_ : Int) (w3 : World), 0 ≤ at_ → at_ ≤ O.length → Drew w2 w3 → (∀ j, at_.toNat ≤ j → j < O.length → L[k.toNat] < O.getD j 0) → (at_ = 0 ∨ O.getD (at_.toNat - 1) 0 ≤ L[k.toNat]) →
        ∀ Q, spec_l15Sort.q7 std (fun e2 w2' => ∃ out_3_n k_4_n, e2 = spec_l15Sort.emb3 a out_3_n k_4_n ∧ (0 ≤ k_4_n ∧ k_4_n ≤ L.length ∧ Below w.heap.size w w2' ∧ ∃ O : List Int, OwnI w2' w.heap.size out_3_n O ∧ O.Perm (L.take k_4_n.toNat) ∧ O.Pairwise (· ≤ ·)) ∧ (L.length - k_4_n).toNat < (L.length - k).toNat) Q (.exit 2) (spec_l15Sort.x2 a o k at_) w3 := by
      intro at_ w3 h0 h1 hd hgt hle Q
      rw [spec_l15Sort.A6_2_s]
      have hb3 := hb2.trans (hd.below _)
      have ho3 := ho.heap hd.heap'
      refine lit0 oneInt (B := w3.heap.size) (Nat.le_refl _) ?_
      intro r w4 hr hg4 _
      have hb34 := below_of_grow hg4
      have hb4 := hb3.trans (hb34.mono hb3.size)
      have ho4 := Own.grow ho3 hb34
      refine Row.cut ho4.row (by simpa using h0) (by simp <;> omega) (by simp <;> omega) fun s16 hs16 => ?_
      have e2 : (List.take ((none : Option Int).getD (o.n : Int)).toNat (O.map vI)).drop ((some at_).getD 0).toNat = (O.drop at_.toNat).map vI := by
        rw [hon]; simp [List.map_drop, List.take_of_length_le]
      rw [e2] at hs16
      refine append_row oneInt hr (by have := hb34.size; omega) hs16 (fun v hv => by obtain ⟨x, _, rfl⟩ := List.mem_map.1 hv; exact One.int x) (by simp; omega) ?_
      intro r2 w5 hr2 hg5 _ _
      rw [List.nil_append] at hr2
      have hb35 := hb34.grown hg5 hb34.size (fun g hg => (hr.lt g hg).1)
      have hb5 := hb3.trans (hb35.mono hb3.size)
      have ho5 := Own.grow ho3 hb35
      refine drew_intro fun w6 hd6 => ?_
      have hb36 := hb35.trans ((hd6.below _).mono hb35.size)
      have hb6 := hb3.trans (hb36.mono hb3.size)
      have ho6 := Own.heap ho5 hd6.heap'
      have hr6 := Own.heap hr2 hd6.heap'
      refine Own.pop ho6 h0 (by rw [List.length_map]; omega) fun s20 hs20 hblk => ?_
      refine RowI.get (ha.grow hb6) hk0 (by omega) ?_
      rw [getD_lt hlt]
      rw [← List.map_take] at hs20
      have hs20 : OwnI w6 w.heap.size s20 (O.take at_.toNat) := hs20
      refine append_int hs20 hb6.size (by rw [List.length_take]; omega) ?_
      intro o7 w7 ho7 hg7 hn7
      have hb67 : Below w.heap.size w w7 := hb6.grown hg7 hb6.size (fun g hg => (hs20.lt g hg).1)
      have hlt3 : ∀ g, o.blk = some g → g < w3.heap.size := fun g hg => (ho3.lt g hg).2
      have hr7 : Own w7 w3.heap.size T_int r2 ((O.drop at_.toNat).map vI) := Own.keeps hr6 (keeps_grown hg7) (fun g hg hg2 => by
        rw [hblk] at hg2; have := hlt3 g hg2; have := (hr6.lt g hg).1; omega)
      refine append_row oneInt ho7 hb67.size hr7.row (fun v hv => by obtain ⟨x, _, rfl⟩ := List.mem_map.1 hv; exact One.int x) (by simp; omega) ?_
      intro o8 w8 ho8 hg8 _ _
      rw [← List.map_append] at ho8
      have ek : (k + 1).toNat = k.toNat + 1 := by omega
      refine ⟨o8, k + 1, by rw [w64_succ hk0 (by omega)], ⟨by omega, by omega, hb67.grown hg8 hb67.size (fun g hg => (ho7.lt g hg).1), insAt O L[k.toNat] at_.toNat, ho8, ?_, ?_⟩, by omega⟩
      · rw [ek, List.take_succ_eq_append_getElem hlt]
        exact (insAt_perm O _ _).trans (List.Perm.append_right _ hp)
      · exact insAt_sorted (by omega) hs hgt (by rcases hle with h | h; · left; omega
                                                 · right; exact h)
    refine spec_l15Sort.L6_rule _ _ _ _ _ _ (I := fun at_ w3 => 0 ≤ at_ ∧ at_ ≤ O.length ∧ Drew w2 w3 ∧ ∀ j, at_.toNat ≤ j → j < O.length → L[k.toNat] < O.getD j 0) (μ := fun at_ _ => at_.toNat)
      ⟨by omega, by omega, ⟨0, rfl⟩, fun j hj1 hj2 => by omega⟩ ?_
    rintro at_ w3 ⟨h0, h1, hd, hgt⟩
    rw [spec_l15Sort.B6_s]
    have hb3 := hb2.trans (hd.below _)
    have ho3 := ho.heap hd.heap'
    refine bif_dec (fun h4 => ?_) (fun h4 => ?_)
    · refine RowI.get (ha.grow hb3) hk0 (by omega) ?_
      rw [getD_lt hlt]
      have e1 : w64 (at_ - 1) = at_ - 1 := w64_id (by omega) (by omega)
      rw [e1]
      refine RowI.get (Own.row ho3) (by omega) (by omega) ?_
      refine drew_intro fun w4 hd4 => ?_
      have en : (at_ - 1).toNat = at_.toNat - 1 := by omega
      rw [en]
      refine bif_dec (fun h5 => ?_) (fun h5 => ?_)
      · refine ⟨at_ - 1, rfl, ⟨by omega, by omega, hd.trans hd4, fun j hj1 hj2 => ?_⟩, by omega⟩
        by_cases e : j = at_.toNat - 1
        · subst e; exact h5
        · exact hgt j (by omega) hj2
      · exact fin at_ w4 h0 h1 (hd.trans hd4) hgt (.inr (by omega)) _
    · refine drew_intro fun w4 hd4 => ?_
      exact fin at_ w4 h0 h1 (hd.trans hd4) hgt (.inl (by omega)) _
  · rw [spec_l15Sort.A3_0_s]
    rw [show k.toNat = L.length by omega, List.take_length] at hp
    rw [sortI_eq hp hs] at ho
    exact ⟨o, rfl, ho, hb2⟩
end Go.Proofs.Ytmhgjfahgemblaa
