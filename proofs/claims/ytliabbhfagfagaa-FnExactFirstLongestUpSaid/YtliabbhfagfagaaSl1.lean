/- The library's Reverse, Clone and IsSorted over rows of ints. -/
import Derived.Test.YtliabbhfagfagaaLens
namespace Go.Proofs.Ytliabbhfagfagaa
open Go Go.RowKit
set_option maxRecDepth 100000

theorem grownBy_trans {a b c : World} {r : Option Nat} (h : a.grownBy b r) (k : b.grownBy c r) : a.grownBy c r :=
  ⟨k.os.trans h.os, k.tape.trans h.tape, k.output.trans h.output, Nat.le_trans h.size k.size, fun x hx hne => (k.block x (Nat.lt_of_lt_of_le hx h.size) hne).trans (h.block x hx hne)⟩
theorem grownBy_refl (a : World) (r : Option Nat) : a.grownBy a r := ⟨rfl, rfl, rfl, Nat.le_refl _, fun _ _ _ => rfl⟩
theorem Drew.grownBy {a b : World} (h : Drew a b) (r : Option Nat) : a.grownBy b r := by obtain ⟨n, rfl⟩ := h; exact ⟨rfl, rfl, rfl, Nat.le_refl _, fun _ _ _ => rfl⟩
theorem tab_self (L : List Int) : tab L.length (fun k => L.getD k 0) = L := by
  apply List.ext_getElem?
  intro k
  by_cases hk : k < L.length
  · simp [tab, List.getElem?_range hk, List.getD_eq_getElem?_getD, List.getElem?_eq_getElem hk, hk]
  · rw [List.getElem?_eq_none (by simp [tab]; omega), List.getElem?_eq_none (by omega)]
theorem tab_reverse (L : List Int) : tab L.length (fun k => L.getD (L.length - 1 - k) 0) = L.reverse := by
  apply List.ext_getElem?
  intro k
  by_cases hk : k < L.length
  · rw [List.getElem?_reverse hk]
    simp [tab, List.getElem?_range hk, List.getD_eq_getElem?_getD, List.getElem?_eq_getElem (show L.length - 1 - k < L.length by omega)]
  · rw [List.getElem?_eq_none (by simp [tab]; omega), List.getElem?_eq_none (by simp; omega)]

def rv (L : List Int) (i : Nat) (k : Nat) : Int := if k < i ∨ L.length ≤ k + i then L.getD (L.length - 1 - k) 0 else L.getD k 0

theorem c_Reverse {w : World} {B : Nat} {a : Sl} {L : List Int} (ha : OwnI w B a L) (hL : L.length < 2^38) :
    Calls PP F.slices_Reverse___int_int_ #[a.v] w fun e w' => e = .returned (.tuple #[]) ∧ OwnI w' B a L.reverse ∧ w.grownBy w' a.blk ∧ w'.heap.size = w.heap.size := by
  have han : a.n = L.length := by have := ha.n; simpa using this
  refine slices_Reverse___int_int_.calls a ?_
  rw [slices_Reverse___int_int_.E_s]
  rw [han, w64_id (by omega) (by omega)]
  refine slices_Reverse___int_int_.L1_rule _ _ _ _ _ (I := fun i j w' => 0 ≤ i ∧ j = L.length - 1 - i ∧ i ≤ j + 2 ∧ OwnI w' B a (tab L.length (rv L i.toNat)) ∧ w.grownBy w' a.blk ∧ w'.heap.size = w.heap.size) (μ := fun i _ _ => (L.length - i).toNat)
    ⟨by omega, by omega, by omega, ?_, grownBy_refl _ _, rfl⟩ ?_
  · rw [tab_congr (g := fun k => L.getD k 0) (fun k hk => by simp only [rv]; rw [if_neg (by omega)]), tab_self]; exact ha
  rintro i j w' ⟨h0, hj, hij, ho, hg, hsz⟩
  rw [slices_Reverse___int_int_.B1_s]
  refine bif_dec (fun h3 => ?_) (fun h3 => ?_)
  · obtain ⟨i, rfl⟩ : ∃ m : Nat, i = m := ⟨i.toNat, by omega⟩
    obtain ⟨j, rfl⟩ : ∃ m : Nat, j = m := ⟨j.toNat, by omega⟩
    simp only [Int.toNat_natCast] at ho
    refine drew_intro fun w1 hd => ?_
    have ho1 : OwnI w1 B a (tab L.length (rv L i)) := ho.heap hd.heap'
    have ei : (tab L.length (rv L i)).getD (i : Int).toNat 0 = L.getD i 0 := by rw [Int.toNat_natCast, tab_getD _ (by omega), rv, if_neg (by omega)]
    have ej : (tab L.length (rv L i)).getD (j : Int).toNat 0 = L.getD j 0 := by rw [Int.toNat_natCast, tab_getD _ (by omega), rv, if_neg (by omega)]
    refine RowI.place ho1.row (by omega) (by rw [tab_length]; omega) fun a2 ha2 => ?_
    refine RowI.place ho1.row (by omega) (by rw [tab_length]; omega) fun a3 ha3 => ?_
    rw [ej] at ha2
    rw [ei] at ha3
    have fin : idxK 1 a (i : Int) fun a6 => storeC a6 (vI (L.getD j 0)) w1 fun w2 => idxK 1 a (j : Int) fun a8 => storeC a8 (vI (L.getD i 0)) w2 fun w3 =>
        ∃ i_2_n j_3_n, slices_Reverse___int_int_.emb1 a (w64 ((i : Int) + 1)) (w64 ((j : Int) - 1)) = slices_Reverse___int_int_.emb1 a i_2_n j_3_n ∧
        (0 ≤ i_2_n ∧ j_3_n = L.length - 1 - i_2_n ∧ i_2_n ≤ j_3_n + 2 ∧ OwnI w3 B a (tab L.length (rv L i_2_n.toNat)) ∧ w.grownBy w3 a.blk ∧ w3.heap.size = w.heap.size) ∧ (L.length - i_2_n).toNat < (L.length - (i : Int)).toNat := by
      refine Own.put ho1 (by omega) (by simp [tab_length]; omega) ?_
      intro w2 ho2 hg2 hs2
      refine Own.put ho2 (by omega) (by simp [tab_length]; omega) ?_
      intro w3 ho3 hg3 hs3
      refine ⟨(i : Int) + 1, (j : Int) - 1, by rw [w64_succ (by omega) (by omega), w64_id (n := (j : Int) - 1) (by omega) (by omega)], ⟨by omega, by omega, by omega, ?_, grownBy_trans (grownBy_trans (grownBy_trans hg (hd.grownBy _)) hg2) hg3, ?_⟩, by omega⟩
      · have e1 : (((tab L.length (rv L i)).map vI).set (i : Int).toNat (vI (L.getD j 0))).set (j : Int).toNat (vI (L.getD i 0)) = (tab L.length (rv L (i + 1))).map vI := by
          rw [Int.toNat_natCast, Int.toNat_natCast, ← List.map_set, ← List.map_set, tab_set, tab_set]
          congr 1
          apply tab_congr
          intro k hk
          simp only [rv]
          by_cases hkj : k = j
          · subst hkj
            rw [if_pos rfl, if_pos (by omega)]
            congr 1; omega
          · rw [if_neg hkj]
            by_cases hki : k = i
            · subst hki
              rw [if_pos rfl, if_pos (by omega)]
              congr 1; omega
            · rw [if_neg hki]
              by_cases h5 : k < i ∨ L.length ≤ k + i
              · rw [if_pos h5, if_pos (by omega)]
              · rw [if_neg h5, if_neg (by omega)]
        rw [e1] at ho3
        rw [show ((i : Int) + 1).toNat = i + 1 by omega]
        exact ho3
      · have := hd.heap'
        rw [hs3, hs2, this, hsz]
    exact ⟨load_int ha2 (load_int ha3 fin), load_int ha3 (load_int ha2 fin)⟩
  · rw [slices_Reverse___int_int_.A1_0_s]
    refine ⟨rfl, ?_, hg, hsz⟩
    rw [tab_congr (g := fun k => L.getD (L.length - 1 - k) 0) (fun k hk => by
      simp only [rv]
      by_cases h5 : k < i.toNat ∨ L.length ≤ k + i.toNat
      · rw [if_pos h5]
      · rw [if_neg h5]; congr 1; omega), tab_reverse] at ho
    exact ho

theorem c_Clone {w : World} {a : Sl} {L : List Int} (ha : RowI w a L) (hL : L.length < 2^38) :
    Calls PP F.slices_Clone___int_int_ #[a.v] w fun e w' => ∃ s : Sl, e = .returned s.v ∧ OwnI w' w.heap.size s L ∧ Below w.heap.size w w' := by
  refine slices_Clone___int_int_.calls a ?_
  rw [slices_Clone___int_int_.E_s]
  refine bif_intro (fun h => ?_) (fun h => ?_)
  · have : L = [] := by
      cases L with
      | nil => rfl
      | cons x r => obtain ⟨b, hb, _⟩ := ha.cell 0 (vI x) rfl; rw [hb] at h; cases h
    subst this
    exact ⟨Sl.nil, rfl, Own.nil _ _ _, Below.refl _ _⟩
  · refine lit0 oneInt (B := w.heap.size) (Nat.le_refl _) ?_
    intro t w1 ht hg _
    have hb := below_of_grow hg
    refine append_row oneInt ht hb.size (ha.grow hb) (fun v hv => by obtain ⟨x, _, rfl⟩ := List.mem_map.1 hv; exact One.int x) (by simp; omega) ?_
    intro s w2 hs hg2 _ _
    exact ⟨s, rfl, by simpa using hs, hb.grown hg2 hb.size (fun g hg => (ht.lt g hg).1)⟩
end Go.Proofs.Ytliabbhfagfagaa
