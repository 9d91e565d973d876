/- Copies of a table. -/
import Derived.Test.YtfainpmcdfckkaaCodeCo
import Derived.Test.YtfainpmcdfckkaaClo
import Derived.Test.YtfainpmcdfckkaaFoot
namespace Go.Proofs.Ytfainpmcdfckkaa
open Go Go.RowKit
set_option maxRecDepth 100000

theorem c_l2Copy {w : World} {a : Sl} {LL : List (List Int)} (ha : RowSS w a LL) (hL : LL.length < 2^38) (ht : tot LL < 2^38) :
    Calls PP F.spec_l2Copy #[a.v] w fun e w' => ∃ (s : Sl) (rs : List Sl), e = .returned s.v ∧ OwnRows w' w.heap.size s rs LL ∧ Below w.heap.size w w' := by
  have han := ha.n
  refine spec_l2Copy.calls a ?_
  rw [spec_l2Copy.E_s]
  refine lit0 oneSint (B := w.heap.size) (Nat.le_refl _) ?_
  intro s0 w1 hs0 hg1 _
  refine spec_l2Copy.L3_rule _ _ _ _ _ (I := fun s k w' => 0 ≤ k ∧ k ≤ LL.length ∧ OwnSS w' w.heap.size s (LL.take k.toNat) ∧ Below w.heap.size w w') (μ := fun _ k _ => (LL.length - k).toNat)
    ⟨by omega, by omega, OwnSS.nil hs0, below_of_grow hg1⟩ ?_
  rintro s k w2 ⟨h0, hk, ho, hb⟩
  rw [spec_l2Copy.B3_s, han]
  refine bif_dec (fun h3 => ?_) (fun h3 => ?_)
  · have hlt : k.toNat < LL.length := by omega
    refine lit0 oneInt (B := w2.heap.size) (Nat.le_refl _) ?_
    intro t0 w3 ht0 hg3 hc3
    have hb3 := below_of_grow hg3
    have hb23 := hb.trans (hb3.mono hb.size)
    have h40 := len_le_tot (List.getElem_mem hlt)
    refine RowSS.get (ha.grow hb23) h0 (by omega) fun r hr => ?_
    rw [getD_SS hlt] at hr
    refine append_row oneInt ht0 hb3.size hr (fun v hv => by obtain ⟨x, _, rfl⟩ := List.mem_map.1 hv; exact One.int x) (by simp; omega) ?_
    intro t1 w4 ht1 hg4 hn4 _
    have hb4 : Below w2.heap.size w2 w4 := hb3.grown hg4 hb3.size (fun g hg => (ht0.lt g hg).1)
    refine append_new ho hb4 hb.size (r := t1) (L := LL[k.toNat]) (by simpa [OwnI] using ht1) (by rw [List.length_take]; omega) ?_
    intro s' w5 ho5 hg5 hn5
    have hb24 := hb.trans (hb4.mono hb.size)
    refine ⟨s', k + 1, by rw [w64_succ h0 (by omega)], ⟨by omega, by omega, ?_, hb24.grown hg5 hb24.size (fun g hg => (ho.lt g hg).1)⟩, by omega⟩
    rw [show (k + 1).toNat = k.toNat + 1 by omega, List.take_succ_eq_append_getElem hlt]
    exact ho5
  · rw [spec_l2Copy.A3_0_s]
    rw [show k.toNat = LL.length by omega, List.take_length] at ho
    obtain ⟨rs, ho⟩ := ho
    exact ⟨s, rs, rfl, ho, hb⟩
theorem c_copied {w : World} {a : Sl} {LL : List (List Int)} (ha : RowSS w a LL) (hL : LL.length < 2^38) (ht : tot LL < 2^38) :
    Calls PP F.impl_copied #[a.v] w fun e w' => ∃ (s : Sl) (rs : List Sl), e = .returned s.v ∧ OwnRows w' w.heap.size s rs LL ∧ Below w.heap.size w w' := by
  have han := ha.n
  refine impl_copied.calls a ?_
  rw [impl_copied.E_s]
  refine lit0 oneSint (B := w.heap.size) (Nat.le_refl _) ?_
  intro s0 w1 hs0 hg1 _
  refine impl_copied.L3_rule _ _ _ _ _ _ (I := fun s k w' => 0 ≤ k ∧ k ≤ LL.length ∧ OwnSS w' w.heap.size s (LL.take k.toNat) ∧ Below w.heap.size w w') (μ := fun _ k _ => (LL.length - k).toNat)
    ⟨by omega, by omega, OwnSS.nil hs0, below_of_grow hg1⟩ ?_
  rintro s k w2 ⟨h0, hk, ho, hb⟩
  rw [impl_copied.B3_s, han]
  refine bif_dec (fun h3 => ?_) (fun h3 => ?_)
  · have hlt : k.toNat < LL.length := by omega
    have h40 := len_le_tot (List.getElem_mem hlt)
    refine RowSS.get (ha.grow hb) h0 (by omega) fun r hr => ?_
    rw [getD_SS hlt] at hr
    refine (c_Clone hr (by omega)).mono ?_
    rintro e w4 ⟨t1, rfl, ht1, hb4⟩
    refine ⟨t1, rfl, ?_⟩
    refine append_new ho hb4 hb.size (r := t1) (L := LL[k.toNat]) ht1 (by rw [List.length_take]; omega) ?_
    intro s' w5 ho5 hg5 hn5
    have hb24 := hb.trans (hb4.mono hb.size)
    refine ⟨s', k + 1, by rw [w64_succ h0 (by omega)], ⟨by omega, by omega, ?_, hb24.grown hg5 hb24.size (fun g hg => (ho.lt g hg).1)⟩, by omega⟩
    rw [show (k + 1).toNat = k.toNat + 1 by omega, List.take_succ_eq_append_getElem hlt]
    exact ho5
  · rw [impl_copied.A3_0_s]
    rw [show k.toNat = LL.length by omega, List.take_length] at ho
    obtain ⟨rs, ho⟩ := ho
    exact ⟨s, rs, rfl, ho, hb⟩
end Go.Proofs.Ytfainpmcdfckkaa
