/- All permutations of a length: the model's list and the program's. -/
import Derived.Test.YtmhgjfahgemblaaCodePe
import Derived.Test.YtmhgjfahgemblaaClo
import Derived.Test.YtmhgjfahgemblaaL1
import Derived.Test.YtmhgjfahgemblaaSs
import Derived.Test.YtmhgjfahgemblaaPermsMath
namespace Go.Proofs.Ytmhgjfahgemblaa
open Go Go.RowKit
set_option maxRecDepth 100000

def idxW (L : List Int) (v : Int) : Int := if L.findIdx (fun x => v == x) < L.length then (L.findIdx (fun x => v == x) : Int) else -1
theorem idxW_nonneg {L : List Int} {v : Int} : 0 ≤ idxW L v ↔ v ∈ L := by
  unfold idxW
  split
  · rename_i h
    rw [List.findIdx_lt_length] at h
    obtain ⟨x, h1, h2⟩ := h
    have : v = x := by simpa using h2
    subst this
    exact ⟨fun _ => h1, fun _ => by omega⟩
  · rename_i h
    rw [List.findIdx_lt_length] at h
    exact ⟨fun h0 => by omega, fun h0 => absurd ⟨v, h0, by simp⟩ h⟩
theorem c_Index {w : World} {a : Sl} {L : List Int} (ha : RowI w a L) (hL : L.length < 2^38) (v : Int) : Quiet F.slices_Index___int_int_ #[a.v, vI v] w (vI (idxW L v)) := by
  intro w1 hd
  have han : a.n = L.length := by have := ha.n; simpa using this
  refine slices_Index___int_int_.calls a v ?_
  rw [slices_Index___int_int_.E_s]
  refine slices_Index___int_int_.L2_rule _ _ _ _ _ _ (I := fun k w' => w' = w1 ∧ 0 ≤ k ∧ k ≤ L.length ∧ ∀ j, j < k.toNat → v ≠ L.getD j 0) (μ := fun k _ => (L.length - k).toNat) ⟨rfl, by omega, by omega, fun j hj => by simp at hj⟩ ?_
  rintro k w' ⟨rfl, h0, hk, hall⟩
  rw [slices_Index___int_int_.B2_s]
  refine bif_dec (fun h3 => ?_) (fun h3 => ?_)
  · have hlt : k.toNat < L.length := by omega
    refine RowI.get (ha.heap hd.heap') h0 (by omega) ?_
    refine bif_intro (fun h4 => ?_) (fun h4 => ?_)
    · rw [slices_Index___int_int_.R2_s]
      refine ⟨?_, Drew.refl _⟩
      have h4 : v = L.getD k.toNat 0 := by simpa using h4
      have : L.findIdx (fun x => v == x) = k.toNat := by
        rw [List.findIdx_eq hlt]
        refine ⟨by rw [← getD_lt hlt]; simpa using h4, fun j hj => ?_⟩
        have := hall j hj
        rw [getD_lt (by omega)] at this
        simpa using this
      rw [idxW, this, if_pos hlt]
      congr 2; omega
    · refine ⟨k + 1, by rw [w64_succ h0 (by omega)], ⟨rfl, by omega, by omega, fun j hj => ?_⟩, by omega⟩
      by_cases e : j = k.toNat
      · rw [e]; simpa using h4
      · exact hall j (by omega)
  · rw [slices_Index___int_int_.A2_0_s]
    refine ⟨?_, Drew.refl _⟩
    rw [idxW, if_neg]
    intro h5
    rw [List.findIdx_lt_length] at h5
    obtain ⟨x, h6, h7⟩ := h5
    obtain ⟨i, hi, rfl⟩ := List.getElem_of_mem h6
    have := hall i (by omega)
    rw [getD_lt hi] at this
    exact this (by simpa using h7)
open Classical in
theorem c_Contains {w : World} {a : Sl} {L : List Int} (ha : RowI w a L) (hL : L.length < 2^38) (v : Int) : Quiet F.slices_Contains___int_int_ #[a.v, vI v] w (.bool (decide (v ∈ L))) := by
  intro w1 hd
  refine slices_Contains___int_int_.calls a v ?_
  rw [slices_Contains___int_int_.E_s]
  refine (c_Index ha hL v w1 hd).mono ?_
  rintro e w2 ⟨rfl, hd2⟩
  refine ⟨_, rfl, ?_, hd2⟩
  congr 2
  simp only [ge_iff_le, idxW_nonneg]

theorem flat_snoc {α β : Type} (l : List α) (x : α) (f : α → List β) : (l ++ [x]).flatMap f = l.flatMap f ++ f x := by simp

theorem c_perms {w : World} (n : Nat) (hn : n ≤ 8) :
    Calls PP F.impl_perms #[vI n] w fun e w' => ∃ s : Sl, e = .returned s.v ∧ OwnSS w' w.heap.size s (permsV n) ∧ Below w.heap.size w w' := by
  refine impl_perms.calls n ?_
  rw [impl_perms.E_s]
  refine lit0 oneInt (B := w.heap.size) (Nat.le_refl _) ?_
  intro s0 w1 h0 hg1 hc1
  have hb1 := below_of_grow hg1
  refine lit1 oneSint (B := w.heap.size) hb1.size (One.sl s0) ?_
  intro t0 w2 ht0 hg2 hn2
  have hb2 := hb1.grown hg2 hb1.size (by simp)
  have hst : OwnSS w2 w.heap.size t0 (lvl n 0) := by
    refine ⟨[s0], ht0, rfl, fun i r L e1 e2 => ?_, fun i j r t hij e1 e2 => ?_⟩
    · cases i with
      | zero => simp [lvl] at e1 e2; subst e1 e2; exact h0.kept hg2 (fun _ _ => by simp)
      | succ i => simp at e1
    · cases i with
      | zero => cases j with
        | zero => exact absurd rfl hij
        | succ j => simp at e2
      | succ i => simp at e1
  have h88 : ∀ k, k ≤ n → (lvl n k).length ≤ 8 ^ 8 := fun k hk =>
    Nat.le_trans (lvl_length n k) (Nat.le_trans (Nat.pow_le_pow_left hn k) (Nat.pow_le_pow_right (by omega) (by omega)))
  refine impl_perms.L3_rule _ _ _ _ _ _ (I := fun out k w' => 0 ≤ k ∧ k ≤ n ∧ OwnSS w' w.heap.size out (lvl n k.toNat) ∧ Below w.heap.size w w') (μ := fun _ k _ => (n - k).toNat) ⟨by omega, by omega, hst, hb2⟩ ?_
  rintro out k w' ⟨hk0, hk, ho, hb⟩
  rw [impl_perms.B3_s]
  refine bif_dec (fun h3 => ?_) (fun h3 => ?_)
  · refine lit0 oneSint (B := w'.heap.size) (Nat.le_refl _) ?_
    intro l0 w3 hl0 hg3 _
    have hb3 := below_of_grow hg3
    have hon := ho.row.n
    have hkn := h88 k.toNat (by omega)
    rw [hon]
    refine impl_perms.L6_rule _ _ _ _ _ _ _ _ _ (I := fun lo i w4 => 0 ≤ i ∧ i ≤ (lvl n k.toNat).length ∧ OwnSS w4 w'.heap.size lo (((lvl n k.toNat).take i.toNat).flatMap (extV n)) ∧ Below w'.heap.size w' w4) (μ := fun _ i _ => ((lvl n k.toNat).length - i).toNat)
      ⟨by omega, by omega, OwnSS.nil hl0, hb3⟩ ?_
    rintro lo i w4 ⟨hi0, hi, hlo, hb4⟩
    rw [impl_perms.B6_s]
    refine bif_dec (fun h5 => ?_) (fun h5 => ?_)
    · have hlt : i.toNat < (lvl n k.toNat).length := by omega
      refine RowSS.getB ho.row hb4 hi0 (by omega) fun r hr => ?_
      rw [getD_SS hlt] at hr
      have hmem := List.getElem_mem hlt
      generalize hpe : (lvl n k.toNat)[i.toNat] = p at hr hmem
      have hplen : p.length = k.toNat := (mem_lvl.1 hmem).1
      have hcnt : (((lvl n k.toNat).take i.toNat).flatMap (extV n)).length ≤ 8 ^ 8 * 8 := by
        refine Nat.le_trans (flatMap_len_le _ _ 8 (fun x _ => Nat.le_trans (extV_length n x) hn)) (Nat.mul_le_mul_right _ ?_)
        rw [List.length_take]; omega
      have hcnt2 : ∀ v : Nat, v ≤ n → ((idn v).flatMap fun v => if v ∈ p then [] else [p ++ [v]]).length ≤ 8 := fun v hv => by
        refine Nat.le_trans (flatMap_len_le _ _ 1 (fun x _ => by split <;> simp)) ?_
        rw [idn_length]; omega
      refine impl_perms.L9_rule _ _ _ _ _ _ _ _ _ _ _ (I := fun lo2 v w5 => 1 ≤ v ∧ v ≤ n + 1 ∧ OwnSS w5 w'.heap.size lo2 (((lvl n k.toNat).take i.toNat).flatMap (extV n) ++ (idn (v - 1).toNat).flatMap fun v => if v ∈ p then [] else [p ++ [v]]) ∧ Below w'.heap.size w' w5) (μ := fun _ v _ => (n + 1 - v).toNat)
        ⟨by omega, by omega, by simpa [idn] using hlo, hb4⟩ ?_
      rintro lo2 v w5 ⟨hv1, hv, hlo2, hb5⟩
      rw [impl_perms.B9_s]
      refine bif_dec (fun h6 => ?_) (fun h6 => ?_)
      · refine Quiet.call1 (s := .bool) (c_Contains (hr.grow hb5) (by omega) v) ?_
        intro w6 hd6
        have hb6 := hb5.trans (hd6.below _)
        have hstep := idn_take_flat (fun v => if v ∈ p then [] else [p ++ [v]]) hv1
        have e1 : (v + 1 - 1).toNat = v.toNat := by omega
        refine bif_intro (fun h7 => ?_) (fun h7 => ?_)
        · have h7 : v ∉ p := by simpa using h7
          refine (c_Clone (hr.grow hb6) (by omega)).mono ?_
          rintro e w7 ⟨s, rfl, hs, hb67⟩
          refine ⟨s, rfl, ?_⟩
          refine append_int hs hb67.size (by omega) ?_
          intro t w8 ht hg8 _
          have hb68 := hb67.grown hg8 hb67.size (fun g hg => (hs.lt g hg).1)
          have hlo6 := hlo2.heap hd6.heap'
          have := hcnt2 (v - 1).toNat (by omega)
          refine append_new hlo6 hb68 hb6.size ht (by rw [List.length_append]; omega) ?_
          intro lo3 w9 hlo3 hg9 _
          refine ⟨lo3, v + 1, by rw [w64_succ (by omega) (by omega)], ⟨by omega, by omega, ?_, (hb6.trans (hb68.mono hb6.size)).grown hg9 (Nat.le_trans hb6.size hb68.size) (fun g hg => (hlo6.lt g hg).1)⟩, by omega⟩
          rw [e1, hstep, if_neg h7, ← List.append_assoc]
          exact hlo3
        · have h7 : v ∈ p := by simpa using h7
          refine ⟨lo2, v + 1, by rw [w64_succ (by omega) (by omega)], ⟨by omega, by omega, ?_, hb6⟩, by omega⟩
          rw [e1, hstep, if_pos h7, List.append_nil]
          exact hlo2.heap hd6.heap'
      · rw [impl_perms.A9_4_s]
        refine ⟨lo2, i + 1, by rw [w64_succ hi0 (by omega)], ⟨by omega, by omega, ?_, hb5⟩, by omega⟩
        rw [show (v - 1).toNat = n by omega] at hlo2
        rw [show (i + 1).toNat = i.toNat + 1 by omega, List.take_succ_eq_append_getElem hlt, flat_snoc, hpe]
        exact hlo2
    · rw [impl_perms.A6_2_s]
      rw [show i.toNat = (lvl n k.toNat).length by omega, List.take_length] at hlo
      refine ⟨lo, k + 1, by rw [w64_succ hk0 (by omega)], ⟨by omega, by omega, ?_, hb.trans (hb4.mono hb.size)⟩, by omega⟩
      rw [show (k + 1).toNat = k.toNat + 1 by omega, lvl]
      exact hlo.mono hb.size
  · rw [impl_perms.A3_0_s]
    rw [show k.toNat = n by omega] at ho
    exact ⟨out, rfl, ho, hb⟩
theorem c_l2Fill {w0 : World} (n : Nat) (hn : n ≤ 8) : ∀ (m : Nat) (w : World) (hd out : Sl) (rs : List Sl) (h : List Int) (LL : List (List Int)),
    Below w0.heap.size w0 w → OwnRows w w0.heap.size out rs LL → OwnI w w0.heap.size hd h → (∀ t ∈ rs, Apt t hd) → h.length + m = n → LL.length + 8 ^ m ≤ 2^30 →
    Calls PP F.spec_l2Fill #[vI n, hd.v, out.v] w fun e w' => ∃ s : Sl, e = .returned s.v ∧ OwnSS w' w0.heap.size s (LL ++ fillN n m h) ∧ w.grownBy w' out.blk ∧ Next w out s
  | 0, w, hd, out, rs, h, LL, hb, ho, hh, hap, hl, hc => by
    have hdn : hd.n = h.length := by have := hh.n; simpa using this
    refine spec_l2Fill.calls n hd out ?_
    rw [spec_l2Fill.E_s]
    refine bif_t (by simp; omega) ?_
    refine append_sl ho hb.size hh hap (by omega) ?_
    intro s' w' h1 h2 h3
    exact ⟨s', rfl, ⟨_, h1⟩, h2, h3⟩
  | m + 1, w, hd, out, rs, h, LL, hb, ho, hh, hap, hl, hc => by
    have hdn : hd.n = h.length := by have := hh.n; simpa using this
    refine spec_l2Fill.calls n hd out ?_
    rw [spec_l2Fill.E_s]
    refine bif_f (by simp; omega) ?_
    refine spec_l2Fill.L4_rule _ _ _ _ _ _ (I := fun s v w' => 1 ≤ v ∧ v ≤ n + 1 ∧ OwnSS w' w0.heap.size s (LL ++ (idn (v - 1).toNat).flatMap fun v => if v ∈ h then [] else fillN n m (h ++ [v])) ∧ w.grownBy w' out.blk ∧ Next w out s) (μ := fun _ v _ => (n + 1 - v).toNat)
      ⟨by omega, by omega, by simpa [idn] using ⟨rs, ho⟩, grownBy_refl _ _, fun g hg => .inl hg⟩ ?_
    rintro s v w' ⟨hv1, hv, hs, hg, hn2⟩
    have hbw : Below w0.heap.size w0 w' := hb.grown hg hb.size (fun g hg => (ho.out.lt g hg).1)
    have hh' : OwnI w' w0.heap.size hd h := hh.kept hg (fun g hg' e => (ho.out.apt hh (by decide)) g e hg')
    rw [spec_l2Fill.B4_s]
    refine bif_dec (fun h3 => ?_) (fun h3 => ?_)
    · refine Quiet.call1 (s := .bool) (c_l2Has hh'.row (by omega) v) ?_
      intro w1 hd1
      have hb1 : Below w'.heap.size w' w1 := hd1.below _
      obtain ⟨rs', hs⟩ := hs
      have hstep := idn_take_flat (fun v => if v ∈ h then [] else fillN n m (h ++ [v])) hv1
      have e1 : (v + 1 - 1).toNat = v.toNat := by omega
      have hcnt : ((idn (v - 1).toNat).flatMap fun v => if v ∈ h then [] else fillN n m (h ++ [v])).length ≤ 7 * 8 ^ m := by
        refine Nat.le_trans (flatMap_len_le _ _ (8 ^ m) (fun y hy => ?_)) ?_
        · split
          · simp
          · exact Nat.le_trans (fillN_length n m _) (Nat.pow_le_pow_left hn m)
        · rw [idn_length]; exact Nat.mul_le_mul_right _ (by omega)
      have hpow : 8 ^ (m + 1) = 8 * 8 ^ m := by rw [Nat.pow_succ]; omega
      refine bif_intro (fun h5 => ?_) (fun h5 => ?_)
      · have h5 : v ∉ h := by simpa using h5
        refine lit0 oneInt (B := w'.heap.size) hb1.size ?_
        intro t1 w2 ht1 hg1 _
        have hb2 := hb1.grown hg1 hb1.size (by simp)
        refine append_row oneInt ht1 hb2.size (hh'.row.grow hb2) (fun v hv => by obtain ⟨y, _, rfl⟩ := List.mem_map.1 hv; exact One.int y) (by simp; omega) ?_
        intro t2 w3 ht2 hg2 _ _
        have ht2 : OwnI w3 w'.heap.size t2 h := by simpa [OwnI] using ht2
        have hb3 := hb2.grown hg2 hb2.size (fun g hg => (ht1.lt g hg).1)
        refine append_int ht2 hb3.size (by omega) ?_
        intro t3 w4 ht3 hg3 _
        have hb4 := hb3.grown hg3 hb3.size (fun g hg => (ht2.lt g hg).1)
        have hb04 : Below w0.heap.size w0 w4 := hbw.trans (hb4.mono hbw.size)
        have hs4 := hs.grow hb4
        refine (c_l2Fill n hn m w4 t3 s rs' (h ++ [v]) _ hb04 hs4 (ht3.mono hbw.size) (fun t ht => Apt.of_lt (fun g hg => (hs.lt ht hg).2) (fun g hg => (ht3.lt g hg).1)) (by simp; omega) (by rw [List.length_append]; omega)).mono ?_
        rintro e w5 ⟨s5, rfl, hs5, hg5, hn5⟩
        refine ⟨s5, rfl, s5, v + 1, by rw [w64_id (by omega) (by omega)], ⟨by omega, by omega, ?_, ?_, ?_⟩, by omega⟩
        · rw [e1, hstep, if_neg h5, ← List.append_assoc]; exact hs5
        · refine ⟨hg5.os.trans (hb4.os.trans hg.os), hg5.tape.trans (hb4.tape.trans hg.tape), hg5.output.trans (hb4.output.trans hg.output), Nat.le_trans hg.size (Nat.le_trans hb4.size hg5.size), fun k hk hne => ?_⟩
          have hk' : k < w'.heap.size := Nat.lt_of_lt_of_le hk hg.size
          rw [hg5.block k (Nat.lt_of_lt_of_le hk' hb4.size) (fun e => by
            rcases hn2 k e.symm with h6 | h6
            · exact hne h6.symm
            · omega), hb4.block k hk', hg.block k hk hne]
        · intro g hg'
          rcases hn5 g hg' with h6 | h6
          · exact hn2 g h6
          · have := hg.size; have := hb4.size; exact .inr (by omega)
      · have h5 : v ∈ h := by simpa using h5
        refine ⟨s, v + 1, by rw [w64_id (by omega) (by omega)], ⟨by omega, by omega, ?_, ?_, hn2⟩, by omega⟩
        · rw [e1, hstep, if_pos h5, List.append_nil]; exact ⟨rs', hs.grow hb1⟩
        · refine ⟨hb1.os.trans hg.os, hb1.tape.trans hg.tape, hb1.output.trans hg.output, Nat.le_trans hg.size hb1.size, fun k hk hne => ?_⟩
          rw [hb1.block k (Nat.lt_of_lt_of_le hk hg.size), hg.block k hk hne]
    · rw [spec_l2Fill.A4_0_s]
      rw [show (v - 1).toNat = n by omega] at hs
      exact ⟨s, rfl, hs, hg, hn2⟩

def PermsV (n : Int) : List (List Int) := if 0 ≤ n ∧ n ≤ 6 then permsV n.toNat else []
theorem c_PermsOf {w : World} (n : Int) :
    Calls PP F.spec_PermsOf #[vI n] w fun e w' => ∃ s : Sl, e = .returned s.v ∧ OwnSS w' w.heap.size s (PermsV n) ∧ Below w.heap.size w w' := by
  refine spec_PermsOf.calls n ?_
  rw [spec_PermsOf.E_s]
  refine Pure.pcall1 (s := .bool) (c_l1In n 0 6) ?_
  refine bif_intro (fun h => ?_) (fun h => ?_)
  · have h : ¬ (0 ≤ n ∧ n ≤ 6) := by simp at h; omega
    refine lit0 oneSint (B := w.heap.size) (Nat.le_refl _) ?_
    intro s w1 hs hg _
    exact ⟨s, rfl, by rw [PermsV, if_neg h]; exact OwnSS.nil hs, below_of_grow hg⟩
  · have h : 0 ≤ n ∧ n ≤ 6 := by simpa using h
    obtain ⟨m, rfl⟩ : ∃ m : Nat, n = m := ⟨n.toNat, by omega⟩
    refine lit0 oneInt (B := w.heap.size) (Nat.le_refl _) ?_
    intro s w1 hs hg1 _
    have hb1 := below_of_grow hg1
    refine lit0 oneSint (B := w.heap.size) hb1.size ?_
    intro t w2 ht hg2 _
    have hb2 := hb1.grown hg2 hb1.size (by simp)
    have h8 : 8 ^ m ≤ 8 ^ 8 := Nat.pow_le_pow_right (by omega) (by omega)
    refine (c_l2Fill m (by omega) m w2 s t [] [] [] hb2 (OwnRows.nil ht) (hs.kept hg2 (by simp)) (fun t ht => by simp at ht) (by simp) (by simp only [List.length_nil]; omega)).mono ?_
    rintro e w3 ⟨u, rfl, hu, hg3, _⟩
    refine ⟨u, rfl, u, rfl, ?_, hb2.grown hg3 hb2.size (fun g hg => (ht.lt g hg).1)⟩
    rw [PermsV, if_pos h, Int.toNat_natCast, ← fillN_permsV]
    exact hu
end Go.Proofs.Ytmhgjfahgemblaa
