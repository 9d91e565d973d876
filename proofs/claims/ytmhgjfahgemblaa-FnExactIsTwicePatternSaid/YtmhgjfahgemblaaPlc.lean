/- Places, patterns and occurrences: the program's text. -/
import Derived.Test.YtmhgjfahgemblaaCodePl
import Derived.Test.YtmhgjfahgemblaaPlMath
import Derived.Test.YtmhgjfahgemblaaPerms
import Derived.Test.YtmhgjfahgemblaaEq
import Derived.Test.YtmhgjfahgemblaaFnVal
import Derived.Test.YtmhgjfahgemblaaFoot
import Derived.Test.YtmhgjfahgemblaaPermMath
namespace Go.Proofs.Ytmhgjfahgemblaa
open Go Go.RowKit
set_option maxRecDepth 100000

theorem seqI_take {a i : Int} (h : a ≤ i) : seqI a (i + 1 - a).toNat = seqI a (i - a).toNat ++ [i] := by
  rw [show (i + 1 - a).toNat = (i - a).toNat + 1 by omega, seqI_succ, show a + ((i - a).toNat : Int) = i by omega]
theorem c_places {w : World} (n k0 : Nat) (hn : n ≤ 8) (hk0 : k0 ≤ 8) :
    Calls PP F.impl_places #[vI n, vI k0] w fun e w' => ∃ s : Sl, e = .returned s.v ∧ OwnSS w' w.heap.size s (plN n k0) ∧ Below w.heap.size w w' := by
  refine impl_places.calls n k0 ?_
  rw [impl_places.E_s]
  refine lit0 oneInt (B := w.heap.size) (Nat.le_refl _) ?_
  intro s0 w1 h0 hg1 hc1
  have hb1 := below_of_grow hg1
  refine lit1 oneSint (B := w.heap.size) hb1.size (One.sl s0) ?_
  intro t0 w2 ht0 hg2 hn2
  have hb2 := hb1.grown hg2 hb1.size (by simp)
  have hst : OwnSS w2 w.heap.size t0 (plN n 0) := by
    refine ⟨[s0], ht0, rfl, fun i r L e1 e2 => ?_, fun i j r t hij e1 e2 => ?_⟩
    · cases i with
      | zero => simp [plN] at e1 e2; subst e1 e2; exact h0.kept hg2 (fun _ _ => by simp)
      | succ i => simp at e1
    · cases i with
      | zero => cases j with
        | zero => exact absurd rfl hij
        | succ j => simp at e2
      | succ i => simp at e1
  have h88 : ∀ k, k ≤ 8 → (plN n k).length ≤ 8 ^ 8 := fun k hk =>
    Nat.le_trans (plN_len n k) (Nat.le_trans (Nat.pow_le_pow_left hn k) (Nat.pow_le_pow_right (by omega) hk))
  refine impl_places.L3_rule _ _ _ _ _ _ (I := fun out k w' => 0 ≤ k ∧ k ≤ k0 ∧ OwnSS w' w.heap.size out (plN n k.toNat) ∧ Below w.heap.size w w') (μ := fun _ k _ => (k0 - k).toNat) ⟨by omega, by omega, hst, hb2⟩ ?_
  rintro out k w' ⟨hk0', hk, ho, hb⟩
  rw [impl_places.B3_s]
  refine bif_dec (fun h3 => ?_) (fun h3 => ?_)
  · refine lit0 oneSint (B := w'.heap.size) (Nat.le_refl _) ?_
    intro l0 w3 hl0 hg3 _
    have hb3 := below_of_grow hg3
    have hon := ho.row.n
    have hkn := h88 k.toNat (by omega)
    rw [hon]
    refine impl_places.L6_rule _ _ _ _ _ _ _ _ _ (I := fun lo i w4 => 0 ≤ i ∧ i ≤ (plN n k.toNat).length ∧ OwnSS w4 w'.heap.size lo (((plN n k.toNat).take i.toNat).flatMap (plExt n)) ∧ Below w'.heap.size w' w4) (μ := fun _ i _ => ((plN n k.toNat).length - i).toNat)
      ⟨by omega, by omega, OwnSS.nil hl0, hb3⟩ ?_
    rintro lo i w4 ⟨hi0, hi, hlo, hb4⟩
    rw [impl_places.B6_s]
    refine bif_dec (fun h5 => ?_) (fun h5 => ?_)
    · have hlt : i.toNat < (plN n k.toNat).length := by omega
      refine RowSS.getB ho.row hb4 hi0 (by omega) fun r hr => ?_
      rw [getD_SS hlt] at hr
      have hmem := List.getElem_mem hlt
      generalize hpe : (plN n k.toNat)[i.toNat] = p at hr hmem
      obtain ⟨hplen, hpb⟩ := plN_facts n k.toNat p hmem
      have hlb := lastD_bd hpb
      have hrn : r.n = p.length := by have := hr.n; simpa using this
      have hcnt : (((plN n k.toNat).take i.toNat).flatMap (plExt n)).length ≤ 8 ^ 8 * 8 := by
        refine Nat.le_trans (length_flatMap_le _ _ 8 (fun x hx => Nat.le_trans (plExt_len (plN_facts n k.toNat x (List.mem_of_mem_take hx)).2) hn)) (Nat.mul_le_mul_right _ ?_)
        rw [List.length_take]; omega
      -- behind the choice of the first place
      have fin : impl_places.J11 std n lo r (lastD p + 1) k0 k out (plN n k.toNat).length i w4 (fun e2 w2 => ∃ lo_n i_n, e2 = impl_places.emb6 n lo_n k0 k out (plN n k.toNat).length i_n ∧ (0 ≤ i_n ∧ i_n ≤ (plN n k.toNat).length ∧ OwnSS w2 w'.heap.size lo_n (((plN n k.toNat).take i_n.toNat).flatMap (plExt n)) ∧ Below w'.heap.size w' w2) ∧ (((plN n k.toNat).length : Int) - i_n).toNat < (((plN n k.toNat).length : Int) - i).toNat) (impl_places.q11 std (fun e2 w2 => ∃ out_n k_n, e2 = impl_places.emb3 n out_n k0 k_n ∧ (0 ≤ k_n ∧ k_n ≤ k0 ∧ OwnSS w2 w.heap.size out_n (plN n k_n.toNat) ∧ Below w.heap.size w w2) ∧ ((k0 : Int) - k_n).toNat < ((k0 : Int) - k).toNat) (impl_places.q5 std fun e w' => ∃ s : Sl, e = .returned s.v ∧ OwnSS w' w.heap.size s (plN n k0) ∧ Below w.heap.size w w')) := by
        rw [impl_places.J11_s]
        refine impl_places.L12_rule _ _ _ _ _ _ _ _ _ _ _ (I := fun lo2 x w5 => lastD p + 1 ≤ x ∧ x ≤ n + 1 ∧ OwnSS w5 w'.heap.size lo2 (((plN n k.toNat).take i.toNat).flatMap (plExt n) ++ (seqI (lastD p + 1) (x - (lastD p + 1)).toNat).map fun x => p ++ [x]) ∧ Below w'.heap.size w' w5) (μ := fun _ x _ => (n + 1 - x).toNat)
          ⟨by omega, by omega, by simpa [seqI] using hlo, hb4⟩ ?_
        rintro lo2 x w5 ⟨hx1, hx, hlo2, hb5⟩
        rw [impl_places.B12_s]
        refine bif_dec (fun h6 => ?_) (fun h6 => ?_)
        · refine (c_Clone (hr.grow hb5) (by omega)).mono ?_
          rintro e w7 ⟨s, rfl, hs, hb67⟩
          refine ⟨s, rfl, ?_⟩
          refine append_int hs hb67.size (by omega) ?_
          intro t w8 ht hg8 _
          have hb68 := hb67.grown hg8 hb67.size (fun g hg => (hs.lt g hg).1)
          refine append_new hlo2 hb68 hb5.size ht (by rw [List.length_append, List.length_map, seqI_length]; omega) ?_
          intro lo3 w9 hlo3 hg9 _
          refine ⟨lo3, x + 1, by rw [w64_succ (by omega) (by omega)], ⟨by omega, by omega, ?_, (hb5.trans (hb68.mono hb5.size)).grown hg9 (Nat.le_trans hb5.size hb68.size) (fun g hg => (hlo2.lt g hg).1)⟩, by omega⟩
          rw [seqI_take hx1, List.map_append, ← List.append_assoc]
          exact hlo3
        · rw [impl_places.A12_4_s]
          refine ⟨lo2, i + 1, by rw [w64_succ hi0 (by omega)], ⟨by omega, by omega, ?_, hb5⟩, by omega⟩
          rw [show (x - (lastD p + 1)).toNat = ((n : Int) - lastD p).toNat by omega] at hlo2
          rw [show (i + 1).toNat = i.toNat + 1 by omega, List.take_succ_eq_append_getElem hlt, flat_snoc, hpe]
          exact hlo2
      rw [hrn]
      refine bif_dec (fun h6 => ?_) (fun h6 => ?_)
      · rw [w64_id (by omega) (by omega)]
        refine RowI.get (hr.grow hb4) (by omega) (by omega) ?_
        rw [show ((p.length : Int) - 1).toNat = p.length - 1 by omega, show p.getD (p.length - 1) 0 = lastD p from rfl, w64_succ (by omega) (by omega)]
        exact fin
      · have : p = [] := List.eq_nil_of_length_eq_zero (by omega)
        subst this
        rw [lastD_nil] at fin
        exact fin
    · rw [impl_places.A6_2_s]
      rw [show i.toNat = (plN n k.toNat).length by omega, List.take_length] at hlo
      refine ⟨lo, k + 1, by rw [w64_succ hk0' (by omega)], ⟨by omega, by omega, ?_, hb.trans (hb4.mono hb.size)⟩, by omega⟩
      rw [show (k + 1).toNat = k.toNat + 1 by omega, plN]
      exact hlo.mono hb.size
  · rw [impl_places.A3_0_s]
    rw [show k.toNat = k0 by omega] at ho
    exact ⟨out, rfl, ho, hb⟩
theorem c_pattern {w : World} {a : Sl} {L : List Int} (ha : RowI w a L) (hL : L.length < 2^30) :
    Calls PP F.impl_pattern #[a.v] w fun e w' => ∃ s : Sl, e = .returned s.v ∧ OwnI w' w.heap.size s (patV L) ∧ Below w.heap.size w w' := by
  have han : a.n = L.length := by have := ha.n; simpa using this
  refine impl_pattern.calls a ?_
  rw [impl_pattern.E_s]
  refine lit0 oneInt (B := w.heap.size) (Nat.le_refl _) ?_
  intro s0 w1 hs0 hg1 _
  have hb1 := below_of_grow hg1
  rw [han]
  refine impl_pattern.L3_rule _ _ _ _ _ _ _ (I := fun s k w' => 0 ≤ k ∧ k ≤ L.length ∧ OwnI w' w.heap.size s (tab k.toNat fun j => 1 + lessN L (L.getD j 0) L.length) ∧ Below w.heap.size w w') (μ := fun _ k _ => (L.length - k).toNat)
    ⟨by omega, by omega, by simpa [tab, OwnI] using hs0, hb1⟩ ?_
  rintro s k w2 ⟨hk0, hk, hs, hb⟩
  rw [impl_pattern.B3_s]
  refine bif_dec (fun h3 => ?_) (fun h3 => ?_)
  · refine RowI.get (ha.grow hb) hk0 (by omega) ?_
    rw [han]
    refine impl_pattern.L7_rule _ _ _ _ _ _ _ _ _ _ _ _ (I := fun v i w' => w' = w2 ∧ 0 ≤ i ∧ i ≤ L.length ∧ v = 1 + lessN L (L.getD k.toNat 0) i.toNat) (μ := fun _ i _ => (L.length - i).toNat) ⟨rfl, by omega, by omega, by simp [lessN]⟩ ?_
    rintro v i w3 ⟨rfl, hi0, hi, rfl⟩
    have hlb := lessN_bd L (L.getD k.toNat 0) i.toNat
    rw [impl_pattern.B7_s]
    refine bif_dec (fun h4 => ?_) (fun h4 => ?_)
    · refine RowI.get (ha.grow hb) hi0 (by omega) ?_
      refine bif_dec (fun h5 => ?_) (fun h5 => ?_)
      · refine ⟨_, i + 1, by rw [w64_succ hi0 (by omega), w64_id (by omega) (by omega)], ⟨rfl, by omega, by omega, ?_⟩, by omega⟩
        rw [show (i + 1).toNat = i.toNat + 1 by omega, lessN, if_pos h5]; omega
      · refine ⟨_, i + 1, by rw [w64_succ hi0 (by omega)], ⟨rfl, by omega, by omega, ?_⟩, by omega⟩
        rw [show (i + 1).toNat = i.toNat + 1 by omega, lessN, if_neg h5]; omega
    · rw [impl_pattern.A7_2_s]
      refine append_int hs hb.size (by rw [tab_length]; omega) ?_
      intro s' w4 hs' hg4 _
      refine ⟨s', k + 1, by rw [w64_succ hk0 (by omega)], ⟨by omega, by omega, ?_, hb.grown hg4 hb.size (fun g hg => (hs.lt g hg).1)⟩, by omega⟩
      rw [show (k + 1).toNat = k.toNat + 1 by omega, tab_succ]
      rw [show i.toNat = L.length by omega] at hs'
      exact hs'
  · rw [impl_pattern.A3_0_s]
    rw [show k.toNat = L.length by omega] at hs
    exact ⟨s, rfl, hs, hb⟩
theorem c_isOccurrence {w : World} {p q l : Sl} {P Q L : List Int} (hp : RowI w p P) (hq : RowI w q Q) (hl : RowI w l L) (hP : P.length ≤ 8) (hL : L.length ≤ 8) (hin : ∀ x ∈ L, 1 ≤ x ∧ x ≤ (P.length : Int)) :
    Calls PP F.impl_isOccurrence #[p.v, q.v, l.v] w fun e w' => e = .returned (.bool (decide (patV (atV P L) = Q))) ∧ Below w.heap.size w w' := by
  have hln : l.n = L.length := by have := hl.n; simpa using this
  refine impl_isOccurrence.calls p q l ?_
  rw [impl_isOccurrence.E_s]
  refine lit0 oneInt (B := w.heap.size) (Nat.le_refl _) ?_
  intro s0 w1 hs0 hg1 _
  have hb1 := below_of_grow hg1
  rw [hln]
  refine impl_isOccurrence.L3_rule _ _ _ _ _ _ _ _ (I := fun s k w' => 0 ≤ k ∧ k ≤ L.length ∧ OwnI w' w.heap.size s (atV P (L.take k.toNat)) ∧ Below w.heap.size w w') (μ := fun _ k _ => (L.length - k).toNat)
    ⟨by omega, by omega, by simpa [atV, OwnI] using hs0, hb1⟩ ?_
  rintro s k w2 ⟨hk0, hk, hs, hb⟩
  rw [impl_isOccurrence.B3_s]
  refine bif_dec (fun h3 => ?_) (fun h3 => ?_)
  · have hlt : k.toNat < L.length := by omega
    have hx := hin _ (List.getElem_mem hlt)
    refine RowI.get (hl.grow hb) hk0 (by omega) ?_
    rw [getD_lt hlt, w64_id (by omega) (by omega)]
    refine RowI.get (hp.grow hb) (by omega) (by omega) ?_
    refine append_int hs hb.size (by simp [atV]; omega) ?_
    intro s' w4 hs' hg4 _
    refine ⟨s', k + 1, by rw [w64_succ hk0 (by omega)], ⟨by omega, by omega, ?_, hb.grown hg4 hb.size (fun g hg => (hs.lt g hg).1)⟩, by omega⟩
    rw [show (k + 1).toNat = k.toNat + 1 by omega, List.take_succ_eq_append_getElem hlt, atV, List.map_append]
    exact hs'
  · rw [impl_isOccurrence.A3_0_s]
    rw [show k.toNat = L.length by omega, List.take_length] at hs
    refine (c_pattern hs.row (by simp [atV]; omega)).mono ?_
    rintro e w3 ⟨t, rfl, ht, hb3⟩
    refine ⟨t, rfl, ?_⟩
    have hb03 := hb.trans (hb3.mono hb.size)
    refine Quiet.call1 (s := .bool) (c_Equal ht.row (hq.grow hb03) (by simp [patV, tab_length, atV]; omega)) ?_
    intro w4 hd4
    exact ⟨rfl, hb03.trans (hd4.below _)⟩
theorem c_occurrences {w : World} {p q : Sl} {P Q : List Int} (hp : RowI w p P) (hq : RowI w q Q) (hP : P.length ≤ 8) (hQ : Q.length ≤ 8) :
    Calls PP F.impl_occurrences #[p.v, q.v] w fun e w' => ∃ s : Sl, e = .returned s.v ∧ RowSS w' s (occV P Q) ∧ Below w.heap.size w w' := by
  have hpn : p.n = P.length := by have := hp.n; simpa using this
  have hqn : q.n = Q.length := by have := hq.n; simpa using this
  refine impl_occurrences.calls p q ?_
  rw [impl_occurrences.E_s]
  refine lit0 oneSint (B := w.heap.size) (Nat.le_refl _) ?_
  intro s0 w1 hs0 hg1 hc1
  have hb1 := below_of_grow hg1
  rw [hpn, hqn]
  refine (c_places P.length Q.length hP hQ).mono ?_
  rintro e w2 ⟨all, rfl, ⟨ra, hall⟩, hb2⟩
  refine ⟨all, rfl, ?_⟩
  have hb02 := hb1.trans (hb2.mono hb1.size)
  have hn := hall.n
  have h88 : (plN P.length Q.length).length ≤ 8 ^ 8 := Nat.le_trans (plN_len _ _) (Nat.le_trans (Nat.pow_le_pow_left hP _) (Nat.pow_le_pow_right (by omega) hQ))
  show impl_occurrences.L3 std p q s0 all (all.n : Int) 0 w2 _
  rw [hn]
  refine impl_occurrences.L3_rule _ _ _ _ _ _ _ _ (I := fun s k w' => 0 ≤ k ∧ k ≤ (plN P.length Q.length).length ∧ Below w.heap.size w w' ∧ OwnRows w' w.heap.size all ra (plN P.length Q.length) ∧ ∃ rs, OwnRows w' w.heap.size s rs (((plN P.length Q.length).take k.toNat).filter fun l => decide (patV (atV P l) = Q)) ∧ (∀ g, s.blk = some g → ¬ foot all ra g) ∧ (∀ r ∈ rs, ∃ j, j < k.toNat ∧ ra[j]? = some r)) (μ := fun _ k _ => ((plN P.length Q.length).length - k).toNat)
    ⟨by omega, by omega, hb02, hall.mono hb1.size, [], (OwnRows.nil hs0).grow hb2, fun g hg => by simp [Sl.blk, hc1] at hg, fun r hr => by cases hr⟩ ?_
  rintro s k w3 ⟨hk0, hk, hb3, hA, rs, hs, hd, hin⟩
  rw [impl_occurrences.B3_s]
  refine bif_dec (fun h3 => ?_) (fun h3 => ?_)
  · have hlt : k.toNat < (plN P.length Q.length).length := by omega
    obtain ⟨hl1, hl2⟩ := plN_facts P.length Q.length _ (List.getElem_mem hlt)
    refine hA.load hk0 (by omega) fun r hr hro => ?_
    rw [getD_SS hlt] at hro
    refine (c_isOccurrence (hp.grow hb3) (hq.grow hb3) hro.row hP (by omega) hl2).mono ?_
    rintro e w4 ⟨rfl, hb4⟩
    refine ⟨_, rfl, ?_⟩
    have hb04 := hb3.trans (hb4.mono hb3.size)
    have hA4 := hA.grow hb4
    have hs4 := hs.grow hb4
    have hro4 := Own.grow hro hb4
    have ek : (k + 1).toNat = k.toNat + 1 := by omega
    refine bif_intro (fun h5 => ?_) (fun h5 => ?_)
    · have h5' : patV (atV P (plN P.length Q.length)[k.toNat]) = Q := by simpa using h5
      refine append_sl hs4 hb04.size hro4 (fun t ht => ?_) ?_ ?_
      · obtain ⟨j, hj, hjr⟩ := hin t ht
        exact hA.apt j k.toNat t r (by omega) hjr hr
      · have := List.length_filter_le (fun l => decide (patV (atV P l) = Q)) ((plN P.length Q.length).take k.toNat)
        rw [List.length_take] at this; omega
      intro s' w5 hs' hg5 hn5
      have k5 := keeps_grown hg5
      have hA5 := hA4.keepsF k5 fun x h6 h7 => hd x h7 h6
      refine ⟨s', k + 1, by rw [w64_succ hk0 (by omega)], ⟨by omega, by omega, hb04.grown hg5 hb04.size (fun g hg => (hs4.out.lt g hg).1), hA5, rs ++ [r], ?_, fun g hg hf => ?_, fun t ht => ?_⟩, by omega⟩
      · rw [ek, List.take_succ_eq_append_getElem hlt, List.filter_append]
        simpa [h5'] using hs'
      · rcases hn5 g hg with h6 | h6
        · exact hd g h6 hf
        · have := (hA4.footLt hf).2; omega
      · rcases List.mem_append.1 ht with ht | ht
        · obtain ⟨j, hj, hjr⟩ := hin t ht; exact ⟨j, by omega, hjr⟩
        · simp at ht; subst ht; exact ⟨k.toNat, by omega, hr⟩
    · have h5' : ¬ patV (atV P (plN P.length Q.length)[k.toNat]) = Q := by simpa using h5
      refine ⟨s, k + 1, by rw [w64_succ hk0 (by omega)], ⟨by omega, by omega, hb04, hA4, rs, ?_, hd, fun t ht => ?_⟩, by omega⟩
      · rw [ek, List.take_succ_eq_append_getElem hlt, List.filter_append]
        simpa [h5'] using hs4
      · obtain ⟨j, hj, hjr⟩ := hin t ht; exact ⟨j, by omega, hjr⟩
  · rw [impl_occurrences.A3_0_s]
    rw [show k.toNat = (plN P.length Q.length).length by omega, List.take_length] at hs
    exact ⟨s, rfl, hs.row, hb3⟩
end Go.Proofs.Ytmhgjfahgemblaa
