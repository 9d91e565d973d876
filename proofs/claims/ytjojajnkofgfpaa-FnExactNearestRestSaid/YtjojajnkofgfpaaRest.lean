/- DescendingRest and NearestRest: both texts. -/
import Derived.Test.YtjojajnkofgfpaaCodeRe
import Derived.Test.YtjojajnkofgfpaaRestMath
import Derived.Test.YtjojajnkofgfpaaDel
import Derived.Test.YtjojajnkofgfpaaClo
import Derived.Test.YtjojajnkofgfpaaFuI
namespace Go.Proofs.Ytjojajnkofgfpaa
open Go Go.RowKit
set_option maxRecDepth 100000

theorem has_low {L : List Int} {k : Nat} (hk : k < L.length) : decide ((k : Int) + 1 ∈ lowsT L L.length) = isLow L k := by
  have h := mem_lowsT (L := L) (k := L.length) (x := (k : Int) + 1)
  rw [show ((k : Int) + 1 - 1).toNat = k by omega] at h
  cases hl : isLow L k
  · exact decide_eq_false fun hh => by have := (h.1 hh).2.2; rw [hl] at this; cases this
  · exact decide_eq_true (h.2 ⟨by omega, by omega, hl⟩)
theorem erase_eq (l : List Int) (i : Nat) : l.eraseIdx i = l.take i ++ l.drop (i + 1) := List.eraseIdx_eq_take_drop_succ l i
theorem c_l17Rest {w : World} {a : Sl} {L : List Int} (ha : RowI w a L) (hP : IsP L) :
    Calls PP F.spec_l17Rest #[a.v] w fun e w' => ∃ s : Sl, e = .returned s.v ∧ OwnI w' w.heap.size s (sortI (nonL L L.length)) ∧ Below w.heap.size w w' := by
  have han : a.n = L.length := by have := ha.n; simpa using this
  have h8 := hP.1
  refine spec_l17Rest.calls a ?_
  rw [spec_l17Rest.E_s]
  refine (c_specLowsOf ha (by omega)).mono ?_
  rintro e w1 ⟨lo, rfl, hlo, hb1⟩
  refine ⟨lo, rfl, ?_⟩
  rw [LowsV, if_pos hP] at hlo
  refine lit0 oneInt (B := w1.heap.size) (Nat.le_refl _) ?_
  intro o w2 ho hg2 _
  have hb12 := below_of_grow hg2
  have hlor := hlo.row
  have hll := lowsT_length L L.length
  refine spec_l17Rest.L4_rule _ _ _ _ _ _ (I := fun o k w' => 0 ≤ k ∧ k ≤ L.length ∧ Below w1.heap.size w1 w' ∧ OwnI w' w1.heap.size o (nonL L k.toNat)) (μ := fun _ k _ => (L.length - k).toNat)
    ⟨by omega, by omega, hb12, ho⟩ ?_
  rintro o k w' ⟨hk0, hk, hb, ho⟩
  have hbw := hb1.trans (hb.mono hb1.size)
  rw [spec_l17Rest.B4_s, han]
  refine bif_dec (fun h3 => ?_) (fun h3 => ?_)
  · obtain ⟨k, rfl⟩ : ∃ m : Nat, k = m := ⟨k.toNat, by omega⟩
    have hlt : k < L.length := by omega
    rw [Int.toNat_natCast] at ho
    have hnl := nonL_len L k
    rw [w64_succ hk0 (by omega)]
    refine Quiet.call1 (s := .bool) (c_l2Has (hlor.grow hb) (by omega) _) ?_
    intro w3 hd
    have hb3 := hb.trans ((hd.below _).mono hb.size)
    have hbw3 := hb1.trans (hb3.mono hb1.size)
    have ho3 := ho.heap hd.heap'
    rw [has_low hlt]
    have ek : ((k : Int) + 1).toNat = k + 1 := by omega
    refine bif_intro (fun h4 => ?_) (fun h4 => ?_)
    · have h4 : isLow L k = false := by simpa using h4
      refine RowI.get (ha.grow hbw3) hk0 (by omega) ?_
      rw [Int.toNat_natCast]
      refine append_int ho3 hb3.size (by omega) ?_
      intro o' w4 ho4 hg4 _
      refine ⟨o', (k : Int) + 1, rfl, ⟨by omega, by omega, hb3.grown hg4 hb3.size (fun g hg => (ho3.lt g hg).1), ?_⟩, by omega⟩
      rw [ek, nonL, if_neg (by rw [h4]; simp)]; exact ho4
    · have h4 : isLow L k = true := by simpa using h4
      refine ⟨o, (k : Int) + 1, rfl, ⟨by omega, by omega, hb3, ?_⟩, by omega⟩
      rw [ek, nonL, if_pos h4]; exact ho3
  · rw [spec_l17Rest.A4_0_s]
    rw [show k.toNat = L.length by omega] at ho
    have hnl := nonL_len L L.length
    refine (c_l15Sort ho.row (by omega)).mono ?_
    rintro e w3 ⟨s, rfl, hs, hb3⟩
    exact ⟨s, rfl, s, rfl, hs.mono hbw.size, hbw.trans (hb3.mono hbw.size)⟩
open Classical in
noncomputable def RestV (pk : List Int → Int → Nat) (L : List Int) : List Int := if IsP L then stO pk L L.length else []
theorem RestV_len (pk : List Int → Int → Nat) (L : List Int) : (RestV pk L).length < 2^38 := by
  unfold RestV
  split
  · rename_i h; rw [stO_length]; have := h.1; omega
  · simp
theorem stR_len8 {pk : List Int → Int → Nat} {L : List Int} (hP : IsP L) (hok : PkOk pk L) {k : Nat} (hk : k ≤ L.length) : (stR pk L k).length ≤ 8 := by
  have h1 := stR_len (pk := pk) (L := L) k (fun j hj => hok j (by omega))
  have h2 := nonL_len L L.length
  have := hP.1
  omega
open Classical in
theorem c_specDescendingRest {w : World} {a : Sl} {L : List Int} (ha : RowI w a L) (hL : L.length < 2^38) :
    Calls PP F.spec_DescendingRest #[a.v] w fun e w' => ∃ s : Sl, e = .returned (.tuple #[s.v, .bool (decide (IsP L))]) ∧ RowI w' s (RestV pkD L) ∧ Below w.heap.size w w' := by
  have han : a.n = L.length := by have := ha.n; simpa using this
  refine spec_DescendingRest.calls a ?_
  rw [spec_DescendingRest.E_s]
  refine Quiet.call1 (s := .bool) (c_specIsPerm ha hL) ?_
  intro w1 hd1
  have hb1 := hd1.below w.heap.size
  refine bif_intro (fun h => ?_) (fun h => ?_)
  · have h : ¬ IsP L := by simpa using h
    refine lit0 oneInt (B := w.heap.size) hb1.size ?_
    intro o w2 ho hg2 _
    exact ⟨o, by rw [decide_eq_false h], by rw [RestV, if_neg h]; exact ho.row, hb1.grown hg2 hb1.size (by simp)⟩
  have hP : IsP L := by simpa using h
  have h8 := hP.1
  have hok := pkOk_D L
  have hV : RestV pkD L = stO pkD L L.length := by rw [RestV, if_pos hP]
  rw [hV, decide_eq_true hP]
  refine (c_specLowsOf (ha.grow hb1) hL).mono ?_
  rintro e w2 ⟨lo, rfl, hlo, hb12⟩
  refine ⟨lo, rfl, ?_⟩
  rw [LowsV, if_pos hP] at hlo
  have hll := lowsT_length L L.length
  have hb2 := hb1.trans (hb12.mono hb1.size)
  refine (c_l17Rest (ha.grow hb2) hP).mono ?_
  rintro e w3 ⟨re, rfl, hre, hb23⟩
  refine ⟨re, rfl, ?_⟩
  have hb3 := hb2.trans (hb23.mono hb2.size)
  have hlo3 := (hlo.grow hb23).row
  refine lit0 oneInt (B := w3.heap.size) (Nat.le_refl _) ?_
  intro o w4 ho hg4 _
  have hb34 := below_of_grow hg4
  refine spec_DescendingRest.L7_rule _ _ _ _ _ _ _ (I := fun re o k w' => 0 ≤ k ∧ k ≤ L.length ∧ Below w3.heap.size w3 w' ∧ OwnI w' w2.heap.size re (stR pkD L k.toNat) ∧ (∀ g, re.blk = some g → g < w3.heap.size) ∧ OwnI w' w3.heap.size o (stO pkD L k.toNat)) (μ := fun _ _ k _ => (L.length - k).toNat)
    ⟨by omega, by omega, hb34, hre.grow hb34, fun g hg => (hre.lt g hg).2, ho⟩ ?_
  rintro re o k w5 ⟨hk0, hk, hb, hre, hreC, ho⟩
  rw [spec_DescendingRest.B7_s, han]
  refine bif_dec (fun h3 => ?_) (fun h3 => ?_)
  · obtain ⟨k, rfl⟩ : ∃ m : Nat, k = m := ⟨k.toNat, by omega⟩
    have hlt : k < L.length := by omega
    rw [Int.toNat_natCast] at ho hre
    have ek : ((k : Int) + 1).toNat = k + 1 := by omega
    rw [w64_succ hk0 (by omega)]
    refine Quiet.call1 (s := .bool) (c_l2Has (hlo3.grow hb) (by omega) _) ?_
    intro w6 hd
    have hb6 := hb.trans ((hd.below _).mono hb.size)
    have hbw6 := hb3.trans (hb6.mono hb3.size)
    have ho6 := ho.heap hd.heap'
    have hre6 := hre.heap hd.heap'
    rw [has_low hlt]
    have hol := stO_length pkD L k
    refine bif_intro (fun h4 => ?_) (fun h4 => ?_)
    · refine RowI.get (ha.grow hbw6) hk0 (by omega) ?_
      rw [Int.toNat_natCast]
      refine append_int ho6 hb6.size (by omega) ?_
      intro o' w7 ho7 hg7 _
      refine ⟨re, o', (k : Int) + 1, rfl, ⟨by omega, by omega, hb6.grown hg7 hb6.size (fun g hg => (ho6.lt g hg).1), ?_, hreC, ?_⟩, by omega⟩
      · rw [ek, stR, if_pos h4]
        exact Own.keeps hre6 (keeps_grown hg7) (fun g hg hg2 => by have := hreC g hg; have := (ho6.lt g hg2).1; omega)
      · rw [ek, stO, if_pos h4]; exact ho7
    · have hp := hok k hlt h4
      have hrn : re.n = (stR pkD L k).length := by have := hre6.n; simpa using this
      have hr8 := stR_len8 hP hok (k := k) (by omega)
      have hpv : pkD (stR pkD L k) (lastLow L k) = (stR pkD L k).length - 1 := rfl
      rw [hrn]
      have e1 : w64 (((stR pkD L k).length : Int) - 1) = (((stR pkD L k).length - 1 : Nat) : Int) := by rw [w64_id (by omega) (by omega)]; omega
      rw [e1]
      refine RowI.get (Own.row hre6) (by omega) (by omega) ?_
      rw [Int.toNat_natCast]
      refine append_int ho6 hb6.size (by omega) ?_
      intro o' w7 ho7 hg7 _
      have hre7 : OwnI w7 w2.heap.size re (stR pkD L k) := Own.keeps hre6 (keeps_grown hg7) (fun g hg hg2 => by have := hreC g hg; have := (ho6.lt g hg2).1; omega)
      refine Own.pop hre7 (by omega) (by rw [List.length_map]; omega) fun re' hre' hblk => ?_
      refine ⟨re', o', (k : Int) + 1, rfl, ⟨by omega, by omega, hb6.grown hg7 hb6.size (fun g hg => (ho6.lt g hg).1), ?_, fun g hg => hreC g (by rw [← hblk]; exact hg), ?_⟩, by omega⟩
      · rw [ek, stR, if_neg (by rw [h4]; simp), hpv, erase_eq, List.drop_of_length_le (by omega), List.append_nil]
        rw [← List.map_take, Int.toNat_natCast] at hre'
        exact hre'
      · rw [ek, stO, if_neg (by rw [h4]; simp), hpv]; exact ho7
  · rw [spec_DescendingRest.A7_0_s]
    rw [show k.toNat = L.length by omega] at ho
    exact ⟨o, rfl, ho.row, hb3.trans (hb.mono hb3.size)⟩
theorem rowI_cut_to {w : World} {r : Sl} {L : List Int} (h : RowI w r L) {i : Nat} (hi : i ≤ L.length) {K : Sl → Prop} (hK : ∀ t, RowI w t (L.take i) → K t) : cutK 1 r none (some (i : Int)) K := by
  have hn : r.n = L.length := by have := h.n; simpa using this
  refine Row.cut h (by simp) (by simp <;> omega) (by simp <;> omega) fun t ht => hK t ?_
  have e2 : (List.take ((some (i : Int)).getD (r.n : Int)).toNat (L.map vI)).drop ((none : Option Int).getD 0).toNat = (L.take i).map vI := by simp
  rw [e2] at ht
  exact ht
theorem rowI_cut_from {w : World} {r : Sl} {L : List Int} (h : RowI w r L) {i : Nat} (hi : i ≤ L.length) {K : Sl → Prop} (hK : ∀ t, RowI w t (L.drop i) → K t) : cutK 1 r (some (i : Int)) none K := by
  have hn : r.n = L.length := by have := h.n; simpa using this
  refine Row.cut h (by simp) (by simp <;> omega) (by simp <;> omega) fun t ht => hK t ?_
  have e2 : (List.take ((none : Option Int).getD (r.n : Int)).toNat (L.map vI)).drop ((some (i : Int)).getD 0).toNat = (L.drop i).map vI := by
    rw [hn]; simp [List.map_drop, List.take_of_length_le]
  rw [e2] at ht
  exact ht
theorem vI_one {L : List Int} : ∀ v ∈ L.map vI, One v := fun v hv => by obtain ⟨x, _, rfl⟩ := List.mem_map.1 hv; exact One.int x
open Classical in
theorem c_specNearestRest {w : World} {a : Sl} {L : List Int} (ha : RowI w a L) (hL : L.length < 2^38) :
    Calls PP F.spec_NearestRest #[a.v] w fun e w' => ∃ s : Sl, e = .returned (.tuple #[s.v, .bool (decide (IsP L))]) ∧ RowI w' s (RestV pkN L) ∧ Below w.heap.size w w' := by
  have han : a.n = L.length := by have := ha.n; simpa using this
  refine spec_NearestRest.calls a ?_
  rw [spec_NearestRest.E_s]
  refine Quiet.call1 (s := .bool) (c_specIsPerm ha hL) ?_
  intro w1 hd1
  have hb1 := hd1.below w.heap.size
  refine bif_intro (fun h => ?_) (fun h => ?_)
  · have h : ¬ IsP L := by simpa using h
    refine lit0 oneInt (B := w.heap.size) hb1.size ?_
    intro o w2 ho hg2 _
    exact ⟨o, by rw [decide_eq_false h], by rw [RestV, if_neg h]; exact ho.row, hb1.grown hg2 hb1.size (by simp)⟩
  have hP : IsP L := by simpa using h
  have h8 := hP.1
  have hok := pkOk_N L
  have hV : RestV pkN L = stO pkN L L.length := by rw [RestV, if_pos hP]
  rw [hV, decide_eq_true hP]
  refine (c_specLowsOf (ha.grow hb1) hL).mono ?_
  rintro e w2 ⟨lo, rfl, hlo, hb12⟩
  refine ⟨lo, rfl, ?_⟩
  rw [LowsV, if_pos hP] at hlo
  have hll := lowsT_length L L.length
  have hb2 := hb1.trans (hb12.mono hb1.size)
  refine (c_l17Rest (ha.grow hb2) hP).mono ?_
  rintro e w3 ⟨re, rfl, hre, hb23⟩
  refine ⟨re, rfl, ?_⟩
  have hb3 := hb2.trans (hb23.mono hb2.size)
  have hlo3 := (hlo.grow hb23).row
  refine lit0 oneInt (B := w3.heap.size) (Nat.le_refl _) ?_
  intro o w4 ho hg4 _
  have hb34 := below_of_grow hg4
  refine spec_NearestRest.L8_rule _ _ _ _ _ _ _ _ (I := fun re o low k w' => 0 ≤ k ∧ k ≤ L.length ∧ Below w3.heap.size w3 w' ∧ low = lastLow L k.toNat ∧ OwnI w' w2.heap.size re (stR pkN L k.toNat) ∧ Apt re o ∧ OwnI w' w3.heap.size o (stO pkN L k.toNat)) (μ := fun _ _ _ k _ => (L.length - k).toNat)
    ⟨by omega, by omega, hb34, rfl, hre.grow hb34, Apt.of_lt (fun g hg => (hre.lt g hg).2) (fun g hg => (ho.lt g hg).1), ho⟩ ?_
  rintro re o low k w5 ⟨hk0, hk, hb, hlow, hre, hap, ho⟩
  rw [spec_NearestRest.B8_s, han]
  refine bif_dec (fun h3 => ?_) (fun h3 => ?_)
  · obtain ⟨k, rfl⟩ : ∃ m : Nat, k = m := ⟨k.toNat, by omega⟩
    have hlt : k < L.length := by omega
    rw [Int.toNat_natCast] at ho hre hlow
    have ek : ((k : Int) + 1).toNat = k + 1 := by omega
    rw [w64_succ hk0 (by omega)]
    refine Quiet.call1 (s := .bool) (c_l2Has (hlo3.grow hb) (by omega) _) ?_
    intro w6 hd
    have hb6 := hb.trans ((hd.below _).mono hb.size)
    have hbw6 := hb3.trans (hb6.mono hb3.size)
    have ho6 := ho.heap hd.heap'
    have hre6 := hre.heap hd.heap'
    rw [has_low hlt]
    have hol := stO_length pkN L k
    refine bif_intro (fun h4 => ?_) (fun h4 => ?_)
    · refine RowI.get (ha.grow hbw6) hk0 (by omega) ?_
      rw [Int.toNat_natCast]
      refine append_int ho6 hb6.size (by omega) ?_
      intro o' w7 ho7 hg7 hn7
      refine ⟨re, o', L.getD k 0, (k : Int) + 1, rfl, ⟨by omega, by omega, hb6.grown hg7 hb6.size (fun g hg => (ho6.lt g hg).1), ?_, ?_, (hap.symm.next hn7 (fun g hg => (hre6.lt g hg).2)).symm, ?_⟩, by omega⟩
      · rw [ek, lastLow, if_pos h4]
      · rw [ek, stR, if_pos h4]
        exact Own.keeps hre6 (keeps_grown hg7) (fun g hg hg2 => hap g hg hg2)
      · rw [ek, stO, if_pos h4]; exact ho7
    · have hp := hok k hlt h4
      have hni := low_notin (pk := pkN) hP hlt h4
      have hr8 := stR_len8 hP hok (k := k) (by omega)
      have hst : stR pkN L (k + 1) = (stR pkN L k).take (pkN (stR pkN L k) (lastLow L k)) ++ (stR pkN L k).drop (pkN (stR pkN L k) (lastLow L k) + 1) := by
        rw [stR, if_neg (by rw [h4]; simp), erase_eq]
      have hso : stO pkN L (k + 1) = stO pkN L k ++ [(stR pkN L k).getD (pkN (stR pkN L k) (lastLow L k)) 0] := by
        rw [stO, if_neg (by rw [h4]; simp)]
      have hll2 : lastLow L (k + 1) = low := by rw [lastLow, if_neg (by rw [h4]; simp), hlow]
      rw [← hlow] at hp hni hst hso
      generalize hR : stR pkN L k = R at hp hni hst hso hre6 hr8
      generalize hm : pkN R low = m at hp hst hso
      have hRm : R[m] > low := by
        subst hm
        have := List.findIdx_getElem (xs := R) (p := fun v => decide (v > low)) (w := hp)
        exact of_decide_eq_true this
      have hmin : ∀ j (hj : j < R.length), j < m → ¬ R[j] > low := fun j hj hjm hgt => by
        subst hm
        have h9 := List.not_of_lt_findIdx hjm
        simp only [decide_eq_false_iff_not] at h9
        exact h9 hgt
      refine spec_NearestRest.L14_rule _ _ _ _ _ _ _ _ _ (I := fun at_ w' => w' = w6 ∧ 0 ≤ at_ ∧ at_ ≤ m) (μ := fun at_ _ => (m - at_).toNat)
        ⟨rfl, by omega, by omega⟩ ?_
      rintro at_ w' ⟨rfl, h0, h1⟩
      obtain ⟨q, rfl⟩ : ∃ q : Nat, at_ = q := ⟨at_.toNat, by omega⟩
      have hqR : q < R.length := by omega
      rw [spec_NearestRest.B14_s]
      refine RowI.get (Own.row hre6) h0 (by omega) ?_
      rw [Int.toNat_natCast, getD_lt hqR]
      refine bif_dec (fun h5 => ?_) (fun h5 => ?_)
      · refine ⟨(q : Int) + 1, by rw [w64_succ h0 (by omega)], ⟨rfl, by omega, ?_⟩, ?_⟩
        · by_cases e : q = m
          · subst e; omega
          · omega
        · by_cases e : q = m
          · subst e; omega
          · omega
      · have hqm : q = m := by
          by_cases e : q < m
          · have h6 := hmin q hqR e
            have h7 : R[q] = low := by omega
            exact absurd (h7 ▸ List.getElem_mem hqR) hni
          · omega
        subst hqm
        rw [spec_NearestRest.A14_2_s]
        refine RowI.get (Own.row hre6) h0 (by omega) ?_
        rw [Int.toNat_natCast]
        refine append_int ho6 hb6.size (by omega) ?_
        intro o' w7 ho7 hg7 hn7
        have hb7 := hb6.grown hg7 hb6.size (fun g hg => (ho6.lt g hg).1)
        have hre7 : OwnI w7 w2.heap.size re R := Own.keeps hre6 (keeps_grown hg7) (fun g hg hg2 => hap g hg hg2)
        refine drew_intro fun w8 hd8 => ?_
        have hb8 := hb7.trans ((hd8.below _).mono hb7.size)
        have hre8 := hre7.heap hd8.heap'
        have ho8 := ho7.heap hd8.heap'
        refine rowI_cut_to (Own.row hre8) (i := q) (by omega) fun s33 h33 => ?_
        rw [w64_succ h0 (by omega)]
        refine rowI_cut_from (Own.row hre8) (i := q + 1) (by omega) fun s34 h34 => ?_
        refine lit0 oneInt (B := w8.heap.size) (Nat.le_refl _) ?_
        intro z w9 hz hg9 _
        have hb89 := below_of_grow hg9
        refine append_row oneInt hz hb89.size (Row.grow h33 hb89) vI_one (by simp; omega) ?_
        intro z2 w10 hz2 hg10 hn10 _
        have hb810 := hb89.grown hg10 hb89.size (fun g hg => (hz.lt g hg).1)
        refine append_row oneInt hz2 hb810.size (Row.grow h34 hb810) vI_one (by simp; omega) ?_
        intro z3 w11 hz3 hg11 _ _
        have hb811 := hb810.grown hg11 hb810.size (fun g hg => (hz2.lt g hg).1)
        have ho11 := Own.grow ho8 hb811
        rw [List.nil_append, ← List.map_append] at hz3
        refine ⟨z3, o', low, (k : Int) + 1, by rw [w64_succ hk0 (by omega)], ⟨by omega, by omega, hb8.trans (hb811.mono hb8.size), ?_, ?_, ?_, ?_⟩, by omega⟩
        · rw [ek, hll2]
        · rw [ek, hst]
          exact Own.mono hz3 (Nat.le_trans hb23.size hb8.size)
        · exact (Apt.of_lt (fun g hg => (ho8.lt g hg).2) (fun g hg => (hz3.lt g hg).1)).symm
        · rw [ek, hso]; exact ho11
  · rw [spec_NearestRest.A8_0_s]
    rw [show k.toNat = L.length by omega] at ho
    exact ⟨o, rfl, ho.row, hb3.trans (hb.mono hb3.size)⟩
end Go.Proofs.Ytjojajnkofgfpaa
