/- The texts Rest, PaDraw, CodePk, PeaksMath, Peaks, CodeGz, Gz, PatIs, PaG in one (gmerge.py). -/
import Derived.Lib.CountLaws
import Derived.Test.YtlcemelmnkipmaaGreatPaM4
/- DescendingRest and NearestRest: both texts. -/
namespace Go.Proofs.YtlcemelmnkipmaaGreat
open Go Go.RowKit
set_option maxRecDepth 100000

theorem has_low {L : List Int} {k : Nat} (hk : k < L.length) : decide ((k : Int) + 1 ∈ lowsT L L.length) = isLow L k := by
  have h := mem_lowsT (L := L) (k := L.length) (x := (k : Int) + 1)
  rw [show ((k : Int) + 1 - 1).toNat = k by omega] at h
  cases hl : isLow L k
  · exact decide_eq_false fun hh => by have := (h.1 hh).2.2; rw [hl] at this; cases this
  · exact decide_eq_true (h.2 ⟨by omega, by omega, hl⟩)
theorem erase_eq (l : List Int) (i : Nat) : l.eraseIdx i = l.take i ++ l.drop (i + 1) := List.eraseIdx_eq_take_drop_succ l i
theorem c_l17Rest {w : World} {a : Sl} {L : List Int} (ha : RowI w a L) (hP : IsP L) :
    Calls PP F.spec_l17Rest #[a.v] w fun e w' => ∃ s : Sl, e = .returned s.v ∧ OwnI w' w.heap.size s (sortI (nonL L L.length)) ∧ Below w.heap.size w w' := by
  have han : a.n = L.length := by have := ha.n; simpa using this
  have h8 := hP.1
  refine spec_l17Rest.calls a ?_
  rw [spec_l17Rest.E_s]
  refine (c_specLowsOf ha (by omega)).mono ?_
  rintro e w1 ⟨lo, rfl, hlo, hb1⟩
  refine ⟨lo, rfl, ?_⟩
  rw [LowsV, if_pos hP] at hlo
  refine lit0 oneInt (B := w1.heap.size) (Nat.le_refl _) ?_
  intro o w2 ho hg2 _
  have hb12 := below_of_grow hg2
  have hlor := hlo.row
  have hll := lowsT_length L L.length
  refine spec_l17Rest.L4_rule _ _ _ _ _ _ (I := fun o k w' => 0 ≤ k ∧ k ≤ L.length ∧ Below w1.heap.size w1 w' ∧ OwnI w' w1.heap.size o (nonL L k.toNat)) (μ := fun _ k _ => (L.length - k).toNat)
    ⟨by omega, by omega, hb12, ho⟩ ?_
  rintro o k w' ⟨hk0, hk, hb, ho⟩
  have hbw := hb1.trans (hb.mono hb1.size)
  rw [spec_l17Rest.B4_s, han]
  refine bif_dec (fun h3 => ?_) (fun h3 => ?_)
  · obtain ⟨k, rfl⟩ : ∃ m : Nat, k = m := ⟨k.toNat, by omega⟩
    have hlt : k < L.length := by omega
    rw [Int.toNat_natCast] at ho
    have hnl := nonL_len L k
    rw [w64_succ hk0 (by omega)]
    refine Quiet.call1 (s := .bool) (c_l2Has (hlor.grow hb) (by omega) _) ?_
    intro w3 hd
    have hb3 := hb.trans ((hd.below _).mono hb.size)
    have hbw3 := hb1.trans (hb3.mono hb1.size)
    have ho3 := ho.heap hd.heap'
    rw [has_low hlt]
    have ek : ((k : Int) + 1).toNat = k + 1 := by omega
    refine bif_intro (fun h4 => ?_) (fun h4 => ?_)
    · have h4 : isLow L k = false := by simpa using h4
      refine RowI.get (ha.grow hbw3) hk0 (by omega) ?_
      rw [Int.toNat_natCast]
      refine append_int ho3 hb3.size (by omega) ?_
      intro o' w4 ho4 hg4 _
      refine ⟨o', (k : Int) + 1, rfl, ⟨by omega, by omega, hb3.grown hg4 hb3.size (fun g hg => (ho3.lt g hg).1), ?_⟩, by omega⟩
      rw [ek, nonL, if_neg (by rw [h4]; simp)]; exact ho4
    · have h4 : isLow L k = true := by simpa using h4
      refine ⟨o, (k : Int) + 1, rfl, ⟨by omega, by omega, hb3, ?_⟩, by omega⟩
      rw [ek, nonL, if_pos h4]; exact ho3
  · rw [spec_l17Rest.A4_0_s]
    rw [show k.toNat = L.length by omega] at ho
    have hnl := nonL_len L L.length
    refine (c_l15Sort ho.row (by omega)).mono ?_
    rintro e w3 ⟨s, rfl, hs, hb3⟩
    exact ⟨s, rfl, s, rfl, hs.mono hbw.size, hbw.trans (hb3.mono hbw.size)⟩
open Classical in
noncomputable def RestV (pk : List Int → Int → Nat) (L : List Int) : List Int := if IsP L then stO pk L L.length else []
theorem RestV_len (pk : List Int → Int → Nat) (L : List Int) : (RestV pk L).length < 2^38 := by
  unfold RestV
  split
  · rename_i h; rw [stO_length]; have := h.1; omega
  · simp
theorem stR_len8 {pk : List Int → Int → Nat} {L : List Int} (hP : IsP L) (hok : PkOk pk L) {k : Nat} (hk : k ≤ L.length) : (stR pk L k).length ≤ 8 := by
  have h1 := stR_len (pk := pk) (L := L) k (fun j hj => hok j (by omega))
  have h2 := nonL_len L L.length
  have := hP.1
  omega
theorem rowI_cut_to {w : World} {r : Sl} {L : List Int} (h : RowI w r L) {i : Nat} (hi : i ≤ L.length) {K : Sl → Prop} (hK : ∀ t, RowI w t (L.take i) → K t) : cutK 1 r none (some (i : Int)) K := by
  have hn : r.n = L.length := by have := h.n; simpa using this
  refine Row.cut h (by simp) (by simp <;> omega) (by simp <;> omega) fun t ht => hK t ?_
  have e2 : (List.take ((some (i : Int)).getD (r.n : Int)).toNat (L.map vI)).drop ((none : Option Int).getD 0).toNat = (L.take i).map vI := by simp
  rw [e2] at ht
  exact ht
theorem rowI_cut_from {w : World} {r : Sl} {L : List Int} (h : RowI w r L) {i : Nat} (hi : i ≤ L.length) {K : Sl → Prop} (hK : ∀ t, RowI w t (L.drop i) → K t) : cutK 1 r (some (i : Int)) none K := by
  have hn : r.n = L.length := by have := h.n; simpa using this
  refine Row.cut h (by simp) (by simp <;> omega) (by simp <;> omega) fun t ht => hK t ?_
  have e2 : (List.take ((none : Option Int).getD (r.n : Int)).toNat (L.map vI)).drop ((some (i : Int)).getD 0).toNat = (L.drop i).map vI := by
    rw [hn]; simp [List.map_drop, List.take_of_length_le]
  rw [e2] at ht
  exact ht
theorem vI_one {L : List Int} : ∀ v ∈ L.map vI, One v := fun v hv => by obtain ⟨x, _, rfl⟩ := List.mem_map.1 hv; exact One.int x
open Classical in
theorem c_specNearestRestO {w : World} {a : Sl} {L : List Int} (ha : RowI w a L) (hL : L.length < 2^38) :
    Calls PP F.spec_NearestRest #[a.v] w fun e w' => ∃ s : Sl, e = .returned (.tuple #[s.v, .bool (decide (IsP L))]) ∧ OwnI w' w.heap.size s (RestV pkN L) ∧ Below w.heap.size w w' := by
  have han : a.n = L.length := by have := ha.n; simpa using this
  refine spec_NearestRest.calls a ?_
  rw [spec_NearestRest.E_s]
  refine Quiet.call1 (s := .bool) (c_specIsPerm ha hL) ?_
  intro w1 hd1
  have hb1 := hd1.below w.heap.size
  refine bif_intro (fun h => ?_) (fun h => ?_)
  · have h : ¬ IsP L := by simpa using h
    refine lit0 oneInt (B := w.heap.size) hb1.size ?_
    intro o w2 ho hg2 _
    exact ⟨o, by rw [decide_eq_false h], by rw [RestV, if_neg h]; exact ho, hb1.grown hg2 hb1.size (by simp)⟩
  have hP : IsP L := by simpa using h
  have h8 := hP.1
  have hok := pkOk_N L
  have hV : RestV pkN L = stO pkN L L.length := by rw [RestV, if_pos hP]
  rw [hV, decide_eq_true hP]
  refine (c_specLowsOf (ha.grow hb1) hL).mono ?_
  rintro e w2 ⟨lo, rfl, hlo, hb12⟩
  refine ⟨lo, rfl, ?_⟩
  rw [LowsV, if_pos hP] at hlo
  have hll := lowsT_length L L.length
  have hb2 := hb1.trans (hb12.mono hb1.size)
  refine (c_l17Rest (ha.grow hb2) hP).mono ?_
  rintro e w3 ⟨re, rfl, hre, hb23⟩
  refine ⟨re, rfl, ?_⟩
  have hb3 := hb2.trans (hb23.mono hb2.size)
  have hlo3 := (hlo.grow hb23).row
  refine lit0 oneInt (B := w3.heap.size) (Nat.le_refl _) ?_
  intro o w4 ho hg4 _
  have hb34 := below_of_grow hg4
  refine spec_NearestRest.L8_rule _ _ _ _ _ _ _ _ (I := fun re o low k w' => 0 ≤ k ∧ k ≤ L.length ∧ Below w3.heap.size w3 w' ∧ low = lastLow L k.toNat ∧ OwnI w' w2.heap.size re (stR pkN L k.toNat) ∧ Apt re o ∧ OwnI w' w3.heap.size o (stO pkN L k.toNat)) (μ := fun _ _ _ k _ => (L.length - k).toNat)
    ⟨by omega, by omega, hb34, rfl, hre.grow hb34, Apt.of_lt (fun g hg => (hre.lt g hg).2) (fun g hg => (ho.lt g hg).1), ho⟩ ?_
  rintro re o low k w5 ⟨hk0, hk, hb, hlow, hre, hap, ho⟩
  rw [spec_NearestRest.B8_s, han]
  refine bif_dec (fun h3 => ?_) (fun h3 => ?_)
  · obtain ⟨k, rfl⟩ : ∃ m : Nat, k = m := ⟨k.toNat, by omega⟩
    have hlt : k < L.length := by omega
    rw [Int.toNat_natCast] at ho hre hlow
    have ek : ((k : Int) + 1).toNat = k + 1 := by omega
    rw [w64_succ hk0 (by omega)]
    refine Quiet.call1 (s := .bool) (c_l2Has (hlo3.grow hb) (by omega) _) ?_
    intro w6 hd
    have hb6 := hb.trans ((hd.below _).mono hb.size)
    have hbw6 := hb3.trans (hb6.mono hb3.size)
    have ho6 := ho.heap hd.heap'
    have hre6 := hre.heap hd.heap'
    rw [has_low hlt]
    have hol := stO_length pkN L k
    refine bif_intro (fun h4 => ?_) (fun h4 => ?_)
    · refine RowI.get (ha.grow hbw6) hk0 (by omega) ?_
      rw [Int.toNat_natCast]
      refine append_int ho6 hb6.size (by omega) ?_
      intro o' w7 ho7 hg7 hn7
      refine ⟨re, o', L.getD k 0, (k : Int) + 1, rfl, ⟨by omega, by omega, hb6.grown hg7 hb6.size (fun g hg => (ho6.lt g hg).1), ?_, ?_, (hap.symm.next hn7 (fun g hg => (hre6.lt g hg).2)).symm, ?_⟩, by omega⟩
      · rw [ek, lastLow, if_pos h4]
      · rw [ek, stR, if_pos h4]
        exact Own.keeps hre6 (keeps_grown hg7) (fun g hg hg2 => hap g hg hg2)
      · rw [ek, stO, if_pos h4]; exact ho7
    · have hp := hok k hlt h4
      have hni := low_notin (pk := pkN) hP hlt h4
      have hr8 := stR_len8 hP hok (k := k) (by omega)
      have hst : stR pkN L (k + 1) = (stR pkN L k).take (pkN (stR pkN L k) (lastLow L k)) ++ (stR pkN L k).drop (pkN (stR pkN L k) (lastLow L k) + 1) := by
        rw [stR, if_neg (by rw [h4]; simp), erase_eq]
      have hso : stO pkN L (k + 1) = stO pkN L k ++ [(stR pkN L k).getD (pkN (stR pkN L k) (lastLow L k)) 0] := by
        rw [stO, if_neg (by rw [h4]; simp)]
      have hll2 : lastLow L (k + 1) = low := by rw [lastLow, if_neg (by rw [h4]; simp), hlow]
      rw [← hlow] at hp hni hst hso
      generalize hR : stR pkN L k = R at hp hni hst hso hre6 hr8
      generalize hm : pkN R low = m at hp hst hso
      have hRm : R[m] > low := by
        subst hm
        have := List.findIdx_getElem (xs := R) (p := fun v => decide (v > low)) (w := hp)
        exact of_decide_eq_true this
      have hmin : ∀ j (hj : j < R.length), j < m → ¬ R[j] > low := fun j hj hjm hgt => by
        subst hm
        have h9 := List.not_of_lt_findIdx hjm
        simp only [decide_eq_false_iff_not] at h9
        exact h9 hgt
      refine spec_NearestRest.L14_rule _ _ _ _ _ _ _ _ _ (I := fun at_ w' => w' = w6 ∧ 0 ≤ at_ ∧ at_ ≤ m) (μ := fun at_ _ => (m - at_).toNat)
        ⟨rfl, by omega, by omega⟩ ?_
      rintro at_ w' ⟨rfl, h0, h1⟩
      obtain ⟨q, rfl⟩ : ∃ q : Nat, at_ = q := ⟨at_.toNat, by omega⟩
      have hqR : q < R.length := by omega
      rw [spec_NearestRest.B14_s]
      refine RowI.get (Own.row hre6) h0 (by omega) ?_
      rw [Int.toNat_natCast, getD_lt hqR]
      refine bif_dec (fun h5 => ?_) (fun h5 => ?_)
      · refine ⟨(q : Int) + 1, by rw [w64_succ h0 (by omega)], ⟨rfl, by omega, ?_⟩, ?_⟩
        · by_cases e : q = m
          · subst e; omega
          · omega
        · by_cases e : q = m
          · subst e; omega
          · omega
      · have hqm : q = m := by
          by_cases e : q < m
          · have h6 := hmin q hqR e
            have h7 : R[q] = low := by omega
            exact absurd (h7 ▸ List.getElem_mem hqR) hni
          · omega
        subst hqm
        rw [spec_NearestRest.A14_2_s]
        refine RowI.get (Own.row hre6) h0 (by omega) ?_
        rw [Int.toNat_natCast]
        refine append_int ho6 hb6.size (by omega) ?_
        intro o' w7 ho7 hg7 hn7
        have hb7 := hb6.grown hg7 hb6.size (fun g hg => (ho6.lt g hg).1)
        have hre7 : OwnI w7 w2.heap.size re R := Own.keeps hre6 (keeps_grown hg7) (fun g hg hg2 => hap g hg hg2)
        refine drew_intro fun w8 hd8 => ?_
        have hb8 := hb7.trans ((hd8.below _).mono hb7.size)
        have hre8 := hre7.heap hd8.heap'
        have ho8 := ho7.heap hd8.heap'
        refine rowI_cut_to (Own.row hre8) (i := q) (by omega) fun s33 h33 => ?_
        rw [w64_succ h0 (by omega)]
        refine rowI_cut_from (Own.row hre8) (i := q + 1) (by omega) fun s34 h34 => ?_
        refine lit0 oneInt (B := w8.heap.size) (Nat.le_refl _) ?_
        intro z w9 hz hg9 _
        have hb89 := below_of_grow hg9
        refine append_row oneInt hz hb89.size (Row.grow h33 hb89) vI_one (by simp; omega) ?_
        intro z2 w10 hz2 hg10 hn10 _
        have hb810 := hb89.grown hg10 hb89.size (fun g hg => (hz.lt g hg).1)
        refine append_row oneInt hz2 hb810.size (Row.grow h34 hb810) vI_one (by simp; omega) ?_
        intro z3 w11 hz3 hg11 _ _
        have hb811 := hb810.grown hg11 hb810.size (fun g hg => (hz2.lt g hg).1)
        have ho11 := Own.grow ho8 hb811
        rw [List.nil_append, ← List.map_append] at hz3
        refine ⟨z3, o', low, (k : Int) + 1, by rw [w64_succ hk0 (by omega)], ⟨by omega, by omega, hb8.trans (hb811.mono hb8.size), ?_, ?_, ?_, ?_⟩, by omega⟩
        · rw [ek, hll2]
        · rw [ek, hst]
          exact Own.mono hz3 (Nat.le_trans hb23.size hb8.size)
        · exact (Apt.of_lt (fun g hg => (ho8.lt g hg).2) (fun g hg => (hz3.lt g hg).1)).symm
        · rw [ek, hso]; exact ho11
  · rw [spec_NearestRest.A8_0_s]
    rw [show k.toNat = L.length by omega] at ho
    exact ⟨o, rfl, Own.mono ho hb3.size, hb3.trans (hb.mono hb3.size)⟩
open Classical in
theorem c_specNearestRest {w : World} {a : Sl} {L : List Int} (ha : RowI w a L) (hL : L.length < 2^38) :
    Calls PP F.spec_NearestRest #[a.v] w fun e w' => ∃ s : Sl, e = .returned (.tuple #[s.v, .bool (decide (IsP L))]) ∧ RowI w' s (RestV pkN L) ∧ Below w.heap.size w w' :=
  (c_specNearestRestO ha hL).mono fun e w' ⟨s, h1, h2, h3⟩ => ⟨s, h1, h2.row, h3⟩
end Go.Proofs.YtlcemelmnkipmaaGreat

/- The draws of the law of paths; texts compared. -/
namespace Go.Proofs.YtlcemelmnkipmaaGreat
open Go Go.RowKit
set_option maxRecDepth 100000

theorem c_sameTexts {w : World} {a b : Sl} {L M : List (List UInt8)} (ha : RowT w a L) (hb : RowT w b M) (hL : L.length < 2^39) : Quiet F.laws_sameTexts #[a.v, b.v] w (.bool (decide (L = M))) := by
  intro w1 hd
  have han : a.n = L.length := by have := ha.n; simpa using this
  have hbn : b.n = M.length := by have := hb.n; simpa using this
  refine laws_sameTexts.calls a b ?_
  rw [laws_sameTexts.E_s]
  refine bif_intro (fun h => ?_) (fun h => ?_)
  · have : L.length ≠ M.length := by simp at h; omega
    have : L ≠ M := fun e => this (by rw [e])
    exact ⟨by simp [this], Drew.refl _⟩
  have hlen : L.length = M.length := by simp at h; omega
  refine laws_sameTexts.L4_rule _ _ _ _ _ (I := fun i w' => 0 ≤ i ∧ i ≤ L.length ∧ (∀ k, k < i.toNat → L[k]? = M[k]?) ∧ Drew w1 w') (μ := fun i _ => (L.length - i).toNat)
    ⟨by omega, by omega, fun k hk => by simp at hk, Drew.refl _⟩ ?_
  rintro i w' ⟨h0, hi, hall, hd2⟩
  have hh : w'.heap = w.heap := (hd.trans hd2).heap'
  rw [laws_sameTexts.B4_s]
  refine bif_dec (fun h3 => ?_) (fun h3 => ?_)
  · have hlt : i.toNat < L.length := by omega
    have hlt2 : i.toNat < M.length := by omega
    refine RowT.get (ha.heap hh) h0 (by omega) ?_
    refine RowT.get (hb.heap hh) h0 (by omega) ?_
    refine drew_intro fun w3 hd3 => ?_
    rw [toList_beq, getD_T hlt, getD_T hlt2]
    refine bif_intro (fun h4 => ?_) (fun h4 => ?_)
    · have : L ≠ M := fun e => by subst e; simp at h4
      rw [laws_sameTexts.R4_s]
      exact ⟨by simp [this], hd2.trans hd3⟩
    · have h4' : bs L[i.toNat] = bs M[i.toNat] := by
        cases h5 : decide (bs L[i.toNat] = bs M[i.toNat])
        · rw [h5] at h4; cases h4
        · exact of_decide_eq_true h5
      refine ⟨i + 1, by rw [w64_succ h0 (by omega)], ⟨by omega, by omega, fun k hk => ?_, hd2.trans hd3⟩, by omega⟩
      by_cases hk2 : k < i.toNat
      · exact hall k hk2
      · have : k = i.toNat := by omega
        subst this
        rw [List.getElem?_eq_getElem hlt, List.getElem?_eq_getElem hlt2, bs_inj h4']
  · rw [laws_sameTexts.A4_0_s]
    have : L = M := by
      apply List.ext_getElem?
      intro k
      by_cases hk : k < L.length
      · exact hall k (by omega)
      · rw [List.getElem?_eq_none (by omega), List.getElem?_eq_none (by omega)]
    exact ⟨by simp [this], hd2⟩

theorem c_l18Avoiding {w0 w : World} {c : Addr} (hc : Cur w0 w c) :
    Calls PP F.spec_l18Avoiding #[.pointer (some c)] w fun e w' => ∃ (s : Sl) (P : List Int), e = .returned s.v ∧ OwnI w' w.heap.size s P ∧ P.length < 2^38 ∧ Cur w0 w' c ∧ Keeps (CS c) w w' := by
  have hcl := hc.lt
  refine spec_l18Avoiding.calls c ?_
  rw [spec_l18Avoiding.E_s]
  refine (c_l2Bent hc).mono ?_
  rintro e w1 ⟨s, L, rfl, hs, hL, hc1, hk1⟩
  refine ⟨s, rfl, ?_⟩
  have hl9 := hL.1
  refine (c_specNearestRestO hs.row (by omega)).mono ?_
  rintro e w2 ⟨r, rfl, hr, hb2⟩
  refine ⟨r, _, rfl, ?_⟩
  have hk2 : Keeps (CS c) w w2 := hk1.trans (keeps_below hb2 _)
  have hc2 := hc1.grow hb2
  have hrl := RestV_len pkN L
  have hs2 := Own.grow hs hb2
  refine bif_intro (fun _ => ?_) (fun _ => ⟨s, L, rfl, hs2, by omega, hc2, hk2⟩)
  refine (c_l1Once hc2 (n := 6) (by omega)).mono ?_
  rintro e w3 ⟨b, rfl, hc3, hk3⟩
  refine ⟨b, rfl, ?_⟩
  refine bif_intro (fun _ => ?_) (fun _ => ?_)
  · exact ⟨r, _, rfl, Own.mono (Own.curs hr hk3 (Nat.lt_of_lt_of_le hcl.2 hk1.size)) hk1.size, hrl, hc3, hk2.trans hk3⟩
  · exact ⟨s, L, rfl, Own.curs hs2 hk3 hcl.2, by omega, hc3, hk2.trans hk3⟩
theorem imaxP : IntKind.i64.max = 9223372036854775807 := by decide
theorem c_l1Turned {w0 w : World} {c : Addr} (hc : Cur w0 w c) (t : ByteArray) (ht : t.size ≤ 8) {s : Sl} {L : List ByteArray} (hs : ∀ w', Keeps (CS c) w w' → RowX w' s L) (h1 : 0 < L.length) (h2 : L.length ≤ 256) (h8 : ∀ x ∈ L, x.size ≤ 8) :
    Calls PP F.spec_l1Turned #[.pointer (some c), .string t, s.v] w fun e w' => ∃ x, e = .returned (.string x) ∧ x.size ≤ 200 ∧ Cur w0 w' c ∧ Keeps (CS c) w w' := by
  refine spec_l1Turned.calls c t s ?_
  rw [spec_l1Turned.E_s, show w64 ((t.size : Int) + 1) = (t.size : Int) + 1 from w64_id (by omega) (by omega)]
  refine (c_l1Below hc (n := (t.size : Int) + 1) (by omega)).mono ?_
  rintro e w1 ⟨x, rfl, hx0, hx1, hc1, hk1⟩
  refine ⟨x, rfl, ?_⟩
  refine (c_l1Below hc1 (n := 6) (by omega)).mono ?_
  rintro e w2 ⟨y, rfl, hy0, hy1, hc2, hk2⟩
  refine ⟨y, rfl, ?_⟩
  have hk12 := hk1.trans hk2
  have hxs : x ≤ t.size := by omega
  have e1 : ∀ a b : Nat, (t.extract a b).size ≤ 8 := fun a b => by simp [ByteArray.size_extract]; omega
  refine bif_intro (fun _ => ?_) (fun _ => ?_)
  · refine drew_intro fun w3 hd3 => ?_
    have hb3 : Below w2.heap.size w2 w3 := hd3.below _
    have hk3 := hk12.trans (keeps_below hb3 _)
    refine ⟨by simp, by simpa using hx0, by simpa using hxs, ?_⟩
    refine ⟨by simpa using hx0, by simpa using hxs, by simp, ?_⟩
    refine (c_l1Pick (hc2.grow hb3) (fun w' hk => hs w' (hk3.trans hk)) h1 h2).mono ?_
    rintro e w4 ⟨z, rfl, hz, hc4, hk4⟩
    refine ⟨z, rfl, ?_⟩
    have hz8 := h8 z hz
    have a1 := e1 ((none : Option Int).getD 0).toNat ((some x).getD (t.size : Int)).toNat
    have a2 := e1 ((some x).getD 0).toNat ((none : Option Int).getD (t.size : Int)).toNat
    refine ⟨by rw [imaxP]; omega, by rw [imaxP, ByteArray.size_append]; omega, ?_⟩
    exact ⟨_, rfl, by rw [ByteArray.size_append, ByteArray.size_append]; omega, hc4, hk3.trans hk4⟩
  refine bif_intro (fun _ => ?_) (fun _ => ?_)
  · refine ⟨by simp, by simpa using hx0, by simpa using hxs, ?_⟩
    have a1 := e1 ((none : Option Int).getD 0).toNat ((some x).getD (t.size : Int)).toNat
    exact ⟨_, rfl, by omega, hc2, hk12⟩
  · exact ⟨t, rfl, by omega, hc2, hk12⟩
theorem PathOfV_size (L : List Int) : (PathOfV L).size ≤ 200 := by
  classical
  unfold PathOfV
  split
  · rename_i h
    have h1 := h.1.1
    have := pV_size h1 L.length
    omega
  · exact Nat.zero_le _
theorem sizes4 : ∀ x ∈ ([⟨#[85]⟩, ⟨#[68]⟩, ⟨#[117]⟩, ⟨#[85, 68]⟩] : List ByteArray), x.size ≤ 8 := by
  intro x hx
  simp only [List.mem_cons, List.mem_nil_iff, or_false] at hx
  rcases hx with rfl | rfl | rfl | rfl <;> decide
theorem c_l18Text {w0 w : World} {c : Addr} (hc : Cur w0 w c) :
    Calls PP F.spec_l18Text #[.pointer (some c)] w fun e w' => ∃ x, e = .returned (.string x) ∧ x.size ≤ 200 ∧ Cur w0 w' c ∧ Keeps (CS c) w w' := by
  have hcl := hc.lt
  refine spec_l18Text.calls c ?_
  rw [spec_l18Text.E_s]
  refine (c_l18Avoiding hc).mono ?_
  rintro e w1 ⟨s, P, rfl, hs, hl, hc1, hk1⟩
  refine ⟨s, rfl, ?_⟩
  refine (c_specPathOf hs.row hl).mono ?_
  rintro e w2 ⟨rfl, hb2⟩
  refine ⟨_, _, rfl, ?_⟩
  have hk2 : Keeps (CS c) w w2 := hk1.trans (keeps_below hb2 _)
  have hc2 := hc1.grow hb2
  have turn : ∀ w3, Cur w0 w3 c → Keeps (CS c) w w3 → sem1 .sl PP (Instr.buildSlice T_Sstring 4 #[(0, .string (⟨#[85]⟩ : ByteArray)), (1, .string (⟨#[68]⟩ : ByteArray)), (2, .string (⟨#[117]⟩ : ByteArray)), (3, .string (⟨#[85, 68]⟩ : ByteArray))]) w3 fun (ρ7 : Sl) ω8 =>
      call1 .str PP F.spec_l1Turned #[.pointer (some c), .string (⟨#[85, 68, 85, 85, 68, 68]⟩ : ByteArray), Sl.v ρ7] ω8 fun (ρ9 : ByteArray) ω10 =>
      (fun e w' => ∃ x, e = Ending.returned (.string x) ∧ x.size ≤ 200 ∧ Cur w0 w' c ∧ Keeps (CS c) w w') (.returned (.string ρ9)) ω10 := by
    intro w3 hc3 hk3
    refine litV oneStrB (B := w3.heap.size) (Nat.le_refl _) 4 _ (([⟨#[85]⟩, ⟨#[68]⟩, ⟨#[117]⟩, ⟨#[85, 68]⟩] : List ByteArray).map Value.string) (by omega) rfl (by omega) (by kernel_rfl) ?_
    intro t w4 ht hb4
    have hk4 := hk3.trans (keeps_below hb4 _)
    refine (c_l1Turned (hc3.grow hb4) _ (by decide) (fun w' hk => (Own.curs ht hk hc3.lt.2).row) (by simp) (by simp) sizes4).mono ?_
    rintro e w5 ⟨x, rfl, hx, hc5, hk5⟩
    exact ⟨x, rfl, x, rfl, hx, hc5, hk4.trans hk5⟩
  refine bif_intro (fun _ => ?_) (fun _ => turn w2 hc2 hk2)
  refine (c_l1Once hc2 (n := 8) (by omega)).mono ?_
  rintro e w3 ⟨b, rfl, hc3, hk3⟩
  refine ⟨b, rfl, ?_⟩
  refine bif_intro (fun _ => ?_) (fun _ => turn w3 hc3 (hk2.trans hk3))
  exact ⟨_, rfl, PathOfV_size P, hc3, hk2.trans hk3⟩
theorem c_DrawPathOf {w : World} {a : Sl} {L : List Int} (ha : RowB w a L) (hL : L.length < 2^60) :
    Calls PP F.spec_DrawPathOf #[a.v] w fun e w' => ∃ (s : Sl) (P : List Int), e = .returned s.v ∧ RowI w' s P ∧ P.length < 2^38 ∧ Below w.heap.size w w' := by
  refine spec_DrawPathOf.calls a ?_
  rw [spec_DrawPathOf.E_s]
  refine (c_l1New ha hL).mono ?_
  rintro e w1 ⟨c, rfl, hc⟩
  refine ⟨some c, rfl, ?_⟩
  refine (c_l18Avoiding hc).mono ?_
  rintro e w2 ⟨s, P, rfl, hs, hl, hc2, hk2⟩
  exact ⟨s, rfl, s, P, rfl, hs.row, hl, hc2.below⟩
theorem c_DrawPermOfPath {w : World} {a : Sl} {L : List Int} (ha : RowB w a L) (hL : L.length < 2^60) :
    Calls PP F.spec_DrawPermOfPath #[a.v] w fun e w' => ∃ x : ByteArray, e = .returned (.string x) ∧ x.size ≤ 200 ∧ Below w.heap.size w w' := by
  refine spec_DrawPermOfPath.calls a ?_
  rw [spec_DrawPermOfPath.E_s]
  refine (c_l1New ha hL).mono ?_
  rintro e w1 ⟨c, rfl, hc⟩
  refine ⟨some c, rfl, ?_⟩
  refine (c_l18Text hc).mono ?_
  rintro e w2 ⟨x, rfl, hx, hc2, hk2⟩
  exact ⟨x, rfl, x, rfl, hx, hc2.below⟩
theorem c_DrawPathsOf {w : World} {a : Sl} {L : List Int} (ha : RowB w a L) (hL : L.length < 2^60) :
    Calls PP F.spec_DrawPathsOf #[a.v] w fun e w' => ∃ n : Int, e = .returned (vI n) ∧ -1 ≤ n ∧ n ≤ 7 ∧ Below w.heap.size w w' := by
  refine spec_DrawPathsOf.calls a ?_
  rw [spec_DrawPathsOf.E_s]
  refine (c_l1New ha hL).mono ?_
  rintro e w1 ⟨c, rfl, hc⟩
  refine ⟨some c, rfl, ?_⟩
  refine (c_l1Below hc (n := 9) (by omega)).mono ?_
  rintro e w2 ⟨x, rfl, hx0, hx1, hc2, hk2⟩
  refine ⟨x, rfl, ?_⟩
  exact ⟨x - 1, by rw [w64_id (by omega) (by omega)], by omega, by omega, hc2.below⟩
end Go.Proofs.YtlcemelmnkipmaaGreat

/- What each function does, step by step, written by a program (Gen.lean); each equation is checked by the kernel. -/
namespace Go.Proofs.YtlcemelmnkipmaaGreat
open Go
set_option linter.unusedVariables false
set_option maxRecDepth 100000
namespace impl_CountPeaks
@[reducible] def cfg : Cfg := ⟨8, [], [], [], [2], [], [13, 32, 63, 81], [41, 4, 46, 44, 48]⟩
def E (pr : Prims) (text_0 : ByteArray) (w : World) (R : Ending → World → Prop) : Prop :=
  wpC pr PP cfg (DD pr) (codeOf Tryz.f18) (retQ Tryz.f18.results.toList R) (argE 0 [.string text_0]) w
theorem E_eq (pr : Prims) (text_0 : ByteArray) (w : World) (R : Ending → World → Prop) : E pr text_0 w R = (
  pr.call1 .bool PP F.impl_IsPath #[.string text_0] w fun (ρ0 : Bool) ω1 =>
  bif !ρ0 then (
  R (.returned (vI (-1))) ω1)
  else (
  pr.call1 (.int .i64) PP F.strings_Count #[.string text_0, .string (⟨#[85, 68]⟩ : ByteArray)] ω1 fun (ρ2 : Int) ω3 =>
  R (.returned (vI ρ2)) ω3)) := by kernel_rfl
theorem E_s (text_0 : ByteArray) (w : World) (R : Ending → World → Prop) : E std text_0 w R = (
  call1 .bool PP F.impl_IsPath #[.string text_0] w fun (ρ0 : Bool) ω1 =>
  bif !ρ0 then (
  R (.returned (vI (-1))) ω1)
  else (
  call1 (.int .i64) PP F.strings_Count #[.string text_0, .string (⟨#[85, 68]⟩ : ByteArray)] ω1 fun (ρ2 : Int) ω3 =>
  R (.returned (vI ρ2)) ω3)) := E_eq std text_0 w R
theorem drawsOk : drawsOk PP cfg okD (codeOf Tryz.f18) = true := by kernel_rfl
theorem calls (text_0 : ByteArray) {w : World} {R : Ending → World → Prop} (h : E std text_0 w R) : Calls PP F.impl_CountPeaks #[.string text_0] w R :=
  calls_of noCount mixed drawOk Tryz.func18 rfl (c := cfg) (args := [.string text_0]) rfl (Nat.le_of_ble_eq_true (by kernel_rfl)) drawsOk h
end impl_CountPeaks

namespace spec_CountPeaks
@[reducible] def cfg : Cfg := ⟨29, [(5, [0, 3, 4])], [(1, [0, 3, 4]), (0, [3])], [], [2], [], [13, 32, 63, 81], [41, 4, 46, 44, 48]⟩
def q2 (pr : Prims) (R : Ending → World → Prop) : Exit → Env → World → Prop := fun ex e w => normQ ex (fun e w => contE pr cfg (sub (codeOf Tryz.f19) [1, 1, 1, 1]) (fun e w => wpC pr PP cfg (DD pr) (sub (codeOf Tryz.f19) [1, 1, 1, 1]) (retQ Tryz.f19.results.toList R) e w) e w) (retQ Tryz.f19.results.toList R) e w
def q3 (pr : Prims) (R : Ending → World → Prop) : Exit → Env → World → Prop := fun ex e w => blockQ ex 0 (q2 pr R) e w
def emb5 (text_0 : ByteArray) (n_3 : Int) (k_4 : Int) : Env := [(0, .string text_0), (3, vI n_3), (4, vI k_4)]
def x0 (n_3 : Int) : Env := [(3, vI n_3)]
def S5 (pr : Prims) (Q : Exit → Env → World → Prop) : (Env → World → Prop) → Env → World → Prop := fun k e w => wpC pr PP cfg (DD pr) (sub (codeOf Tryz.f19) [1, 1, 1, 0, 1, 0, 0]) (fun ex e w => normQ ex (fun e' w' => k (Env.restr e' (lookN cfg.loops (keyOf (sub (codeOf Tryz.f19) [1, 1, 1, 0, 1, 0, 0])))) w') Q e w) e w
def B5 (pr : Prims) (text_0 : ByteArray) (n_3 : Int) (k_4 : Int) (w : World) (k : Env → World → Prop) (Q : Exit → Env → World → Prop) : Prop :=
  S5 pr Q k (emb5 text_0 n_3 k_4) w
def L5 (pr : Prims) (text_0 : ByteArray) (n_3 : Int) (k_4 : Int) (w : World) (Q : Exit → Env → World → Prop) : Prop :=
  pr.loop (S5 pr Q) (emb5 text_0 n_3 k_4) w
def E (pr : Prims) (text_0 : ByteArray) (w : World) (R : Ending → World → Prop) : Prop :=
  wpC pr PP cfg (DD pr) (codeOf Tryz.f19) (retQ Tryz.f19.results.toList R) (argE 0 [.string text_0]) w
theorem B5_eq (pr : Prims) (text_0 : ByteArray) (n_3 : Int) (k_4 : Int) (w : World) (k : Env → World → Prop) (Q : Exit → Env → World → Prop) : B5 pr text_0 n_3 k_4 w k Q = (
  bif decide (k_4 < (text_0.size : Int)) then (
  pr.strIdxK text_0 (w64 (k_4 - 1)) fun (b4 : Int) =>
  bif b4 == 85 then (
  pr.strIdxK text_0 k_4 fun (b5 : Int) =>
  pr.pcall1 (.int .i64) PP F.spec_l1Bit #[.bool (b5 == 68)] fun (ρ6 : Int) =>
  k (emb5 text_0 (w64 (n_3 + ρ6)) (w64 (k_4 + 1))) w)
  else (
  pr.pcall1 (.int .i64) PP F.spec_l1Bit #[.bool false] fun (ρ7 : Int) =>
  k (emb5 text_0 (w64 (n_3 + ρ7)) (w64 (k_4 + 1))) w))
  else (
  Q (.exit 0) (x0 n_3) w)) := by kernel_rfl
theorem B5_s (text_0 : ByteArray) (n_3 : Int) (k_4 : Int) (w : World) (k : Env → World → Prop) (Q : Exit → Env → World → Prop) : B5 std text_0 n_3 k_4 w k Q = (
  bif decide (k_4 < (text_0.size : Int)) then (
  strIdxK text_0 (w64 (k_4 - 1)) fun (b4 : Int) =>
  bif b4 == 85 then (
  strIdxK text_0 k_4 fun (b5 : Int) =>
  pcall1 (.int .i64) PP F.spec_l1Bit #[.bool (b5 == 68)] fun (ρ6 : Int) =>
  k (emb5 text_0 (w64 (n_3 + ρ6)) (w64 (k_4 + 1))) w)
  else (
  pcall1 (.int .i64) PP F.spec_l1Bit #[.bool false] fun (ρ7 : Int) =>
  k (emb5 text_0 (w64 (n_3 + ρ7)) (w64 (k_4 + 1))) w))
  else (
  Q (.exit 0) (x0 n_3) w)) := B5_eq std text_0 n_3 k_4 w k Q
theorem L5_rule (text_0 : ByteArray) (n_3 : Int) (k_4 : Int) (w : World) (Q : Exit → Env → World → Prop) (I : Int → Int → World → Prop) (μ : Int → Int → World → Nat) (h0 : I n_3 k_4 w)
    (h : ∀ (n_3 : Int) (k_4 : Int) (w' : World), I n_3 k_4 w' → B5 std text_0 n_3 k_4 w' (fun e2 w2 => ∃ n_3_n k_4_n, e2 = emb5 text_0 n_3_n k_4_n ∧ I n_3_n k_4_n w2 ∧ μ n_3_n k_4_n w2 < μ n_3 k_4 w') Q) :
    L5 std text_0 n_3 k_4 w Q := by
  unfold L5
  refine LoopE.intro (σ := Int × Int) (step := S5 std Q) (fun s => emb5 text_0 s.1 s.2) (fun s w => I s.1 s.2 w) (fun s w => μ s.1 s.2 w) (n_3, k_4) rfl h0 ?_
  intro s w' hI
  have h1 := h s.1 s.2 w' hI
  unfold B5 at h1
  simp only [Prod.exists]
  exact h1
theorem A5_0_eq (pr : Prims) (n_3 : Int) (w : World) (R : Ending → World → Prop) : (q3 pr R) (.exit 0) (x0 n_3) w = (
  R (.returned (vI n_3)) w) := by kernel_rfl
theorem A5_0_s (n_3 : Int) (w : World) (R : Ending → World → Prop) : (q3 std R) (.exit 0) (x0 n_3) w = (
  R (.returned (vI n_3)) w) := A5_0_eq std n_3 w R
theorem E_eq (pr : Prims) (text_0 : ByteArray) (w : World) (R : Ending → World → Prop) : E pr text_0 w R = (
  pr.call1 .bool PP F.spec_IsPath #[.string text_0] w fun (ρ0 : Bool) ω1 =>
  bif !ρ0 then (
  R (.returned (vI (-1))) ω1)
  else (
  L5 pr text_0 0 1 ω1 (q3 pr R))) := by kernel_rfl
theorem E_s (text_0 : ByteArray) (w : World) (R : Ending → World → Prop) : E std text_0 w R = (
  call1 .bool PP F.spec_IsPath #[.string text_0] w fun (ρ0 : Bool) ω1 =>
  bif !ρ0 then (
  R (.returned (vI (-1))) ω1)
  else (
  L5 std text_0 0 1 ω1 (q3 std R))) := E_eq std text_0 w R
theorem drawsOk : drawsOk PP cfg okD (codeOf Tryz.f19) = true := by kernel_rfl
theorem calls (text_0 : ByteArray) {w : World} {R : Ending → World → Prop} (h : E std text_0 w R) : Calls PP F.spec_CountPeaks #[.string text_0] w R :=
  calls_of noCount mixed drawOk Tryz.func19 rfl (c := cfg) (args := [.string text_0]) rfl (Nat.le_of_ble_eq_true (by kernel_rfl)) drawsOk h
end spec_CountPeaks

end Go.Proofs.YtlcemelmnkipmaaGreat

/- Peaks: the library's count of two letters is a sum over neighbours. -/
namespace Go.Proofs.YtlcemelmnkipmaaGreat
open Go Go.Lib

def UD : List UInt8 := [85, 68]
theorem count_skip {b : UInt8} {l : List UInt8} (h : UD.isPrefixOf (b :: l) = false) : count (b :: l) UD = count l UD := by
  have hne : UD ≠ [] := by simp [UD]
  rcases index_spec l UD with ⟨h1, _⟩ | ⟨i, h1, _⟩
  · rw [count_miss h1, count_miss]
    rw [index, h, h1]; rfl
  · have h2 : index (b :: l) UD = ((i + 1 : Nat) : Int) := by
      rw [index, h, h1]
      have : ((i : Int) == -1) = false := by
        rw [beq_eq_false_iff_ne]; omega
      simp only [this, Bool.false_eq_true, if_false]
      omega
    rw [count_hit hne h1, count_hit hne h2]
    congr 2
theorem count_take {l : List UInt8} : count (85 :: 68 :: l) UD = 1 + count l UD := by
  have hne : UD ≠ [] := by simp [UD]
  have h2 : index (85 :: 68 :: l) UD = ((0 : Nat) : Int) := by
    rw [index]
    have : UD.isPrefixOf (85 :: 68 :: l) = true := by simp [UD, List.isPrefixOf]
    rw [if_pos this]; rfl
  rw [count_hit hne h2]
  rfl
/-- A peak at place i? -/
def pkAt (l : List UInt8) (i : Nat) : Bool := l.getD i 0 == 85 && l.getD (i + 1) 0 == 68
def pkN' (l : List UInt8) (n : Nat) : Nat := (List.range n).countP (pkAt l)
theorem pkN_cons (b : UInt8) (l : List UInt8) (n : Nat) : pkN' (b :: l) (n + 1) = (if pkAt (b :: l) 0 = true then 1 else 0) + pkN' l n := by
  unfold pkN'
  rw [List.range_succ_eq_map, List.countP_cons, List.countP_map, Nat.add_comm]
  congr 1
theorem count_pk : ∀ (m : Nat) (l : List UInt8), l.length ≤ m → count l UD = pkN' l l.length
  | 0, l, h => by
    obtain rfl : l = [] := List.eq_nil_of_length_eq_zero (by omega)
    rfl
  | m + 1, [], h => rfl
  | m + 1, [b], h => by
    rw [count_skip (by simp [UD, List.isPrefixOf])]
    rw [show [b].length = 0 + 1 from rfl, pkN_cons]
    have : pkAt [b] 0 = false := by simp [pkAt]
    rw [this]
    rfl
  | m + 1, b :: c :: r, h => by
    rw [List.length_cons, pkN_cons]
    have hc := count_pk m (c :: r) (by simp at h ⊢; omega)
    by_cases hh : b = 85 ∧ c = 68
    · obtain ⟨rfl, rfl⟩ := hh
      have h1 : pkAt (85 :: 68 :: r) 0 = true := by simp [pkAt]
      rw [h1, count_take, ← hc, count_skip]
      · rfl
      · simp [UD, List.isPrefixOf]
    · have h1 : pkAt (b :: c :: r) 0 = false := by
        cases hp : pkAt (b :: c :: r) 0
        · rfl
        · simp [pkAt] at hp; exact absurd hp hh
      have h2 : UD.isPrefixOf (b :: c :: r) = false := by
        cases hp : UD.isPrefixOf (b :: c :: r)
        · rfl
        · simp [UD, List.isPrefixOf] at hp
          exact absurd ⟨hp.1.symm, hp.2.symm⟩ hh
      rw [h1, count_skip h2, hc]
      simp
end Go.Proofs.YtlcemelmnkipmaaGreat

/- CountPeaks: both texts, and the law. -/
namespace Go.Proofs.YtlcemelmnkipmaaGreat
open Go Go.RowKit
set_option maxRecDepth 100000

theorem bt_getD {s : ByteArray} {k : Nat} (h : k < s.size) : bt s k = ((s.data.toList.getD k 0).toNat : Int) := by
  have h2 : k < s.data.toList.length := h
  unfold bt
  rw [getElem?_pos s k h, List.getD_eq_getElem?_getD, List.getElem?_eq_getElem h2]
  rfl
theorem bt_eq {s : ByteArray} {k : Nat} (h : k < s.size) (c : UInt8) : (bt s k == (c.toNat : Int)) = (s.data.toList.getD k 0 == c) := by
  rw [bt_getD h, Bool.eq_iff_iff, beq_iff_eq, beq_iff_eq]
  constructor
  · intro h; exact UInt8.toNat_inj.1 (by omega)
  · intro h; rw [h]
theorem pkN_succ (l : List UInt8) (n : Nat) : pkN' l (n + 1) = pkN' l n + if pkAt l n = true then 1 else 0 := by
  unfold pkN'
  rw [List.range_succ, List.countP_append, List.countP_singleton]
open Classical in
noncomputable def CountPeaksV (s : ByteArray) : Int := if OkPath s then (pkN' s.data.toList s.size : Int) else -1
theorem pkN_le (l : List UInt8) (n : Nat) : pkN' l n ≤ n := by
  have := List.countP_le_length (p := pkAt l) (l := List.range n)
  rwa [List.length_range] at this
theorem c_specCountPeaks (s : ByteArray) (hsz : s.size < 2 ^ 39) : Pure F.spec_CountPeaks #[.string s] (vI (CountPeaksV s)) := by
  intro w
  refine spec_CountPeaks.calls s ?_
  rw [spec_CountPeaks.E_s]
  obtain ⟨b, hb, hc⟩ := c_specIsPath s hsz
  refine Pure.call1 (s := .bool) hc ?_
  refine bif_intro (fun h => ?_) (fun h => ?_)
  · have h : ¬ OkPath s := fun hh => by rw [hb.2 hh] at h; cases h
    exact ⟨by rw [CountPeaksV, if_neg h], rfl⟩
  have hP : OkPath s := hb.1 (by simpa using h)
  have h16 := hP.2.2
  have hV : CountPeaksV s = (pkN' s.data.toList s.size : Int) := by rw [CountPeaksV, if_pos hP]
  rw [hV]
  refine spec_CountPeaks.L5_rule _ _ _ _ _ (I := fun n k w' => w' = w ∧ 1 ≤ k ∧ (k ≤ s.size ∨ k = 1) ∧ n = (pkN' s.data.toList (k.toNat - 1) : Int)) (μ := fun _ k _ => (s.size - k).toNat) ⟨rfl, by omega, by omega, rfl⟩ ?_
  rintro n k w' ⟨rfl, h0, hk, hn⟩
  rw [spec_CountPeaks.B5_s]
  refine bif_dec (fun h3 => ?_) (fun h3 => ?_)
  · obtain ⟨m, rfl⟩ : ∃ m : Nat, k = (m : Int) + 1 := ⟨k.toNat - 1, by omega⟩
    have e1 : w64 ((m : Int) + 1 - 1) = m := by rw [w64_id (by omega) (by omega)]; omega
    have e2 : ((m : Int) + 1).toNat - 1 = m := by omega
    have e3 : ((m : Int) + 1 + 1).toNat - 1 = m + 1 := by omega
    have e4 : ((m : Int) + 1).toNat = m + 1 := by omega
    rw [e2] at hn
    rw [e1]
    have hle := pkN_le s.data.toList m
    have hs := pkN_succ s.data.toList m
    refine strIdx_intro (by omega) (by omega) ?_
    rw [Int.toNat_natCast]
    have b1 := bt_eq (s := s) (k := m) (by omega) 85
    have b2 := bt_eq (s := s) (k := m + 1) (by omega) 68
    refine bif_intro (fun h4 => ?_) (fun h4 => ?_)
    · refine strIdx_intro (by omega) (by omega) ?_
      rw [e4]
      refine Pure.pcall1 (s := .int .i64) (c_l1Bit _) ?_
      have h5 : (s.data.toList.getD m 0 == 85) = true := by rw [← b1]; exact h4
      have hp : pkAt s.data.toList m = (bt s (m + 1) == 68) := by
        rw [pkAt, h5, Bool.true_and, ← b2]; rfl
      refine ⟨_, (m : Int) + 1 + 1, by rw [w64_succ (n := (m : Int) + 1) (by omega) (by omega)], ⟨rfl, by omega, by omega, ?_⟩, by omega⟩
      rw [e3, hs, hp, hn]
      by_cases h6 : (bt s (m + 1) == 68) = true
      · rw [if_pos h6, if_pos h6, w64_id (by omega) (by omega)]; omega
      · rw [if_neg h6, if_neg h6, w64_id (by omega) (by omega)]; omega
    · refine Pure.pcall1 (s := .int .i64) (c_l1Bit _) ?_
      have h5 : (s.data.toList.getD m 0 == 85) = false := by rw [← b1]; exact h4
      have hp : pkAt s.data.toList m = false := by rw [pkAt, h5, Bool.false_and]
      refine ⟨_, (m : Int) + 1 + 1, by rw [w64_succ (n := (m : Int) + 1) (by omega) (by omega)], ⟨rfl, by omega, by omega, ?_⟩, by omega⟩
      rw [e3, hs, hp, hn]
      simp only [Bool.false_eq_true, if_false]
      rw [w64_id (by omega) (by omega)]; omega
  · rw [spec_CountPeaks.A5_0_s]
    refine ⟨?_, rfl⟩
    rw [hn]
    by_cases h4 : s.size = 0
    · have : k.toNat - 1 = s.size := by omega
      rw [this]
    · obtain ⟨m, hm⟩ : ∃ m, s.size = m + 1 := ⟨s.size - 1, by omega⟩
      have e : k.toNat - 1 = m := by omega
      have hp : pkAt s.data.toList m = false := by
        have : s.data.toList.getD (m + 1) 0 = 0 := by
          rw [List.getD_eq_getElem?_getD, List.getElem?_eq_none (by have : s.data.toList.length = s.size := rfl; omega)]; rfl
        rw [pkAt, this]; simp
      rw [e, hm, pkN_succ, hp]; simp
theorem c_implCountPeaks (s : ByteArray) (hsz : s.size < 2 ^ 31) (w : World) {m : Int} (hm : w.cell? ⟨0, 0, none⟩ = some (.int .i64 m)) :
    Calls PP F.impl_CountPeaks #[.string s] w fun e w' => e = .returned (vI (CountPeaksV s)) ∧ Below w.heap.size w w' := by
  refine impl_CountPeaks.calls s ?_
  rw [impl_CountPeaks.E_s]
  refine (c_implIsPath s (by omega) w).mono ?_
  rintro e w1 ⟨b, rfl, hb, hb1⟩
  refine ⟨b, rfl, ?_⟩
  refine bif_intro (fun h => ?_) (fun h => ?_)
  · have h : ¬ OkPath s := fun hh => by rw [hb.2 hh] at h; cases h
    exact ⟨by rw [CountPeaksV, if_neg h], hb1⟩
  have hP : OkPath s := hb.1 (by simpa using h)
  refine (Tryz.strings_Count s ⟨#[85, 68]⟩ m w1 (by omega) (cell_grow hm hb1) (by decide)).mono ?_
  rintro e w2 ⟨rfl, rfl⟩
  refine ⟨_, rfl, ?_, hb1⟩
  rw [CountPeaksV, if_pos hP]
  have := count_pk s.data.toList.length s.data.toList (Nat.le_refl _)
  have h2 : Lib.countB s ⟨#[85, 68]⟩ = Lib.count s.data.toList UD := rfl
  rw [h2, this]
  rfl
end Go.Proofs.YtlcemelmnkipmaaGreat

/- What each function does, step by step, written by a program (Gen.lean); each equation is checked by the kernel. -/
namespace Go.Proofs.YtlcemelmnkipmaaGreat
open Go
set_option linter.unusedVariables false
set_option maxRecDepth 100000
namespace laws_big
@[reducible] def cfg : Cfg := ⟨6, [], [], [], [2], [], [13, 32, 63, 81], [41, 4, 46, 44, 48]⟩
def E (pr : Prims) (code_0 : Sl) (w : World) (R : Ending → World → Prop) : Prop :=
  wpC pr PP cfg (DD pr) (codeOf Tryz.f4) (retQ Tryz.f4.results.toList R) (argE 0 [Sl.v code_0]) w
theorem E_eq (pr : Prims) (code_0 : Sl) (w : World) (R : Ending → World → Prop) : E pr code_0 w R = (
  R (.returned (.bool (decide ((code_0.n : Int) > 1048576)))) w) := by kernel_rfl
theorem E_s (code_0 : Sl) (w : World) (R : Ending → World → Prop) : E std code_0 w R = (
  R (.returned (.bool (decide ((code_0.n : Int) > 1048576)))) w) := E_eq std code_0 w R
theorem drawsOk : drawsOk PP cfg okD (codeOf Tryz.f4) = true := by kernel_rfl
theorem calls (code_0 : Sl) {w : World} {R : Ending → World → Prop} (h : E std code_0 w R) : Calls PP F.laws_big #[Sl.v code_0] w R :=
  calls_of noCount mixed drawOk Tryz.func4 rfl (c := cfg) (args := [Sl.v code_0]) rfl (Nat.le_of_ble_eq_true (by kernel_rfl)) drawsOk h
end laws_big

namespace laws_sameInts
@[reducible] def cfg : Cfg := ⟨26, [(4, [0, 1, 5])], [(1, [0, 1, 5]), (0, [])], [], [4], [6], [13, 32, 63, 81], [41, 4, 46, 44, 48]⟩
def q0 (pr : Prims) (R : Ending → World → Prop) : Exit → Env → World → Prop := fun ex e w => normQ ex (fun e w => contE pr cfg (sub (codeOf Tryz.f13) [1, 1, 1]) (fun e w => wpC pr PP cfg (DD pr) (sub (codeOf Tryz.f13) [1, 1, 1]) (retQ Tryz.f13.results.toList R) e w) e w) (retQ Tryz.f13.results.toList R) e w
def q1 (pr : Prims) (R : Ending → World → Prop) : Exit → Env → World → Prop := fun ex e w => blockQ ex 0 (q0 pr R) e w
def emb4 (a_0 : Sl) (b_1 : Sl) (i_5 : Int) : Env := [(0, Sl.v a_0), (1, Sl.v b_1), (5, vI i_5)]
def x0 : Env := []
def S4 (pr : Prims) (Q : Exit → Env → World → Prop) : (Env → World → Prop) → Env → World → Prop := fun k e w => wpC pr PP cfg (DD pr) (sub (codeOf Tryz.f13) [1, 1, 0, 1, 0, 0]) (fun ex e w => normQ ex (fun e' w' => k (Env.restr e' (lookN cfg.loops (keyOf (sub (codeOf Tryz.f13) [1, 1, 0, 1, 0, 0])))) w') Q e w) e w
def B4 (pr : Prims) (a_0 : Sl) (b_1 : Sl) (i_5 : Int) (w : World) (k : Env → World → Prop) (Q : Exit → Env → World → Prop) : Prop :=
  S4 pr Q k (emb4 a_0 b_1 i_5) w
def L4 (pr : Prims) (a_0 : Sl) (b_1 : Sl) (i_5 : Int) (w : World) (Q : Exit → Env → World → Prop) : Prop :=
  pr.loop (S4 pr Q) (emb4 a_0 b_1 i_5) w
def E (pr : Prims) (a_0 : Sl) (b_1 : Sl) (w : World) (R : Ending → World → Prop) : Prop :=
  wpC pr PP cfg (DD pr) (codeOf Tryz.f13) (retQ Tryz.f13.results.toList R) (argE 0 [Sl.v a_0, Sl.v b_1]) w
theorem B4_eq (pr : Prims) (a_0 : Sl) (b_1 : Sl) (i_5 : Int) (w : World) (k : Env → World → Prop) (Q : Exit → Env → World → Prop) : B4 pr a_0 b_1 i_5 w k Q = (
  bif decide (i_5 < (a_0.n : Int)) then (
  pr.idxK 1 a_0 i_5 fun (a2 : Addr) =>
  pr.load1 (.int .i64) a2 w fun (ξ3 : Int) =>
  pr.idxK 1 b_1 i_5 fun (a4 : Addr) =>
  pr.load1 (.int .i64) a4 w fun (ξ5 : Int) =>
  pr.drewAll w fun ω6 =>
  bif ξ3 != ξ5 then (
  Q .ret [(4, .bool false)] ω6)
  else (
  k (emb4 a_0 b_1 (w64 (i_5 + 1))) ω6))
  else (
  Q (.exit 0) (x0) w)) := by kernel_rfl
theorem B4_s (a_0 : Sl) (b_1 : Sl) (i_5 : Int) (w : World) (k : Env → World → Prop) (Q : Exit → Env → World → Prop) : B4 std a_0 b_1 i_5 w k Q = (
  bif decide (i_5 < (a_0.n : Int)) then (
  idxK 1 a_0 i_5 fun (a2 : Addr) =>
  load1 (.int .i64) a2 w fun (ξ3 : Int) =>
  idxK 1 b_1 i_5 fun (a4 : Addr) =>
  load1 (.int .i64) a4 w fun (ξ5 : Int) =>
  drewAll w fun ω6 =>
  bif ξ3 != ξ5 then (
  Q .ret [(4, .bool false)] ω6)
  else (
  k (emb4 a_0 b_1 (w64 (i_5 + 1))) ω6))
  else (
  Q (.exit 0) (x0) w)) := B4_eq std a_0 b_1 i_5 w k Q
theorem L4_rule (a_0 : Sl) (b_1 : Sl) (i_5 : Int) (w : World) (Q : Exit → Env → World → Prop) (I : Int → World → Prop) (μ : Int → World → Nat) (h0 : I i_5 w)
    (h : ∀ (i_5 : Int) (w' : World), I i_5 w' → B4 std a_0 b_1 i_5 w' (fun e2 w2 => ∃ i_5_n, e2 = emb4 a_0 b_1 i_5_n ∧ I i_5_n w2 ∧ μ i_5_n w2 < μ i_5 w') Q) :
    L4 std a_0 b_1 i_5 w Q := by
  unfold L4
  refine LoopE.intro (σ := Int) (step := S4 std Q) (fun s => emb4 a_0 b_1 s) (fun s w => I s w) (fun s w => μ s w) i_5 rfl h0 ?_
  intro s w' hI
  have h1 := h s w' hI
  unfold B4 at h1
  exact h1
theorem A4_0_eq (pr : Prims) (w : World) (R : Ending → World → Prop) : (q1 pr R) (.exit 0) (x0) w = (
  R (.returned (.bool true)) w) := by kernel_rfl
theorem A4_0_s (w : World) (R : Ending → World → Prop) : (q1 std R) (.exit 0) (x0) w = (
  R (.returned (.bool true)) w) := A4_0_eq std w R
theorem R4_eq (pr : Prims) (v4 : Value) (w : World) (R : Ending → World → Prop) : (q1 pr R) .ret [(4, v4)] w = (
  R (.returned (v4)) w) := by kernel_rfl
theorem R4_s (v4 : Value) (w : World) (R : Ending → World → Prop) : (q1 std R) .ret [(4, v4)] w = (
  R (.returned (v4)) w) := R4_eq std v4 w R
theorem E_eq (pr : Prims) (a_0 : Sl) (b_1 : Sl) (w : World) (R : Ending → World → Prop) : E pr a_0 b_1 w R = (
  bif (a_0.n : Int) != (b_1.n : Int) then (
  R (.returned (.bool false)) w)
  else (
  L4 pr a_0 b_1 0 w (q1 pr R))) := by kernel_rfl
theorem E_s (a_0 : Sl) (b_1 : Sl) (w : World) (R : Ending → World → Prop) : E std a_0 b_1 w R = (
  bif (a_0.n : Int) != (b_1.n : Int) then (
  R (.returned (.bool false)) w)
  else (
  L4 std a_0 b_1 0 w (q1 std R))) := E_eq std a_0 b_1 w R
theorem drawsOk : drawsOk PP cfg okD (codeOf Tryz.f13) = true := by kernel_rfl
theorem calls (a_0 : Sl) (b_1 : Sl) {w : World} {R : Ending → World → Prop} (h : E std a_0 b_1 w R) : Calls PP F.laws_sameInts #[Sl.v a_0, Sl.v b_1] w R :=
  calls_of noCount mixed drawOk Tryz.func13 rfl (c := cfg) (args := [Sl.v a_0, Sl.v b_1]) rfl (Nat.le_of_ble_eq_true (by kernel_rfl)) drawsOk h
end laws_sameInts

end Go.Proofs.YtlcemelmnkipmaaGreat

/- The laws' own helpers: big, sameInts, sameLists. -/
namespace Go.Proofs.YtlcemelmnkipmaaGreat
open Go Go.RowKit
set_option maxRecDepth 100000

theorem getD_I {L : List Int} {i : Nat} (hi : i < L.length) : L.getD i 0 = L[i] := by simp [List.getD_eq_getElem?_getD, List.getElem?_eq_getElem hi]
theorem c_big (a : Sl) : Pure F.laws_big #[a.v] (.bool (decide ((a.n : Int) > 1048576))) := by
  intro w
  refine laws_big.calls a ?_
  rw [laws_big.E_s]
  exact ⟨rfl, rfl⟩
theorem c_sameInts {w : World} {a b : Sl} {L M : List Int} (ha : RowI w a L) (hb : RowI w b M) (hL : L.length < 2^39) : Quiet F.laws_sameInts #[a.v, b.v] w (.bool (decide (L = M))) := by
  intro w1 hd
  have han : a.n = L.length := by have := ha.n; simpa using this
  have hbn : b.n = M.length := by have := hb.n; simpa using this
  refine laws_sameInts.calls a b ?_
  rw [laws_sameInts.E_s]
  refine bif_intro (fun h => ?_) (fun h => ?_)
  · have : L.length ≠ M.length := by simp at h; omega
    have : L ≠ M := fun e => this (by rw [e])
    exact ⟨by simp [this], Drew.refl _⟩
  have hlen : L.length = M.length := by simp at h; omega
  refine laws_sameInts.L4_rule _ _ _ _ _ (I := fun i w' => 0 ≤ i ∧ i ≤ L.length ∧ (∀ k, k < i.toNat → L[k]? = M[k]?) ∧ Drew w1 w') (μ := fun i _ => (L.length - i).toNat)
    ⟨by omega, by omega, fun k hk => by simp at hk, Drew.refl _⟩ ?_
  rintro i w' ⟨h0, hi, hall, hd2⟩
  have hh : w'.heap = w.heap := (hd.trans hd2).heap'
  rw [laws_sameInts.B4_s]
  refine bif_dec (fun h3 => ?_) (fun h3 => ?_)
  · have hlt : i.toNat < L.length := by omega
    have hlt2 : i.toNat < M.length := by omega
    refine RowI.get (ha.heap hh) h0 (by omega) ?_
    refine RowI.get (hb.heap hh) h0 (by omega) ?_
    refine drew_intro fun w3 hd3 => ?_
    rw [getD_I hlt, getD_I hlt2]
    refine bif_intro (fun h4 => ?_) (fun h4 => ?_)
    · have : L ≠ M := fun e => by subst e; simp at h4
      rw [laws_sameInts.R4_s]
      exact ⟨by simp [this], hd2.trans hd3⟩
    · have h4 : L[i.toNat] = M[i.toNat] := by simpa using h4
      refine ⟨i + 1, by rw [w64_succ h0 (by omega)], ⟨by omega, by omega, fun k hk => ?_, hd2.trans hd3⟩, by omega⟩
      by_cases hk2 : k < i.toNat
      · exact hall k hk2
      · have : k = i.toNat := by omega
        subst this
        rw [List.getElem?_eq_getElem hlt, List.getElem?_eq_getElem hlt2, h4]
  · rw [laws_sameInts.A4_0_s]
    have : L = M := by
      apply List.ext_getElem?
      intro k
      by_cases hk : k < L.length
      · exact hall k (by omega)
      · rw [List.getElem?_eq_none (by omega), List.getElem?_eq_none (by omega)]
    exact ⟨by simp [this], hd2⟩
end Go.Proofs.YtlcemelmnkipmaaGreat

/- 132 is a permutation. -/
namespace Go.Proofs.YtlcemelmnkipmaaGreat
theorem isP132p : IsP [1, 3, 2] := isP_of (n := 3) (List.isPerm_iff.1 (by decide)) (by omega)
end Go.Proofs.YtlcemelmnkipmaaGreat

/- FnPaths: the law. -/
namespace Go.Proofs.YtlcemelmnkipmaaGreat
open Go Go.RowKit
set_option maxRecDepth 100000

def GoodP (w0 : World) (e : Ending) (w' : World) : Prop := e = .returned (.bool true) ∧ Below w0.heap.size w0 w'
theorem lawJ19 {w0 w : World} {p : Sl} {P : List Int} (hb0 : Below w0.heap.size w0 w) (hp0 : RowI w p P) (hl : P.length < 2^38) : laws_FnPaths.J19 std p (PathOfV P) (PathOfV1 P) w (GoodP w0) := by
  rw [laws_FnPaths.J19_s]
  classical
  refine bif_intro (fun h => ?_) (fun h => ?_)
  · have hno : ¬ PthOk P := fun hh => by
      have : PathOfV1 P = true := by unfold PathOfV1; exact decide_eq_true hh
      rw [this] at h; cases h
    exact ⟨by rw [path_none hno]; simp, hb0⟩
  have hok : PthOk P := by
    have : PathOfV1 P = true := by simpa using h
    unfold PathOfV1 at this
    exact of_decide_eq_true this
  obtain ⟨f1, f2, f3, f4⟩ := path_facts hok
  have h8 := hok.1.1
  have hts := PathOfV_size P
  refine (c_implPermOfPath (PathOfV P) (by omega)).mono ?_
  rintro e w1 ⟨x, rfl, hx, hb1⟩
  refine ⟨x, _, rfl, ?_⟩
  rw [f1] at hx
  rw [f2]
  have hpn : p.n = P.length := by have := hp0.n; simpa using this
  refine laws_FnPaths.L24_rule _ _ _ _ _ _ _ _ (I := fun u k w' => 0 ≤ k ∧ k ≤ P.length ∧ u = (upsC P k.toNat : Nat) ∧ Below w1.heap.size w1 w') (μ := fun _ k _ => (P.length - k).toNat)
    ⟨by omega, by omega, rfl, Below.refl _ _⟩ ?_
  rintro u k w2 ⟨hk0, hk, hu, hb2⟩
  have hb12 := hb1.trans (hb2.mono hb1.size)
  have hp2 := hp0.grow hb12
  have hule := upsC_le P k.toNat
  rw [laws_FnPaths.B24_s, hpn]
  refine bif_dec (fun h3 => ?_) (fun h3 => ?_)
  · rw [w64_succ hk0 (by omega)]
    refine laws_FnPaths.L28_rule _ _ _ _ _ _ _ _ _ _ (I := fun last i w' => k < i ∧ i ≤ P.length ∧ (last = true ↔ ∀ j, k.toNat < j → j < i.toNat → P.getD j 0 < P.getD k.toNat 0) ∧ Below w1.heap.size w1 w') (μ := fun _ i _ => (P.length - i).toNat)
      ⟨by omega, by omega, ⟨fun _ j h1 h2 => by omega, fun _ => rfl⟩, hb2⟩ ?_
    rintro last i w3 ⟨hi0, hi, hlast, hb3⟩
    have hp3 := hp0.grow (hb1.trans (hb3.mono hb1.size))
    rw [laws_FnPaths.B28_s, hpn]
    refine bif_dec (fun h4 => ?_) (fun h4 => ?_)
    · have hw : w64 (i + 1) = i + 1 := w64_succ (by omega) (by omega)
      refine bif_intro (fun h5 => ?_) (fun h5 => ?_)
      · refine RowI.get hp3 (by omega) (by omega) ?_
        refine RowI.get hp3 (by omega) (by omega) ?_
        refine drew_intro fun w4 hd => ?_
        show laws_FnPaths.J29 std _ _ _ _ _ _ _ _ _ _ _
        rw [laws_FnPaths.J29_s]
        refine ⟨_, i + 1, by rw [hw], ⟨by omega, by omega, ?_, hb3.trans ((hd.below _))⟩, by omega⟩
        rw [decide_eq_true_iff]
        constructor
        · intro h6 j h7 h8
          by_cases h9 : j < i.toNat
          · exact hlast.1 h5 j h7 h9
          · have : j = i.toNat := by omega
            subst this; exact h6
        · intro h6; exact h6 i.toNat (by omega) (by omega)
      · refine drew_intro fun w4 hd => ?_
        show laws_FnPaths.J29 std _ _ _ _ _ _ _ _ _ _ _
        rw [laws_FnPaths.J29_s]
        refine ⟨false, i + 1, by rw [hw], ⟨by omega, by omega, ?_, hb3.trans ((hd.below _))⟩, by omega⟩
        constructor
        · intro h6; cases h6
        · intro h6
          have := hlast.2 fun j h7 h8 => h6 j h7 (by omega)
          rw [this] at h5; cases h5
    · rw [laws_FnPaths.A28_2_s]
      have hin : i.toNat = P.length := by omega
      rw [hin] at hlast
      have hla := hlast.trans last_iff.symm
      have hs : upsC P (k + 1).toNat = upsC P k.toNat + (bif last then 1 else 0) := by
        rw [show (k + 1).toNat = k.toNat + 1 by omega, upsC]
        congr 2
        rw [Bool.eq_iff_iff]; exact hla.symm
      refine bif_intro (fun h5 => ?_) (fun h5 => ?_)
      · rw [h5] at hs
        exact ⟨u + 1, k + 1, by rw [w64_succ hk0 (by omega), w64_id (by omega) (by omega)], ⟨by omega, by omega, by rw [hs, hu]; simp, hb3⟩, by omega⟩
      · rw [h5] at hs
        exact ⟨u, k + 1, by rw [w64_succ hk0 (by omega)], ⟨by omega, by omega, by rw [hs, hu]; simp, hb3⟩, by omega⟩
  · rw [laws_FnPaths.A24_0_s]
    refine bif_t rfl ?_
    have hkn : k.toNat = P.length := by omega
    rw [hkn, ups_eq] at hu
    refine Quiet.call1 (s := .bool) (c_sameInts ((Own.grow hx hb2).row) hp2 (by omega)) ?_
    intro w3 hd3
    have hb3 := (hb0.trans (hb12.mono hb0.size)).trans (hd3.below _)
    have hp3 := hp2.heap hd3.heap'
    refine bif_t (by simp) ?_
    refine (c_implPathHeight (PathOfV P) (by omega) _).mono ?_
    rintro e w4 ⟨rfl, g4⟩
    refine ⟨_, rfl, ?_⟩
    have hb4 := hb3.trans (g4.mono hb3.size)
    refine (c_specLongestUp (hp3.grow g4) (by omega)).mono ?_
    rintro e w5 ⟨rfl, g5⟩
    refine ⟨_, rfl, ?_⟩
    have hb5 := hb4.trans (g5.mono hb4.size)
    refine bif_t (by rw [f3]; simp) ?_
    refine (c_implCountReturns (PathOfV P) (by omega) _).mono ?_
    rintro e w6 ⟨rfl, g6⟩
    refine ⟨_, rfl, ?_⟩
    exact ⟨by rw [f4, hu]; simp, hb5.trans (g6.mono hb5.size)⟩
theorem lawJ15 {w0 w : World} {p q : Sl} {P : List Int} {u : ByteArray} (hb : Below w0.heap.size w0 w) (hp : RowI w p P) (hl : P.length < 2^38) (hq : RowI w q (PermOfPathV u)) :
    laws_FnPaths.J15 std p (PathOfV P) (PathOfV1 P) u q (PermOfPathV1 u) w (GoodP w0) := by
  rw [laws_FnPaths.J15_s]
  refine bif_intro (fun h => ?_) (fun _ => lawJ19 hb hp hl)
  classical
  have hok : OkPath u := by
    unfold PermOfPathV1 at h
    exact of_decide_eq_true h
  obtain ⟨f1, f2, f3, f4⟩ := text_facts hok
  have hql := PermOfPathV_len u
  refine (c_implPathOf hq hql).mono ?_
  rintro e w_1 ⟨rfl, g1⟩
  refine ⟨_, _, rfl, ?_⟩
  have hb := hb.trans (g1.mono hb.size)
  have hp := hp.grow g1
  have hq := hq.grow g1
  refine bif_f (by rw [f2]; rfl) ?_
  refine bif_f (by rw [f1]; simp) ?_
  refine litL (B := w_1.heap.size) (Nat.le_refl _) 3 _ [1, 3, 2] (by omega) rfl (by omega) (by kernel_rfl) ?_
  intro t w_2 ht g2
  have hb := hb.trans (g2.mono hb.size)
  have hp := hp.grow g2
  have hq := hq.grow g2
  have ht := ht.row
  refine (c_specHasPattern hq ht hql (by simp)).mono ?_
  rintro e w_3 ⟨rfl, g3⟩
  refine ⟨_, rfl, ?_⟩
  have hb := hb.trans (g3.mono hb.size)
  have hp := hp.grow g3
  have hq := hq.grow g3
  have ht := ht.grow g3
  show laws_FnPaths.J18 std _ _ _ _ _ _
  rw [laws_FnPaths.J18_s]
  refine bif_f (by rw [hasPV_eq f3 isP132p, f4]) ?_
  exact lawJ19 hb hp hl
set_option maxHeartbeats 2000000 in
theorem lawC_FnPaths (a : Sl) (L : List Int) (w : World) (ha : RowB w a L) (_ : L.length ≤ maxLen) (hsh : w.ShapedOpen PP) :
    Calls PP F.laws_FnPaths #[a.v] w fun e w' => e = .returned (.bool true) ∧ Below w.heap.size w w' := by
  obtain ⟨m, hm⟩ := Tryz.laysM138.s1_3 w hsh
  refine laws_FnPaths.calls a ?_
  rw [laws_FnPaths.E_s]
  have hb : Below w.heap.size w w := Below.refl _ _
  refine Pure.pcall1 (s := .bool) (c_big a) ?_
  refine bif_dec (fun _ => ⟨rfl, hb⟩) (fun hbig => ?_)
  have hL : L.length < 2^60 := by have := ha.n; simp at this; omega
  refine (c_DrawPathOf ha hL).mono ?_
  rintro e w_4 ⟨p, P, rfl, hp, hpl, g4⟩
  refine ⟨p, rfl, ?_⟩
  have hb := hb.trans (g4.mono hb.size)
  have ha := ha.grow g4
  refine (c_implPathOf hp hpl).mono ?_
  rintro e w_5 ⟨rfl, g5⟩
  refine ⟨_, _, rfl, ?_⟩
  have hb := hb.trans (g5.mono hb.size)
  have ha := ha.grow g5
  have hp := hp.grow g5
  refine (c_specPathOf hp hpl).mono ?_
  rintro e w_6 ⟨rfl, g6⟩
  refine ⟨_, _, rfl, ?_⟩
  have hb := hb.trans (g6.mono hb.size)
  have ha := ha.grow g6
  have hp := hp.grow g6
  refine (c_DrawPermOfPath ha hL).mono ?_
  rintro e w_7 ⟨x, rfl, hx, g7⟩
  refine ⟨x, rfl, ?_⟩
  have hb := hb.trans (g7.mono hb.size)
  have ha := ha.grow g7
  have hp := hp.grow g7
  refine (c_implPermOfPath x (by omega)).mono ?_
  rintro e w_8 ⟨q, rfl, hq, g8⟩
  refine ⟨q, _, rfl, ?_⟩
  have hb := hb.trans (g8.mono hb.size)
  have ha := ha.grow g8
  have hp := hp.grow g8
  have hq := hq.row
  refine (c_specPermOfPath x (by omega)).mono ?_
  rintro e w_9 ⟨q2, rfl, hq2, g9⟩
  refine ⟨q2, _, rfl, ?_⟩
  have hb := hb.trans (g9.mono hb.size)
  have ha := ha.grow g9
  have hp := hp.grow g9
  have hq := hq.grow g9
  refine (c_DrawPathsOf ha hL).mono ?_
  rintro e w_10 ⟨n, rfl, hn1, hn2, g10⟩
  refine ⟨n, rfl, ?_⟩
  have hb := hb.trans (g10.mono hb.size)
  have ha := ha.grow g10
  have hp := hp.grow g10
  have hq := hq.grow g10
  have hq2 := hq2.grow g10
  refine (c_implPathsOf n).mono ?_
  rintro e w_11 ⟨v, rfl, hv, g11⟩
  refine ⟨v, rfl, ?_⟩
  have hb := hb.trans (g11.mono hb.size)
  have hp := hp.grow g11
  have hq := hq.grow g11
  have hq2 := hq2.grow g11
  have hv := hv.row
  have ql := PermOfPathV_len x
  have vl := PathsOfV_len n
  refine bif_f (by simp) ?_
  refine bif_f (by simp) ?_
  refine bif_f (by simp) ?_
  refine Quiet.call1 (s := .bool) (c_sameInts hq hq2 (by omega)) ?_
  intro w_12 g12
  replace g12 : Below w_11.heap.size w_11 w_12 := g12.below _
  have hb := hb.trans (g12.mono hb.size)
  have hp := hp.grow g12
  have hq := hq.grow g12
  have hq2 := hq2.grow g12
  have hv := hv.grow g12
  refine bif_f (by simp) ?_
  refine (c_specPathsOf n).mono ?_
  rintro e w_13 ⟨v2, rfl, hv2, g13⟩
  refine ⟨v2, rfl, ?_⟩
  have hb := hb.trans (g13.mono hb.size)
  have hp := hp.grow g13
  have hq := hq.grow g13
  have hv := hv.grow g13
  have hv2 := hv2.row
  refine Quiet.call1 (s := .bool) (c_sameTexts hv hv2 (by omega)) ?_
  intro w_14 g14
  replace g14 : Below w_13.heap.size w_13 w_14 := g14.below _
  have hb := hb.trans (g14.mono hb.size)
  have hp := hp.grow g14
  have hq := hq.grow g14
  have hv := hv.grow g14
  have hv2 := hv2.grow g14
  refine bif_f (by simp) ?_
  refine (c_implIsPath x (by omega) _).mono ?_
  rintro e w_15 ⟨b1, rfl, hb1, g15⟩
  refine ⟨b1, rfl, ?_⟩
  have hb := hb.trans (g15.mono hb.size)
  have hp := hp.grow g15
  have hq := hq.grow g15
  have hv := hv.grow g15
  obtain ⟨b2, hb2, hp2⟩ := c_specIsPath x (by omega)
  refine Pure.call1 (s := .bool) hp2 ?_
  have hbb : b1 = b2 := by rw [Bool.eq_iff_iff, hb1, hb2]
  refine bif_f (by rw [hbb]; simp) ?_
  refine (c_implCountPeaks x (by omega) _ (cell_grow hm hb)).mono ?_
  rintro e w_16 ⟨rfl, g16⟩
  refine ⟨_, rfl, ?_⟩
  have hb := hb.trans (g16.mono hb.size)
  have hp := hp.grow g16
  have hq := hq.grow g16
  have hv := hv.grow g16
  refine Pure.call1 (s := .int .i64) (c_specCountPeaks x (by omega)) ?_
  refine bif_f (by simp) ?_
  refine (c_implCountReturns x (by omega) _).mono ?_
  rintro e w_17 ⟨rfl, g17⟩
  refine ⟨_, rfl, ?_⟩
  have hb := hb.trans (g17.mono hb.size)
  have hp := hp.grow g17
  have hq := hq.grow g17
  have hv := hv.grow g17
  refine (c_specCountReturns x (by omega) _).mono ?_
  rintro e w_18 ⟨rfl, g18⟩
  refine ⟨_, rfl, ?_⟩
  have hb := hb.trans (g18.mono hb.size)
  have hp := hp.grow g18
  have hq := hq.grow g18
  have hv := hv.grow g18
  refine bif_f (by simp) ?_
  refine (c_implPathHeight x (by omega) _).mono ?_
  rintro e w_19 ⟨rfl, g19⟩
  refine ⟨_, rfl, ?_⟩
  have hb := hb.trans (g19.mono hb.size)
  have hp := hp.grow g19
  have hq := hq.grow g19
  have hv := hv.grow g19
  refine (c_specPathHeight x (by omega) _).mono ?_
  rintro e w_20 ⟨rfl, g20⟩
  refine ⟨_, rfl, ?_⟩
  have hb := hb.trans (g20.mono hb.size)
  have hp := hp.grow g20
  have hq := hq.grow g20
  have hv := hv.grow g20
  show laws_FnPaths.J12 std _ _ _ _ _ _ _ _ _ _ _
  rw [laws_FnPaths.J12_s]
  refine bif_f (by simp) ?_
  have hvn : v.n = (PathsOfV n).length := by have := hv.n; simpa using this
  rw [laws_FnPaths.J13_s, hvn]
  refine bif_dec (fun h1 => ?_) (fun _ => ?_)
  · refine Pure.call1 (s := .int .i64) (c_specCatalan n) ?_
    show laws_FnPaths.J14 std _ _ _ _ _ _ _ _ _
    rw [laws_FnPaths.J14_s]
    refine bif_f (by rw [paths_count (by omega)]; simp) ?_
    exact lawJ15 hb hp hpl hq
  · rw [laws_FnPaths.J14_s]
    refine bif_f rfl ?_
    exact lawJ15 hb hp hpl hq
end Go.Proofs.YtlcemelmnkipmaaGreat
