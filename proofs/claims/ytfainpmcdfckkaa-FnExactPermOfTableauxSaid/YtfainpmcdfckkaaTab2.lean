/- Tableaux: the model's test, forms, and the laws of both. -/
import Derived.Test.YtfainpmcdfckkaaTab
namespace Go.Proofs.Ytfainpmcdfckkaa
open Go Go.RowKit
set_option maxRecDepth 100000

def ascS (LL : List (List Int)) (i j : Nat) : Prop := (0 < j → at2 LL i (j - 1) < at2 LL i j) ∧ (0 < i → at2 LL (i - 1) j < at2 LL i j)
theorem IsTab.strict {LL : List (List Int)} (h : IsTab LL) {i j : Nat} (hi : i < LL.length) (hj : j < (LL.getD i []).length) : ascS LL i j := by
  have h1 := h.asc i j hi hj
  refine ⟨fun h0 => ?_, fun h0 => ?_⟩
  · have := h1.1 h0
    have := nodup_row h.perm.nodup hi hj (k := j - 1) (by omega)
    omega
  · have := h1.2 h0
    have := h.form.step hi h0
    have := nodup_col h.perm.nodup hi (k := i - 1) (by omega) hj (l := j) (by omega)
    omega
open Classical in
theorem c_specIsTableau0 {w : World} {a : Sl} {LL : List (List Int)} (ha : RowSS w a LL) (hL : LL.length < 2^38) (ht : tot LL < 2^38) :
    Calls PP F.spec_IsTableau #[a.v] w fun e w' => e = .returned (.bool (decide (IsTab LL))) ∧ Below w.heap.size w w' := by
  have han := ha.n
  refine spec_IsTableau.calls a ?_
  rw [spec_IsTableau.E_s]
  refine (c_l19Lengths ha hL ht).mono ?_
  rintro e w1 ⟨s, rfl, hs, hb1⟩
  refine ⟨s, rfl, ?_⟩
  refine Quiet.call1 (s := .bool) (c_l19Form hs.row (by rw [lens_length]; omega) (by omega) (by omega)) ?_
  intro w2 hd2
  have hb2 := hb1.trans (hd2.below _)
  refine bif_intro (fun h => ?_) (fun h => ?_)
  · have h : ¬ FormOk (lens LL) 8 := by simpa using h
    have : ¬ IsTab LL := fun hh => h hh.form
    exact ⟨by simp [this], hb2⟩
  have hf : FormOk (lens LL) 8 := by simpa using h
  have h8 := hf.tot
  have hc8 := hf.count
  refine lit0 oneInt (B := w.heap.size) hb2.size ?_
  intro t0 w3 hown hg3 _
  have hb3 := hb2.grown hg3 hb2.size (by simp)
  refine spec_IsTableau.L5_rule _ _ _ _ _ (I := fun al i w' => Below w.heap.size w w' ∧ 0 ≤ i ∧ i ≤ LL.length ∧ OwnI w' w.heap.size al (LL.take i.toNat).flatten ∧ ∀ i', i' < i.toNat → ∀ j', j' < (LL.getD i' []).length → ascS LL i' j') (μ := fun _ i _ => (LL.length - i).toNat)
    ⟨hb3, by omega, by omega, hown, fun i' hi' => by simp at hi'⟩ ?_
  rintro al i w' ⟨hb, h0, hi, hal, hall⟩
  rw [spec_IsTableau.B5_s]
  refine bif_dec (fun h3 => ?_) (fun h3 => ?_)
  · have hlt : i.toNat < LL.length := by omega
    have h9 : (LL.getD i.toNat []).length ≤ 8 := by
      rw [getD_SS hlt]; exact Nat.le_trans (len_le_tot (List.getElem_mem hlt)) h8
    have hfl : ∀ k, k ≤ LL.length → (LL.take k).flatten.length ≤ 8 := fun k hk => by
      rw [flatten_length]; exact Nat.le_trans (tot_take_le LL k) h8
    refine spec_IsTableau.L8_rule _ _ _ _ _ _ (I := fun al2 j w2 => Below w.heap.size w w2 ∧ 0 ≤ j ∧ j ≤ (LL.getD i.toNat []).length ∧ OwnI w2 w.heap.size al2 ((LL.take i.toNat).flatten ++ (LL.getD i.toNat []).take j.toNat) ∧ ∀ j', j' < j.toNat → ascS LL i.toNat j') (μ := fun _ j _ => ((LL.getD i.toNat []).length - j).toNat)
      ⟨hb, by omega, by omega, by simpa using hal, fun j' hj' => by simp at hj'⟩ ?_
    rintro al2 j w2 ⟨hbw, hj0, hj, hal2, hrow⟩
    rw [spec_IsTableau.B8_s]
    have ha2 := ha.grow hbw
    refine RowSS.get ha2 h0 (by omega) fun r hr => ?_
    have hrn : r.n = (LL.getD i.toNat []).length := by have := hr.n; simpa using this
    rw [hrn]
    refine bif_dec (fun h5 => ?_) (fun h5 => ?_)
    · have hjlt : j.toNat < (LL.getD i.toNat []).length := by omega
      have bad : ∀ w3, Drew w2 w3 → ¬ ascS LL i.toNat j.toNat → spec_IsTableau.q10 std (fun e2 w2 => ∃ all_3_n r_4_n, e2 = spec_IsTableau.emb5 a all_3_n r_4_n ∧ (Below w.heap.size w w2 ∧ 0 ≤ r_4_n ∧ r_4_n ≤ LL.length ∧ OwnI w2 w.heap.size all_3_n (LL.take r_4_n.toNat).flatten ∧ ∀ i', i' < r_4_n.toNat → ∀ j', j' < (LL.getD i' []).length → ascS LL i' j') ∧ (LL.length - r_4_n).toNat < (LL.length - i).toNat)
          (spec_IsTableau.q7 std fun e w' => e = .returned (.bool (decide (IsTab LL))) ∧ Below w.heap.size w w') .ret [(2, .bool false)] w3 := by
        intro w3 hd hn
        rw [spec_IsTableau.R8_s, spec_IsTableau.R5_s]
        have : ¬ IsTab LL := fun hh => hn (hh.strict hlt hjlt)
        exact ⟨by simp [this], hbw.trans (hd.below _)⟩
      have fin : ∀ w3, Drew w2 w3 → ascS LL i.toNat j.toNat → idxK 1 a i fun a31 => load1 .sl a31 w3 fun (ξ32 : Sl) => idxK 1 ξ32 j fun a33 => load1 (.int .i64) a33 w3 fun (ξ34 : Int) =>
          sem1 .sl PP (Instr.buildSlice T_Sint 1 #[(0, vI ξ34)]) w3 fun (ρ35 : Sl) ω36 => sem1 .sl PP (Builtin.append_ #[T_Sint, T_Sint] T_Sint #[Sl.v al2, Sl.v ρ35]) ω36 fun (ρ37 : Sl) ω38 =>
          ∃ all_3_n c_5_n, spec_IsTableau.emb8 a ρ37 i (w64 (j + 1)) = spec_IsTableau.emb8 a all_3_n i c_5_n ∧ (Below w.heap.size w ω38 ∧ 0 ≤ c_5_n ∧ c_5_n ≤ (LL.getD i.toNat []).length ∧ OwnI ω38 w.heap.size all_3_n ((LL.take i.toNat).flatten ++ (LL.getD i.toNat []).take c_5_n.toNat) ∧ ∀ j', j' < c_5_n.toNat → ascS LL i.toNat j') ∧ ((LL.getD i.toNat []).length - c_5_n).toNat < ((LL.getD i.toNat []).length - j).toNat := by
        intro w3 hd hg
        refine RowSS.get (ha2.heap hd.heap') h0 (by omega) fun r3 hr3 => ?_
        refine RowI.get hr3 hj0 (by omega) ?_
        have hb4 := hbw.trans (hd.below w.heap.size)
        have := hfl i.toNat (by omega)
        refine append_int (hal2.heap hd.heap') hb4.size (by simp only [List.length_append, List.length_take]; omega) ?_
        intro t' w5 ht5 hg5 _
        refine ⟨t', j + 1, by rw [w64_succ hj0 (by omega)], ⟨hb4.grown hg5 hb4.size (fun g hg => (hal2.lt g hg).1), by omega, by omega, ?_, fun j' hj' => ?_⟩, by omega⟩
        · rw [show (j + 1).toNat = j.toNat + 1 by omega, List.take_succ_eq_append_getElem hjlt, ← getD_lt hjlt, ← List.append_assoc]
          exact ht5
        · by_cases e : j' = j.toNat
          · rw [e]; exact hg
          · exact hrow j' (by omega)
      have e1 : (j - 1).toNat = j.toNat - 1 := by omega
      have e2 : (i - 1).toNat = i.toNat - 1 := by omega
      refine bif_dec (fun h6 => ?_) (fun h6 => ?_)
      · refine RowSS.get ha2 h0 (by omega) fun r3 hr3 => ?_
        refine RowI.get hr3 hj0 (by omega) ?_
        refine RowSS.get ha2 h0 (by omega) fun r4 hr4 => ?_
        rw [w64_id (n := j - 1) (by omega) (by omega)]
        refine RowI.get hr4 (by omega) (by omega) ?_
        rw [e1]
        refine bif_dec (fun h7 => ?_) (fun h7 => ?_)
        · exact drew_intro fun w3 hd => bad w3 hd fun hg => by have := hg.1 (by omega); simp only [at2] at this; omega
        · refine bif_dec (fun h8 => ?_) (fun h8 => ?_)
          · have hst := hf.step hlt (by omega)
            refine RowSS.get ha2 h0 (by omega) fun r5 hr5 => ?_
            refine RowI.get hr5 hj0 (by omega) ?_
            rw [w64_id (n := i - 1) (by omega) (by omega)]
            refine RowSS.get ha2 (by omega) (by omega) fun r6 hr6 => ?_
            rw [e2] at hr6
            refine RowI.get hr6 hj0 (by omega) ?_
            refine drew_intro fun w3 hd => ?_
            refine bif_dec (fun h9 => ?_) (fun h9 => ?_)
            · exact bad w3 hd fun hg => by have := hg.2 (by omega); simp only [at2] at this; omega
            · exact fin w3 hd ⟨fun _ => by simp only [at2]; omega, fun _ => by simp only [at2]; omega⟩
          · exact drew_intro fun w3 hd => fin w3 hd ⟨fun _ => by simp only [at2]; omega, fun h => by omega⟩
      · refine bif_dec (fun h8 => ?_) (fun h8 => ?_)
        · have hst := hf.step hlt (by omega)
          refine RowSS.get ha2 h0 (by omega) fun r5 hr5 => ?_
          refine RowI.get hr5 hj0 (by omega) ?_
          rw [w64_id (n := i - 1) (by omega) (by omega)]
          refine RowSS.get ha2 (by omega) (by omega) fun r6 hr6 => ?_
          rw [e2] at hr6
          refine RowI.get hr6 hj0 (by omega) ?_
          refine drew_intro fun w3 hd => ?_
          refine bif_dec (fun h9 => ?_) (fun h9 => ?_)
          · exact bad w3 hd fun hg => by have := hg.2 (by omega); simp only [at2] at this; omega
          · exact fin w3 hd ⟨fun h => by omega, fun _ => by simp only [at2]; omega⟩
        · exact drew_intro fun w3 hd => fin w3 hd ⟨fun h => by omega, fun h => by omega⟩
    · rw [spec_IsTableau.A8_2_s]
      refine ⟨al2, i + 1, by rw [w64_succ h0 (by omega)], ⟨hbw, by omega, by omega, ?_, fun i' hi' j' hj' => ?_⟩, by omega⟩
      · rw [show (i + 1).toNat = i.toNat + 1 by omega, flat_take_succ hlt]
        have e9 : (LL.getD i.toNat []).take j.toNat = LL.getD i.toNat [] := List.take_of_length_le (by omega)
        rw [e9] at hal2
        exact hal2
      · by_cases e : i' = i.toNat
        · subst e; exact hrow j' (by omega)
        · exact hall i' (by omega) j' hj'
  · rw [spec_IsTableau.A5_0_s]
    rw [show i.toNat = LL.length by omega, List.take_length] at hal
    have hall' : ∀ i' j', i' < LL.length → j' < (LL.getD i' []).length → ascS LL i' j' := fun i' j' hi' hj' => hall i' (by omega) j' hj'
    refine Quiet.call1 (s := .bool) (c_specIsPerm hal.row (by rw [flatten_length]; omega)) ?_
    intro w4 hd4
    refine ⟨?_, hb.trans (hd4.below _)⟩
    have : IsTab LL ↔ IsP LL.flatten := by
      constructor
      · exact fun h => h.perm
      · intro h
        exact ⟨hf, h, fun i' j' hi' hj' => ⟨fun h0 => Int.le_of_lt ((hall' i' j' hi' hj').1 h0), fun h0 => Int.le_of_lt ((hall' i' j' hi' hj').2 h0)⟩⟩
    simp only [this]
open Classical in
noncomputable def IsTableauV (LL : List (List Int)) : Bool := decide (IsTab LL)
theorem c_implIsTableau {w : World} {a : Sl} {LL : List (List Int)} (ha : RowSS w a LL) (hL : LL.length < 2^38) (ht : tot LL < 2^38) :
    Calls PP F.impl_IsTableau #[a.v] w fun e w' => e = .returned (.bool (IsTableauV LL)) ∧ Below w.heap.size w w' := c_implIsTableau0 ha hL ht

theorem c_specIsTableau {w : World} {a : Sl} {LL : List (List Int)} (ha : RowSS w a LL) (hL : LL.length < 2^38) (ht : tot LL < 2^38) :
    Calls PP F.spec_IsTableau #[a.v] w fun e w' => e = .returned (.bool (IsTableauV LL)) ∧ Below w.heap.size w w' := c_specIsTableau0 ha hL ht

open Classical in
noncomputable def FormOfV (LL : List (List Int)) : List Int := if IsTab LL then lens LL else []
theorem FormOfV_len (LL : List (List Int)) : (FormOfV LL).length < 2^38 := by
  unfold FormOfV
  split
  · rename_i h; rw [lens_length]; have := h.form.count; omega
  · simp
theorem c_implFormOf {w : World} {a : Sl} {LL : List (List Int)} (ha : RowSS w a LL) (hL : LL.length < 2^38) (ht : tot LL < 2^38) :
    Calls PP F.impl_FormOf #[a.v] w fun e w' => ∃ s : Sl, e = .returned s.v ∧ OwnI w' w.heap.size s (FormOfV LL) ∧ Below w.heap.size w w' := by
  refine impl_FormOf.calls a ?_
  rw [impl_FormOf.E_s]
  refine (c_implIsTableau0 ha hL ht).mono ?_
  rintro e w1 ⟨rfl, hb⟩
  refine ⟨_, rfl, ?_⟩
  refine bif_intro (fun h => ?_) (fun h => ?_)
  · have h : ¬ IsTab LL := by simpa using h
    exact ⟨Sl.nil, rfl, by rw [FormOfV, if_neg h]; exact Own.nil _ _ _, hb⟩
  · have h : IsTab LL := by simpa using h
    refine (c_form (ha.grow hb) hL ht).mono ?_
    rintro e w2 ⟨s, rfl, hs, hb2⟩
    refine ⟨s, rfl, s, rfl, ?_, hb.trans (hb2.mono hb.size)⟩
    rw [FormOfV, if_pos h]; exact hs.mono hb.size
theorem c_specFormOf {w : World} {a : Sl} {LL : List (List Int)} (ha : RowSS w a LL) (hL : LL.length < 2^38) (ht : tot LL < 2^38) :
    Calls PP F.spec_FormOf #[a.v] w fun e w' => ∃ s : Sl, e = .returned s.v ∧ RowI w' s (FormOfV LL) ∧ Below w.heap.size w w' := by
  refine spec_FormOf.calls a ?_
  rw [spec_FormOf.E_s]
  refine (c_specIsTableau0 ha hL ht).mono ?_
  rintro e w1 ⟨rfl, hb⟩
  refine ⟨_, rfl, ?_⟩
  refine bif_intro (fun h => ?_) (fun h => ?_)
  · have h : ¬ IsTab LL := by simpa using h
    refine lit0 oneInt (B := w.heap.size) hb.size ?_
    intro s w2 hs hg _
    exact ⟨s, rfl, by rw [FormOfV, if_neg h]; exact hs.row, hb.grown hg hb.size (by simp)⟩
  · have h : IsTab LL := by simpa using h
    refine (c_l19Lengths (ha.grow hb) hL ht).mono ?_
    rintro e w2 ⟨s, rfl, hs, hb2⟩
    refine ⟨s, rfl, s, rfl, ?_, hb.trans (hb2.mono hb.size)⟩
    rw [FormOfV, if_pos h]; exact hs.row
theorem lawC_FnExactIsTableau (a0 : Sl) (L0 : List (List Int)) (w : World) (ha0 : RowSS w a0 L0) (hbd0 : L0.length ≤ maxLen ∧ ∀ M ∈ L0, M.length ≤ maxLen ∧ ∀ x ∈ M, -9223372036854775808 ≤ x ∧ x ≤ 9223372036854775807) :
    Calls PP F.laws_FnExactIsTableau #[a0.v] w fun e w' => e = .returned (.bool true) ∧ Below w.heap.size w w' := by
  have han0 := ha0.n
  refine laws_FnExactIsTableau.calls a0 ?_
  rw [laws_FnExactIsTableau.E_s]
  have b_0_0 : Below w.heap.size w w := Below.refl _ _
  refine Quiet.call1 (s := .int .i64) (c_szIntSS (ha0.grow b_0_0) hbd0.1 (fun M hM => (hbd0.2 M hM).1) (left := 1048576) (by omega) (by omega)) ?_
  intro w1 hd1
  have s_0 : Below w.heap.size w w1 := hd1.below _
  have b_0_1 := b_0_0.trans (s_0.mono b_0_0.size)
  refine bif_dec (fun h => ⟨rfl, b_0_1⟩) (fun hsz0 => ?_)
  obtain ⟨hz0, ez0⟩ := szW_ok (LL := L0) (by omega) hsz0
  have hn0 : L0.length < 2^38 := by omega
  have htt0 : tot L0 < 2^38 := by omega
  have b_1_1 : Below w1.heap.size w1 w1 := Below.refl _ _
  refine (c_toIntSS (ha0.grow b_0_1) hn0 htt0).mono ?_
  rintro e w2 ⟨xw0, rfl, ⟨rsxw0, hxw0⟩, s_1⟩
  refine ⟨xw0, rfl, ?_⟩
  have b_0_2 := b_0_1.trans (s_1.mono b_0_1.size)
  have b_1_2 := b_1_1.trans (s_1.mono b_1_1.size)
  have b_2_2 : Below w2.heap.size w2 w2 := Below.refl _ _
  refine (c_specIsTableau (hxw0.row.grow b_2_2) hn0 htt0).mono ?_
  rintro e w3 ⟨rfl, s_2⟩
  refine ⟨_, rfl, ?_⟩
  have b_0_3 := b_0_2.trans (s_2.mono b_0_2.size)
  have b_1_3 := b_1_2.trans (s_2.mono b_1_2.size)
  have b_2_3 := b_2_2.trans (s_2.mono b_2_2.size)
  have b_3_3 : Below w3.heap.size w3 w3 := Below.refl _ _
  refine (c_toIntSS (ha0.grow b_0_3) hn0 htt0).mono ?_
  rintro e w4 ⟨xx0, rfl, ⟨rsxx0, hxx0⟩, s_3⟩
  refine ⟨xx0, rfl, ?_⟩
  have b_0_4 := b_0_3.trans (s_3.mono b_0_3.size)
  have b_1_4 := b_1_3.trans (s_3.mono b_1_3.size)
  have b_2_4 := b_2_3.trans (s_3.mono b_2_3.size)
  have b_3_4 := b_3_3.trans (s_3.mono b_3_3.size)
  have b_4_4 : Below w4.heap.size w4 w4 := Below.refl _ _
  refine (c_implIsTableau (hxx0.row.grow b_4_4) hn0 htt0).mono ?_
  rintro e w5 ⟨rfl, s_4⟩
  refine ⟨_, rfl, ?_⟩
  have b_0_5 := b_0_4.trans (s_4.mono b_0_4.size)
  have b_1_5 := b_1_4.trans (s_4.mono b_1_4.size)
  have b_2_5 := b_2_4.trans (s_4.mono b_2_4.size)
  have b_3_5 := b_3_4.trans (s_4.mono b_3_4.size)
  have b_4_5 := b_4_4.trans (s_4.mono b_4_4.size)
  have b_5_5 : Below w5.heap.size w5 w5 := Below.refl _ _
  refine bif_f (by simp) ?_
  refine (c_toIntSS (ha0.grow b_0_5) hn0 htt0).mono ?_
  rintro e w6 ⟨y0, rfl, hy0, s_5⟩
  refine ⟨y0, rfl, ?_⟩
  have b_0_6 := b_0_5.trans (s_5.mono b_0_5.size)
  have b_1_6 := b_1_5.trans (s_5.mono b_1_5.size)
  have b_2_6 := b_2_5.trans (s_5.mono b_2_5.size)
  have b_3_6 := b_3_5.trans (s_5.mono b_3_5.size)
  have b_4_6 := b_4_5.trans (s_5.mono b_4_5.size)
  have b_5_6 := b_5_5.trans (s_5.mono b_5_5.size)
  refine Quiet.call1 (s := .bool) (c_eqIntSS (hxx0.row.grow b_4_6) hy0.row (by omega) (by omega)) ?_
  intro w7 hd7
  have s_6 : Below w6.heap.size w6 w7 := hd7.below _
  have b_0_7 := b_0_6.trans (s_6.mono b_0_6.size)
  have b_1_7 := b_1_6.trans (s_6.mono b_1_6.size)
  have b_2_7 := b_2_6.trans (s_6.mono b_2_6.size)
  have b_3_7 := b_3_6.trans (s_6.mono b_3_6.size)
  have b_4_7 := b_4_6.trans (s_6.mono b_4_6.size)
  have b_5_7 := b_5_6.trans (s_6.mono b_5_6.size)
  refine bif_f (by simp) ?_
  exact ⟨rfl, b_0_7⟩

theorem lawC_FnExactFormOf (a0 : Sl) (L0 : List (List Int)) (w : World) (ha0 : RowSS w a0 L0) (hbd0 : L0.length ≤ maxLen ∧ ∀ M ∈ L0, M.length ≤ maxLen ∧ ∀ x ∈ M, -9223372036854775808 ≤ x ∧ x ≤ 9223372036854775807) :
    Calls PP F.laws_FnExactFormOf #[a0.v] w fun e w' => e = .returned (.bool true) ∧ Below w.heap.size w w' := by
  have han0 := ha0.n
  refine laws_FnExactFormOf.calls a0 ?_
  rw [laws_FnExactFormOf.E_s]
  have b_0_0 : Below w.heap.size w w := Below.refl _ _
  refine Quiet.call1 (s := .int .i64) (c_szIntSS (ha0.grow b_0_0) hbd0.1 (fun M hM => (hbd0.2 M hM).1) (left := 1048576) (by omega) (by omega)) ?_
  intro w1 hd1
  have s_0 : Below w.heap.size w w1 := hd1.below _
  have b_0_1 := b_0_0.trans (s_0.mono b_0_0.size)
  refine bif_dec (fun h => ⟨rfl, b_0_1⟩) (fun hsz0 => ?_)
  obtain ⟨hz0, ez0⟩ := szW_ok (LL := L0) (by omega) hsz0
  have hn0 : L0.length < 2^38 := by omega
  have htt0 : tot L0 < 2^38 := by omega
  have b_1_1 : Below w1.heap.size w1 w1 := Below.refl _ _
  refine (c_toIntSS (ha0.grow b_0_1) hn0 htt0).mono ?_
  rintro e w2 ⟨xw0, rfl, ⟨rsxw0, hxw0⟩, s_1⟩
  refine ⟨xw0, rfl, ?_⟩
  have b_0_2 := b_0_1.trans (s_1.mono b_0_1.size)
  have b_1_2 := b_1_1.trans (s_1.mono b_1_1.size)
  have b_2_2 : Below w2.heap.size w2 w2 := Below.refl _ _
  refine (c_specFormOf (hxw0.row.grow b_2_2) hn0 htt0).mono ?_
  rintro e w3 ⟨w0, rfl, hw0, s_2⟩
  refine ⟨w0, rfl, ?_⟩
  have b_0_3 := b_0_2.trans (s_2.mono b_0_2.size)
  have b_1_3 := b_1_2.trans (s_2.mono b_1_2.size)
  have b_2_3 := b_2_2.trans (s_2.mono b_2_2.size)
  have b_3_3 : Below w3.heap.size w3 w3 := Below.refl _ _
  refine (c_toIntSS (ha0.grow b_0_3) hn0 htt0).mono ?_
  rintro e w4 ⟨xx0, rfl, ⟨rsxx0, hxx0⟩, s_3⟩
  refine ⟨xx0, rfl, ?_⟩
  have b_0_4 := b_0_3.trans (s_3.mono b_0_3.size)
  have b_1_4 := b_1_3.trans (s_3.mono b_1_3.size)
  have b_2_4 := b_2_3.trans (s_3.mono b_2_3.size)
  have b_3_4 := b_3_3.trans (s_3.mono b_3_3.size)
  have b_4_4 : Below w4.heap.size w4 w4 := Below.refl _ _
  refine (c_implFormOf (hxx0.row.grow b_4_4) hn0 htt0).mono ?_
  rintro e w5 ⟨g0, rfl, hg0, s_4⟩
  refine ⟨g0, rfl, ?_⟩
  have b_0_5 := b_0_4.trans (s_4.mono b_0_4.size)
  have b_1_5 := b_1_4.trans (s_4.mono b_1_4.size)
  have b_2_5 := b_2_4.trans (s_4.mono b_2_4.size)
  have b_3_5 := b_3_4.trans (s_4.mono b_3_4.size)
  have b_4_5 := b_4_4.trans (s_4.mono b_4_4.size)
  have b_5_5 : Below w5.heap.size w5 w5 := Below.refl _ _
  have hv0 : (FormOfV L0).length < 2^38 := FormOfV_len L0
  refine Quiet.call1 (s := .bool) (c_eqIntS (hg0.row.grow b_5_5) (hw0.grow b_3_5) (by omega)) ?_
  intro w6 hd6
  have s_5 : Below w5.heap.size w5 w6 := hd6.below _
  have b_0_6 := b_0_5.trans (s_5.mono b_0_5.size)
  have b_1_6 := b_1_5.trans (s_5.mono b_1_5.size)
  have b_2_6 := b_2_5.trans (s_5.mono b_2_5.size)
  have b_3_6 := b_3_5.trans (s_5.mono b_3_5.size)
  have b_4_6 := b_4_5.trans (s_5.mono b_4_5.size)
  have b_5_6 := b_5_5.trans (s_5.mono b_5_5.size)
  refine bif_f (by simp) ?_
  have b_6_6 : Below w6.heap.size w6 w6 := Below.refl _ _
  refine (c_toIntSS (ha0.grow b_0_6) hn0 htt0).mono ?_
  rintro e w7 ⟨y0, rfl, hy0, s_6⟩
  refine ⟨y0, rfl, ?_⟩
  have b_0_7 := b_0_6.trans (s_6.mono b_0_6.size)
  have b_1_7 := b_1_6.trans (s_6.mono b_1_6.size)
  have b_2_7 := b_2_6.trans (s_6.mono b_2_6.size)
  have b_3_7 := b_3_6.trans (s_6.mono b_3_6.size)
  have b_4_7 := b_4_6.trans (s_6.mono b_4_6.size)
  have b_5_7 := b_5_6.trans (s_6.mono b_5_6.size)
  have b_6_7 := b_6_6.trans (s_6.mono b_6_6.size)
  refine Quiet.call1 (s := .bool) (c_eqIntSS (hxx0.row.grow b_4_7) hy0.row (by omega) (by omega)) ?_
  intro w8 hd8
  have s_7 : Below w7.heap.size w7 w8 := hd8.below _
  have b_0_8 := b_0_7.trans (s_7.mono b_0_7.size)
  have b_1_8 := b_1_7.trans (s_7.mono b_1_7.size)
  have b_2_8 := b_2_7.trans (s_7.mono b_2_7.size)
  have b_3_8 := b_3_7.trans (s_7.mono b_3_7.size)
  have b_4_8 := b_4_7.trans (s_7.mono b_4_7.size)
  have b_5_8 := b_5_7.trans (s_7.mono b_5_7.size)
  have b_6_8 := b_6_7.trans (s_7.mono b_6_7.size)
  refine bif_f (by simp) ?_
  have hxx0m := hxx0.grow b_4_8
  have hg0m := hg0.grow b_5_8
  refine (c_markIntSS hxx0m (by omega) (by omega) (k := 1) (by omega) (by omega)).mono ?_
  rintro e w9 ⟨rfl, _, ks_9, hz_9⟩
  refine ⟨_, rfl, ?_⟩
  have lo_9 : ∀ g, (∃ r ∈ rsxx0, r.blk = some g) → w3.heap.size ≤ g := (fun g e => by obtain ⟨r, hr, e⟩ := e; exact (hxx0.lt hr e).1)
  have hi_9 : ∀ g, (∃ r ∈ rsxx0, r.blk = some g) → g < w4.heap.size := (fun g e => by obtain ⟨r, hr, e⟩ := e; exact (hxx0.lt hr e).2)
  have b_0_9 := b_0_8.trans (ks_9.below (B := w.heap.size) (fun g e => Nat.le_trans b_0_3.size (lo_9 g e)) b_0_8.size)
  have b_1_9 := b_1_8.trans (ks_9.below (B := w1.heap.size) (fun g e => Nat.le_trans b_1_3.size (lo_9 g e)) b_1_8.size)
  have b_2_9 := b_2_8.trans (ks_9.below (B := w2.heap.size) (fun g e => Nat.le_trans b_2_3.size (lo_9 g e)) b_2_8.size)
  have b_3_9 := b_3_8.trans (ks_9.below (B := w3.heap.size) (fun g e => Nat.le_trans b_3_3.size (lo_9 g e)) b_3_8.size)
  have hg0m := hg0m.keeps ks_9 (fun g e1 e2 => by have := hi_9 g e2; have := (hg0.lt g e1).1; have := b_4_4.size; omega)
  refine bif_dec (fun h => by omega) (fun h => ?_)
  have b_9_9 : Below w9.heap.size w9 w9 := Below.refl _ _
  have hg0 := hg0m
  refine Quiet.call1 (s := .bool) (c_eqIntS (hg0.row.grow b_9_9) (hw0.grow b_3_9) (by omega)) ?_
  intro w10 hd10
  have s_9 : Below w9.heap.size w9 w10 := hd10.below _
  have b_0_10 := b_0_9.trans (s_9.mono b_0_9.size)
  have b_1_10 := b_1_9.trans (s_9.mono b_1_9.size)
  have b_2_10 := b_2_9.trans (s_9.mono b_2_9.size)
  have b_3_10 := b_3_9.trans (s_9.mono b_3_9.size)
  have b_9_10 := b_9_9.trans (s_9.mono b_9_9.size)
  refine bif_f (by simp) ?_
  have hg0p := hg0.grow b_9_10
  have b_10_10 : Below w10.heap.size w10 w10 := Below.refl _ _
  refine (c_markIntS hg0p (by omega) (k := 1) (by omega) (by omega)).mono ?_
  rintro e w11 ⟨rfl, hq0, hg_11, hz_11⟩
  have ks_11 := keeps_grown hg_11
  refine ⟨_, rfl, ?_⟩
  have lo_11 : ∀ g, g0.blk = some g → w4.heap.size ≤ g := (fun g e => (hg0p.lt g e).1)
  have b_0_11 := b_0_10.trans (ks_11.below (B := w.heap.size) (fun g e => Nat.le_trans b_0_4.size (lo_11 g e)) b_0_10.size)
  have b_1_11 := b_1_10.trans (ks_11.below (B := w1.heap.size) (fun g e => Nat.le_trans b_1_4.size (lo_11 g e)) b_1_10.size)
  have b_2_11 := b_2_10.trans (ks_11.below (B := w2.heap.size) (fun g e => Nat.le_trans b_2_4.size (lo_11 g e)) b_2_10.size)
  have b_3_11 := b_3_10.trans (ks_11.below (B := w3.heap.size) (fun g e => Nat.le_trans b_3_4.size (lo_11 g e)) b_3_10.size)
  have b_11_11 : Below w11.heap.size w11 w11 := Below.refl _ _
  refine Quiet.call1 (s := .int .i64) (c_heldIntS (n := (FormOfV L0).length) (hq0.row.grow b_11_11) (by omega) (by omega) (by omega)) ?_
  intro w12 hd12
  have s_11 : Below w11.heap.size w11 w12 := hd12.below _
  have b_0_12 := b_0_11.trans (s_11.mono b_0_11.size)
  have b_1_12 := b_1_11.trans (s_11.mono b_1_11.size)
  have b_2_12 := b_2_11.trans (s_11.mono b_2_11.size)
  have b_3_12 := b_3_11.trans (s_11.mono b_3_11.size)
  have b_11_12 := b_11_11.trans (s_11.mono b_11_11.size)
  refine bif_dec (fun h => by omega) (fun h => ?_)
  refine bif_f (by simp) ?_
  have b_12_12 : Below w12.heap.size w12 w12 := Below.refl _ _
  refine (c_toIntSS (ha0.grow b_0_12) hn0 htt0).mono ?_
  rintro e w13 ⟨xv0, rfl, ⟨rsxv0, hxv0⟩, s_12⟩
  refine ⟨xv0, rfl, ?_⟩
  have b_0_13 := b_0_12.trans (s_12.mono b_0_12.size)
  have b_1_13 := b_1_12.trans (s_12.mono b_1_12.size)
  have b_2_13 := b_2_12.trans (s_12.mono b_2_12.size)
  have b_3_13 := b_3_12.trans (s_12.mono b_3_12.size)
  have b_11_13 := b_11_12.trans (s_12.mono b_11_12.size)
  have b_12_13 := b_12_12.trans (s_12.mono b_12_12.size)
  have b_13_13 : Below w13.heap.size w13 w13 := Below.refl _ _
  refine (c_implFormOf (hxv0.row.grow b_13_13) hn0 htt0).mono ?_
  rintro e w14 ⟨h0, rfl, hh0, s_13⟩
  refine ⟨h0, rfl, ?_⟩
  have b_0_14 := b_0_13.trans (s_13.mono b_0_13.size)
  have b_1_14 := b_1_13.trans (s_13.mono b_1_13.size)
  have b_2_14 := b_2_13.trans (s_13.mono b_2_13.size)
  have b_3_14 := b_3_13.trans (s_13.mono b_3_13.size)
  have b_11_14 := b_11_13.trans (s_13.mono b_11_13.size)
  have b_12_14 := b_12_13.trans (s_13.mono b_12_13.size)
  have b_13_14 := b_13_13.trans (s_13.mono b_13_13.size)
  have b_14_14 : Below w14.heap.size w14 w14 := Below.refl _ _
  refine Quiet.call1 (s := .bool) (c_eqIntS (hh0.row.grow b_14_14) (hw0.grow b_3_14) (by omega)) ?_
  intro w15 hd15
  have s_14 : Below w14.heap.size w14 w15 := hd15.below _
  have b_0_15 := b_0_14.trans (s_14.mono b_0_14.size)
  have b_1_15 := b_1_14.trans (s_14.mono b_1_14.size)
  have b_2_15 := b_2_14.trans (s_14.mono b_2_14.size)
  have b_3_15 := b_3_14.trans (s_14.mono b_3_14.size)
  have b_11_15 := b_11_14.trans (s_14.mono b_11_14.size)
  have b_12_15 := b_12_14.trans (s_14.mono b_12_14.size)
  have b_13_15 := b_13_14.trans (s_14.mono b_13_14.size)
  have b_14_15 := b_14_14.trans (s_14.mono b_14_14.size)
  refine bif_f (by simp) ?_
  refine Quiet.call1 (s := .int .i64) (c_heldIntS (n := (FormOfV L0).length) (hq0.row.grow b_11_15) (by omega) (by omega) (by omega)) ?_
  intro w16 hd16
  have s_15 : Below w15.heap.size w15 w16 := hd16.below _
  have b_0_16 := b_0_15.trans (s_15.mono b_0_15.size)
  have b_1_16 := b_1_15.trans (s_15.mono b_1_15.size)
  have b_2_16 := b_2_15.trans (s_15.mono b_2_15.size)
  have b_3_16 := b_3_15.trans (s_15.mono b_3_15.size)
  have b_11_16 := b_11_15.trans (s_15.mono b_11_15.size)
  have b_12_16 := b_12_15.trans (s_15.mono b_12_15.size)
  have b_13_16 := b_13_15.trans (s_15.mono b_13_15.size)
  have b_14_16 := b_14_15.trans (s_15.mono b_14_15.size)
  refine bif_dec (fun h => by omega) (fun h => ?_)
  refine bif_f (by simp) ?_
  exact ⟨rfl, b_0_16⟩

end Go.Proofs.Ytfainpmcdfckkaa
