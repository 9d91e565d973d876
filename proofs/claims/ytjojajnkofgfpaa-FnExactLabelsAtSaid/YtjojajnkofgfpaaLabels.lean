/- ChildLabels, LabelsAt: both texts, and the laws. -/
import Derived.Test.YtjojajnkofgfpaaCodeLb
import Derived.Test.YtjojajnkofgfpaaSitesL
import Derived.Test.YtjojajnkofgfpaaIns15
import Derived.Test.YtjojajnkofgfpaaLawSz
namespace Go.Proofs.Ytjojajnkofgfpaa
open Go Go.RowKit
set_option maxRecDepth 100000

def siteN (LL : List (List Int)) (p : List Int) : Int := ((sitesV LL p).length : Int)
def labsV (LL : List (List Int)) (PS : List (List Int)) : List Int := sortI (PS.map (siteN LL))
theorem c_six {n : Int} {K : Bool → Prop} (hk : K (decide (0 ≤ n) && decide (n ≤ 6))) : pcall1 .bool PP F.impl_isSix #[vI n] K := Pure.pcall1 (s := .bool) (c_isSix' n) hk
theorem c_labels {w : World} {l ps : Sl} {LL PS : List (List Int)} (hl : RowSS w l LL) (hB : BasisOk LL) (hps : RowSS w ps PS) (hlen : ∀ p ∈ PS, p.length ≤ 7) (hc : PS.length ≤ 46656) :
    Calls PP F.impl_labels #[l.v, ps.v] w fun e w' => ∃ s : Sl, e = .returned s.v ∧ OwnI w' w.heap.size s (labsV LL PS) ∧ Below w.heap.size w w' := by
  have hpn := hps.n
  refine impl_labels.calls l ps ?_
  rw [impl_labels.E_s]
  refine lit0 oneInt (B := w.heap.size) (Nat.le_refl _) ?_
  intro o w1 ho hg1 _
  have hb1 := below_of_grow hg1
  rw [hpn]
  refine impl_labels.L3_rule _ _ _ _ _ _ _ (I := fun o i w' => 0 ≤ i ∧ i ≤ PS.length ∧ Below w.heap.size w w' ∧ OwnI w' w.heap.size o ((PS.take i.toNat).map (siteN LL))) (μ := fun _ i _ => (PS.length - i).toNat)
    ⟨by omega, by omega, hb1, by simpa [OwnI] using ho⟩ ?_
  rintro o i w' ⟨hi0, hi, hb, ho⟩
  rw [impl_labels.B3_s]
  refine bif_dec (fun h3 => ?_) (fun h3 => ?_)
  · have hlt : i.toNat < PS.length := by omega
    refine RowSS.get (hps.grow hb) hi0 (by omega) fun r hr => ?_
    rw [getD_SS hlt] at hr
    refine (c_active (hl.grow hb) hB hr (hlen _ (List.getElem_mem hlt))).mono ?_
    rintro e w3 ⟨u, rfl, hu, hb3⟩
    refine ⟨u, rfl, ?_⟩
    have hun : (u.n : Int) = siteN LL PS[i.toNat] := by have := hu.n; rw [List.length_map] at this; rw [siteN, this]
    simp only [hun]
    have hb13 := hb.trans (hb3.mono hb.size)
    have ho3 := Own.grow ho hb3
    refine append_int ho3 hb13.size (by rw [List.length_map, List.length_take]; omega) ?_
    intro o' w4 ho4 hg4 _
    refine ⟨o', i + 1, by rw [w64_succ hi0 (by omega)], ⟨by omega, by omega, hb13.grown hg4 hb13.size (fun g hg => (ho3.lt g hg).1), ?_⟩, by omega⟩
    rw [show (i + 1).toNat = i.toNat + 1 by omega, List.take_succ_eq_append_getElem hlt, List.map_append]
    exact ho4
  · rw [impl_labels.A3_0_s]
    rw [show i.toNat = PS.length by omega, List.take_length] at ho
    refine c_Sort ho (by rw [List.length_map]; omega) fun w3 ho3 hg3 => ?_
    exact ⟨o, rfl, ho3, hb.grown hg3 hb.size (fun g hg => (ho.lt g hg).1)⟩
/-! ### ChildLabels -/
open Classical in
noncomputable def ChildLabelsV (LL : List (List Int)) (P : List Int) : List Int := if InCl LL P ∧ P.length ≤ 6 then labsV LL (childrenV LL P) else []
theorem labsV_length (LL PS : List (List Int)) : (labsV LL PS).length = PS.length := by rw [labsV, sortI_length, List.length_map]
theorem ChildLabelsV_len (LL : List (List Int)) (P : List Int) : (ChildLabelsV LL P).length < 2^38 := by
  unfold ChildLabelsV
  split
  · rename_i h
    have := childrenV_len LL P
    rw [labsV_length]; omega
  · simp
theorem c_implChildLabels {w : World} {l p : Sl} {LL : List (List Int)} {P : List Int} (hl : RowSS w l LL) (hL : LL.length < 2^38) (ht : tot LL < 2^37) (hp : RowI w p P) (hP : P.length < 2^37) :
    Calls PP F.impl_ChildLabels #[l.v, p.v] w fun e w' => ∃ s : Sl, e = .returned s.v ∧ OwnI w' w.heap.size s (ChildLabelsV LL P) ∧ Below w.heap.size w w' := by
  have hpn : p.n = P.length := by have := hp.n; simpa using this
  refine impl_ChildLabels.calls l p ?_
  rw [impl_ChildLabels.E_s, hpn]
  refine bif_dec (fun h => ?_) (fun h6 => ?_)
  · exact ⟨Sl.nil, rfl, by rw [ChildLabelsV, if_neg (fun hh => by have := hh.2; omega)]; exact Own.nil _ _ _, Below.refl _ _⟩
  refine (c_hasSites hl hL ht hp hP).mono ?_
  rintro e w1 ⟨rfl, hb1⟩
  refine ⟨_, rfl, ?_⟩
  refine bif_intro (fun h => ?_) (fun h => ?_)
  · have h : ¬ (InCl LL P ∧ P.length < 8) := by simpa using h
    exact ⟨Sl.nil, rfl, by rw [ChildLabelsV, if_neg (fun hh => h ⟨hh.1, by omega⟩)]; exact Own.nil _ _ _, hb1⟩
  have h : InCl LL P ∧ P.length < 8 := by simpa using h
  refine (c_children (hl.grow hb1) h.1.1 (hp.grow hb1) (by omega)).mono ?_
  rintro e w2 ⟨t, rfl, hto, hb12⟩
  refine ⟨t, rfl, ?_⟩
  have hb2 := hb1.trans (hb12.mono hb1.size)
  have hcl := childrenV_len LL P
  refine (c_labels (hl.grow hb2) h.1.1 hto.row (fun q hq => by obtain ⟨i, hi, rfl, _⟩ := childrenV_mem hq; rw [childW_length hi]; omega) (by omega)).mono ?_
  rintro e w3 ⟨s, rfl, hs, hb3⟩
  exact ⟨s, rfl, s, rfl, by rw [ChildLabelsV, if_pos ⟨h.1, by omega⟩]; exact hs.mono hb2.size, hb2.trans (hb3.mono hb2.size)⟩
theorem c_specChildLabels {w : World} {l p : Sl} {LL : List (List Int)} {P : List Int} (hl : RowSS w l LL) (hL : LL.length < 2^38) (ht : tot LL < 2^37) (hp : RowI w p P) (hP : P.length < 2^37) :
    Calls PP F.spec_ChildLabels #[l.v, p.v] w fun e w' => ∃ s : Sl, e = .returned s.v ∧ RowI w' s (ChildLabelsV LL P) ∧ Below w.heap.size w w' := by
  have hpn : p.n = P.length := by have := hp.n; simpa using this
  refine spec_ChildLabels.calls l p ?_
  rw [spec_ChildLabels.E_s, hpn]
  refine lit0 oneInt (B := w.heap.size) (Nat.le_refl _) ?_
  intro o w1 ho hg1 hoc
  have hb1 := below_of_grow hg1
  refine bif_dec (fun h => ?_) (fun h6 => ?_)
  · exact ⟨o, rfl, by rw [ChildLabelsV, if_neg (fun hh => by have := hh.2; omega)]; exact ho.row, hb1⟩
  refine (c_specChildrenOf0 (hl.grow hb1) hL ht (hp.grow hb1) hP).mono ?_
  rintro e w2 ⟨t, rfl, hto, hb12⟩
  refine ⟨t, rfl, ?_⟩
  have hb2 := hb1.trans (hb12.mono hb1.size)
  have ho2 : OwnI w2 w2.heap.size o [] := ⟨ho.n, ho.nc, ho.cm, .inl hoc⟩
  have htn := hto.row.n
  have htr := hto.row
  have hmem : ∀ q ∈ ChildrenOfV LL P, BasisOk LL ∧ q.length ≤ 7 := fun q hq => by
    unfold ChildrenOfV at hq
    split at hq
    · rename_i h
      obtain ⟨i, hi, rfl, _⟩ := childrenV_mem hq
      exact ⟨h.1.1, by rw [childW_length hi]; omega⟩
    · simp at hq
  have hlen : (ChildrenOfV LL P).length ≤ 9 := by
    unfold ChildrenOfV
    split
    · have := childrenV_len LL P; omega
    · simp
  have hV : ChildLabelsV LL P = labsV LL (ChildrenOfV LL P) := by
    unfold ChildLabelsV ChildrenOfV
    by_cases h : InCl LL P
    · rw [if_pos ⟨h, by omega⟩, if_pos ⟨h, by omega⟩]
    · rw [if_neg (fun hh => h hh.1), if_neg (fun hh => h hh.1)]; simp [labsV, sortI]
  rw [hV]
  refine spec_ChildLabels.L6_rule _ _ _ _ _ _ (I := fun o i w' => 0 ≤ i ∧ i ≤ (ChildrenOfV LL P).length ∧ Below w2.heap.size w2 w' ∧ OwnI w' w2.heap.size o (((ChildrenOfV LL P).take i.toNat).map (siteN LL))) (μ := fun _ i _ => ((ChildrenOfV LL P).length - i).toNat)
    ⟨by omega, by omega, Below.refl _ _, by simpa [OwnI] using ho2⟩ ?_
  rintro o i w' ⟨hi0, hi, hb, ho⟩
  rw [spec_ChildLabels.B6_s, htn]
  have hbw := hb2.trans (hb.mono hb2.size)
  refine bif_dec (fun h3 => ?_) (fun h3 => ?_)
  · have hlt : i.toNat < (ChildrenOfV LL P).length := by omega
    refine RowSS.get (htr.grow hb) hi0 (by omega) fun r hr => ?_
    rw [getD_SS hlt] at hr
    obtain ⟨hB, hq7⟩ := hmem _ (List.getElem_mem hlt)
    refine (c_l14Sites (hl.grow hbw) hB hr hq7).mono ?_
    rintro e w3 ⟨u, rfl, hu, hb3⟩
    refine ⟨u, rfl, ?_⟩
    have hun : (u.n : Int) = siteN LL (ChildrenOfV LL P)[i.toNat] := by have := hu.n; rw [List.length_map] at this; rw [siteN, this]
    simp only [hun]
    have hb13 := hb.trans (hb3.mono hb.size)
    have ho3 := Own.grow ho hb3
    refine append_int ho3 hb13.size (by rw [List.length_map, List.length_take]; omega) ?_
    intro o' w4 ho4 hg4 _
    refine ⟨o', i + 1, by rw [w64_succ hi0 (by omega)], ⟨by omega, by omega, hb13.grown hg4 hb13.size (fun g hg => (ho3.lt g hg).1), ?_⟩, by omega⟩
    rw [show (i + 1).toNat = i.toNat + 1 by omega, List.take_succ_eq_append_getElem hlt, List.map_append]
    exact ho4
  · rw [spec_ChildLabels.A6_0_s]
    rw [show i.toNat = (ChildrenOfV LL P).length by omega, List.take_length] at ho
    refine (c_l15Sort ho.row (by rw [List.length_map]; omega)).mono ?_
    rintro e w3 ⟨s, rfl, hs, hb3⟩
    exact ⟨s, rfl, s, rfl, hs.row, hbw.trans (hb3.mono hbw.size)⟩
/-! ### LabelsAt -/
open Classical in
noncomputable def LabelsAtV (LL : List (List Int)) (n : Int) : List Int := if BasisOk LL ∧ 0 ≤ n ∧ n ≤ 6 then labsV LL (classV LL n.toNat) else []
theorem LabelsAtV_len (LL : List (List Int)) (n : Int) : (LabelsAtV LL n).length < 2^38 := by
  unfold LabelsAtV
  split
  · rename_i h
    have := classV_len (LL := LL) (n := n.toNat) (by omega)
    rw [labsV_length]; omega
  · simp
theorem c_implLabelsAt {w : World} {l : Sl} {LL : List (List Int)} (hl : RowSS w l LL) (hL : LL.length < 2^38) (ht : tot LL < 2^37) (n : Int) :
    Calls PP F.impl_LabelsAt #[l.v, vI n] w fun e w' => ∃ s : Sl, e = .returned s.v ∧ OwnI w' w.heap.size s (LabelsAtV LL n) ∧ Below w.heap.size w w' := by
  refine impl_LabelsAt.calls l n ?_
  rw [impl_LabelsAt.E_s]
  refine (c_implIsBasis hl hL ht).mono ?_
  rintro e w1 ⟨rfl, hb1⟩
  refine ⟨_, rfl, ?_⟩
  refine bif_intro (fun h => ?_) (fun h => ?_)
  · have h : ¬ BasisOk LL := by simpa [IsBasisV] using h
    exact ⟨Sl.nil, rfl, by rw [LabelsAtV, if_neg (fun hh => h hh.1)]; exact Own.nil _ _ _, hb1⟩
  have hB : BasisOk LL := by simpa [IsBasisV] using h
  refine c_six ?_
  refine bif_intro (fun h => ?_) (fun h => ?_)
  · have h : ¬ (0 ≤ n ∧ n ≤ 6) := by simp at h; omega
    exact ⟨Sl.nil, rfl, by rw [LabelsAtV, if_neg (fun hh => h hh.2)]; exact Own.nil _ _ _, hb1⟩
  have hn : 0 ≤ n ∧ n ≤ 6 := by simpa using h
  have hV : LabelsAtV LL n = labsV LL (classV LL n.toNat) := by rw [LabelsAtV, if_pos ⟨hB, hn⟩]
  rw [hV]
  obtain ⟨n, rfl⟩ : ∃ m : Nat, n = m := ⟨n.toNat, by omega⟩
  rw [Int.toNat_natCast]
  refine (c_class (hl.grow hb1) hB n (by omega)).mono ?_
  rintro e w2 ⟨t, rfl, hto, hb12⟩
  refine ⟨t, rfl, ?_⟩
  have hb2 := hb1.trans (hb12.mono hb1.size)
  refine (c_labels (hl.grow hb2) hB hto.row (fun q hq => by have := permsV_len (classV_mem hq).1; omega) (classV_len (by omega))).mono ?_
  rintro e w3 ⟨s, rfl, hs, hb3⟩
  exact ⟨s, rfl, s, rfl, hs.mono hb2.size, hb2.trans (hb3.mono hb2.size)⟩
theorem c_specLabelsAt {w : World} {l : Sl} {LL : List (List Int)} (hl : RowSS w l LL) (hL : LL.length < 2^38) (ht : tot LL < 2^37) (n : Int) :
    Calls PP F.spec_LabelsAt #[l.v, vI n] w fun e w' => ∃ s : Sl, e = .returned s.v ∧ RowI w' s (LabelsAtV LL n) ∧ Below w.heap.size w w' := by
  refine spec_LabelsAt.calls l n ?_
  rw [spec_LabelsAt.E_s]
  refine lit0 oneInt (B := w.heap.size) (Nat.le_refl _) ?_
  intro o w1 ho hg1 hoc
  have hb1 := below_of_grow hg1
  refine (c_ClassOf (hl.grow hb1) hL ht n).mono ?_
  rintro e w2 ⟨t, rfl, hto, hb12⟩
  refine ⟨t, rfl, ?_⟩
  have hb2 := hb1.trans (hb12.mono hb1.size)
  have ho2 : OwnI w2 w2.heap.size o [] := ⟨ho.n, ho.nc, ho.cm, .inl hoc⟩
  have htn := hto.row.n
  have htr := hto.row
  have hmem : ∀ q ∈ ClassOfV LL n, BasisOk LL ∧ q.length ≤ 7 := fun q hq => by
    unfold ClassOfV at hq
    split at hq
    · rename_i h
      have := permsV_len (classV_mem hq).1
      exact ⟨h.1, by omega⟩
    · simp at hq
  have hlen : (ClassOfV LL n).length ≤ 46656 := by
    unfold ClassOfV
    split
    · rename_i h; exact classV_len (by omega)
    · simp
  have hV : LabelsAtV LL n = labsV LL (ClassOfV LL n) := by
    unfold LabelsAtV ClassOfV
    split
    · rfl
    · simp [labsV, sortI]
  rw [hV]
  refine spec_LabelsAt.L4_rule _ _ _ _ _ _ (I := fun o i w' => 0 ≤ i ∧ i ≤ (ClassOfV LL n).length ∧ Below w2.heap.size w2 w' ∧ OwnI w' w2.heap.size o (((ClassOfV LL n).take i.toNat).map (siteN LL))) (μ := fun _ i _ => ((ClassOfV LL n).length - i).toNat)
    ⟨by omega, by omega, Below.refl _ _, by simpa [OwnI] using ho2⟩ ?_
  rintro o i w' ⟨hi0, hi, hb, ho⟩
  rw [spec_LabelsAt.B4_s, htn]
  have hbw := hb2.trans (hb.mono hb2.size)
  refine bif_dec (fun h3 => ?_) (fun h3 => ?_)
  · have hlt : i.toNat < (ClassOfV LL n).length := by omega
    refine RowSS.get (htr.grow hb) hi0 (by omega) fun r hr => ?_
    rw [getD_SS hlt] at hr
    obtain ⟨hB, hq7⟩ := hmem _ (List.getElem_mem hlt)
    refine (c_l14Sites (hl.grow hbw) hB hr hq7).mono ?_
    rintro e w3 ⟨u, rfl, hu, hb3⟩
    refine ⟨u, rfl, ?_⟩
    have hun : (u.n : Int) = siteN LL (ClassOfV LL n)[i.toNat] := by have := hu.n; rw [List.length_map] at this; rw [siteN, this]
    simp only [hun]
    have hb13 := hb.trans (hb3.mono hb.size)
    have ho3 := Own.grow ho hb3
    refine append_int ho3 hb13.size (by rw [List.length_map, List.length_take]; omega) ?_
    intro o' w4 ho4 hg4 _
    refine ⟨o', i + 1, by rw [w64_succ hi0 (by omega)], ⟨by omega, by omega, hb13.grown hg4 hb13.size (fun g hg => (ho3.lt g hg).1), ?_⟩, by omega⟩
    rw [show (i + 1).toNat = i.toNat + 1 by omega, List.take_succ_eq_append_getElem hlt, List.map_append]
    exact ho4
  · rw [spec_LabelsAt.A4_0_s]
    rw [show i.toNat = (ClassOfV LL n).length by omega, List.take_length] at ho
    refine (c_l15Sort ho.row (by rw [List.length_map]; omega)).mono ?_
    rintro e w3 ⟨s, rfl, hs, hb3⟩
    exact ⟨s, rfl, s, rfl, hs.row, hbw.trans (hb3.mono hbw.size)⟩
theorem lawC_FnExactChildLabels (a0 : Sl) (L0 : List (List Int)) (a1 : Sl) (L1 : List Int) (w : World) (ha0 : RowSS w a0 L0) (hbd0 : L0.length ≤ maxLen ∧ ∀ M ∈ L0, M.length ≤ maxLen ∧ ∀ x ∈ M, -9223372036854775808 ≤ x ∧ x ≤ 9223372036854775807) (ha1 : RowI w a1 L1) (hbd1 : ∀ x ∈ L1, -9223372036854775808 ≤ x ∧ x ≤ 9223372036854775807) :
    Calls PP F.laws_FnExactChildLabels #[a0.v, a1.v] w fun e w' => e = .returned (.bool true) ∧ Below w.heap.size w w' := by
  have han0 := ha0.n
  have han1 : a1.n = L1.length := by have := ha1.n; simpa using this
  refine laws_FnExactChildLabels.calls a0 a1 ?_
  rw [laws_FnExactChildLabels.E_s]
  have b_0_0 : Below w.heap.size w w := Below.refl _ _
  refine bif_dec (fun h => ⟨rfl, b_0_0⟩) (fun h1s => ?_)
  have hL1 : L1.length < 2 ^ 38 := by omega
  refine Quiet.call1 (s := .int .i64) (c_szIntSS (ha0.grow b_0_0) hbd0.1 (fun M hM => (hbd0.2 M hM).1) (left := 1048576) (by omega) (by omega)) ?_
  intro w1 hd1
  have s_0 : Below w.heap.size w w1 := hd1.below _
  have b_0_1 := b_0_0.trans (s_0.mono b_0_0.size)
  refine bif_dec (fun h => ⟨rfl, b_0_1⟩) (fun hsz0 => ?_)
  obtain ⟨hz0, ez0⟩ := szW_ok (LL := L0) (by omega) hsz0
  have hn0 : L0.length < 2^38 := by omega
  have htt0 : tot L0 < 2^38 := by omega
  have b_1_1 : Below w1.heap.size w1 w1 := Below.refl _ _
  refine (c_toIntSS (ha0.grow b_0_1) hn0 htt0).mono ?_
  rintro e w2 ⟨xw0, rfl, ⟨rsxw0, hxw0⟩, s_1⟩
  refine ⟨xw0, rfl, ?_⟩
  have b_0_2 := b_0_1.trans (s_1.mono b_0_1.size)
  have b_1_2 := b_1_1.trans (s_1.mono b_1_1.size)
  have b_2_2 : Below w2.heap.size w2 w2 := Below.refl _ _
  refine (c_toIntS (ha1.grow b_0_2) (by omega)).mono ?_
  rintro e w3 ⟨xw1, rfl, hxw1, s_2⟩
  refine ⟨xw1, rfl, ?_⟩
  have b_0_3 := b_0_2.trans (s_2.mono b_0_2.size)
  have b_1_3 := b_1_2.trans (s_2.mono b_1_2.size)
  have b_2_3 := b_2_2.trans (s_2.mono b_2_2.size)
  have b_3_3 : Below w3.heap.size w3 w3 := Below.refl _ _
  refine (c_specChildLabels (hxw0.row.grow b_2_3) (by omega) (by omega) (hxw1.row.grow b_3_3) (by omega)).mono ?_
  rintro e w4 ⟨w0, rfl, hw0, s_3⟩
  refine ⟨w0, rfl, ?_⟩
  have b_0_4 := b_0_3.trans (s_3.mono b_0_3.size)
  have b_1_4 := b_1_3.trans (s_3.mono b_1_3.size)
  have b_2_4 := b_2_3.trans (s_3.mono b_2_3.size)
  have b_3_4 := b_3_3.trans (s_3.mono b_3_3.size)
  have b_4_4 : Below w4.heap.size w4 w4 := Below.refl _ _
  refine (c_toIntSS (ha0.grow b_0_4) hn0 htt0).mono ?_
  rintro e w5 ⟨xx0, rfl, ⟨rsxx0, hxx0⟩, s_4⟩
  refine ⟨xx0, rfl, ?_⟩
  have b_0_5 := b_0_4.trans (s_4.mono b_0_4.size)
  have b_1_5 := b_1_4.trans (s_4.mono b_1_4.size)
  have b_2_5 := b_2_4.trans (s_4.mono b_2_4.size)
  have b_3_5 := b_3_4.trans (s_4.mono b_3_4.size)
  have b_4_5 := b_4_4.trans (s_4.mono b_4_4.size)
  have b_5_5 : Below w5.heap.size w5 w5 := Below.refl _ _
  refine (c_toIntS (ha1.grow b_0_5) (by omega)).mono ?_
  rintro e w6 ⟨xx1, rfl, hxx1, s_5⟩
  refine ⟨xx1, rfl, ?_⟩
  have b_0_6 := b_0_5.trans (s_5.mono b_0_5.size)
  have b_1_6 := b_1_5.trans (s_5.mono b_1_5.size)
  have b_2_6 := b_2_5.trans (s_5.mono b_2_5.size)
  have b_3_6 := b_3_5.trans (s_5.mono b_3_5.size)
  have b_4_6 := b_4_5.trans (s_5.mono b_4_5.size)
  have b_5_6 := b_5_5.trans (s_5.mono b_5_5.size)
  have b_6_6 : Below w6.heap.size w6 w6 := Below.refl _ _
  refine (c_implChildLabels (hxx0.row.grow b_5_6) (by omega) (by omega) (hxx1.row.grow b_6_6) (by omega)).mono ?_
  rintro e w7 ⟨g0, rfl, hg0, s_6⟩
  refine ⟨g0, rfl, ?_⟩
  have b_0_7 := b_0_6.trans (s_6.mono b_0_6.size)
  have b_1_7 := b_1_6.trans (s_6.mono b_1_6.size)
  have b_2_7 := b_2_6.trans (s_6.mono b_2_6.size)
  have b_3_7 := b_3_6.trans (s_6.mono b_3_6.size)
  have b_4_7 := b_4_6.trans (s_6.mono b_4_6.size)
  have b_5_7 := b_5_6.trans (s_6.mono b_5_6.size)
  have b_6_7 := b_6_6.trans (s_6.mono b_6_6.size)
  have b_7_7 : Below w7.heap.size w7 w7 := Below.refl _ _
  have hv0 : (ChildLabelsV L0 L1).length < 2^38 := ChildLabelsV_len L0 L1
  refine Quiet.call1 (s := .bool) (c_eqIntS (hg0.row.grow b_7_7) (hw0.grow b_4_7) (by omega)) ?_
  intro w8 hd8
  have s_7 : Below w7.heap.size w7 w8 := hd8.below _
  have b_0_8 := b_0_7.trans (s_7.mono b_0_7.size)
  have b_1_8 := b_1_7.trans (s_7.mono b_1_7.size)
  have b_2_8 := b_2_7.trans (s_7.mono b_2_7.size)
  have b_3_8 := b_3_7.trans (s_7.mono b_3_7.size)
  have b_4_8 := b_4_7.trans (s_7.mono b_4_7.size)
  have b_5_8 := b_5_7.trans (s_7.mono b_5_7.size)
  have b_6_8 := b_6_7.trans (s_7.mono b_6_7.size)
  have b_7_8 := b_7_7.trans (s_7.mono b_7_7.size)
  refine bif_f (by simp) ?_
  have b_8_8 : Below w8.heap.size w8 w8 := Below.refl _ _
  refine (c_toIntSS (ha0.grow b_0_8) hn0 htt0).mono ?_
  rintro e w9 ⟨y0, rfl, hy0, s_8⟩
  refine ⟨y0, rfl, ?_⟩
  have b_0_9 := b_0_8.trans (s_8.mono b_0_8.size)
  have b_1_9 := b_1_8.trans (s_8.mono b_1_8.size)
  have b_2_9 := b_2_8.trans (s_8.mono b_2_8.size)
  have b_3_9 := b_3_8.trans (s_8.mono b_3_8.size)
  have b_4_9 := b_4_8.trans (s_8.mono b_4_8.size)
  have b_5_9 := b_5_8.trans (s_8.mono b_5_8.size)
  have b_6_9 := b_6_8.trans (s_8.mono b_6_8.size)
  have b_7_9 := b_7_8.trans (s_8.mono b_7_8.size)
  have b_8_9 := b_8_8.trans (s_8.mono b_8_8.size)
  refine Quiet.call1 (s := .bool) (c_eqIntSS (hxx0.row.grow b_5_9) hy0.row (by omega) (by omega)) ?_
  intro w10 hd10
  have s_9 : Below w9.heap.size w9 w10 := hd10.below _
  have b_0_10 := b_0_9.trans (s_9.mono b_0_9.size)
  have b_1_10 := b_1_9.trans (s_9.mono b_1_9.size)
  have b_2_10 := b_2_9.trans (s_9.mono b_2_9.size)
  have b_3_10 := b_3_9.trans (s_9.mono b_3_9.size)
  have b_4_10 := b_4_9.trans (s_9.mono b_4_9.size)
  have b_5_10 := b_5_9.trans (s_9.mono b_5_9.size)
  have b_6_10 := b_6_9.trans (s_9.mono b_6_9.size)
  have b_7_10 := b_7_9.trans (s_9.mono b_7_9.size)
  have b_8_10 := b_8_9.trans (s_9.mono b_8_9.size)
  refine bif_f (by simp) ?_
  have b_10_10 : Below w10.heap.size w10 w10 := Below.refl _ _
  refine (c_toIntS (ha1.grow b_0_10) (by omega)).mono ?_
  rintro e w11 ⟨y1, rfl, hy1, s_10⟩
  refine ⟨y1, rfl, ?_⟩
  have b_0_11 := b_0_10.trans (s_10.mono b_0_10.size)
  have b_1_11 := b_1_10.trans (s_10.mono b_1_10.size)
  have b_2_11 := b_2_10.trans (s_10.mono b_2_10.size)
  have b_3_11 := b_3_10.trans (s_10.mono b_3_10.size)
  have b_4_11 := b_4_10.trans (s_10.mono b_4_10.size)
  have b_5_11 := b_5_10.trans (s_10.mono b_5_10.size)
  have b_6_11 := b_6_10.trans (s_10.mono b_6_10.size)
  have b_7_11 := b_7_10.trans (s_10.mono b_7_10.size)
  have b_8_11 := b_8_10.trans (s_10.mono b_8_10.size)
  have b_10_11 := b_10_10.trans (s_10.mono b_10_10.size)
  refine Quiet.call1 (s := .bool) (c_eqIntS (hxx1.row.grow b_6_11) hy1.row (by omega)) ?_
  intro w12 hd12
  have s_11 : Below w11.heap.size w11 w12 := hd12.below _
  have b_0_12 := b_0_11.trans (s_11.mono b_0_11.size)
  have b_1_12 := b_1_11.trans (s_11.mono b_1_11.size)
  have b_2_12 := b_2_11.trans (s_11.mono b_2_11.size)
  have b_3_12 := b_3_11.trans (s_11.mono b_3_11.size)
  have b_4_12 := b_4_11.trans (s_11.mono b_4_11.size)
  have b_5_12 := b_5_11.trans (s_11.mono b_5_11.size)
  have b_6_12 := b_6_11.trans (s_11.mono b_6_11.size)
  have b_7_12 := b_7_11.trans (s_11.mono b_7_11.size)
  have b_8_12 := b_8_11.trans (s_11.mono b_8_11.size)
  have b_10_12 := b_10_11.trans (s_11.mono b_10_11.size)
  refine bif_f (by simp) ?_
  have hxx0m := hxx0.grow b_5_12
  have hxx1m := hxx1.grow b_6_12
  have hg0m := hg0.grow b_7_12
  refine (c_markIntSS hxx0m (by omega) (by omega) (k := 1) (by omega) (by omega)).mono ?_
  rintro e w13 ⟨rfl, _, ks_13, hz_13⟩
  refine ⟨_, rfl, ?_⟩
  have lo_13 : ∀ g, (∃ r ∈ rsxx0, r.blk = some g) → w4.heap.size ≤ g := (fun g e => by obtain ⟨r, hr, e⟩ := e; exact (hxx0.lt hr e).1)
  have hi_13 : ∀ g, (∃ r ∈ rsxx0, r.blk = some g) → g < w5.heap.size := (fun g e => by obtain ⟨r, hr, e⟩ := e; exact (hxx0.lt hr e).2)
  have b_0_13 := b_0_12.trans (ks_13.below (B := w.heap.size) (fun g e => Nat.le_trans b_0_4.size (lo_13 g e)) b_0_12.size)
  have b_1_13 := b_1_12.trans (ks_13.below (B := w1.heap.size) (fun g e => Nat.le_trans b_1_4.size (lo_13 g e)) b_1_12.size)
  have b_2_13 := b_2_12.trans (ks_13.below (B := w2.heap.size) (fun g e => Nat.le_trans b_2_4.size (lo_13 g e)) b_2_12.size)
  have b_3_13 := b_3_12.trans (ks_13.below (B := w3.heap.size) (fun g e => Nat.le_trans b_3_4.size (lo_13 g e)) b_3_12.size)
  have b_4_13 := b_4_12.trans (ks_13.below (B := w4.heap.size) (fun g e => Nat.le_trans b_4_4.size (lo_13 g e)) b_4_12.size)
  have hxx1m := hxx1m.keeps ks_13 (fun g e1 e2 => by have := hi_13 g e2; have := (hxx1.lt g e1).1; have := b_5_5.size; omega)
  have hg0m := hg0m.keeps ks_13 (fun g e1 e2 => by have := hi_13 g e2; have := (hg0.lt g e1).1; have := b_5_6.size; omega)
  refine (c_markIntS hxx1m (by omega) (k := 1 + (tot L0 : Int)) (by omega) (by omega)).mono ?_
  rintro e w14 ⟨rfl, _, hg_14, hz_14⟩
  have ks_14 := keeps_grown hg_14
  refine ⟨_, rfl, ?_⟩
  have lo_14 : ∀ g, xx1.blk = some g → w5.heap.size ≤ g := (fun g e => (hxx1.lt g e).1)
  have hi_14 : ∀ g, xx1.blk = some g → g < w6.heap.size := (fun g e => (hxx1.lt g e).2)
  have b_0_14 := b_0_13.trans (ks_14.below (B := w.heap.size) (fun g e => Nat.le_trans b_0_5.size (lo_14 g e)) b_0_13.size)
  have b_1_14 := b_1_13.trans (ks_14.below (B := w1.heap.size) (fun g e => Nat.le_trans b_1_5.size (lo_14 g e)) b_1_13.size)
  have b_2_14 := b_2_13.trans (ks_14.below (B := w2.heap.size) (fun g e => Nat.le_trans b_2_5.size (lo_14 g e)) b_2_13.size)
  have b_3_14 := b_3_13.trans (ks_14.below (B := w3.heap.size) (fun g e => Nat.le_trans b_3_5.size (lo_14 g e)) b_3_13.size)
  have b_4_14 := b_4_13.trans (ks_14.below (B := w4.heap.size) (fun g e => Nat.le_trans b_4_5.size (lo_14 g e)) b_4_13.size)
  have hg0m := hg0m.keeps ks_14 (fun g e1 e2 => by have := hi_14 g e2; have := (hg0.lt g e1).1; have := b_6_6.size; omega)
  refine bif_dec (fun h => by omega) (fun h => ?_)
  have b_14_14 : Below w14.heap.size w14 w14 := Below.refl _ _
  have hg0 := hg0m
  refine Quiet.call1 (s := .bool) (c_eqIntS (hg0.row.grow b_14_14) (hw0.grow b_4_14) (by omega)) ?_
  intro w15 hd15
  have s_14 : Below w14.heap.size w14 w15 := hd15.below _
  have b_0_15 := b_0_14.trans (s_14.mono b_0_14.size)
  have b_1_15 := b_1_14.trans (s_14.mono b_1_14.size)
  have b_2_15 := b_2_14.trans (s_14.mono b_2_14.size)
  have b_3_15 := b_3_14.trans (s_14.mono b_3_14.size)
  have b_4_15 := b_4_14.trans (s_14.mono b_4_14.size)
  have b_14_15 := b_14_14.trans (s_14.mono b_14_14.size)
  refine bif_f (by simp) ?_
  have hg0p := hg0.grow b_14_15
  have b_15_15 : Below w15.heap.size w15 w15 := Below.refl _ _
  refine (c_markIntS hg0p (by omega) (k := 1) (by omega) (by omega)).mono ?_
  rintro e w16 ⟨rfl, hq0, hg_16, hz_16⟩
  have ks_16 := keeps_grown hg_16
  refine ⟨_, rfl, ?_⟩
  have lo_16 : ∀ g, g0.blk = some g → w6.heap.size ≤ g := (fun g e => (hg0p.lt g e).1)
  have b_0_16 := b_0_15.trans (ks_16.below (B := w.heap.size) (fun g e => Nat.le_trans b_0_6.size (lo_16 g e)) b_0_15.size)
  have b_1_16 := b_1_15.trans (ks_16.below (B := w1.heap.size) (fun g e => Nat.le_trans b_1_6.size (lo_16 g e)) b_1_15.size)
  have b_2_16 := b_2_15.trans (ks_16.below (B := w2.heap.size) (fun g e => Nat.le_trans b_2_6.size (lo_16 g e)) b_2_15.size)
  have b_3_16 := b_3_15.trans (ks_16.below (B := w3.heap.size) (fun g e => Nat.le_trans b_3_6.size (lo_16 g e)) b_3_15.size)
  have b_4_16 := b_4_15.trans (ks_16.below (B := w4.heap.size) (fun g e => Nat.le_trans b_4_6.size (lo_16 g e)) b_4_15.size)
  have b_16_16 : Below w16.heap.size w16 w16 := Below.refl _ _
  refine Quiet.call1 (s := .int .i64) (c_heldIntS (n := (ChildLabelsV L0 L1).length) (hq0.row.grow b_16_16) (by omega) (by omega) (by omega)) ?_
  intro w17 hd17
  have s_16 : Below w16.heap.size w16 w17 := hd17.below _
  have b_0_17 := b_0_16.trans (s_16.mono b_0_16.size)
  have b_1_17 := b_1_16.trans (s_16.mono b_1_16.size)
  have b_2_17 := b_2_16.trans (s_16.mono b_2_16.size)
  have b_3_17 := b_3_16.trans (s_16.mono b_3_16.size)
  have b_4_17 := b_4_16.trans (s_16.mono b_4_16.size)
  have b_16_17 := b_16_16.trans (s_16.mono b_16_16.size)
  refine bif_dec (fun h => by omega) (fun h => ?_)
  refine bif_f (by simp) ?_
  have b_17_17 : Below w17.heap.size w17 w17 := Below.refl _ _
  refine (c_toIntSS (ha0.grow b_0_17) hn0 htt0).mono ?_
  rintro e w18 ⟨xv0, rfl, ⟨rsxv0, hxv0⟩, s_17⟩
  refine ⟨xv0, rfl, ?_⟩
  have b_0_18 := b_0_17.trans (s_17.mono b_0_17.size)
  have b_1_18 := b_1_17.trans (s_17.mono b_1_17.size)
  have b_2_18 := b_2_17.trans (s_17.mono b_2_17.size)
  have b_3_18 := b_3_17.trans (s_17.mono b_3_17.size)
  have b_4_18 := b_4_17.trans (s_17.mono b_4_17.size)
  have b_16_18 := b_16_17.trans (s_17.mono b_16_17.size)
  have b_17_18 := b_17_17.trans (s_17.mono b_17_17.size)
  have b_18_18 : Below w18.heap.size w18 w18 := Below.refl _ _
  refine (c_toIntS (ha1.grow b_0_18) (by omega)).mono ?_
  rintro e w19 ⟨xv1, rfl, hxv1, s_18⟩
  refine ⟨xv1, rfl, ?_⟩
  have b_0_19 := b_0_18.trans (s_18.mono b_0_18.size)
  have b_1_19 := b_1_18.trans (s_18.mono b_1_18.size)
  have b_2_19 := b_2_18.trans (s_18.mono b_2_18.size)
  have b_3_19 := b_3_18.trans (s_18.mono b_3_18.size)
  have b_4_19 := b_4_18.trans (s_18.mono b_4_18.size)
  have b_16_19 := b_16_18.trans (s_18.mono b_16_18.size)
  have b_17_19 := b_17_18.trans (s_18.mono b_17_18.size)
  have b_18_19 := b_18_18.trans (s_18.mono b_18_18.size)
  have b_19_19 : Below w19.heap.size w19 w19 := Below.refl _ _
  refine (c_implChildLabels (hxv0.row.grow b_18_19) (by omega) (by omega) (hxv1.row.grow b_19_19) (by omega)).mono ?_
  rintro e w20 ⟨h0, rfl, hh0, s_19⟩
  refine ⟨h0, rfl, ?_⟩
  have b_0_20 := b_0_19.trans (s_19.mono b_0_19.size)
  have b_1_20 := b_1_19.trans (s_19.mono b_1_19.size)
  have b_2_20 := b_2_19.trans (s_19.mono b_2_19.size)
  have b_3_20 := b_3_19.trans (s_19.mono b_3_19.size)
  have b_4_20 := b_4_19.trans (s_19.mono b_4_19.size)
  have b_16_20 := b_16_19.trans (s_19.mono b_16_19.size)
  have b_17_20 := b_17_19.trans (s_19.mono b_17_19.size)
  have b_18_20 := b_18_19.trans (s_19.mono b_18_19.size)
  have b_19_20 := b_19_19.trans (s_19.mono b_19_19.size)
  have b_20_20 : Below w20.heap.size w20 w20 := Below.refl _ _
  refine Quiet.call1 (s := .bool) (c_eqIntS (hh0.row.grow b_20_20) (hw0.grow b_4_20) (by omega)) ?_
  intro w21 hd21
  have s_20 : Below w20.heap.size w20 w21 := hd21.below _
  have b_0_21 := b_0_20.trans (s_20.mono b_0_20.size)
  have b_1_21 := b_1_20.trans (s_20.mono b_1_20.size)
  have b_2_21 := b_2_20.trans (s_20.mono b_2_20.size)
  have b_3_21 := b_3_20.trans (s_20.mono b_3_20.size)
  have b_4_21 := b_4_20.trans (s_20.mono b_4_20.size)
  have b_16_21 := b_16_20.trans (s_20.mono b_16_20.size)
  have b_17_21 := b_17_20.trans (s_20.mono b_17_20.size)
  have b_18_21 := b_18_20.trans (s_20.mono b_18_20.size)
  have b_19_21 := b_19_20.trans (s_20.mono b_19_20.size)
  have b_20_21 := b_20_20.trans (s_20.mono b_20_20.size)
  refine bif_f (by simp) ?_
  refine Quiet.call1 (s := .int .i64) (c_heldIntS (n := (ChildLabelsV L0 L1).length) (hq0.row.grow b_16_21) (by omega) (by omega) (by omega)) ?_
  intro w22 hd22
  have s_21 : Below w21.heap.size w21 w22 := hd22.below _
  have b_0_22 := b_0_21.trans (s_21.mono b_0_21.size)
  have b_1_22 := b_1_21.trans (s_21.mono b_1_21.size)
  have b_2_22 := b_2_21.trans (s_21.mono b_2_21.size)
  have b_3_22 := b_3_21.trans (s_21.mono b_3_21.size)
  have b_4_22 := b_4_21.trans (s_21.mono b_4_21.size)
  have b_16_22 := b_16_21.trans (s_21.mono b_16_21.size)
  have b_17_22 := b_17_21.trans (s_21.mono b_17_21.size)
  have b_18_22 := b_18_21.trans (s_21.mono b_18_21.size)
  have b_19_22 := b_19_21.trans (s_21.mono b_19_21.size)
  have b_20_22 := b_20_21.trans (s_21.mono b_20_21.size)
  refine bif_dec (fun h => by omega) (fun h => ?_)
  refine bif_f (by simp) ?_
  exact ⟨rfl, b_0_22⟩
theorem lawC_FnExactLabelsAt (a0 : Sl) (L0 : List (List Int)) (k1 : Int) (hk1 : -9223372036854775808 ≤ k1 ∧ k1 ≤ 9223372036854775807) (w : World) (ha0 : RowSS w a0 L0) (hbd0 : L0.length ≤ maxLen ∧ ∀ M ∈ L0, M.length ≤ maxLen ∧ ∀ x ∈ M, -9223372036854775808 ≤ x ∧ x ≤ 9223372036854775807) :
    Calls PP F.laws_FnExactLabelsAt #[a0.v, vI k1] w fun e w' => e = .returned (.bool true) ∧ Below w.heap.size w w' := by
  have han0 := ha0.n
  refine laws_FnExactLabelsAt.calls a0 k1 ?_
  rw [laws_FnExactLabelsAt.E_s]
  have b_0_0 : Below w.heap.size w w := Below.refl _ _
  refine Quiet.call1 (s := .int .i64) (c_szIntSS (ha0.grow b_0_0) hbd0.1 (fun M hM => (hbd0.2 M hM).1) (left := 1048576) (by omega) (by omega)) ?_
  intro w1 hd1
  have s_0 : Below w.heap.size w w1 := hd1.below _
  have b_0_1 := b_0_0.trans (s_0.mono b_0_0.size)
  refine bif_dec (fun h => ⟨rfl, b_0_1⟩) (fun hsz0 => ?_)
  obtain ⟨hz0, ez0⟩ := szW_ok (LL := L0) (by omega) hsz0
  have hn0 : L0.length < 2^38 := by omega
  have htt0 : tot L0 < 2^38 := by omega
  have b_1_1 : Below w1.heap.size w1 w1 := Below.refl _ _
  refine (c_toIntSS (ha0.grow b_0_1) hn0 htt0).mono ?_
  rintro e w2 ⟨xw0, rfl, ⟨rsxw0, hxw0⟩, s_1⟩
  refine ⟨xw0, rfl, ?_⟩
  have b_0_2 := b_0_1.trans (s_1.mono b_0_1.size)
  have b_1_2 := b_1_1.trans (s_1.mono b_1_1.size)
  have b_2_2 : Below w2.heap.size w2 w2 := Below.refl _ _
  refine (c_specLabelsAt (hxw0.row.grow b_2_2) (by omega) (by omega) k1).mono ?_
  rintro e w3 ⟨w0, rfl, hw0, s_2⟩
  refine ⟨w0, rfl, ?_⟩
  have b_0_3 := b_0_2.trans (s_2.mono b_0_2.size)
  have b_1_3 := b_1_2.trans (s_2.mono b_1_2.size)
  have b_2_3 := b_2_2.trans (s_2.mono b_2_2.size)
  have b_3_3 : Below w3.heap.size w3 w3 := Below.refl _ _
  refine (c_toIntSS (ha0.grow b_0_3) hn0 htt0).mono ?_
  rintro e w4 ⟨xx0, rfl, ⟨rsxx0, hxx0⟩, s_3⟩
  refine ⟨xx0, rfl, ?_⟩
  have b_0_4 := b_0_3.trans (s_3.mono b_0_3.size)
  have b_1_4 := b_1_3.trans (s_3.mono b_1_3.size)
  have b_2_4 := b_2_3.trans (s_3.mono b_2_3.size)
  have b_3_4 := b_3_3.trans (s_3.mono b_3_3.size)
  have b_4_4 : Below w4.heap.size w4 w4 := Below.refl _ _
  refine (c_implLabelsAt (hxx0.row.grow b_4_4) (by omega) (by omega) k1).mono ?_
  rintro e w5 ⟨g0, rfl, hg0, s_4⟩
  refine ⟨g0, rfl, ?_⟩
  have b_0_5 := b_0_4.trans (s_4.mono b_0_4.size)
  have b_1_5 := b_1_4.trans (s_4.mono b_1_4.size)
  have b_2_5 := b_2_4.trans (s_4.mono b_2_4.size)
  have b_3_5 := b_3_4.trans (s_4.mono b_3_4.size)
  have b_4_5 := b_4_4.trans (s_4.mono b_4_4.size)
  have b_5_5 : Below w5.heap.size w5 w5 := Below.refl _ _
  have hv0 : (LabelsAtV L0 k1).length < 2^38 := LabelsAtV_len L0 k1
  refine Quiet.call1 (s := .bool) (c_eqIntS (hg0.row.grow b_5_5) (hw0.grow b_3_5) (by omega)) ?_
  intro w6 hd6
  have s_5 : Below w5.heap.size w5 w6 := hd6.below _
  have b_0_6 := b_0_5.trans (s_5.mono b_0_5.size)
  have b_1_6 := b_1_5.trans (s_5.mono b_1_5.size)
  have b_2_6 := b_2_5.trans (s_5.mono b_2_5.size)
  have b_3_6 := b_3_5.trans (s_5.mono b_3_5.size)
  have b_4_6 := b_4_5.trans (s_5.mono b_4_5.size)
  have b_5_6 := b_5_5.trans (s_5.mono b_5_5.size)
  refine bif_f (by simp) ?_
  have b_6_6 : Below w6.heap.size w6 w6 := Below.refl _ _
  refine (c_toIntSS (ha0.grow b_0_6) hn0 htt0).mono ?_
  rintro e w7 ⟨y0, rfl, hy0, s_6⟩
  refine ⟨y0, rfl, ?_⟩
  have b_0_7 := b_0_6.trans (s_6.mono b_0_6.size)
  have b_1_7 := b_1_6.trans (s_6.mono b_1_6.size)
  have b_2_7 := b_2_6.trans (s_6.mono b_2_6.size)
  have b_3_7 := b_3_6.trans (s_6.mono b_3_6.size)
  have b_4_7 := b_4_6.trans (s_6.mono b_4_6.size)
  have b_5_7 := b_5_6.trans (s_6.mono b_5_6.size)
  have b_6_7 := b_6_6.trans (s_6.mono b_6_6.size)
  refine Quiet.call1 (s := .bool) (c_eqIntSS (hxx0.row.grow b_4_7) hy0.row (by omega) (by omega)) ?_
  intro w8 hd8
  have s_7 : Below w7.heap.size w7 w8 := hd8.below _
  have b_0_8 := b_0_7.trans (s_7.mono b_0_7.size)
  have b_1_8 := b_1_7.trans (s_7.mono b_1_7.size)
  have b_2_8 := b_2_7.trans (s_7.mono b_2_7.size)
  have b_3_8 := b_3_7.trans (s_7.mono b_3_7.size)
  have b_4_8 := b_4_7.trans (s_7.mono b_4_7.size)
  have b_5_8 := b_5_7.trans (s_7.mono b_5_7.size)
  have b_6_8 := b_6_7.trans (s_7.mono b_6_7.size)
  refine bif_f (by simp) ?_
  have hxx0m := hxx0.grow b_4_8
  have hg0m := hg0.grow b_5_8
  refine (c_markIntSS hxx0m (by omega) (by omega) (k := 1) (by omega) (by omega)).mono ?_
  rintro e w9 ⟨rfl, _, ks_9, hz_9⟩
  refine ⟨_, rfl, ?_⟩
  have lo_9 : ∀ g, (∃ r ∈ rsxx0, r.blk = some g) → w3.heap.size ≤ g := (fun g e => by obtain ⟨r, hr, e⟩ := e; exact (hxx0.lt hr e).1)
  have hi_9 : ∀ g, (∃ r ∈ rsxx0, r.blk = some g) → g < w4.heap.size := (fun g e => by obtain ⟨r, hr, e⟩ := e; exact (hxx0.lt hr e).2)
  have b_0_9 := b_0_8.trans (ks_9.below (B := w.heap.size) (fun g e => Nat.le_trans b_0_3.size (lo_9 g e)) b_0_8.size)
  have b_1_9 := b_1_8.trans (ks_9.below (B := w1.heap.size) (fun g e => Nat.le_trans b_1_3.size (lo_9 g e)) b_1_8.size)
  have b_2_9 := b_2_8.trans (ks_9.below (B := w2.heap.size) (fun g e => Nat.le_trans b_2_3.size (lo_9 g e)) b_2_8.size)
  have b_3_9 := b_3_8.trans (ks_9.below (B := w3.heap.size) (fun g e => Nat.le_trans b_3_3.size (lo_9 g e)) b_3_8.size)
  have hg0m := hg0m.keeps ks_9 (fun g e1 e2 => by have := hi_9 g e2; have := (hg0.lt g e1).1; have := b_4_4.size; omega)
  refine bif_dec (fun h => by omega) (fun h => ?_)
  have b_9_9 : Below w9.heap.size w9 w9 := Below.refl _ _
  have hg0 := hg0m
  refine Quiet.call1 (s := .bool) (c_eqIntS (hg0.row.grow b_9_9) (hw0.grow b_3_9) (by omega)) ?_
  intro w10 hd10
  have s_9 : Below w9.heap.size w9 w10 := hd10.below _
  have b_0_10 := b_0_9.trans (s_9.mono b_0_9.size)
  have b_1_10 := b_1_9.trans (s_9.mono b_1_9.size)
  have b_2_10 := b_2_9.trans (s_9.mono b_2_9.size)
  have b_3_10 := b_3_9.trans (s_9.mono b_3_9.size)
  have b_9_10 := b_9_9.trans (s_9.mono b_9_9.size)
  refine bif_f (by simp) ?_
  have hg0p := hg0.grow b_9_10
  have b_10_10 : Below w10.heap.size w10 w10 := Below.refl _ _
  refine (c_markIntS hg0p (by omega) (k := 1) (by omega) (by omega)).mono ?_
  rintro e w11 ⟨rfl, hq0, hg_11, hz_11⟩
  have ks_11 := keeps_grown hg_11
  refine ⟨_, rfl, ?_⟩
  have lo_11 : ∀ g, g0.blk = some g → w4.heap.size ≤ g := (fun g e => (hg0p.lt g e).1)
  have b_0_11 := b_0_10.trans (ks_11.below (B := w.heap.size) (fun g e => Nat.le_trans b_0_4.size (lo_11 g e)) b_0_10.size)
  have b_1_11 := b_1_10.trans (ks_11.below (B := w1.heap.size) (fun g e => Nat.le_trans b_1_4.size (lo_11 g e)) b_1_10.size)
  have b_2_11 := b_2_10.trans (ks_11.below (B := w2.heap.size) (fun g e => Nat.le_trans b_2_4.size (lo_11 g e)) b_2_10.size)
  have b_3_11 := b_3_10.trans (ks_11.below (B := w3.heap.size) (fun g e => Nat.le_trans b_3_4.size (lo_11 g e)) b_3_10.size)
  have b_11_11 : Below w11.heap.size w11 w11 := Below.refl _ _
  refine Quiet.call1 (s := .int .i64) (c_heldIntS (n := (LabelsAtV L0 k1).length) (hq0.row.grow b_11_11) (by omega) (by omega) (by omega)) ?_
  intro w12 hd12
  have s_11 : Below w11.heap.size w11 w12 := hd12.below _
  have b_0_12 := b_0_11.trans (s_11.mono b_0_11.size)
  have b_1_12 := b_1_11.trans (s_11.mono b_1_11.size)
  have b_2_12 := b_2_11.trans (s_11.mono b_2_11.size)
  have b_3_12 := b_3_11.trans (s_11.mono b_3_11.size)
  have b_11_12 := b_11_11.trans (s_11.mono b_11_11.size)
  refine bif_dec (fun h => by omega) (fun h => ?_)
  refine bif_f (by simp) ?_
  have b_12_12 : Below w12.heap.size w12 w12 := Below.refl _ _
  refine (c_toIntSS (ha0.grow b_0_12) hn0 htt0).mono ?_
  rintro e w13 ⟨xv0, rfl, ⟨rsxv0, hxv0⟩, s_12⟩
  refine ⟨xv0, rfl, ?_⟩
  have b_0_13 := b_0_12.trans (s_12.mono b_0_12.size)
  have b_1_13 := b_1_12.trans (s_12.mono b_1_12.size)
  have b_2_13 := b_2_12.trans (s_12.mono b_2_12.size)
  have b_3_13 := b_3_12.trans (s_12.mono b_3_12.size)
  have b_11_13 := b_11_12.trans (s_12.mono b_11_12.size)
  have b_12_13 := b_12_12.trans (s_12.mono b_12_12.size)
  have b_13_13 : Below w13.heap.size w13 w13 := Below.refl _ _
  refine (c_implLabelsAt (hxv0.row.grow b_13_13) (by omega) (by omega) k1).mono ?_
  rintro e w14 ⟨h0, rfl, hh0, s_13⟩
  refine ⟨h0, rfl, ?_⟩
  have b_0_14 := b_0_13.trans (s_13.mono b_0_13.size)
  have b_1_14 := b_1_13.trans (s_13.mono b_1_13.size)
  have b_2_14 := b_2_13.trans (s_13.mono b_2_13.size)
  have b_3_14 := b_3_13.trans (s_13.mono b_3_13.size)
  have b_11_14 := b_11_13.trans (s_13.mono b_11_13.size)
  have b_12_14 := b_12_13.trans (s_13.mono b_12_13.size)
  have b_13_14 := b_13_13.trans (s_13.mono b_13_13.size)
  have b_14_14 : Below w14.heap.size w14 w14 := Below.refl _ _
  refine Quiet.call1 (s := .bool) (c_eqIntS (hh0.row.grow b_14_14) (hw0.grow b_3_14) (by omega)) ?_
  intro w15 hd15
  have s_14 : Below w14.heap.size w14 w15 := hd15.below _
  have b_0_15 := b_0_14.trans (s_14.mono b_0_14.size)
  have b_1_15 := b_1_14.trans (s_14.mono b_1_14.size)
  have b_2_15 := b_2_14.trans (s_14.mono b_2_14.size)
  have b_3_15 := b_3_14.trans (s_14.mono b_3_14.size)
  have b_11_15 := b_11_14.trans (s_14.mono b_11_14.size)
  have b_12_15 := b_12_14.trans (s_14.mono b_12_14.size)
  have b_13_15 := b_13_14.trans (s_14.mono b_13_14.size)
  have b_14_15 := b_14_14.trans (s_14.mono b_14_14.size)
  refine bif_f (by simp) ?_
  refine Quiet.call1 (s := .int .i64) (c_heldIntS (n := (LabelsAtV L0 k1).length) (hq0.row.grow b_11_15) (by omega) (by omega) (by omega)) ?_
  intro w16 hd16
  have s_15 : Below w15.heap.size w15 w16 := hd16.below _
  have b_0_16 := b_0_15.trans (s_15.mono b_0_15.size)
  have b_1_16 := b_1_15.trans (s_15.mono b_1_15.size)
  have b_2_16 := b_2_15.trans (s_15.mono b_2_15.size)
  have b_3_16 := b_3_15.trans (s_15.mono b_3_15.size)
  have b_11_16 := b_11_15.trans (s_15.mono b_11_15.size)
  have b_12_16 := b_12_15.trans (s_15.mono b_12_15.size)
  have b_13_16 := b_13_15.trans (s_15.mono b_13_15.size)
  have b_14_16 := b_14_15.trans (s_15.mono b_14_15.size)
  refine bif_dec (fun h => by omega) (fun h => ?_)
  refine bif_f (by simp) ?_
  exact ⟨rfl, b_0_16⟩
end Go.Proofs.Ytjojajnkofgfpaa
