/- Tableaux: both tests answer alike; the form of one. -/
import Derived.Test.YtfainpmcdfckkaaForm
import Derived.Test.YtfainpmcdfckkaaCodeT
import Derived.Test.YtfainpmcdfckkaaLawSz
import Derived.Test.YtfainpmcdfckkaaPermMath
import Derived.Lib.AppendZeros
namespace Go.Proofs.Ytfainpmcdfckkaa
open Go Go.RowKit
set_option maxRecDepth 100000

def lens (LL : List (List Int)) : List Int := LL.map fun r => (r.length : Int)
theorem lens_length (LL : List (List Int)) : (lens LL).length = LL.length := by simp [lens]
theorem lens_getD (LL : List (List Int)) (i : Nat) : (lens LL).getD i 0 = ((LL.getD i []).length : Int) := by
  simp only [lens, List.getD_eq_getElem?_getD, List.getElem?_map]
  cases LL[i]? <;> simp
theorem lens_take_succ {LL : List (List Int)} {i : Nat} (h : i < LL.length) : lens (LL.take (i + 1)) = lens (LL.take i) ++ [((LL.getD i []).length : Int)] := by
  rw [getD_SS h, List.take_succ_eq_append_getElem h]; simp only [lens, List.map_append, List.map_cons, List.map_nil]
theorem lens_bd {LL : List (List Int)} (ht : tot LL < 2^38) : ∀ x ∈ lens LL, -9223372036854775808 ≤ x ∧ x ≤ 9223372036854775807 := by
  intro x hx
  simp only [lens, List.mem_map] at hx
  obtain ⟨r, hr, rfl⟩ := hx
  have := len_le_tot hr
  omega
theorem sm_lens (LL : List (List Int)) : ∀ k, k ≤ LL.length → sm (lens LL) k = (tot (LL.take k) : Int)
  | 0, _ => by simp [sm, tot_nil]
  | k + 1, hk => by
    have := sm_lens LL k (by omega)
    have h2 := tot_take_succ (LL := LL) (i := k) (by omega)
    rw [sm, this, lens_getD, h2]; omega
def at2 (LL : List (List Int)) (i j : Nat) : Int := (LL.getD i []).getD j 0
def ascAt (LL : List (List Int)) (i j : Nat) : Prop := (0 < j → at2 LL i (j - 1) ≤ at2 LL i j) ∧ (0 < i → at2 LL (i - 1) j ≤ at2 LL i j)
def Asc (LL : List (List Int)) : Prop := ∀ i j, i < LL.length → j < (LL.getD i []).length → ascAt LL i j
structure IsTab (LL : List (List Int)) : Prop where
  form : FormOk (lens LL) 8
  perm : IsP LL.flatten
  asc : Asc LL
theorem FormOk.tot {LL : List (List Int)} (h : FormOk (lens LL) 8) : Ytfainpmcdfckkaa.tot LL ≤ 8 := by
  rcases Nat.eq_zero_or_pos LL.length with h1 | h1
  · have : LL = [] := List.eq_nil_of_length_eq_zero h1
    subst this; simp [Ytfainpmcdfckkaa.tot]
  · have h2 := (h (LL.length - 1) (by rw [lens_length]; omega)).2.1
    have h3 := sm_lens LL LL.length (Nat.le_refl _)
    have h4 : sm (lens LL) LL.length = sm (lens LL) (LL.length - 1) + (lens LL).getD (LL.length - 1) 0 := by
      conv => lhs; rw [show LL.length = (LL.length - 1) + 1 by omega]
      rfl
    rw [List.take_length] at h3
    omega
theorem FormOk.step {LL : List (List Int)} (h : FormOk (lens LL) 8) {i : Nat} (hi : i < LL.length) (h0 : 0 < i) : (LL.getD i []).length ≤ (LL.getD (i - 1) []).length := by
  have := (h i (by rw [lens_length]; omega)).2.2 h0
  rw [lens_getD, lens_getD] at this; omega
theorem FormOk.pos {LL : List (List Int)} (h : FormOk (lens LL) 8) {i : Nat} (hi : i < LL.length) : 1 ≤ (LL.getD i []).length := by
  have := (h i (by rw [lens_length]; omega)).1
  rw [lens_getD] at this; omega
theorem FormOk.count {LL : List (List Int)} (h : FormOk (lens LL) 8) : LL.length ≤ 8 := by
  have h1 := sm_ge (L := lens LL) (k := LL.length) (fun j hj => (h j (by rw [lens_length]; omega)).1)
  have h2 := sm_lens LL LL.length (Nat.le_refl _)
  rw [List.take_length] at h2
  have := h.tot
  omega
theorem flatten_length (LL : List (List Int)) : LL.flatten.length = tot LL := by simp [List.length_flatten, tot]
theorem at2_mem {LL : List (List Int)} {i j : Nat} (hi : i < LL.length) (hj : j < (LL.getD i []).length) : at2 LL i j ∈ LL.flatten := by
  rw [at2, getD_lt hj]
  rw [List.mem_flatten]
  exact ⟨LL.getD i [], by rw [getD_SS hi]; exact List.getElem_mem hi, List.getElem_mem hj⟩
theorem flat_take_succ {LL : List (List Int)} {i : Nat} (h : i < LL.length) : (LL.take (i + 1)).flatten = (LL.take i).flatten ++ LL.getD i [] := by
  rw [getD_SS h, List.take_succ_eq_append_getElem h]; simp only [List.flatten_append, List.flatten_cons, List.flatten_nil, List.append_nil]
/-- Two places hold one number in a table without repeats: they are one place. -/
theorem nodup_row {LL : List (List Int)} (hn : LL.flatten.Nodup) {i j k : Nat} (hi : i < LL.length) (hj : j < (LL.getD i []).length) (hk : k < j) : at2 LL i k ≠ at2 LL i j := by
  have h1 : (LL.getD i []).Nodup := by
    rw [getD_SS hi]
    exact List.Nodup.sublist (List.sublist_flatten_of_mem (List.getElem_mem hi)) hn
  rw [List.nodup_iff_pairwise_ne, List.pairwise_iff_getElem] at h1
  rw [at2, at2, getD_lt hj, getD_lt (by omega)]
  exact h1 k j (by omega) hj hk
theorem nodup_col {LL : List (List Int)} (hn : LL.flatten.Nodup) {i j k l : Nat} (hi : i < LL.length) (hk : k < i) (hj : j < (LL.getD i []).length) (hl : l < (LL.getD k []).length) : at2 LL k l ≠ at2 LL i j := by
  have h1 : LL.Pairwise fun A B => ∀ x ∈ A, ∀ y ∈ B, x ≠ y := by
    have := hn
    rw [List.nodup_iff_pairwise_ne, List.pairwise_flatten] at this
    exact this.2
  rw [List.pairwise_iff_getElem] at h1
  rw [at2, at2, getD_lt hj, getD_lt hl]
  have := h1 k i (by omega) hi hk
  exact this _ (by simp only [getD_SS (show k < LL.length by omega)]; exact List.getElem_mem _) _ (by simp only [getD_SS hi]; exact List.getElem_mem _)

theorem c_form {w : World} {a : Sl} {LL : List (List Int)} (ha : RowSS w a LL) (hL : LL.length < 2^38) (ht : tot LL < 2^38) :
    Calls PP F.impl_form #[a.v] w fun e w' => ∃ s : Sl, e = .returned s.v ∧ OwnI w' w.heap.size s (lens LL) ∧ Below w.heap.size w w' := by
  have han := ha.n
  refine impl_form.calls a ?_
  rw [impl_form.E_s]
  refine lit0 oneInt (B := w.heap.size) (Nat.le_refl _) ?_
  intro t0 w1 hown hg _
  refine impl_form.L3_rule _ _ _ _ _ _ (I := fun t k w' => 0 ≤ k ∧ k ≤ LL.length ∧ OwnI w' w.heap.size t (lens (LL.take k.toNat)) ∧ Below w.heap.size w w') (μ := fun _ k _ => (LL.length - k).toNat)
    ⟨by omega, by omega, hown, below_of_grow hg⟩ ?_
  rintro t k w' ⟨h0, hk, ht1, hb⟩
  rw [impl_form.B3_s]
  refine bif_dec (fun h3 => ?_) (fun h3 => ?_)
  · refine RowSS.get (ha.grow hb) h0 (by omega) fun r hr => ?_
    have hrn : r.n = (LL.getD k.toNat []).length := by have := hr.n; simpa using this
    rw [hrn]
    refine append_int ht1 hb.size (by rw [lens_length]; simp; omega) ?_
    intro t' w2 ht2 hg2 _
    refine ⟨t', k + 1, by rw [w64_succ h0 (by omega)], ⟨by omega, by omega, ?_, hb.grown hg2 hb.size (fun g hg => (ht1.lt g hg).1)⟩, by omega⟩
    rw [show (k + 1).toNat = k.toNat + 1 by omega, lens_take_succ (by omega)]
    exact ht2
  · rw [impl_form.A3_0_s]
    rw [show k.toNat = LL.length by omega, List.take_length] at ht1
    exact ⟨t, rfl, ht1, hb⟩
theorem c_l19Lengths {w : World} {a : Sl} {LL : List (List Int)} (ha : RowSS w a LL) (hL : LL.length < 2^38) (ht : tot LL < 2^38) :
    Calls PP F.spec_l19Lengths #[a.v] w fun e w' => ∃ s : Sl, e = .returned s.v ∧ OwnI w' w.heap.size s (lens LL) ∧ Below w.heap.size w w' := by
  have han := ha.n
  refine spec_l19Lengths.calls a ?_
  rw [spec_l19Lengths.E_s]
  refine lit0 oneInt (B := w.heap.size) (Nat.le_refl _) ?_
  intro t0 w1 hown hg _
  refine spec_l19Lengths.L3_rule _ _ _ _ _ (I := fun t k w' => 0 ≤ k ∧ k ≤ LL.length ∧ OwnI w' w.heap.size t (lens (LL.take k.toNat)) ∧ Below w.heap.size w w') (μ := fun _ k _ => (LL.length - k).toNat)
    ⟨by omega, by omega, hown, below_of_grow hg⟩ ?_
  rintro t k w' ⟨h0, hk, ht1, hb⟩
  rw [spec_l19Lengths.B3_s]
  refine bif_dec (fun h3 => ?_) (fun h3 => ?_)
  · refine RowSS.get (ha.grow hb) h0 (by omega) fun r hr => ?_
    have hrn : r.n = (LL.getD k.toNat []).length := by have := hr.n; simpa using this
    rw [hrn]
    refine append_int ht1 hb.size (by rw [lens_length]; simp; omega) ?_
    intro t' w2 ht2 hg2 _
    refine ⟨t', k + 1, by rw [w64_succ h0 (by omega)], ⟨by omega, by omega, ?_, hb.grown hg2 hb.size (fun g hg => (ht1.lt g hg).1)⟩, by omega⟩
    rw [show (k + 1).toNat = k.toNat + 1 by omega, lens_take_succ (by omega)]
    exact ht2
  · rw [spec_l19Lengths.A3_0_s]
    rw [show k.toNat = LL.length by omega, List.take_length] at ht1
    exact ⟨t, rfl, ht1, hb⟩

theorem c_Grow {w : World} {n : Int} (h0 : 0 ≤ n) (hn : n < 2^38) :
    Calls PP F.slices_Grow___int_int_ #[Sl.nil.v, vI n] w fun e w' => ∃ s : Sl, e = .returned s.v ∧ OwnI w' w.heap.size s [] ∧ Below w.heap.size w w' := by
  refine slices_Grow___int_int_.calls Sl.nil n ?_
  rw [slices_Grow___int_int_.E_s]
  refine bif_dec (fun h => by omega) (fun h => ?_)
  rw [slices_Grow___int_int_.J3_s]
  have e0 : w64 (n - w64 ((Sl.nil.c : Int) - (Sl.nil.n : Int))) = n := by
    have : ((Sl.nil.c : Int) - (Sl.nil.n : Int)) = 0 := by simp [Sl.nil]
    rw [this, show w64 0 = 0 from w64_id (by omega) (by omega), w64_id (by omega) (by omega)]; omega
  rw [e0]
  refine bif_dec (fun h1 => ?_) (fun h1 => ?_)
  · refine ⟨by simp, by simp [Sl.nil], by simp [Sl.nil], ?_⟩
    have e1 : Sl.cut 1 Sl.nil ((none : Option Int).getD 0).toNat ((some (Sl.nil.c : Int)).getD (Sl.nil.n : Int)).toNat = Sl.nil := by simp [Sl.cut, Sl.nil]
    rw [e1]
    obtain ⟨i, hu, hi, hz, hs, hb, hzc⟩ := oneInt
    obtain ⟨m, rfl⟩ : ∃ m : Nat, n = m := ⟨n.toNat, by omega⟩
    have hui : PP.underlying T_int = some (.int .i64) := by kernel_rfl
    have hb2 : m * i.bytes ≤ 281474976710656 := by
      have : m * i.bytes ≤ m * 24 := Nat.mul_le_mul_left _ hb
      omega
    have hrun := Go.Lib.run_append_nil_zeros (P := PP) w T_Sint T_int T_Sint T_int i (vI 0) .i64 .i64 hu hui hi hz m (by omega) (by omega) (by omega) hb2
    have hge := grownCap_ge w m 0 T_int
    have hcm := grownCap_le_maxLen w m 0 T_int (by simp only [maxLen]; omega)
    refine ⟨⟨some ⟨w.heap.size, 0, none⟩, m, grownCap w m 0 T_int⟩, _, hrun, ?_⟩
    refine ⟨by simp, by simp [Sl.nil], by simp [Sl.nil], ?_⟩
    show slices_Grow___int_int_.J6 std _ _ _
    rw [slices_Grow___int_int_.J6_s]
    have hnew := heap_alloc_new w.drew (.cells (Builtin.zeroCells (vI 0).cells m ++ Builtin.zeroCells (vI 0).cells (grownCap w m 0 T_int - m)) T_int)
    refine ⟨_, rfl, ⟨by simp [Sl.cut, Sl.nil], by simp [Sl.cut, Sl.nil], by simp [Sl.cut]; exact hcm, .inr ⟨w.heap.size, _, ?_, Nat.le_refl _, hnew, ?_, ?_⟩⟩, ⟨rfl, rfl, rfl, by simp, fun k hk => heap_alloc_old w.drew _ hk⟩⟩
    · simp [Sl.cut]; exact fun _ => rfl
    · simp [Sl.cut, size_zeroCells, hzc]; omega
    · simp [Sl.cut, Sl.nil]
  · rw [slices_Grow___int_int_.J6_s]
    exact ⟨Sl.nil, rfl, Own.nil _ _ _, Below.refl _ _⟩
theorem c_Concat {w : World} {a : Sl} {LL : List (List Int)} (ha : RowSS w a LL) (hL : LL.length < 2^38) (ht : tot LL < 2^38) :
    Calls PP F.slices_Concat___int_int_ #[a.v] w fun e w' => ∃ s : Sl, e = .returned s.v ∧ OwnI w' w.heap.size s LL.flatten ∧ Below w.heap.size w w' := by
  have han := ha.n
  refine slices_Concat___int_int_.calls a ?_
  rw [slices_Concat___int_int_.E_s]
  refine slices_Concat___int_int_.L3_rule _ _ _ _ _ _ _ (I := fun m k w' => w' = w ∧ 0 ≤ k ∧ k ≤ LL.length ∧ m = tot (LL.take k.toNat)) (μ := fun _ k _ => (LL.length - k).toNat) ⟨rfl, by omega, by omega, by simp [tot_nil]⟩ ?_
  rintro m k w' ⟨rfl, h0, hk, hm⟩
  rw [slices_Concat___int_int_.B3_s]
  have h5 := tot_take_le LL k.toNat
  refine bif_dec (fun h3 => ?_) (fun h3 => ?_)
  · have hlt : k.toNat < LL.length := by omega
    refine RowSS.get ha h0 (by omega) fun r hr => ?_
    have hrn : r.n = (LL.getD k.toNat []).length := by have := hr.n; simpa using this
    have h4 := tot_take_succ hlt
    have h5 := tot_take_le LL (k.toNat + 1)
    rw [hrn, w64_id (n := m + ((LL.getD k.toNat []).length : Int)) (by omega) (by omega)]
    refine bif_dec (fun h6 => by omega) (fun h6 => ?_)
    exact ⟨_, k + 1, by rw [w64_succ h0 (by omega)], ⟨rfl, by omega, by omega, by rw [show (k + 1).toNat = k.toNat + 1 by omega, h4]; omega⟩, by omega⟩
  · rw [slices_Concat___int_int_.A3_0_s]
    refine (c_Grow (by omega) (by omega)).mono ?_
    rintro e w1 ⟨s, rfl, hs, hb⟩
    refine ⟨s, rfl, ?_⟩
    refine slices_Concat___int_int_.L11_rule _ _ _ _ _ _ (I := fun t j w2 => 0 ≤ j ∧ j ≤ LL.length ∧ OwnI w2 w'.heap.size t (LL.take j.toNat).flatten ∧ Below w'.heap.size w' w2) (μ := fun _ j _ => (LL.length - j).toNat)
      ⟨by omega, by omega, hs, hb⟩ ?_
    rintro t j w2 ⟨hj0, hj, ht2, hb2⟩
    rw [slices_Concat___int_int_.B11_s]
    refine bif_dec (fun h7 => ?_) (fun h7 => ?_)
    · have hlt : j.toNat < LL.length := by omega
      refine RowSS.get (ha.grow hb2) hj0 (by omega) fun r hr => ?_
      have h4 := tot_take_succ hlt
      have h5 := tot_take_le LL (j.toNat + 1)
      refine append_row oneInt ht2 hb2.size hr (fun v hv => by obtain ⟨x, _, rfl⟩ := List.mem_map.1 hv; exact One.int x) (by rw [List.length_map, List.length_map, flatten_length]; omega) ?_
      intro t' w3 ht3 hg3 _ _
      refine ⟨t', j + 1, by rw [w64_succ hj0 (by omega)], ⟨by omega, by omega, ?_, hb2.grown hg3 hb2.size (fun g hg => (ht2.lt g hg).1)⟩, by omega⟩
      rw [show (j + 1).toNat = j.toNat + 1 by omega, flat_take_succ hlt]
      simpa [OwnI] using ht3
    · rw [slices_Concat___int_int_.A11_2_s]
      rw [show j.toNat = LL.length by omega, List.take_length] at ht2
      exact ⟨t, rfl, ht2, hb2⟩

open Classical in
theorem c_implIsTableau0 {w : World} {a : Sl} {LL : List (List Int)} (ha : RowSS w a LL) (hL : LL.length < 2^38) (ht : tot LL < 2^38) :
    Calls PP F.impl_IsTableau #[a.v] w fun e w' => e = .returned (.bool (decide (IsTab LL))) ∧ Below w.heap.size w w' := by
  have han := ha.n
  refine impl_IsTableau.calls a ?_
  rw [impl_IsTableau.E_s]
  refine (c_form ha hL ht).mono ?_
  rintro e w1 ⟨s, rfl, hs, hb1⟩
  refine ⟨s, rfl, ?_⟩
  refine Quiet.call1 (s := .bool) (c_isForm hs.row (by rw [lens_length]; omega) (lens_bd ht) (by omega) (by omega)) ?_
  intro w2 hd2
  have hb2 := hb1.trans (hd2.below _)
  refine bif_intro (fun h => ?_) (fun h => ?_)
  · have h : ¬ FormOk (lens LL) 8 := by simpa using h
    have : ¬ IsTab LL := fun hh => h hh.form
    exact ⟨by simp [this], hb2⟩
  have hf : FormOk (lens LL) 8 := by simpa using h
  have h8 := hf.tot
  refine (c_Concat (ha.grow hb2) hL ht).mono ?_
  rintro e w3 ⟨t, rfl, ht3, hb23⟩
  refine ⟨t, rfl, ?_⟩
  have hb3 := hb2.trans (hb23.mono hb2.size)
  refine (c_isPerm ht3.row (by rw [flatten_length]; omega)).mono ?_
  rintro e w4 ⟨rfl, hb34⟩
  refine ⟨_, rfl, ?_⟩
  have hb4 := hb3.trans (hb34.mono hb3.size)
  refine bif_intro (fun h => ?_) (fun h => ?_)
  · have h : ¬ PermOk LL.flatten := by simpa using h
    have : ¬ IsTab LL := fun hh => h hh.perm.2
    exact ⟨by simp [this], hb4⟩
  have hp : IsP LL.flatten := ⟨by rw [flatten_length]; exact h8, by simpa using h⟩
  have ha4 := ha.grow hb4
  have bad : ∀ i j, i < LL.length → j < (LL.getD i []).length → ¬ ascAt LL i j → impl_IsTableau.q9 std (fun e w' => e = .returned (.bool (decide (IsTab LL))) ∧ Below w.heap.size w w') .ret [(2, .bool false)] w4 := by
    intro i j hi hj hn
    rw [impl_IsTableau.R4_s]
    have : ¬ IsTab LL := fun hh => hn (hh.asc i j hi hj)
    exact ⟨by simp [this], hb4⟩
  refine impl_IsTableau.L4_rule _ _ _ _ _ _ (I := fun i w' => w' = w4 ∧ 0 ≤ i ∧ i ≤ LL.length ∧ ∀ i', i' < i.toNat → ∀ j', j' < (LL.getD i' []).length → ascAt LL i' j') (μ := fun i _ => (LL.length - i).toNat) ⟨rfl, by omega, by omega, fun i' hi' => by simp at hi'⟩ ?_
  rintro i w' ⟨rfl, h0, hi, hall⟩
  rw [impl_IsTableau.B4_s]
  refine bif_dec (fun h3 => ?_) (fun h3 => ?_)
  · have hlt : i.toNat < LL.length := by omega
    refine RowSS.get ha4 h0 (by omega) fun r hr => ?_
    have hrn : r.n = (LL.getD i.toNat []).length := by have := hr.n; simpa using this
    rw [hrn]
    have h8' : (LL.getD i.toNat []).length ≤ 8 := by
      rw [getD_SS hlt]; exact Nat.le_trans (len_le_tot (List.getElem_mem hlt)) h8
    refine impl_IsTableau.L7_rule _ _ _ _ _ _ _ _ _ _ _ (I := fun j w2 => w2 = w' ∧ 0 ≤ j ∧ j ≤ (LL.getD i.toNat []).length ∧ ∀ j', j' < j.toNat → ascAt LL i.toNat j') (μ := fun j _ => ((LL.getD i.toNat []).length - j).toNat) ⟨rfl, by omega, by omega, fun j' hj' => by simp at hj'⟩ ?_
    rintro j w2 ⟨rfl, hj0, hj, hrow⟩
    rw [impl_IsTableau.B7_s]
    refine bif_dec (fun h5 => ?_) (fun h5 => ?_)
    · have hjlt : j.toNat < (LL.getD i.toNat []).length := by omega
      refine RowI.get hr hj0 (by omega) ?_
      have good : ascAt LL i.toNat j.toNat → ∃ t26_n, impl_IsTableau.emb7 a i r a (a.n : Int) i r ((LL.getD i.toNat []).length : Int) (w64 (j + 1)) = impl_IsTableau.emb7 a i r a (a.n : Int) i r ((LL.getD i.toNat []).length : Int) t26_n ∧
          (w2 = w2 ∧ 0 ≤ t26_n ∧ t26_n ≤ (LL.getD i.toNat []).length ∧ ∀ j', j' < t26_n.toNat → ascAt LL i.toNat j') ∧ ((LL.getD i.toNat []).length - t26_n).toNat < ((LL.getD i.toNat []).length - j).toNat := by
        intro hg
        refine ⟨j + 1, by rw [w64_succ hj0 (by omega)], ⟨rfl, by omega, by omega, fun j' hj' => ?_⟩, by omega⟩
        by_cases e : j' = j.toNat
        · rw [e]; exact hg
        · exact hrow j' (by omega)
      have colpart : (0 < j.toNat → at2 LL i.toNat (j.toNat - 1) ≤ at2 LL i.toNat j.toNat) → (bif decide (i > 0) then (idxK 1 a (w64 (i - 1)) fun a19 => load1 .sl a19 w2 fun ξ20 => idxK 1 ξ20 j fun a21 => load1 (.int .i64) a21 w2 fun (ξ22 : Int) => bif decide (ξ22 > at2 LL i.toNat j.toNat) then
          ((impl_IsTableau.q14 std (fun e2 w2_1 => ∃ t19_n, e2 = impl_IsTableau.emb4 a a (a.n : Int) t19_n ∧ (w2_1 = w2 ∧ 0 ≤ t19_n ∧ t19_n ≤ LL.length ∧ ∀ i', i' < t19_n.toNat → ∀ j', j' < (LL.getD i' []).length → ascAt LL i' j') ∧ (LL.length - t19_n).toNat < (LL.length - i).toNat)
            (impl_IsTableau.q9 std fun e w' => e = .returned (.bool (decide (IsTab LL))) ∧ Below w.heap.size w w')) .ret [(2, .bool false)] w2)
          else (∃ t26_n, impl_IsTableau.emb7 a i r a (a.n : Int) i r ((LL.getD i.toNat []).length : Int) (w64 (j + 1)) = impl_IsTableau.emb7 a i r a (a.n : Int) i r ((LL.getD i.toNat []).length : Int) t26_n ∧
          (w2 = w2 ∧ 0 ≤ t26_n ∧ t26_n ≤ (LL.getD i.toNat []).length ∧ ∀ j', j' < t26_n.toNat → ascAt LL i.toNat j') ∧ ((LL.getD i.toNat []).length - t26_n).toNat < ((LL.getD i.toNat []).length - j).toNat))
          else (∃ t26_n, impl_IsTableau.emb7 a i r a (a.n : Int) i r ((LL.getD i.toNat []).length : Int) (w64 (j + 1)) = impl_IsTableau.emb7 a i r a (a.n : Int) i r ((LL.getD i.toNat []).length : Int) t26_n ∧
          (w2 = w2 ∧ 0 ≤ t26_n ∧ t26_n ≤ (LL.getD i.toNat []).length ∧ ∀ j', j' < t26_n.toNat → ascAt LL i.toNat j') ∧ ((LL.getD i.toNat []).length - t26_n).toNat < ((LL.getD i.toNat []).length - j).toNat)) := by
        intro hrp
        refine bif_dec (fun h9 => ?_) (fun h9 => good ⟨hrp, fun h => by omega⟩)
        rw [w64_id (n := i - 1) (by omega) (by omega)]
        have e1 : (i - 1).toNat = i.toNat - 1 := by omega
        have hst := hf.step hlt (by omega)
        refine RowSS.get ha4 (by omega) (by omega) fun r2 hr2 => ?_
        rw [e1] at hr2
        refine RowI.get hr2 hj0 (by omega) ?_
        refine bif_dec (fun h10 => ?_) (fun h10 => ?_)
        · rw [impl_IsTableau.R7_s]
          exact bad i.toNat j.toNat hlt hjlt fun hg => by
            have := hg.2 (by omega)
            simp only [at2] at this h10; omega
        · exact good ⟨hrp, fun _ => by simp only [at2] at h10 ⊢; omega⟩
      refine bif_dec (fun h6 => ?_) (fun h6 => ?_)
      · rw [w64_id (n := j - 1) (by omega) (by omega)]
        refine RowI.get hr (by omega) (by omega) ?_
        have e1 : (j - 1).toNat = j.toNat - 1 := by omega
        rw [e1]
        refine bif_dec (fun h7 => ?_) (fun h7 => ?_)
        · rw [impl_IsTableau.R7_s]
          exact bad i.toNat j.toNat hlt hjlt fun hg => by
            have := hg.1 (by omega)
            simp only [at2] at this; omega
        · exact colpart fun _ => by simp only [at2]; omega
      · exact colpart fun h => by omega
    · rw [impl_IsTableau.A7_2_s]
      refine ⟨i + 1, by rw [w64_succ h0 (by omega)], ⟨rfl, by omega, by omega, fun i' hi' j' hj' => ?_⟩, by omega⟩
      by_cases e : i' = i.toNat
      · subst e; exact hrow j' (by omega)
      · exact hall i' (by omega) j' hj'
  · rw [impl_IsTableau.A4_0_s]
    have : IsTab LL := ⟨hf, hp, fun i' j' hi' hj' => hall i' (by omega) j' hj'⟩
    exact ⟨by simp [this], hb4⟩
end Go.Proofs.Ytfainpmcdfckkaa
