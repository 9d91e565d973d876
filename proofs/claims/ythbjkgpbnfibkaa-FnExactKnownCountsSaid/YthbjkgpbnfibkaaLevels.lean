/- LevelSizes: both texts, and the law. -/
import Derived.Test.YthbjkgpbnfibkaaSites
import Derived.Test.YthbjkgpbnfibkaaCounts
import Derived.Test.YthbjkgpbnfibkaaLawSz
namespace Go.Proofs.Ythbjkgpbnfibkaa
open Go Go.RowKit
set_option maxRecDepth 100000

theorem oneSSint : OneT T_SSSint T_SSint Sl.nil.v := oneT_of (by kernel_rfl) (by kernel_rfl) rfl
theorem ne_SS_S : T_SSint ≠ T_Sint := by decide
theorem ne_SS_int : T_SSint ≠ T_int := by decide
/-- The levels of the tree. -/
def levV (LL : List (List Int)) : Nat → List (List Int)
  | 0 => [[]]
  | k + 1 => (levV LL k).flatMap (childrenV LL)
theorem flat_snoc' {α β : Type} (l : List α) (x : α) (f : α → List β) : (l ++ [x]).flatMap f = l.flatMap f ++ f x := by simp
theorem avoids_nil {LL : List (List Int)} (h : BasisOk LL) : avoidsV LL [] = true := by
  have : (LL.any fun q => hasP [] q) = false := by
    rw [List.any_eq_false]
    intro q hq hh
    obtain ⟨i, hi, rfl⟩ := List.getElem_of_mem hq
    have hne := (h.2 i hi).ne
    rw [getD_SS hi] at hne
    have := hasB_room _ _ (Places.nil []) hh
    have h0 : 0 < LL[i].length := List.length_pos_iff.2 hne
    have h5 : lastD [] = 0 := rfl
    rw [h5] at this
    simp only [List.length_nil] at this
    omega
  simp [avoidsV, this]
theorem lev_mem {LL : List (List Int)} (h : BasisOk LL) : ∀ k, k ≤ 8 → ∀ p ∈ levV LL k, p.length = k ∧ IsP p ∧ avoidsV LL p = true
  | 0, _, p, hp => by
    simp [levV] at hp; subst hp
    exact ⟨rfl, ⟨by simp, fun j hj => by simp at hj⟩, avoids_nil h⟩
  | k + 1, hk, p, hp => by
    rw [levV, List.mem_flatMap] at hp
    obtain ⟨q, hq, hp⟩ := hp
    obtain ⟨h1, h2, h3⟩ := lev_mem h k (by omega) q hq
    obtain ⟨i, hi, rfl, h4⟩ := childrenV_mem hp
    exact ⟨by rw [childW_length hi, h1], childW_isP h2 (by omega) hi, h4⟩
theorem lev_len {LL : List (List Int)} (h : BasisOk LL) : ∀ k, k ≤ 7 → (levV LL k).length ≤ 8 ^ k
  | 0, _ => by simp [levV]
  | k + 1, hk => by
    have h1 := lev_len h k (by omega)
    have h2 := length_flatMap_le (levV LL k) (childrenV LL) 8 (fun p hp => by
      have := (lev_mem h k (by omega) p hp).1
      have := childrenV_len LL p
      omega)
    rw [levV, Nat.pow_succ]
    omega
theorem lev_len7 {LL : List (List Int)} (h : BasisOk LL) {k : Nat} (hk : k ≤ 7) : (levV LL k).length ≤ 2097152 :=
  Nat.le_trans (lev_len h k hk) (Nat.le_trans (Nat.pow_le_pow_right (by omega) hk) (by decide))
theorem flat_take_len {LL : List (List Int)} (h : BasisOk LL) {k : Nat} (hk : k ≤ 6) (i : Nat) : (((levV LL k).take i).flatMap (childrenV LL)).length ≤ 16777216 := by
  have h2 := length_flatMap_le ((levV LL k).take i) (childrenV LL) 8 (fun p hp => by
      have := (lev_mem h k (by omega) p (List.mem_of_mem_take hp)).1
      have := childrenV_len LL p
      omega)
  have h3 := lev_len7 h (k := k) (by omega)
  rw [List.length_take] at h2
  omega
def levL (LL : List (List Int)) (k : Nat) : Int := ((levV LL k).length : Int)
def levS (LL : List (List Int)) (m : Nat) : List Int := (List.range m).map (levL LL)
theorem levS_succ (LL : List (List Int)) (m : Nat) : levS LL (m + 1) = levS LL m ++ [levL LL m] := by simp [levS, List.range_succ]
theorem levS_len (LL : List (List Int)) (m : Nat) : (levS LL m).length = m := by simp [levS]
open Classical in
noncomputable def LevelSizesV (LL : List (List Int)) (n : Int) : List Int := if CntOk LL n then levS LL (n.toNat + 1) else []
theorem LevelSizesV_len (LL : List (List Int)) (n : Int) : (LevelSizesV LL n).length < 2^38 := by
  unfold LevelSizesV
  split
  · rename_i h
    have := h.2
    rw [levS_len]; omega
  · simp
/-- One row that is empty. -/
theorem OwnSS.one_nil {w w2 : World} {B : Nat} {s0 t0 : Sl} (h0 : OwnI w B s0 []) (ht0 : Own w2 B T_Sint t0 [s0.v]) (hg : w.grownBy w2 Option.none) : OwnSS w2 B t0 [[]] := by
  refine ⟨[s0], ht0, rfl, fun i r L e1 e2 => ?_, fun i j r t hij e1 e2 => ?_⟩
  · cases i with
    | zero => simp at e1 e2; subst e1 e2; exact h0.kept hg (fun _ _ => by simp)
    | succ i => simp at e1
  · cases i with
    | zero => cases j with
      | zero => exact absurd rfl hij
      | succ j => simp at e2
    | succ i => simp at e1
def Lvls (LL : List (List Int)) (w : World) (B : Nat) (s : Sl) (m : Nat) : Prop := ∃ rs : List Sl, Own w B T_SSint s (rs.map Sl.v) ∧ rs.map (fun r => (r.n : Int)) = levS LL m
theorem Lvls.n {LL w B s m} (h : Lvls LL w B s m) : s.n = m := by
  obtain ⟨rs, h1, h2⟩ := h
  have h3 := congrArg List.length h2
  rw [List.length_map, levS_len] at h3
  have := h1.row.n
  simpa [h3] using this
theorem c_levels {w : World} {l : Sl} {LL : List (List Int)} (hl : RowSS w l LL) (hB : BasisOk LL) (n : Nat) (hn : n ≤ 6) :
    Calls PP F.impl_levels #[l.v, vI n] w fun e w' => ∃ s : Sl, e = .returned s.v ∧ Lvls LL w' w.heap.size s (n + 1) ∧ Below w.heap.size w w' := by
  refine impl_levels.calls l n ?_
  rw [impl_levels.E_s]
  refine lit0 oneSint (B := w.heap.size) (Nat.le_refl _) ?_
  intro o0 w1 ho0 hg1 _
  have hb1 := below_of_grow hg1
  refine lit0 oneInt (B := w.heap.size) hb1.size ?_
  intro e0 w2 he0 hg2 _
  have hb12 := below_of_grow hg2
  have hb2 := hb1.trans (hb12.mono hb1.size)
  refine (c_avoids (P := []) (hl.grow hb2) he0.row (by simp) (by have := hB.1; omega) (fun q hq => by have := hB.len q hq; omega)).mono ?_
  rintro e w3 ⟨rfl, hb23⟩
  refine ⟨_, rfl, ?_⟩
  have hb3 := hb2.trans (hb23.mono hb2.size)
  rw [avoids_nil hB]
  show sem1 .sl PP _ w3 _
  refine lit0 oneInt (B := w.heap.size) hb3.size ?_
  intro e1 w4 he1 hg4 _
  have hb34 := below_of_grow hg4
  have hb4 := hb3.trans (hb34.mono hb3.size)
  have ho4 := (((OwnRows.nil ho0).grow hb12).grow hb23).grow hb34
  refine append_sl ho4 hb4.size (L := []) he1 (fun t ht => by simp at ht) (by simp) ?_
  intro lv w5 hlv hg5 _
  have hb5 := hb4.grown hg5 hb4.size (fun g hg => (ho4.out.lt g hg).1)
  show impl_levels.J4 std _ _ _ _ _
  rw [impl_levels.J4_s]
  refine lit1 oneSSint (B := w.heap.size) hb5.size (One.sl lv) ?_
  intro o w6 ho hg6 _
  have hb6 := hb5.grown hg6 hb5.size (by simp)
  have hlv6 : RowSS w6 lv (levV LL 0) := by
    have := (hlv.grow (below_of_grow hg6)).row
    simpa [levV] using this
  refine impl_levels.L6_rule _ _ _ _ _ _ _ (I := fun lv o i w' => 0 ≤ i ∧ i ≤ n ∧ Below w.heap.size w w' ∧ RowSS w' lv (levV LL i.toNat) ∧ Lvls LL w' w.heap.size o (i.toNat + 1)) (μ := fun _ _ i _ => (n - i).toNat)
    ⟨by omega, by omega, hb6, hlv6, [lv], ho, by simp [levS, levL, hlv6.n]⟩ ?_
  rintro lv o i w' ⟨hi0, hi, hb, hlv, hout⟩
  rw [impl_levels.B6_s]
  refine bif_dec (fun h3 => ?_) (fun h3 => ?_)
  · refine lit0 oneSint (B := w'.heap.size) (Nat.le_refl _) ?_
    intro x0 w7 hx0 hg7 _
    have hb7 := below_of_grow hg7
    have hlvn := hlv.n
    have hl7 := lev_len7 hB (k := i.toNat) (by omega)
    rw [hlvn]
    refine impl_levels.L9_rule _ _ _ _ _ _ _ _ _ _ (I := fun x j w8 => 0 ≤ j ∧ j ≤ (levV LL i.toNat).length ∧ Below w'.heap.size w' w8 ∧ OwnSS w8 w'.heap.size x (((levV LL i.toNat).take j.toNat).flatMap (childrenV LL))) (μ := fun _ j _ => ((levV LL i.toNat).length - j).toNat)
      ⟨by omega, by omega, hb7, OwnSS.nil hx0⟩ ?_
    rintro x j w8 ⟨hj0, hj, hb8, hx⟩
    rw [impl_levels.B9_s]
    refine bif_dec (fun h5 => ?_) (fun h5 => ?_)
    · have hlt : j.toNat < (levV LL i.toNat).length := by omega
      refine RowSS.get (hlv.grow hb8) hj0 (by omega) fun r hr => ?_
      rw [getD_SS hlt] at hr
      have hm := lev_mem hB i.toNat (by omega) _ (List.getElem_mem hlt)
      have hbw8 := hb.trans (hb8.mono hb.size)
      refine (c_children (hl.grow hbw8) hB hr (by omega)).mono ?_
      rintro e w9 ⟨c, rfl, hc, hb9⟩
      refine ⟨c, rfl, ?_⟩
      have f1 := flat_take_len hB (k := i.toNat) (by omega) j.toNat
      have f2 := childrenV_len LL (levV LL i.toNat)[j.toNat]
      refine append_many hx hb9 hb8.size hc (by omega) ?_
      intro x' w10 hx' hg10 _
      have hb89 := hb8.trans (hb9.mono hb8.size)
      refine ⟨x', j + 1, by rw [w64_succ hj0 (by omega)], ⟨by omega, by omega, hb89.grown hg10 hb89.size (fun g hg => (hx.lt g hg).1), ?_⟩, by omega⟩
      rw [show (j + 1).toNat = j.toNat + 1 by omega, List.take_succ_eq_append_getElem hlt, flat_snoc']
      exact hx'
    · rw [impl_levels.A9_2_s]
      rw [show j.toNat = (levV LL i.toNat).length by omega, List.take_length] at hx
      obtain ⟨rs, ho1, ho2⟩ := hout
      have hbw8 := hb.trans (hb8.mono hb.size)
      have ho8 := ho1.grow hb8
      refine append_one oneSSint ho8 hbw8.size (One.sl x) (by
        have := congrArg List.length ho2
        rw [List.length_map, levS_len] at this
        rw [List.length_map]; omega) ?_
      intro o' w9 ho9 hg9 _
      obtain ⟨xs, hx⟩ := hx
      have hx9 := hx.keepsLt (keeps_grown hg9) (fun g hg => (ho1.lt g hg).2)
      have e1 : (i + 1).toNat = i.toNat + 1 := by omega
      refine ⟨x, o', i + 1, by rw [w64_succ hi0 (by omega)], ⟨by omega, by omega, hbw8.grown hg9 hbw8.size (fun g hg => (ho8.lt g hg).1), ?_, ?_⟩, by omega⟩
      · rw [e1]; exact hx9.row
      · refine ⟨rs ++ [x], by simpa using ho9, ?_⟩
        have hxn := hx9.n
        rw [e1, levS_succ, List.map_append, ho2, levL, levV]
        simp [hxn]
  · rw [impl_levels.A6_0_s]
    rw [show i.toNat = n by omega] at hout
    exact ⟨o, rfl, hout, hb⟩
theorem c_implLevelSizes {w : World} {l : Sl} {LL : List (List Int)} (hl : RowSS w l LL) (hL : LL.length < 2^38) (ht : tot LL < 2^37) (n : Int) :
    Calls PP F.impl_LevelSizes #[l.v, vI n] w fun e w' => ∃ s : Sl, e = .returned s.v ∧ OwnI w' w.heap.size s (LevelSizesV LL n) ∧ Below w.heap.size w w' := by
  refine impl_LevelSizes.calls l n ?_
  rw [impl_LevelSizes.E_s]
  refine (c_implIsBasis hl hL ht).mono ?_
  rintro e w1 ⟨rfl, hb1⟩
  refine ⟨_, rfl, ?_⟩
  refine bif_intro (fun h => ?_) (fun h => ?_)
  · have h : ¬ BasisOk LL := by simpa [IsBasisV] using h
    exact ⟨Sl.nil, rfl, by rw [LevelSizesV, if_neg (fun hh => h hh.1)]; exact Own.nil _ _ _, hb1⟩
  have hB : BasisOk LL := by simpa [IsBasisV] using h
  refine c_six ?_
  refine bif_intro (fun h => ?_) (fun h => ?_)
  · have h : ¬ (0 ≤ n ∧ n ≤ 6) := by simp at h; omega
    exact ⟨Sl.nil, rfl, by rw [LevelSizesV, if_neg (fun hh => h hh.2)]; exact Own.nil _ _ _, hb1⟩
  have hn : 0 ≤ n ∧ n ≤ 6 := by simpa using h
  have hV : LevelSizesV LL n = levS LL (n.toNat + 1) := by rw [LevelSizesV, if_pos ⟨hB, hn⟩]
  rw [hV]
  obtain ⟨n, rfl⟩ : ∃ m : Nat, n = m := ⟨n.toNat, by omega⟩
  rw [Int.toNat_natCast]
  refine lit0 oneInt (B := w.heap.size) hb1.size ?_
  intro o w2 ho hg2 _
  have hb2 := hb1.grown hg2 hb1.size (by simp)
  refine (c_levels (hl.grow hb2) hB n (by omega)).mono ?_
  rintro e w3 ⟨t, rfl, hto, hb23⟩
  refine ⟨t, rfl, ?_⟩
  have hb3 := hb2.trans (hb23.mono hb2.size)
  have htn := hto.n
  obtain ⟨rs, ht1, ht2⟩ := hto
  have hrl : rs.length = n + 1 := by
    have := congrArg List.length ht2
    rw [List.length_map, levS_len] at this
    exact this
  show impl_LevelSizes.L5 std _ _ _ _ _ _
  rw [htn]
  refine impl_LevelSizes.L5_rule _ _ _ _ _ _ (I := fun o i w' => 0 ≤ i ∧ i ≤ (n + 1 : Nat) ∧ Below w.heap.size w w' ∧ Own w' w2.heap.size T_SSint t (rs.map Sl.v) ∧ OwnI w' w.heap.size o (levS LL i.toNat)) (μ := fun _ i _ => ((n + 1 : Nat) - i).toNat)
    ⟨by omega, by omega, hb3, ht1, by have := Own.grow ho hb23; simpa [OwnI, levS] using this⟩ ?_
  rintro o i w' ⟨hi0, hi, hb, htw, how⟩
  rw [impl_LevelSizes.B5_s]
  refine bif_dec (fun h3 => ?_) (fun h3 => ?_)
  · have hlt : i.toNat < rs.length := by omega
    refine Row.get (sh := .sl) (r := rs[i.toNat]) htw.row hi0 (by rw [List.getElem?_map, List.getElem?_eq_getElem hlt]; rfl) ?_
    have hxn : (rs[i.toNat].n : Int) = levL LL i.toNat := by
      have h5 : (rs.map (fun r => (r.n : Int)))[i.toNat]? = (levS LL (n + 1))[i.toNat]? := by rw [ht2]
      rw [List.getElem?_map, List.getElem?_eq_getElem hlt, levS, List.getElem?_map, List.getElem?_range (by omega)] at h5
      simpa using h5
    simp only [hxn]
    refine append_int how hb.size (by rw [levS_len]; omega) ?_
    intro o' w4 ho4 hg4 _
    refine ⟨o', i + 1, by rw [w64_succ hi0 (by omega)], ⟨by omega, by omega, hb.grown hg4 hb.size (fun g hg => (how.lt g hg).1), ?_, ?_⟩, by omega⟩
    · exact htw.kept hg4 fun g e1 e2 => (htw.apt how ne_SS_int) g e1 e2
    · rw [show (i + 1).toNat = i.toNat + 1 by omega, levS_succ]
      exact ho4
  · rw [impl_LevelSizes.A5_0_s]
    rw [show i.toNat = n + 1 by omega] at how
    exact ⟨o, rfl, how, hb⟩
theorem c_specLevelSizes0 {w : World} {l : Sl} {LL : List (List Int)} (hl : RowSS w l LL) (hL : LL.length < 2^38) (ht : tot LL < 2^37) (n : Int) :
    Calls PP F.spec_LevelSizes #[l.v, vI n] w fun e w' => ∃ s : Sl, e = .returned s.v ∧ OwnI w' w.heap.size s (LevelSizesV LL n) ∧ Below w.heap.size w w' := by
  refine spec_LevelSizes.calls l n ?_
  rw [spec_LevelSizes.E_s]
  refine lit0 oneInt (B := w.heap.size) (Nat.le_refl _) ?_
  intro o w1 ho hg1 _
  have hb1 := below_of_grow hg1
  refine (c_specIsBasis (hl.grow hb1) hL ht).mono ?_
  rintro e w2 ⟨rfl, hb12⟩
  refine ⟨_, rfl, ?_⟩
  have hb2 := hb1.trans (hb12.mono hb1.size)
  have ho2 : OwnI w2 w.heap.size o [] := Own.grow ho hb12
  refine bif_intro (fun h => ?_) (fun h => ?_)
  · have h : ¬ BasisOk LL := by simpa [IsBasisV] using h
    exact ⟨o, rfl, by rw [LevelSizesV, if_neg (fun hh => h hh.1)]; exact ho2, hb2⟩
  have hB : BasisOk LL := by simpa [IsBasisV] using h
  refine Pure.pcall1 (s := .bool) (c_l1In n 0 6) ?_
  refine bif_intro (fun h => ?_) (fun h => ?_)
  · have h : ¬ (0 ≤ n ∧ n ≤ 6) := by simp at h; omega
    exact ⟨o, rfl, by rw [LevelSizesV, if_neg (fun hh => h hh.2)]; exact ho2, hb2⟩
  have hn : 0 ≤ n ∧ n ≤ 6 := by simpa using h
  have hV : LevelSizesV LL n = levS LL (n.toNat + 1) := by rw [LevelSizesV, if_pos ⟨hB, hn⟩]
  rw [hV]
  obtain ⟨n, rfl⟩ : ∃ m : Nat, n = m := ⟨n.toNat, by omega⟩
  rw [Int.toNat_natCast]
  refine lit0 oneInt (B := w2.heap.size) (Nat.le_refl _) ?_
  intro s0 w3 hs0 hg3 _
  have hb3 := hb2.grown hg3 hb2.size (by simp)
  refine lit1 oneSint (B := w2.heap.size) (below_of_grow hg3).size (One.sl s0) ?_
  intro lv w4 hlv hg4 _
  have hb4 := hb3.grown hg4 hb3.size (by simp)
  have hlv4 : OwnSS w4 w2.heap.size lv (levV LL 0) := OwnSS.one_nil hs0 hlv hg4
  have ho4 : OwnI w4 w.heap.size o [] := Own.grow (Own.grow ho2 (below_of_grow hg3)) (below_of_grow hg4)
  refine spec_LevelSizes.L6_rule _ _ _ _ _ _ _ (I := fun o lv k w' => 0 ≤ k ∧ k ≤ (n + 1 : Nat) ∧ Below w.heap.size w w' ∧ OwnI w' w.heap.size o (levS LL k.toNat) ∧ (k ≤ n → ∃ C, OwnSS w' C lv (levV LL k.toNat) ∧ ∀ g, o.blk = some g → g < C)) (μ := fun _ _ k _ => ((n + 1 : Nat) - k).toNat)
    ⟨by omega, by omega, hb4, by simpa [levS] using ho4, fun _ => ⟨w2.heap.size, hlv4, fun g hg => (ho2.lt g hg).2⟩⟩ ?_
  rintro o lv k w' ⟨hk0, hk, hb, ho, hlev⟩
  rw [spec_LevelSizes.B6_s]
  refine bif_dec (fun h3 => ?_) (fun h3 => ?_)
  · obtain ⟨C, hlvO, hC⟩ := hlev h3
    have hlvn := hlvO.row.n
    have hxn : (lv.n : Int) = levL LL k.toNat := by rw [hlvn, levL]
    rw [hxn]
    refine append_int ho hb.size (by rw [levS_len]; omega) ?_
    intro o' w5 ho5 hg5 _
    have hb5 := hb.grown hg5 hb.size (fun g hg => (ho.lt g hg).1)
    have hlv5 : RowSS w5 lv (levV LL k.toNat) := by
      obtain ⟨rs, hlvO⟩ := hlvO
      exact (hlvO.keepsLt (keeps_grown hg5) (fun g hg => hC g hg)).row
    refine lit0 oneSint (B := w5.heap.size) (Nat.le_refl _) ?_
    intro x0 w7 hx0 hg7 _
    have hb7 := below_of_grow hg7
    have hl7 := lev_len7 hB (k := k.toNat) (by omega)
    have e1 : (k + 1).toNat = k.toNat + 1 := by omega
    refine spec_LevelSizes.L11_rule _ _ _ _ _ _ _ _ _ (I := fun x j w8 => 0 ≤ j ∧ j ≤ (levV LL k.toNat).length ∧ Below w5.heap.size w5 w8 ∧ OwnSS w8 w5.heap.size x (((levV LL k.toNat).take j.toNat).flatMap (childrenV LL))) (μ := fun _ j _ => ((levV LL k.toNat).length - j).toNat)
      ⟨by omega, by omega, hb7, OwnSS.nil hx0⟩ ?_
    rintro x j w8 ⟨hj0, hj, hb8, hx⟩
    have hbw8 := hb5.trans (hb8.mono hb5.size)
    rw [spec_LevelSizes.B11_s, hlvn]
    refine bif_dec (fun h5 => ?_) (fun h5 => ?_)
    · refine bif_dec (fun h6 => ?_) (fun h6 => ?_)
      · have hlt : j.toNat < (levV LL k.toNat).length := by omega
        refine RowSS.get (hlv5.grow hb8) hj0 (by omega) fun r hr => ?_
        rw [getD_SS hlt] at hr
        have hm := lev_mem hB k.toNat (by omega) _ (List.getElem_mem hlt)
        refine (c_specChildrenOf0 (hl.grow hbw8) hL ht hr (by omega)).mono ?_
        rintro e w9 ⟨c, rfl, hc, hb9⟩
        refine ⟨c, rfl, ?_⟩
        have hcV : ChildrenOfV LL (levV LL k.toNat)[j.toNat] = childrenV LL (levV LL k.toNat)[j.toNat] := by rw [ChildrenOfV, if_pos ⟨⟨hB, hm.2.1, hm.2.2⟩, by omega⟩]
        rw [hcV] at hc
        have f1 := flat_take_len hB (k := k.toNat) (by omega) j.toNat
        have f2 := childrenV_len LL (levV LL k.toNat)[j.toNat]
        refine append_many hx hb9 hb8.size hc (by omega) ?_
        intro x' w10 hx' hg10 _
        have hb89 := hb8.trans (hb9.mono hb8.size)
        refine ⟨x', j + 1, by rw [w64_succ hj0 (by omega)], ⟨by omega, by omega, hb89.grown hg10 hb89.size (fun g hg => (hx.lt g hg).1), ?_⟩, by omega⟩
        rw [show (j + 1).toNat = j.toNat + 1 by omega, List.take_succ_eq_append_getElem hlt, flat_snoc']
        exact hx'
      · rw [spec_LevelSizes.A11_2_s]
        refine ⟨o', x, k + 1, by rw [w64_succ hk0 (by omega)], ⟨by omega, by omega, hbw8, ?_, fun h => by omega⟩, by omega⟩
        rw [e1, levS_succ]
        exact Own.grow ho5 hb8
    · rw [spec_LevelSizes.A11_2_s]
      rw [show j.toNat = (levV LL k.toNat).length by omega, List.take_length] at hx
      refine ⟨o', x, k + 1, by rw [w64_succ hk0 (by omega)], ⟨by omega, by omega, hbw8, ?_, fun h => ⟨w5.heap.size, ?_, fun g hg => (ho5.lt g hg).2⟩⟩, by omega⟩
      · rw [e1, levS_succ]
        exact Own.grow ho5 hb8
      · rw [e1, levV]; exact hx
  · rw [spec_LevelSizes.A6_0_s]
    rw [show k.toNat = n + 1 by omega] at ho
    exact ⟨o, rfl, ho, hb⟩
theorem c_specLevelSizes {w : World} {l : Sl} {LL : List (List Int)} (hl : RowSS w l LL) (hL : LL.length < 2^38) (ht : tot LL < 2^37) (n : Int) :
    Calls PP F.spec_LevelSizes #[l.v, vI n] w fun e w' => ∃ s : Sl, e = .returned s.v ∧ RowI w' s (LevelSizesV LL n) ∧ Below w.heap.size w w' :=
  (c_specLevelSizes0 hl hL ht n).mono fun e w' ⟨s, he, ho, hb⟩ => ⟨s, he, ho.row, hb⟩
theorem lawC_FnExactLevelSizes (a0 : Sl) (L0 : List (List Int)) (k1 : Int) (hk1 : -9223372036854775808 ≤ k1 ∧ k1 ≤ 9223372036854775807) (w : World) (ha0 : RowSS w a0 L0) (hbd0 : L0.length ≤ maxLen ∧ ∀ M ∈ L0, M.length ≤ maxLen ∧ ∀ x ∈ M, -9223372036854775808 ≤ x ∧ x ≤ 9223372036854775807) :
    Calls PP F.laws_FnExactLevelSizes #[a0.v, vI k1] w fun e w' => e = .returned (.bool true) ∧ Below w.heap.size w w' := by
  have han0 := ha0.n
  refine laws_FnExactLevelSizes.calls a0 k1 ?_
  rw [laws_FnExactLevelSizes.E_s]
  have b_0_0 : Below w.heap.size w w := Below.refl _ _
  refine Quiet.call1 (s := .int .i64) (c_szIntSS (ha0.grow b_0_0) hbd0.1 (fun M hM => (hbd0.2 M hM).1) (left := 1048576) (by omega) (by omega)) ?_
  intro w1 hd1
  have s_0 : Below w.heap.size w w1 := hd1.below _
  have b_0_1 := b_0_0.trans (s_0.mono b_0_0.size)
  refine bif_dec (fun h => ⟨rfl, b_0_1⟩) (fun hsz0 => ?_)
  obtain ⟨hz0, ez0⟩ := szW_ok (LL := L0) (by omega) hsz0
  have hn0 : L0.length < 2^38 := by omega
  have htt0 : tot L0 < 2^38 := by omega
  have b_1_1 : Below w1.heap.size w1 w1 := Below.refl _ _
  refine (c_toIntSS (ha0.grow b_0_1) hn0 htt0).mono ?_
  rintro e w2 ⟨xw0, rfl, ⟨rsxw0, hxw0⟩, s_1⟩
  refine ⟨xw0, rfl, ?_⟩
  have b_0_2 := b_0_1.trans (s_1.mono b_0_1.size)
  have b_1_2 := b_1_1.trans (s_1.mono b_1_1.size)
  have b_2_2 : Below w2.heap.size w2 w2 := Below.refl _ _
  refine (c_specLevelSizes (hxw0.row.grow b_2_2) (by omega) (by omega) k1).mono ?_
  rintro e w3 ⟨w0, rfl, hw0, s_2⟩
  refine ⟨w0, rfl, ?_⟩
  have b_0_3 := b_0_2.trans (s_2.mono b_0_2.size)
  have b_1_3 := b_1_2.trans (s_2.mono b_1_2.size)
  have b_2_3 := b_2_2.trans (s_2.mono b_2_2.size)
  have b_3_3 : Below w3.heap.size w3 w3 := Below.refl _ _
  refine (c_toIntSS (ha0.grow b_0_3) hn0 htt0).mono ?_
  rintro e w4 ⟨xx0, rfl, ⟨rsxx0, hxx0⟩, s_3⟩
  refine ⟨xx0, rfl, ?_⟩
  have b_0_4 := b_0_3.trans (s_3.mono b_0_3.size)
  have b_1_4 := b_1_3.trans (s_3.mono b_1_3.size)
  have b_2_4 := b_2_3.trans (s_3.mono b_2_3.size)
  have b_3_4 := b_3_3.trans (s_3.mono b_3_3.size)
  have b_4_4 : Below w4.heap.size w4 w4 := Below.refl _ _
  refine (c_implLevelSizes (hxx0.row.grow b_4_4) (by omega) (by omega) k1).mono ?_
  rintro e w5 ⟨g0, rfl, hg0, s_4⟩
  refine ⟨g0, rfl, ?_⟩
  have b_0_5 := b_0_4.trans (s_4.mono b_0_4.size)
  have b_1_5 := b_1_4.trans (s_4.mono b_1_4.size)
  have b_2_5 := b_2_4.trans (s_4.mono b_2_4.size)
  have b_3_5 := b_3_4.trans (s_4.mono b_3_4.size)
  have b_4_5 := b_4_4.trans (s_4.mono b_4_4.size)
  have b_5_5 : Below w5.heap.size w5 w5 := Below.refl _ _
  have hv0 : (LevelSizesV L0 k1).length < 2^38 := LevelSizesV_len L0 k1
  refine Quiet.call1 (s := .bool) (c_eqIntS (hg0.row.grow b_5_5) (hw0.grow b_3_5) (by omega)) ?_
  intro w6 hd6
  have s_5 : Below w5.heap.size w5 w6 := hd6.below _
  have b_0_6 := b_0_5.trans (s_5.mono b_0_5.size)
  have b_1_6 := b_1_5.trans (s_5.mono b_1_5.size)
  have b_2_6 := b_2_5.trans (s_5.mono b_2_5.size)
  have b_3_6 := b_3_5.trans (s_5.mono b_3_5.size)
  have b_4_6 := b_4_5.trans (s_5.mono b_4_5.size)
  have b_5_6 := b_5_5.trans (s_5.mono b_5_5.size)
  refine bif_f (by simp) ?_
  have b_6_6 : Below w6.heap.size w6 w6 := Below.refl _ _
  refine (c_toIntSS (ha0.grow b_0_6) hn0 htt0).mono ?_
  rintro e w7 ⟨y0, rfl, hy0, s_6⟩
  refine ⟨y0, rfl, ?_⟩
  have b_0_7 := b_0_6.trans (s_6.mono b_0_6.size)
  have b_1_7 := b_1_6.trans (s_6.mono b_1_6.size)
  have b_2_7 := b_2_6.trans (s_6.mono b_2_6.size)
  have b_3_7 := b_3_6.trans (s_6.mono b_3_6.size)
  have b_4_7 := b_4_6.trans (s_6.mono b_4_6.size)
  have b_5_7 := b_5_6.trans (s_6.mono b_5_6.size)
  have b_6_7 := b_6_6.trans (s_6.mono b_6_6.size)
  refine Quiet.call1 (s := .bool) (c_eqIntSS (hxx0.row.grow b_4_7) hy0.row (by omega) (by omega)) ?_
  intro w8 hd8
  have s_7 : Below w7.heap.size w7 w8 := hd8.below _
  have b_0_8 := b_0_7.trans (s_7.mono b_0_7.size)
  have b_1_8 := b_1_7.trans (s_7.mono b_1_7.size)
  have b_2_8 := b_2_7.trans (s_7.mono b_2_7.size)
  have b_3_8 := b_3_7.trans (s_7.mono b_3_7.size)
  have b_4_8 := b_4_7.trans (s_7.mono b_4_7.size)
  have b_5_8 := b_5_7.trans (s_7.mono b_5_7.size)
  have b_6_8 := b_6_7.trans (s_7.mono b_6_7.size)
  refine bif_f (by simp) ?_
  have hxx0m := hxx0.grow b_4_8
  have hg0m := hg0.grow b_5_8
  refine (c_markIntSS hxx0m (by omega) (by omega) (k := 1) (by omega) (by omega)).mono ?_
  rintro e w9 ⟨rfl, _, ks_9, hz_9⟩
  refine ⟨_, rfl, ?_⟩
  have lo_9 : ∀ g, (∃ r ∈ rsxx0, r.blk = some g) → w3.heap.size ≤ g := (fun g e => by obtain ⟨r, hr, e⟩ := e; exact (hxx0.lt hr e).1)
  have hi_9 : ∀ g, (∃ r ∈ rsxx0, r.blk = some g) → g < w4.heap.size := (fun g e => by obtain ⟨r, hr, e⟩ := e; exact (hxx0.lt hr e).2)
  have b_0_9 := b_0_8.trans (ks_9.below (B := w.heap.size) (fun g e => Nat.le_trans b_0_3.size (lo_9 g e)) b_0_8.size)
  have b_1_9 := b_1_8.trans (ks_9.below (B := w1.heap.size) (fun g e => Nat.le_trans b_1_3.size (lo_9 g e)) b_1_8.size)
  have b_2_9 := b_2_8.trans (ks_9.below (B := w2.heap.size) (fun g e => Nat.le_trans b_2_3.size (lo_9 g e)) b_2_8.size)
  have b_3_9 := b_3_8.trans (ks_9.below (B := w3.heap.size) (fun g e => Nat.le_trans b_3_3.size (lo_9 g e)) b_3_8.size)
  have hg0m := hg0m.keeps ks_9 (fun g e1 e2 => by have := hi_9 g e2; have := (hg0.lt g e1).1; have := b_4_4.size; omega)
  refine bif_dec (fun h => by omega) (fun h => ?_)
  have b_9_9 : Below w9.heap.size w9 w9 := Below.refl _ _
  have hg0 := hg0m
  refine Quiet.call1 (s := .bool) (c_eqIntS (hg0.row.grow b_9_9) (hw0.grow b_3_9) (by omega)) ?_
  intro w10 hd10
  have s_9 : Below w9.heap.size w9 w10 := hd10.below _
  have b_0_10 := b_0_9.trans (s_9.mono b_0_9.size)
  have b_1_10 := b_1_9.trans (s_9.mono b_1_9.size)
  have b_2_10 := b_2_9.trans (s_9.mono b_2_9.size)
  have b_3_10 := b_3_9.trans (s_9.mono b_3_9.size)
  have b_9_10 := b_9_9.trans (s_9.mono b_9_9.size)
  refine bif_f (by simp) ?_
  have hg0p := hg0.grow b_9_10
  have b_10_10 : Below w10.heap.size w10 w10 := Below.refl _ _
  refine (c_markIntS hg0p (by omega) (k := 1) (by omega) (by omega)).mono ?_
  rintro e w11 ⟨rfl, hq0, hg_11, hz_11⟩
  have ks_11 := keeps_grown hg_11
  refine ⟨_, rfl, ?_⟩
  have lo_11 : ∀ g, g0.blk = some g → w4.heap.size ≤ g := (fun g e => (hg0p.lt g e).1)
  have b_0_11 := b_0_10.trans (ks_11.below (B := w.heap.size) (fun g e => Nat.le_trans b_0_4.size (lo_11 g e)) b_0_10.size)
  have b_1_11 := b_1_10.trans (ks_11.below (B := w1.heap.size) (fun g e => Nat.le_trans b_1_4.size (lo_11 g e)) b_1_10.size)
  have b_2_11 := b_2_10.trans (ks_11.below (B := w2.heap.size) (fun g e => Nat.le_trans b_2_4.size (lo_11 g e)) b_2_10.size)
  have b_3_11 := b_3_10.trans (ks_11.below (B := w3.heap.size) (fun g e => Nat.le_trans b_3_4.size (lo_11 g e)) b_3_10.size)
  have b_11_11 : Below w11.heap.size w11 w11 := Below.refl _ _
  refine Quiet.call1 (s := .int .i64) (c_heldIntS (n := (LevelSizesV L0 k1).length) (hq0.row.grow b_11_11) (by omega) (by omega) (by omega)) ?_
  intro w12 hd12
  have s_11 : Below w11.heap.size w11 w12 := hd12.below _
  have b_0_12 := b_0_11.trans (s_11.mono b_0_11.size)
  have b_1_12 := b_1_11.trans (s_11.mono b_1_11.size)
  have b_2_12 := b_2_11.trans (s_11.mono b_2_11.size)
  have b_3_12 := b_3_11.trans (s_11.mono b_3_11.size)
  have b_11_12 := b_11_11.trans (s_11.mono b_11_11.size)
  refine bif_dec (fun h => by omega) (fun h => ?_)
  refine bif_f (by simp) ?_
  have b_12_12 : Below w12.heap.size w12 w12 := Below.refl _ _
  refine (c_toIntSS (ha0.grow b_0_12) hn0 htt0).mono ?_
  rintro e w13 ⟨xv0, rfl, ⟨rsxv0, hxv0⟩, s_12⟩
  refine ⟨xv0, rfl, ?_⟩
  have b_0_13 := b_0_12.trans (s_12.mono b_0_12.size)
  have b_1_13 := b_1_12.trans (s_12.mono b_1_12.size)
  have b_2_13 := b_2_12.trans (s_12.mono b_2_12.size)
  have b_3_13 := b_3_12.trans (s_12.mono b_3_12.size)
  have b_11_13 := b_11_12.trans (s_12.mono b_11_12.size)
  have b_12_13 := b_12_12.trans (s_12.mono b_12_12.size)
  have b_13_13 : Below w13.heap.size w13 w13 := Below.refl _ _
  refine (c_implLevelSizes (hxv0.row.grow b_13_13) (by omega) (by omega) k1).mono ?_
  rintro e w14 ⟨h0, rfl, hh0, s_13⟩
  refine ⟨h0, rfl, ?_⟩
  have b_0_14 := b_0_13.trans (s_13.mono b_0_13.size)
  have b_1_14 := b_1_13.trans (s_13.mono b_1_13.size)
  have b_2_14 := b_2_13.trans (s_13.mono b_2_13.size)
  have b_3_14 := b_3_13.trans (s_13.mono b_3_13.size)
  have b_11_14 := b_11_13.trans (s_13.mono b_11_13.size)
  have b_12_14 := b_12_13.trans (s_13.mono b_12_13.size)
  have b_13_14 := b_13_13.trans (s_13.mono b_13_13.size)
  have b_14_14 : Below w14.heap.size w14 w14 := Below.refl _ _
  refine Quiet.call1 (s := .bool) (c_eqIntS (hh0.row.grow b_14_14) (hw0.grow b_3_14) (by omega)) ?_
  intro w15 hd15
  have s_14 : Below w14.heap.size w14 w15 := hd15.below _
  have b_0_15 := b_0_14.trans (s_14.mono b_0_14.size)
  have b_1_15 := b_1_14.trans (s_14.mono b_1_14.size)
  have b_2_15 := b_2_14.trans (s_14.mono b_2_14.size)
  have b_3_15 := b_3_14.trans (s_14.mono b_3_14.size)
  have b_11_15 := b_11_14.trans (s_14.mono b_11_14.size)
  have b_12_15 := b_12_14.trans (s_14.mono b_12_14.size)
  have b_13_15 := b_13_14.trans (s_14.mono b_13_14.size)
  have b_14_15 := b_14_14.trans (s_14.mono b_14_14.size)
  refine bif_f (by simp) ?_
  refine Quiet.call1 (s := .int .i64) (c_heldIntS (n := (LevelSizesV L0 k1).length) (hq0.row.grow b_11_15) (by omega) (by omega) (by omega)) ?_
  intro w16 hd16
  have s_15 : Below w15.heap.size w15 w16 := hd16.below _
  have b_0_16 := b_0_15.trans (s_15.mono b_0_15.size)
  have b_1_16 := b_1_15.trans (s_15.mono b_1_15.size)
  have b_2_16 := b_2_15.trans (s_15.mono b_2_15.size)
  have b_3_16 := b_3_15.trans (s_15.mono b_3_15.size)
  have b_11_16 := b_11_15.trans (s_15.mono b_11_15.size)
  have b_12_16 := b_12_15.trans (s_15.mono b_12_15.size)
  have b_13_16 := b_13_15.trans (s_15.mono b_13_15.size)
  have b_14_16 := b_14_15.trans (s_15.mono b_14_15.size)
  refine bif_dec (fun h => by omega) (fun h => ?_)
  refine bif_f (by simp) ?_
  exact ⟨rfl, b_0_16⟩
end Go.Proofs.Ythbjkgpbnfibkaa
