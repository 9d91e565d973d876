/- LeafCount, LowCounts, LevelSizes: both texts, and the laws. -/
import Derived.Test.YthbjkgpbnfibkaaSites
import Derived.Test.YthbjkgpbnfibkaaLows
import Derived.Test.YthbjkgpbnfibkaaLawSz
namespace Go.Proofs.Ythbjkgpbnfibkaa
open Go Go.RowKit
set_option maxRecDepth 100000

def CntOk (LL : List (List Int)) (n : Int) : Prop := BasisOk LL ∧ 0 ≤ n ∧ n ≤ 6
theorem c_six {n : Int} {K : Bool → Prop} (hk : K (decide (0 ≤ n) && decide (n ≤ 6))) : pcall1 .bool PP F.impl_isSix #[vI n] K := Pure.pcall1 (s := .bool) (c_isSix' n) hk
open Classical in
noncomputable def LeafCountV (LL : List (List Int)) (n : Int) : Int := if CntOk LL n then ((classV LL n.toNat).countP (fun p => (sitesV LL p).isEmpty) : Int) else -1
theorem countP_snoc {l : List (List Int)} {i : Nat} (hi : i < l.length) (φ : List Int → Bool) : (l.take (i + 1)).countP φ = (l.take i).countP φ + if φ l[i] = true then 1 else 0 := by
  rw [List.take_succ_eq_append_getElem hi, List.countP_append, List.countP_singleton]
theorem c_implLeafCount {w : World} {l : Sl} {LL : List (List Int)} (hl : RowSS w l LL) (hL : LL.length < 2^38) (ht : tot LL < 2^37) (n : Int) :
    Calls PP F.impl_LeafCount #[l.v, vI n] w fun e w' => e = .returned (vI (LeafCountV LL n)) ∧ Below w.heap.size w w' := by
  refine impl_LeafCount.calls l n ?_
  rw [impl_LeafCount.E_s]
  refine (c_implIsBasis hl hL ht).mono ?_
  rintro e w1 ⟨rfl, hb1⟩
  refine ⟨_, rfl, ?_⟩
  refine bif_intro (fun h => ?_) (fun h => ?_)
  · have h : ¬ BasisOk LL := by simpa [IsBasisV] using h
    exact ⟨by rw [LeafCountV, if_neg (fun hh => h hh.1)], hb1⟩
  have hB : BasisOk LL := by simpa [IsBasisV] using h
  refine c_six ?_
  refine bif_intro (fun h => ?_) (fun h => ?_)
  · have h : ¬ (0 ≤ n ∧ n ≤ 6) := by simp at h; omega
    exact ⟨by rw [LeafCountV, if_neg (fun hh => h hh.2)], hb1⟩
  have hn : 0 ≤ n ∧ n ≤ 6 := by simpa using h
  have hV : LeafCountV LL n = ((classV LL n.toNat).countP (fun p => (sitesV LL p).isEmpty) : Int) := by rw [LeafCountV, if_pos ⟨hB, hn⟩]
  rw [hV]
  obtain ⟨n, rfl⟩ : ∃ m : Nat, n = m := ⟨n.toNat, by omega⟩
  rw [Int.toNat_natCast]
  refine (c_class (hl.grow hb1) hB n (by omega)).mono ?_
  rintro e w2 ⟨t, rfl, hto, hb12⟩
  refine ⟨t, rfl, ?_⟩
  have hb2 := hb1.trans (hb12.mono hb1.size)
  have htn := hto.row.n
  have hcl := classV_len (LL := LL) (n := n) (by omega)
  refine impl_LeafCount.L5_rule _ _ _ _ _ _ _ (I := fun m i w' => 0 ≤ i ∧ i ≤ (classV LL n).length ∧ Below w2.heap.size w2 w' ∧ m = (((classV LL n).take i.toNat).countP (fun p => (sitesV LL p).isEmpty) : Int)) (μ := fun _ i _ => ((classV LL n).length - i).toNat)
    ⟨by omega, by omega, Below.refl _ _, rfl⟩ ?_
  rintro m i w' ⟨hi0, hi, hb, hm⟩
  rw [impl_LeafCount.B5_s, htn]
  have hle : ((classV LL n).take i.toNat).countP (fun p => (sitesV LL p).isEmpty) ≤ 46656 := Nat.le_trans List.countP_le_length (by rw [List.length_take]; omega)
  refine bif_dec (fun h3 => ?_) (fun h3 => ?_)
  · have hlt : i.toNat < (classV LL n).length := by omega
    refine RowSS.get (hto.row.grow hb) hi0 (by omega) fun r hr => ?_
    rw [getD_SS hlt] at hr
    have hpl := permsV_len (classV_mem (List.getElem_mem hlt)).1
    refine (c_active (hl.grow (hb2.trans (hb.mono hb2.size))) hB hr (by omega)).mono ?_
    rintro e w3 ⟨u, rfl, hu, hb3⟩
    refine ⟨u, rfl, ?_⟩
    have hun : u.n = (sitesV LL (classV LL n)[i.toNat]).length := by have := hu.n; simpa using this
    simp only [hun]
    have hb13 := hb.trans (hb3.mono hb.size)
    have hst := countP_snoc hlt (fun p => (sitesV LL p).isEmpty)
    rw [show i.toNat + 1 = (i + 1).toNat by omega] at hst
    refine bif_intro (fun h4 => ?_) (fun h4 => ?_)
    · have h4 : (sitesV LL (classV LL n)[i.toNat]).isEmpty = true := by simpa using h4
      refine ⟨m + 1, i + 1, by rw [w64_succ hi0 (by omega), w64_succ (by omega) (by omega)], ⟨by omega, by omega, hb13, ?_⟩, by omega⟩
      rw [hst, if_pos h4]; omega
    · have h4 : ¬ (sitesV LL (classV LL n)[i.toNat]).isEmpty = true := by simpa using h4
      refine ⟨m, i + 1, by rw [w64_succ hi0 (by omega)], ⟨by omega, by omega, hb13, ?_⟩, by omega⟩
      rw [hst, if_neg h4]; omega
  · rw [impl_LeafCount.A5_0_s]
    rw [show i.toNat = (classV LL n).length by omega, List.take_length] at hm
    exact ⟨by rw [hm], hb2.trans (hb.mono hb2.size)⟩
theorem c_specLeafCount {w : World} {l : Sl} {LL : List (List Int)} (hl : RowSS w l LL) (hL : LL.length < 2^38) (ht : tot LL < 2^37) (n : Int) :
    Calls PP F.spec_LeafCount #[l.v, vI n] w fun e w' => e = .returned (vI (LeafCountV LL n)) ∧ Below w.heap.size w w' := by
  refine spec_LeafCount.calls l n ?_
  rw [spec_LeafCount.E_s]
  refine (c_specIsBasis hl hL ht).mono ?_
  rintro e w1 ⟨rfl, hb1⟩
  refine ⟨_, rfl, ?_⟩
  refine bif_intro (fun h => ?_) (fun h => ?_)
  · have h : ¬ BasisOk LL := by simpa [IsBasisV] using h
    exact ⟨by rw [LeafCountV, if_neg (fun hh => h hh.1)], hb1⟩
  have hB : BasisOk LL := by simpa [IsBasisV] using h
  refine Pure.pcall1 (s := .bool) (c_l1In n 0 6) ?_
  refine bif_intro (fun h => ?_) (fun h => ?_)
  · have h : ¬ (0 ≤ n ∧ n ≤ 6) := by simp at h; omega
    exact ⟨by rw [LeafCountV, if_neg (fun hh => h hh.2)], hb1⟩
  have hn : 0 ≤ n ∧ n ≤ 6 := by simpa using h
  have hV : LeafCountV LL n = ((classV LL n.toNat).countP (fun p => (sitesV LL p).isEmpty) : Int) := by rw [LeafCountV, if_pos ⟨hB, hn⟩]
  have hC : ClassOfV LL n = classV LL n.toNat := by rw [ClassOfV, if_pos ⟨hB, hn⟩]
  rw [hV]
  obtain ⟨n, rfl⟩ : ∃ m : Nat, n = m := ⟨n.toNat, by omega⟩
  rw [Int.toNat_natCast] at hC ⊢
  refine (c_ClassOf (hl.grow hb1) hL ht n).mono ?_
  rintro e w2 ⟨t, rfl, hto, hb12⟩
  refine ⟨t, rfl, ?_⟩
  rw [hC] at hto
  have hb2 := hb1.trans (hb12.mono hb1.size)
  have htn := hto.row.n
  have hcl := classV_len (LL := LL) (n := n) (by omega)
  refine spec_LeafCount.L6_rule _ _ _ _ _ _ (I := fun m i w' => 0 ≤ i ∧ i ≤ (classV LL n).length ∧ Below w2.heap.size w2 w' ∧ m = (((classV LL n).take i.toNat).countP (fun p => (sitesV LL p).isEmpty) : Int)) (μ := fun _ i _ => ((classV LL n).length - i).toNat)
    ⟨by omega, by omega, Below.refl _ _, rfl⟩ ?_
  rintro m i w' ⟨hi0, hi, hb, hm⟩
  rw [spec_LeafCount.B6_s, htn]
  have hle : ((classV LL n).take i.toNat).countP (fun p => (sitesV LL p).isEmpty) ≤ 46656 := Nat.le_trans List.countP_le_length (by rw [List.length_take]; omega)
  refine bif_dec (fun h3 => ?_) (fun h3 => ?_)
  · have hlt : i.toNat < (classV LL n).length := by omega
    refine RowSS.get (hto.row.grow hb) hi0 (by omega) fun r hr => ?_
    rw [getD_SS hlt] at hr
    have hpl := permsV_len (classV_mem (List.getElem_mem hlt)).1
    refine (c_l14Sites (hl.grow (hb2.trans (hb.mono hb2.size))) hB hr (by omega)).mono ?_
    rintro e w3 ⟨u, rfl, hu, hb3⟩
    refine ⟨u, rfl, ?_⟩
    have hun : u.n = (sitesV LL (classV LL n)[i.toNat]).length := by have := hu.n; simpa using this
    simp only [hun]
    refine Pure.pcall1 (s := .int .i64) (c_l1Bit _) ?_
    have hb13 := hb.trans (hb3.mono hb.size)
    have hst := countP_snoc hlt (fun p => (sitesV LL p).isEmpty)
    rw [show i.toNat + 1 = (i + 1).toNat by omega] at hst
    refine ⟨m + if (sitesV LL (classV LL n)[i.toNat]).isEmpty = true then 1 else 0, i + 1, ?_, ⟨by omega, by omega, hb13, by rw [hst, hm]; split <;> omega⟩, by omega⟩
    rw [w64_succ hi0 (by omega)]
    congr 1
    by_cases h5 : (sitesV LL (classV LL n)[i.toNat]).isEmpty = true
    · rw [if_pos h5, if_pos (by simpa using h5), w64_succ (by omega) (by omega)]
    · rw [if_neg h5, if_neg (by simpa using h5), w64_id (by omega) (by omega)]
  · rw [spec_LeafCount.A6_0_s]
    rw [show i.toNat = (classV LL n).length by omega, List.take_length] at hm
    exact ⟨by rw [hm], hb2.trans (hb.mono hb2.size)⟩

/-! ### LowCounts -/
def lcStep (acc : List Int) (p : List Int) : List Int := acc.set (lowsT p p.length).length (acc.getD (lowsT p p.length).length 0 + 1)
def lcW (n : Nat) (l : List (List Int)) : List Int := l.foldl lcStep (List.replicate (n + 1) 0)
theorem lcW_snoc (n : Nat) (l : List (List Int)) (p : List Int) : lcW n (l ++ [p]) = lcStep (lcW n l) p := by simp [lcW, List.foldl_append]
theorem lcW_facts (n : Nat) : ∀ (k : Nat) (l : List (List Int)), l.length = k → (lcW n l).length = n + 1 ∧ ∀ i, 0 ≤ (lcW n l).getD i 0 ∧ (lcW n l).getD i 0 ≤ k := by
  intro k
  induction k with
  | zero =>
    intro l hl
    have : l = [] := List.eq_nil_of_length_eq_zero hl
    subst this
    refine ⟨by simp [lcW], fun i => ?_⟩
    simp only [lcW, List.foldl_nil, List.getD_eq_getElem?_getD, List.getElem?_replicate]
    split <;> simp
  | succ k ih =>
    intro l hl
    obtain ⟨M, p, rfl⟩ : ∃ M p, l = M ++ [p] := ⟨l.dropLast, l.getLast (by rintro rfl; simp at hl), (List.dropLast_concat_getLast _).symm⟩
    obtain ⟨h1, h2⟩ := ih M (by simpa using hl)
    rw [lcW_snoc, lcStep]
    refine ⟨by simp [h1], fun i => ?_⟩
    have h3 := h2 i
    have h4 := h2 (lowsT p p.length).length
    simp only [List.getD_eq_getElem?_getD, List.getElem?_set] at h3 h4 ⊢
    split
    · rename_i e
      split
      · simp only [Option.getD_some]; omega
      · simp; omega
    · omega
open Classical in
noncomputable def LowCountsV (LL : List (List Int)) (n : Int) : List Int := if CntOk LL n then lcW n.toNat (classV LL n.toNat) else []
theorem LowCountsV_len (LL : List (List Int)) (n : Int) : (LowCountsV LL n).length < 2^38 := by
  unfold LowCountsV
  split
  · rename_i h
    have := (lcW_facts n.toNat _ (classV LL n.toNat) rfl).1
    have := h.2
    omega
  · simp
theorem c_implLowCounts {w : World} {l : Sl} {LL : List (List Int)} (hl : RowSS w l LL) (hL : LL.length < 2^38) (ht : tot LL < 2^37) (n : Int) :
    Calls PP F.impl_LowCounts #[l.v, vI n] w fun e w' => ∃ s : Sl, e = .returned s.v ∧ OwnI w' w.heap.size s (LowCountsV LL n) ∧ Below w.heap.size w w' := by
  refine impl_LowCounts.calls l n ?_
  rw [impl_LowCounts.E_s]
  refine (c_implIsBasis hl hL ht).mono ?_
  rintro e w1 ⟨rfl, hb1⟩
  refine ⟨_, rfl, ?_⟩
  refine bif_intro (fun h => ?_) (fun h => ?_)
  · have h : ¬ BasisOk LL := by simpa [IsBasisV] using h
    exact ⟨Sl.nil, rfl, by rw [LowCountsV, if_neg (fun hh => h hh.1)]; exact Own.nil _ _ _, hb1⟩
  have hB : BasisOk LL := by simpa [IsBasisV] using h
  refine c_six ?_
  refine bif_intro (fun h => ?_) (fun h => ?_)
  · have h : ¬ (0 ≤ n ∧ n ≤ 6) := by simp at h; omega
    exact ⟨Sl.nil, rfl, by rw [LowCountsV, if_neg (fun hh => h hh.2)]; exact Own.nil _ _ _, hb1⟩
  have hn : 0 ≤ n ∧ n ≤ 6 := by simpa using h
  have hV : LowCountsV LL n = lcW n.toNat (classV LL n.toNat) := by rw [LowCountsV, if_pos ⟨hB, hn⟩]
  rw [hV]
  obtain ⟨n, rfl⟩ : ∃ m : Nat, n = m := ⟨n.toNat, by omega⟩
  rw [Int.toNat_natCast, w64_succ (n := (n : Int)) (by omega) (by omega)]
  refine make_own oneInt (B := w.heap.size) hb1.size (by omega) (by omega) ?_
  intro o w2 ho hg2 _
  have ho : OwnI w2 w.heap.size o (lcW n []) := by
    rw [show ((n : Int) + 1).toNat = n + 1 by omega] at ho
    simpa [OwnI, lcW] using ho
  have hb2 := hb1.grown hg2 hb1.size (by simp)
  refine (c_class (hl.grow hb2) hB n (by omega)).mono ?_
  rintro e w3 ⟨t, rfl, hto, hb23⟩
  refine ⟨t, rfl, ?_⟩
  have hb3 := hb2.trans (hb23.mono hb2.size)
  have htn := hto.row.n
  have hcl := classV_len (LL := LL) (n := n) (by omega)
  obtain ⟨ts, hto⟩ := hto
  refine impl_LowCounts.L5_rule _ _ _ _ _ _ (I := fun i w' => 0 ≤ i ∧ i ≤ (classV LL n).length ∧ Below w.heap.size w w' ∧ OwnRows w' w2.heap.size t ts (classV LL n) ∧ OwnI w' w.heap.size o (lcW n ((classV LL n).take i.toNat))) (μ := fun i _ => ((classV LL n).length - i).toNat)
    ⟨by omega, by omega, hb3, hto, ho.grow hb23⟩ ?_
  rintro i w' ⟨hi0, hi, hb, htw, how⟩
  rw [impl_LowCounts.B5_s, htn]
  refine bif_dec (fun h3 => ?_) (fun h3 => ?_)
  · have hlt : i.toNat < (classV LL n).length := by omega
    refine OwnRows.load htw hi0 (by omega) fun r hr hor => ?_
    rw [getD_SS hlt] at hor
    have hmem := (classV_mem (List.getElem_mem hlt)).1
    have hpl := permsV_len hmem
    have hP := permsV_isP (n := n) (by omega) hmem
    refine (c_implLowsOf hor.row (by omega)).mono ?_
    rintro e w4 ⟨u, rfl, hu, hb4⟩
    refine ⟨u, rfl, ?_⟩
    rw [LowsV, if_pos hP] at hu
    have hun : u.n = (lowsT (classV LL n)[i.toNat] (classV LL n)[i.toNat].length).length := by have := hu.n; simpa using this
    have hll := lowsT_length (classV LL n)[i.toNat] (classV LL n)[i.toNat].length
    simp only [hun]
    have how4 := how.grow hb4
    obtain ⟨f1, f2⟩ := lcW_facts n _ ((classV LL n).take i.toNat) rfl
    have f3 := f2 (lowsT (classV LL n)[i.toNat] (classV LL n)[i.toNat].length).length
    rw [List.length_take] at f3
    have hb14 := hb.trans (hb4.mono hb.size)
    refine RowI.get how4.row (by omega) (by omega) ?_
    refine Own.put how4 (by omega) (by rw [List.length_map]; omega) ?_
    intro w5 ho5 hg5 hs5
    refine ⟨i + 1, by rw [w64_succ hi0 (by omega)], ⟨by omega, by omega, hb14.grown hg5 hb14.size (fun g hg => (how4.lt g hg).1), (htw.grow hb4).keepsLt (keeps_grown hg5) (fun g hg => (ho.lt g hg).2), ?_⟩, by omega⟩
    rw [show (i + 1).toNat = i.toNat + 1 by omega, List.take_succ_eq_append_getElem hlt, lcW_snoc, lcStep]
    rw [Int.toNat_natCast, w64_succ (by omega) (by omega)] at ho5
    simpa [OwnI, List.map_set] using ho5
  · rw [impl_LowCounts.A5_0_s]
    rw [show i.toNat = (classV LL n).length by omega, List.take_length] at how
    exact ⟨o, rfl, how, hb⟩
theorem c_specLowCounts0 {w : World} {l : Sl} {LL : List (List Int)} (hl : RowSS w l LL) (hL : LL.length < 2^38) (ht : tot LL < 2^37) (n : Int) :
    Calls PP F.spec_LowCounts #[l.v, vI n] w fun e w' => ∃ s : Sl, e = .returned s.v ∧ OwnI w' w.heap.size s (LowCountsV LL n) ∧ Below w.heap.size w w' := by
  refine spec_LowCounts.calls l n ?_
  rw [spec_LowCounts.E_s]
  refine (c_specIsBasis hl hL ht).mono ?_
  rintro e w1 ⟨rfl, hb1⟩
  refine ⟨_, rfl, ?_⟩
  refine bif_intro (fun h => ?_) (fun h => ?_)
  · have h : ¬ BasisOk LL := by simpa [IsBasisV] using h
    refine lit0 oneInt (B := w.heap.size) hb1.size ?_
    intro o w2 ho hg _
    exact ⟨o, rfl, by rw [LowCountsV, if_neg (fun hh => h hh.1)]; exact ho, hb1.grown hg hb1.size (by simp)⟩
  have hB : BasisOk LL := by simpa [IsBasisV] using h
  refine Pure.pcall1 (s := .bool) (c_l1In n 0 6) ?_
  refine bif_intro (fun h => ?_) (fun h => ?_)
  · have h : ¬ (0 ≤ n ∧ n ≤ 6) := by simp at h; omega
    refine lit0 oneInt (B := w.heap.size) hb1.size ?_
    intro o w2 ho hg _
    exact ⟨o, rfl, by rw [LowCountsV, if_neg (fun hh => h hh.2)]; exact ho, hb1.grown hg hb1.size (by simp)⟩
  have hn : 0 ≤ n ∧ n ≤ 6 := by simpa using h
  have hV : LowCountsV LL n = lcW n.toNat (classV LL n.toNat) := by rw [LowCountsV, if_pos ⟨hB, hn⟩]
  rw [hV]
  obtain ⟨n, rfl⟩ : ∃ m : Nat, n = m := ⟨n.toNat, by omega⟩
  rw [Int.toNat_natCast, w64_succ (n := (n : Int)) (by omega) (by omega)]
  refine make_own oneInt (B := w.heap.size) hb1.size (by omega) (by omega) ?_
  intro o w2 ho hg2 _
  have ho : OwnI w2 w.heap.size o (lcW n []) := by
    rw [show ((n : Int) + 1).toNat = n + 1 by omega] at ho
    simpa [OwnI, lcW] using ho
  have hb2 := hb1.grown hg2 hb1.size (by simp)
  refine (c_ClassOf (hl.grow hb2) hL ht n).mono ?_
  rintro e w3 ⟨t, rfl, hto, hb23⟩
  have hC : ClassOfV LL (n : Int) = classV LL n := by rw [ClassOfV, if_pos ⟨hB, by omega⟩, Int.toNat_natCast]
  rw [hC] at hto
  refine ⟨t, rfl, ?_⟩
  have hb3 := hb2.trans (hb23.mono hb2.size)
  have htn := hto.row.n
  have hcl := classV_len (LL := LL) (n := n) (by omega)
  obtain ⟨ts, hto⟩ := hto
  refine spec_LowCounts.L6_rule _ _ _ _ _ (I := fun i w' => 0 ≤ i ∧ i ≤ (classV LL n).length ∧ Below w.heap.size w w' ∧ OwnRows w' w2.heap.size t ts (classV LL n) ∧ OwnI w' w.heap.size o (lcW n ((classV LL n).take i.toNat))) (μ := fun i _ => ((classV LL n).length - i).toNat)
    ⟨by omega, by omega, hb3, hto, ho.grow hb23⟩ ?_
  rintro i w' ⟨hi0, hi, hb, htw, how⟩
  rw [spec_LowCounts.B6_s, htn]
  refine bif_dec (fun h3 => ?_) (fun h3 => ?_)
  · have hlt : i.toNat < (classV LL n).length := by omega
    refine OwnRows.load htw hi0 (by omega) fun r hr hor => ?_
    rw [getD_SS hlt] at hor
    have hmem := (classV_mem (List.getElem_mem hlt)).1
    have hpl := permsV_len hmem
    have hP := permsV_isP (n := n) (by omega) hmem
    refine (c_specLowsOf hor.row (by omega)).mono ?_
    rintro e w4 ⟨u, rfl, hu, hb4⟩
    refine ⟨u, rfl, ?_⟩
    rw [LowsV, if_pos hP] at hu
    have hun : u.n = (lowsT (classV LL n)[i.toNat] (classV LL n)[i.toNat].length).length := by have := hu.n; simpa using this
    have hll := lowsT_length (classV LL n)[i.toNat] (classV LL n)[i.toNat].length
    simp only [hun]
    have how4 := how.grow hb4
    obtain ⟨f1, f2⟩ := lcW_facts n _ ((classV LL n).take i.toNat) rfl
    have f3 := f2 (lowsT (classV LL n)[i.toNat] (classV LL n)[i.toNat].length).length
    rw [List.length_take] at f3
    have hb14 := hb.trans (hb4.mono hb.size)
    refine RowI.get how4.row (by omega) (by omega) ?_
    refine Own.put how4 (by omega) (by rw [List.length_map]; omega) ?_
    intro w5 ho5 hg5 hs5
    refine ⟨i + 1, by rw [w64_succ hi0 (by omega)], ⟨by omega, by omega, hb14.grown hg5 hb14.size (fun g hg => (how4.lt g hg).1), (htw.grow hb4).keepsLt (keeps_grown hg5) (fun g hg => (ho.lt g hg).2), ?_⟩, by omega⟩
    rw [show (i + 1).toNat = i.toNat + 1 by omega, List.take_succ_eq_append_getElem hlt, lcW_snoc, lcStep]
    rw [Int.toNat_natCast, w64_succ (by omega) (by omega)] at ho5
    simpa [OwnI, List.map_set] using ho5
  · rw [spec_LowCounts.A6_0_s]
    rw [show i.toNat = (classV LL n).length by omega, List.take_length] at how
    exact ⟨o, rfl, how, hb⟩
theorem c_specLowCounts {w : World} {l : Sl} {LL : List (List Int)} (hl : RowSS w l LL) (hL : LL.length < 2^38) (ht : tot LL < 2^37) (n : Int) :
    Calls PP F.spec_LowCounts #[l.v, vI n] w fun e w' => ∃ s : Sl, e = .returned s.v ∧ RowI w' s (LowCountsV LL n) ∧ Below w.heap.size w w' :=
  (c_specLowCounts0 hl hL ht n).mono fun e w' ⟨s, he, ho, hb⟩ => ⟨s, he, ho.row, hb⟩
end Go.Proofs.Ythbjkgpbnfibkaa
